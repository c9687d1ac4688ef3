/- The empty code is well formed: the calls that Check makes of it. -/
import Derived.Test.YtmfheegkfakjdaaBase
import Derived.BigQuiet
import Derived.Lib.Hide
set_option linter.unusedVariables false
set_option linter.unusedSimpArgs false
namespace Go.Proofs.Ytmfheegkfakjdaa
open Go.RowKit Go.Proofs.YtmfheegkfakjdaaW.PrintWords
attribute [local simp] bl_refl bl_alloc bl_drew bl_drewN bl_set
attribute [local go_sem] add_block lt_sk ne_sk ne_s0 frozen_alloc_lt cell_alloc_lt

set_option maxRecDepth 100000
theorem sign_Total_nil (w : World) : Calls Try.prog 80 #[.slice none 0 0] w (Ret (.int .i64 0) w) := by
  go_enter Try.func80, Try.ntmps80
  go_wp2
  go_loop [3, 5, 8] (fun v3 v5 v8 => v3 = .int .i64 0 ∧ v8 = .int .i64 0) (fun _ _ _ => 0)
  case atStart => exact ⟨rfl, rfl⟩
  case round =>
    obtain ⟨rfl, rfl⟩ := hrel
    go_wp2
    go_ret
    exact ⟨rfl, Below.refl _ _⟩
theorem sign_Check_nil (w : World) : Calls Try.prog 49 #[.slice none 0 0] w (Ret (.int .i64 0) w) := by
  have hmm := @run_makeMap Try.prog
  go_enter Try.func49, Try.ntmps49
  go_wp2
  go_loop [5, 12] (fun v5 v12 => v12 = .int .i64 0) (fun _ _ => 0)
  case atStart => rfl
  case round =>
    obtain rfl := hrel
    have hln := (World.ownsMap_made (H := Unit) w Try.prog 9 (fun _ => none)).len (t := 144) (e := 3) Try.underlying144 3
    go_wp2_with (go_at_call 80; refine (sign_Total_nil _).mono ?_; rintro e w1 ⟨rfl, hb⟩)
    go_ret
    exact ⟨rfl, bl_call (w := w) (by simp) hb⟩
theorem index_ty_nil (f : Value) (w : World) : Calls Try.prog 81 #[.slice none 0 0, f] w (Ret (.int .i64 (-1)) w) := by
  go_enter Try.func81, Try.ntmps81
  go_wp2
  go_loop [5, 8] (fun v5 v8 => v8 = .int .i64 0) (fun _ _ => 0)
  case atStart => rfl
  case round =>
    obtain rfl := hrel
    go_wp2
    go_ret
    exact ⟨rfl, Below.refl _ _⟩
theorem index_slt_nil (f : Value) (w : World) : Calls Try.prog 82 #[.slice none 0 0, f] w (Ret (.int .i64 (-1)) w) := by
  go_enter Try.func82, Try.ntmps82
  go_wp2
  go_loop [5, 8] (fun v5 v8 => v8 = .int .i64 0) (fun _ _ => 0)
  case atStart => rfl
  case round =>
    obtain rfl := hrel
    go_wp2
    go_ret
    exact ⟨rfl, Below.refl _ _⟩
theorem contains_ty_nil (f : Value) (w : World) : Calls Try.prog 50 #[.slice none 0 0, f] w (Ret (.bool false) w) := by
  go_enter Try.func50, Try.ntmps50
  go_wp2_with (go_at_call 81; refine (index_ty_nil _ _).mono ?_; rintro e w1 ⟨rfl, hb⟩)
  go_ret
  exact ⟨rfl, hb⟩
theorem contains_slt_nil (f : Value) (w : World) : Calls Try.prog 53 #[.slice none 0 0, f] w (Ret (.bool false) w) := by
  go_enter Try.func53, Try.ntmps53
  go_wp2_with (go_at_call 82; refine (index_slt_nil _ _).mono ?_; rintro e w1 ⟨rfl, hb⟩)
  go_ret
  exact ⟨rfl, hb⟩
def emptyCode : Value := .agg #[.slice none 0 0, .slice none 0 0, .slice none 0 0, .slice none 0 0]
set_option maxRecDepth 100000 in
theorem ir_Check_nil (w : World) : Calls Try.prog 23 #[emptyCode] w (Ret (.tuple #[.int .i64 0, .int .i64 0]) w) := by
  unfold emptyCode
  have hmk := print_make_of (P := Try.prog) 58 4 (.bool false) 1 Try.underlying58 infoBool rfl (by decide) 0 (by decide)
  simp only [Int.natCast_zero] at hmk
  go_enter Try.func23, Try.ntmps23
  go_wp2_with (go_at_call 49; refine (sign_Check_nil _).mono ?_; rintro e w1 ⟨rfl, hb⟩; have HB := bl_call (w := w) (below_alloc (Below.refl _ _) _) hb; have HK := blk_below (blk_new w _) hb; clear hb; have q0 := (blk_cell HK 0).trans (show _ = some (Value.slice none 0 0) from rfl); have q1 := (blk_cell HK 1).trans (show _ = some (Value.slice none 0 0) from rfl); have q2 := (blk_cell HK 2).trans (show _ = some (Value.slice none 0 0) from rfl); have q3 := (blk_cell HK 3).trans (show _ = some (Value.slice none 0 0) from rfl))
  go_wp2_with (go_at_call 50; refine (contains_ty_nil _ _).mono ?_; rintro e w2 ⟨rfl, hb⟩; have HB2 := bl_call (w := w) HB hb; have HK2 := blk_below HK hb; clear hb q0 q1 q2 q3; have q0 := (blk_cell HK2 0).trans (show _ = some (Value.slice none 0 0) from rfl); have q1 := (blk_cell HK2 1).trans (show _ = some (Value.slice none 0 0) from rfl); have q2 := (blk_cell HK2 2).trans (show _ = some (Value.slice none 0 0) from rfl); have q3 := (blk_cell HK2 3).trans (show _ = some (Value.slice none 0 0) from rfl))
  go_wp2_with (go_at_call 53; refine (contains_slt_nil _ _).mono ?_; rintro e w3 ⟨rfl, hb⟩; have HB3 := bl_call (w := w) HB2 hb; have HK3 := blk_below HK2 hb; have hlt := blk_lt HK3; clear hb q0 q1 q2 q3; have q0 := (blk_cell HK3 0).trans (show _ = some (Value.slice none 0 0) from rfl); have q1 := (blk_cell HK3 1).trans (show _ = some (Value.slice none 0 0) from rfl); have q2 := (blk_cell HK3 2).trans (show _ = some (Value.slice none 0 0) from rfl); have q3 := (blk_cell HK3 3).trans (show _ = some (Value.slice none 0 0) from rfl))
  go_region
  go_wp2
  go_loop [6, 7, 51] (fun v6 v7 v51 => v51 = .int .i64 0) (fun _ _ _ => 0)
  case atStart => rfl
  case round =>
    obtain rfl := hrel
    go_wp2
    refine bodyPost_ret (v := .tuple #[.int .i64 0, .int .i64 0]) ?_ rfl ⟨rfl, ?_⟩
    · simp [results, Try.results23, go_sem]
    · exact below_drew (below_alloc (below_alloc HB3 _) _)
end Go.Proofs.Ytmfheegkfakjdaa
