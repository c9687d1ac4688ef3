/- Decode and Equal, at the codes that the statements' head asks of. -/
import Derived.Test.YtmfheegkfakjdaaRe
import Derived.Test.YtmfheegkfakjdaaEn
set_option linter.unusedVariables false
set_option linter.unusedSimpArgs false
namespace Go.Proofs.Ytmfheegkfakjdaa
open Go.RowKit Go.Proofs.YtmfheegkfakjdaaW.PrintWords
attribute [local simp] bl_refl bl_alloc bl_drew bl_drewN bl_set
attribute [local go_sem] add_block lt_sk ne_sk ne_s0 frozen_alloc_lt cell_alloc_lt

set_option maxRecDepth 100000 in
theorem ref_Equal_nil (w : World) : Calls Try.prog 12 #[emptyC, emptyC] w (Ret (.bool true) w) := by
  unfold emptyC
  go_enter Try.func12, Try.ntmps12
  go_wp2
  go_loop [5] (fun v5 => v5 = .int .i64 0) (fun _ => 0)
  case atStart => rfl
  case round =>
    obtain rfl := hrel
    go_wp2
    go_loop [6] (fun v6 => v6 = .int .i64 0) (fun _ => 0)
    case atStart => rfl
    case round =>
      obtain rfl := hrel
      go_wp2
      go_loop [7] (fun v7 => v7 = .int .i64 0) (fun _ => 0)
      case atStart => rfl
      case round =>
        obtain rfl := hrel
        go_wp2
        go_loop [8] (fun v8 => v8 = .int .i64 0) (fun _ => 0)
        case atStart => rfl
        case round =>
          obtain rfl := hrel
          go_wp2
          go_ret
          exact ⟨rfl, below_alloc (below_alloc (Below.refl _ _) _) _⟩
set_option maxRecDepth 100000 in
theorem code_Decode_ok (b : ByteArray) (w : World) (h16 : b.size = 16) (hm : b.extract 0 4 = markBytes) (z4 : bt b 4 = 0) (z5 : bt b 5 = 0) (z6 : bt b 6 = 0) (z7 : bt b 7 = 0) (hsum : joinB (b.extract 8 (8 + 8)) 8 = crc (b.extract 0 8)) :
    Calls Try.prog 20 #[.string b] w (Ret (.tuple #[emptyC, .int .i64 0, .int .i64 0]) w) := by
  unfold emptyC
  go_enter Try.func20, Try.ntmps20
  go_wp2_with (go_at_call 44; refine (code_read_ok b _ h16 hm z4 z5 z6 z7 hsum).mono ?_; unfold emptyC; rintro e w1 ⟨rfl, hb⟩; have HB1 := bl_call (w := w) (below_alloc (Below.refl _ _) _) hb; have K1 := blk_below (blk_new w _) hb; have l1 := blk_lt K1; clear hb)
  go_wp2_with (go_at_call 23; refine (ir_Check_nil _).mono ?_; rintro e w2 ⟨rfl, hb⟩; have HB2 := bl_call (w := w) (below_alloc (below_alloc HB1 _) _) hb; have K2 := blk_below (blk_alloc (blk_alloc K1 _) _) hb; have M2 := blk_below (blk_alloc (blk_new w1 (.cells #[.slice none 0 0, .slice none 0 0, .slice none 0 0, .slice none 0 0] 27)) _) hb; have l2 := blk_lt K2; have m2 := blk_lt M2; clear hb; have q0 := (blk_cell K2 0).trans (show _ = some (Value.slice none 0 0) from rfl); have q1 := (blk_cell K2 1).trans (show _ = some (Value.slice none 0 0) from rfl); have q2 := (blk_cell K2 2).trans (show _ = some (Value.slice none 0 0) from rfl); have q3 := (blk_cell K2 3).trans (show _ = some (Value.slice none 0 0) from rfl); have r0 := (blk_cell M2 0).trans (show _ = some (Value.slice none 0 0) from rfl); have r1 := (blk_cell M2 1).trans (show _ = some (Value.slice none 0 0) from rfl); have r2 := (blk_cell M2 2).trans (show _ = some (Value.slice none 0 0) from rfl); have r3 := (blk_cell M2 3).trans (show _ = some (Value.slice none 0 0) from rfl); have z0 := blk_frozen K2 0; have z1 := blk_frozen K2 1; have z2 := blk_frozen K2 2; have z3 := blk_frozen K2 3)
  have K3 := blk_set (blk_set (blk_set (blk_set K2 0 (.slice none 0 0)) 1 (.slice none 0 0)) 2 (.slice none 0 0)) 3 (.slice none 0 0)
  have x0 := (blk_cell K3 0).trans (show _ = some (Value.slice none 0 0) from rfl)
  have x1 := (blk_cell K3 1).trans (show _ = some (Value.slice none 0 0) from rfl)
  have x2 := (blk_cell K3 2).trans (show _ = some (Value.slice none 0 0) from rfl)
  have x3 := (blk_cell K3 3).trans (show _ = some (Value.slice none 0 0) from rfl)
  refine bodyPost_ret (v := .tuple #[.agg #[.slice none 0 0, .slice none 0 0, .slice none 0 0, .slice none 0 0], .int .i64 0, .int .i64 0]) ?_ rfl ⟨rfl, ?_⟩
  · clear K2 M2 K3 q0 q1 q2 q3 r0 r1 r2 r3
    generalize ((((w2.setCell ⟨w.heap.size, 0, none⟩ (.slice none 0 0)).setCell ⟨w.heap.size, 1, none⟩ (.slice none 0 0)).setCell ⟨w.heap.size, 2, none⟩ (.slice none 0 0)).setCell ⟨w.heap.size, 3, none⟩ (.slice none 0 0)) = U at x0 x1 x2 x3 ⊢
    simp [results, Try.results20, go_sem, x0, x1, x2, x3]
  · exact (((HB2.setCell (Nat.le_refl _) _).setCell (Nat.le_refl _) _).setCell (Nat.le_refl _) _).setCell (Nat.le_refl _) _

set_option maxRecDepth 100000 in
theorem code_Decode_cut (b : ByteArray) (w : World) (h6 : b.size = 6) (hm : b.extract 0 4 = markBytes) (z4 : bt b 4 = 0) (z5 : bt b 5 = 0) :
    Calls Try.prog 20 #[.string b] w (Ret (.tuple #[emptyC, .int .i64 242, .int .i64 6]) w) := by
  unfold emptyC
  go_enter Try.func20, Try.ntmps20
  go_wp2_with (go_at_call 44; refine (code_read_cut b _ h6 hm z4 z5).mono ?_; unfold emptyC; rintro e w1 ⟨rfl, hb⟩; have HB1 := bl_call (w := w) (below_alloc (Below.refl _ _) _) hb; have K1 := blk_below (blk_new w _) hb; have l1 := blk_lt K1; clear hb; have q0 := (blk_cell K1 0).trans (show _ = some (Value.slice none 0 0) from rfl); have q1 := (blk_cell K1 1).trans (show _ = some (Value.slice none 0 0) from rfl); have q2 := (blk_cell K1 2).trans (show _ = some (Value.slice none 0 0) from rfl); have q3 := (blk_cell K1 3).trans (show _ = some (Value.slice none 0 0) from rfl); have z0 := blk_frozen K1 0; have z1 := blk_frozen K1 1; have z2 := blk_frozen K1 2; have z3 := blk_frozen K1 3)
  go_region
  all_goals go_wp2
  have K3 := blk_drew (blk_alloc (blk_alloc (blk_set (blk_set (blk_set (blk_set K1 0 (.slice none 0 0)) 1 (.slice none 0 0)) 2 (.slice none 0 0)) 3 (.slice none 0 0)) (.cells #[.slice none 0 0, .slice none 0 0, .slice none 0 0, .slice none 0 0] 27)) (.cells #[.int .i64 242, .int .i64 6] 92))
  have x0 := (blk_cell K3 0).trans (show _ = some (Value.slice none 0 0) from rfl)
  have x1 := (blk_cell K3 1).trans (show _ = some (Value.slice none 0 0) from rfl)
  have x2 := (blk_cell K3 2).trans (show _ = some (Value.slice none 0 0) from rfl)
  have x3 := (blk_cell K3 3).trans (show _ = some (Value.slice none 0 0) from rfl)
  refine bodyPost_ret (v := .tuple #[.agg #[.slice none 0 0, .slice none 0 0, .slice none 0 0, .slice none 0 0], .int .i64 242, .int .i64 6]) ?_ rfl ⟨rfl, ?_⟩
  · clear K1 K3 q0 q1 q2 q3
    generalize ((((((w1.setCell ⟨w.heap.size, 0, none⟩ (.slice none 0 0)).setCell ⟨w.heap.size, 1, none⟩ (.slice none 0 0)).setCell ⟨w.heap.size, 2, none⟩ (.slice none 0 0)).setCell ⟨w.heap.size, 3, none⟩ (.slice none 0 0)).alloc (.cells #[.slice none 0 0, .slice none 0 0, .slice none 0 0, .slice none 0 0] 27)).alloc (.cells #[.int .i64 242, .int .i64 6] 92)).drew = U at x0 x1 x2 x3 ⊢
    simp [results, Try.results20, go_sem, x0, x1, x2, x3]
  · exact below_drew (below_alloc (below_alloc ((((HB1.setCell (Nat.le_refl _) _).setCell (Nat.le_refl _) _).setCell (Nat.le_refl _) _).setCell (Nat.le_refl _) _) _) _)

/-! What the empty code's bytes are. -/
theorem encE_size : encE.size = 16 := by decide +kernel
theorem encE_mark : encE.extract 0 4 = markBytes := by decide +kernel
theorem encE_4 : bt encE 4 = 0 := by decide +kernel
theorem encE_5 : bt encE 5 = 0 := by decide +kernel
theorem encE_6 : bt encE 6 = 0 := by decide +kernel
theorem encE_7 : bt encE 7 = 0 := by decide +kernel
theorem encE_sum : joinB (encE.extract 8 (8 + 8)) 8 = crc (encE.extract 0 8) := by decide +kernel
def cutBytes : ByteArray := ⟨#[108, 116, 104, 49, 0, 0]⟩
theorem cut_mark : cutBytes.extract 0 4 = markBytes := by decide +kernel
def digits : ByteArray := ⟨#[49, 50, 51, 52, 53, 54, 55, 56, 57]⟩
theorem digits_crc : crc digits = 11051210869376104954 := by decide +kernel
end Go.Proofs.Ytmfheegkfakjdaa
