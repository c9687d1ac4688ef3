/- The statements' head; CodePrints. -/
import Derived.Test.YtmfheegkfakjdaaDe
set_option linter.unusedVariables false
set_option linter.unusedSimpArgs false
namespace Go.Proofs.Ytmfheegkfakjdaa
open Go.RowKit Go.Proofs.YtmfheegkfakjdaaW.PrintWords
attribute [local simp] bl_refl bl_alloc bl_drew bl_drewN bl_set
attribute [local go_sem] add_block lt_sk ne_sk ne_s0 frozen_alloc_lt cell_alloc_lt

theorem decode_cut6 (w : World) : Calls Try.prog 20 #[.string ⟨#[108, 116, 104, 49, 0, 0]⟩] w (Ret (.tuple #[emptyC, .int .i64 242, .int .i64 6]) w) := code_Decode_cut cutBytes w (by decide +kernel) cut_mark (by decide +kernel) (by decide +kernel)
theorem encE_head : (encE.extract 0 8).toList = [108, 116, 104, 49, 0, 0, 0, 0] := by decide +kernel
/-- The empty code's bytes, by what is known of them. -/
theorem encE_any : ∃ b : ByteArray, (∀ w : World, Calls Try.prog 15 #[emptyCode] w (Ret (.tuple #[.string b, .int .i64 0]) w)) ∧ (∀ w : World, Calls Try.prog 20 #[.string b] w (Ret (.tuple #[emptyC, .int .i64 0, .int .i64 0]) w)) ∧ b.size = 16 ∧ (b.extract 0 8).toList = [108, 116, 104, 49, 0, 0, 0, 0] :=
  ⟨encE, code_Encode_nil, fun w => code_Decode_ok encE w encE_size encE_mark encE_4 encE_5 encE_6 encE_7 encE_sum, encE_size, encE_head⟩
set_option maxRecDepth 100000 in
set_option maxHeartbeats 100000 in
theorem law_works (w : World) : Calls Try.prog 17 #[] w (Ret (.bool true) w) := by
  obtain ⟨b, hE, hD, hz, h8⟩ := encE_any
  have hsz : (b.size : Int) = 16 := by omega
  have h16 : (8 : Int) ≤ b.size := by omega
  have E := Lib.hid hE
  have D := Lib.hid hD
  clear hE hD
  go_enter Try.func17, Try.ntmps17
  go_wp2_with (go_at_call 15; refine (E.out _).mono ?_; rintro e w1 ⟨rfl, hb⟩; have HB1 := bl_call (w := w) (Below.refl _ _) hb; clear hb)
  go_at_call 20
  refine (D.out _).mono ?_
  unfold emptyC
  rintro e w2 ⟨rfl, hb⟩
  have HB2 := bl_call (w := w) HB1 hb
  clear hb
  simp only []
  go_wp2_with (fail)
  go_at_call 20
  refine (decode_cut6 _).mono ?_
  unfold emptyC
  rintro e w3 ⟨rfl, hb⟩
  have HB3 := bl_call (w := w) (below_alloc HB2 _) hb
  have K3 := blk_below (blk_new w2 _) hb
  have l3 := blk_lt K3
  have q0 := (blk_cell K3 0).trans (show _ = some (Value.slice none 0 0) from rfl)
  have q1 := (blk_cell K3 1).trans (show _ = some (Value.slice none 0 0) from rfl)
  have q2 := (blk_cell K3 2).trans (show _ = some (Value.slice none 0 0) from rfl)
  have q3 := (blk_cell K3 3).trans (show _ = some (Value.slice none 0 0) from rfl)
  clear hb
  simp only []
  go_wp2_with (fail)
  go_at_call 12
  have HE := ref_Equal_nil
  unfold emptyC at HE
  refine (HE _).mono ?_
  rintro e w4 ⟨rfl, hb⟩
  have HB4 := bl_call (w := w) (below_alloc HB3 _) hb
  clear hb HE
  simp only []
  go_wp2_with (fail)
  go_at_call 18
  have HP := code_Print digits (by decide +kernel)
  rw [digits_crc] at HP
  refine (HP _).mono ?_
  rintro e w5 ⟨rfl, hb⟩
  have HB5 := bl_call (w := w) HB4 hb
  clear hb HP
  simp only []
  go_wp2
  go_ret
  exact ⟨rfl, HB5⟩

set_option maxRecDepth 100000 in
theorem law_CodePrints (s : ByteArray) (hs : s.size ≤ 9223372036854775807) (w : World) : Calls Try.prog 6 #[.string s] w (Ret (.bool true) w) := by
  have hc : (crc s == crc s) = true := by simp
  have P1 := Lib.hid (code_Print s hs)
  have P2 := Lib.hid (ref_Print s hs)
  generalize crc s = c at hc P1 P2
  go_enter Try.func6, Try.ntmps6
  go_wp2_with (go_at_call 18; refine (P1.out _).mono ?_; rintro e w1 ⟨rfl, hb⟩; have HB1 := bl_call (w := w) (Below.refl _ _) hb; clear hb)
  go_wp2_with (go_at_call 19; refine (P2.out _).mono ?_; rintro e w2 ⟨rfl, hb⟩; have HB2 := bl_call (w := w) HB1 hb; clear hb)
  go_wp2_with (go_at_call 17; refine (law_works _).mono ?_; rintro e w3 ⟨rfl, hb⟩; have HB3 := bl_call (w := w) HB2 hb; clear hb)
  go_ret
  exact ⟨rfl, HB3⟩
end Go.Proofs.Ytmfheegkfakjdaa
