/- The fingerprint: the program's and the document's. -/
import Derived.Test.YtmfheegkfakjdaaBase
import Derived.WalkSmall
import Derived.OpenShut
import Derived.Lib.Hide
set_option linter.unusedVariables false
set_option linter.unusedSimpArgs false
namespace Go.Proofs.Ytmfheegkfakjdaa
open Go.RowKit Go.Proofs.YtmfheegkfakjdaaW.PrintWords
attribute [local simp] bl_refl bl_alloc bl_drew bl_drewN bl_set
attribute [local go_sem] add_block lt_sk ne_sk ne_s0 frozen_alloc_lt cell_alloc_lt

theorem reads_cell {W : World} {k : IntKind} {g : Nat} {n : Nat} {xs : List Int} (h : ReadsInt W k (some ⟨g, 0, none⟩) n xs) (i : Nat) (hi : i < n) : W.cell? ⟨g, i, none⟩ = some (.int k (rd xs i)) := by
  obtain ⟨h1, h2, h3⟩ := h
  obtain ⟨ad, e, hc⟩ := h3 (by omega)
  obtain rfl : (⟨g, 0, none⟩ : Addr) = ad := by injection e
  have := hc i hi
  rw [add_plain] at this
  simpa [rd] using this

/-! The fingerprint, as a law of numbers. -/
def U64 (n : Int) : Prop := 0 ≤ n ∧ n ≤ 18446744073709551615
theorem hid_out {p : Prop} (h : Hid p) : p := h
theorem u64_bits (op : BinOp) (x y : Int) : U64 (bits op .u64 x y) := bounds_u64 (wf_bits op .u64 x y)
theorem bt_wrap (s : ByteArray) (i : Int) : IntKind.u64.wrap (bt s i) = bt s i := IntWalk.u64_in _ (by have := bt_range s i; omega)
def crcBit (c : Int) : Int := if bits .and .u64 c 1 == 1 then bits .xor .u64 (c / 2) 14514072000185962306 else c / 2
def crcBits : Nat → Int → Int
  | 0, c => c
  | n + 1, c => crcBit (crcBits n c)
def crcTo (s : ByteArray) : Nat → Int
  | 0 => 18446744073709551615
  | k + 1 => crcBits 8 (bits .xor .u64 (crcTo s k) (bt s k))
def crc (s : ByteArray) : Int := bits .xor .u64 18446744073709551615 (crcTo s s.size)
theorem crcBit_in {c : Int} (h : U64 c) : U64 (crcBit c) := by
  unfold crcBit
  split
  · exact u64_bits _ _ _
  · obtain ⟨h1, h2⟩ := h; exact ⟨by omega, by omega⟩
theorem crcBits_in {c : Int} (h : U64 c) (n : Nat) : U64 (crcBits n c) := by
  induction n with
  | zero => exact h
  | succ n ih => exact crcBit_in ih
theorem crcTo_in (s : ByteArray) (k : Nat) : U64 (crcTo s k) := by
  cases k with
  | zero => exact ⟨by show (0 : Int) ≤ 18446744073709551615; decide, by show (18446744073709551615 : Int) ≤ 18446744073709551615; decide⟩
  | succ k => exact crcBits_in (u64_bits _ _ _) 8

theorem code_Print (s : ByteArray) (hs : s.size ≤ 9223372036854775807) (w : World) : Calls Try.prog 18 #[.string s] w (Ret (.int .u64 (crc s)) w) := by
  have kb := fun W => print_bytes (P := Try.prog) 9 80 5 Try.underlying9 Try.underlying80 Try.underlying5 s W
  go_enter Try.func18, Try.ntmps18
  go_wp2
  have HR := bytes_reads w 5 s hs
  have HB : Below w.heap.size w (Lib.bytesWorld w 5 s) := bytes_below (Below.refl _ _) (Nat.le_refl _) _ _
  clear kb
  generalize Lib.bytesWorld w 5 s = W at HR HB ⊢
  go_loop [3, 5, 6, 10, 18] (fun v3 v5 v6 v10 v18 => ∃ (k : Nat) (c : Int), k ≤ s.size ∧ v10 = .int .i64 k ∧ v3 = .int .u64 c ∧ Hid (c = crcTo s k)) (fun _ _ _ v10 _ => s.size - (intOf v10).toNat)
  case atStart => exact ⟨0, _, by omega, rfl, rfl, rfl⟩
  case round =>
    obtain ⟨k, c, hk, rfl, rfl, hcrc⟩ := hrel
    by_cases hlt : k < s.size
    · have hw := bt_wrap s k
      have hc := reads_cell HR k hlt
      rw [rd_bytesOf] at hc
      clear HR
      have HX : Hid (bits .xor .u64 c (bt s k) = bits .xor .u64 (crcTo s k) (bt s k)) := by show _ = _; rw [hcrc.out]
      clear hcrc
      go_wp2
      go_loop [3, 6, 18] (fun v3 v6 v18 => ∃ (j : Nat) (c : Int), j ≤ 8 ∧ v18 = .int .i64 j ∧ v3 = .int .u64 c ∧ Hid (c = crcBits j (bits .xor .u64 (crcTo s k) (bt s k)))) (fun _ _ v18 => 8 - (intOf v18).toNat)
      case atStart => exact ⟨0, _, by omega, rfl, rfl, HX.out⟩
      case round =>
        clear HX
        obtain ⟨j, c, hj, rfl, rfl, hcb⟩ := hrel
        by_cases hlj : j < 8
        · go_wp2
          · rename_i hb
            refine ⟨⟨j + 1, _, by omega, by go_num, rfl, ?_⟩, by simp [intOf]; omega⟩
            show _ = crcBit _
            rw [← hcb.out, crcBit, if_pos hb]
          · rename_i hb
            refine ⟨⟨j + 1, _, by omega, by go_num, rfl, ?_⟩, by simp [intOf]; omega⟩
            show _ = crcBit _
            rw [← hcb.out, crcBit, if_neg (by simp [hb])]
        · obtain rfl : j = 8 := by omega
          go_wp2
          refine ⟨⟨k + 1, c, by omega, by go_num, rfl, hcb.out⟩, by simp [intOf]; omega⟩
    · obtain rfl : k = s.size := by omega
      have HE : Hid (bits .xor .u64 18446744073709551615 c = crc s) := by show _ = _; rw [hcrc.out]; rfl
      clear hcrc
      go_wp2
      go_ret
      exact ⟨by rw [← HE.out]; rfl, HB⟩

theorem ref_Print (s : ByteArray) (hs : s.size ≤ 9223372036854775807) (w : World) : Calls Try.prog 19 #[.string s] w (Ret (.int .u64 (crc s)) w) := by
  go_enter Try.func19, Try.ntmps19
  go_wp2
  go_loop [3, 4, 5, 6] (fun v3 v4 v5 v6 => ∃ (k : Nat) (c : Int), k ≤ s.size ∧ v4 = .int .i64 k ∧ v3 = .int .u64 c ∧ Hid (c = crcTo s k)) (fun _ v4 _ _ => s.size - (intOf v4).toNat)
  case atStart => exact ⟨0, _, by omega, rfl, rfl, rfl⟩
  case round =>
    obtain ⟨k, c, hk, rfl, rfl, hcrc⟩ := hrel
    by_cases hlt : k < s.size
    · have HX : Hid (bits .xor .u64 c (IntKind.u64.wrap ((s[k]'hlt).toNat : Int)) = bits .xor .u64 (crcTo s k) (bt s k)) := by
        show _ = _
        rw [hcrc.out, show ((s[k]'hlt).toNat : Int) = bt s k from bt_at s k hlt, bt_wrap]
      clear hcrc
      go_wp2
      rename_i hx
      go_loop [3, 5, 6] (fun v3 v5 v6 => ∃ (j : Nat) (c : Int), j ≤ 8 ∧ v5 = .int .i64 j ∧ v3 = .int .u64 c ∧ U64 c ∧ Hid (c = crcBits j (bits .xor .u64 (crcTo s k) (bt s k)))) (fun _ v5 _ => 8 - (intOf v5).toNat)
      case atStart => exact ⟨0, _, by omega, rfl, rfl, u64_bits _ _ _, HX.out⟩
      case round =>
        clear HX
        obtain ⟨j, c, hj, rfl, rfl, hU, hcb⟩ := hrel
        by_cases hlj : j < 8
        · have hand := and_one_u64 c hU.1 hU.2
          have hU0 := hU.1
          have ht : c.tmod 2 = c % 2 := by rw [Int.tmod_eq_emod_of_nonneg hU0]
          cases hb : (c % 2 == 1) with
          | true =>
            have hb2 : Hid (crcBit c = bits .xor .u64 (c / 2) 14514072000185962306) := by show _ = _; rw [crcBit, hand, if_pos hb]
            have hU2 := Lib.hid hU
            clear hand hU
            go_wp2
            refine ⟨⟨j + 1, _, by omega, by go_num, rfl, hb2.out ▸ crcBit_in hU2.out, ?_⟩, by simp [intOf]; omega⟩
            show _ = crcBit _
            rw [← hcb.out, hb2.out]
          | false =>
            have hb2 : Hid (crcBit c = c / 2) := by show _ = _; rw [crcBit, hand, if_neg (by simp [hb])]
            have hU2 := Lib.hid hU
            clear hand hU
            go_wp2
            refine ⟨⟨j + 1, _, by omega, by go_num, rfl, hb2.out ▸ crcBit_in hU2.out, ?_⟩, by simp [intOf]; omega⟩
            show _ = crcBit _
            rw [← hcb.out, hb2.out]
        · obtain rfl : j = 8 := by omega
          go_wp2
          refine ⟨⟨k + 1, c, by omega, by go_num, rfl, hcb.out⟩, by simp [intOf]; omega⟩
    · obtain rfl : k = s.size := by omega
      have HE : Hid (bits .xor .u64 18446744073709551615 c = crc s) := by show _ = _; rw [hcrc.out]; rfl
      clear hcrc
      go_wp2
      go_ret
      exact ⟨by rw [← HE.out]; rfl, Below.refl _ _⟩
end Go.Proofs.Ytmfheegkfakjdaa
