/- The writer of bytecode. -/
import Derived.Test.YtmfheegkfakjdaaPr
import Derived.Deep.RegionLaw
import Derived.Deep.AppendLies
set_option linter.unusedVariables false
set_option linter.unusedSimpArgs false
namespace Go.Proofs.Ytmfheegkfakjdaa
open Go.RowKit Go.Proofs.YtmfheegkfakjdaaW.PrintWords
attribute [local simp] bl_refl bl_alloc bl_drew bl_drewN bl_set
attribute [local go_sem] add_block lt_sk ne_sk ne_s0 frozen_alloc_lt cell_alloc_lt

theorem infoByte : (Try.prog.info? 5).map (fun i => (i.zero, i.size, i.bytes)) = some (some (.int .u8 0), 1, 1) := by kernel_rfl
/-- A writer at block g that holds these bytes, in memory from block B on. -/
structure WrAt (w : World) (B g : Nat) (v : Value) (xs : List Int) : Prop where
  blk : w.heap[g]? = some (.cells #[v] 82 (0, 0))
  own : w.ownsRow B 5 1 v xs.length (nums .u8 xs)
  hB : B ≤ g
def WrPost (B g : Nat) (w : World) (ys : List Int) (e : Ending) (w' : World) : Prop := e = .returned (.tuple #[]) ∧ Below B w w' ∧ ∃ v, WrAt w' B g v ys
theorem WrAt.below {w w1 : World} {B g : Nat} {v : Value} {xs : List Int} (h : WrAt w B g v xs) (hb : Below w.heap.size w w1) : WrAt w1 B g v xs := ⟨blk_below h.blk hb, pw_own_below h.own hb, h.hB⟩
theorem ty_byte_wr : (5 : TypeId) ≠ 82 := by decide
/-- Behind an append and its store. -/
theorem WrAt.put {w w1 : World} {B g : Nat} {v v1 : Value} {xs ys : List Int} {n : Nat} (h : WrAt w B g v xs) (HO : w1.ownsRow B 5 1 v1 n (nums .u8 ys)) (hn : n = ys.length) (hg : w.grownBy w1 v.ownBlock)
    (hat : v1.ownBlock = v.ownBlock ∨ ∃ b, v1.ownBlock = some b ∧ w.heap.size ≤ b) : WrAt (w1.setCell ⟨g, 0, none⟩ v1) B g v1 ys := by
  subst hn
  have hb := blk_grown h.blk hg (own_ne h.own h.blk ty_byte_wr)
  exact ⟨blk_set hb 0 v1, own_setCell HO (own_ne HO hb ty_byte_wr) _, h.hB⟩

/-! A number's bytes. -/
def numB (n : Nat) : List Int := if n < 128 then [(n : Int)] else ((n % 128 + 128 : Nat) : Int) :: numB (n / 128)
termination_by n
decreasing_by omega
theorem numB_lt {n : Nat} (h : n < 128) : numB n = [(n : Int)] := by rw [numB, if_pos h]
theorem numB_ge {n : Nat} (h : 128 ≤ n) : numB n = ((n % 128 + 128 : Nat) : Int) :: numB (n / 128) := by rw [numB, if_neg (by omega)]
theorem numB_len (k : Nat) : ∀ n : Nat, n < 128 ^ (k + 1) → (numB n).length ≤ k + 1 := by
  induction k with
  | zero => intro n h; rw [numB_lt (by simpa using h)]; simp
  | succ k ih =>
    intro n h
    by_cases hn : n < 128
    · rw [numB_lt hn]; simp
    · rw [numB_ge (by omega)]
      have := ih (n / 128) (by rw [Nat.pow_succ] at h; exact Nat.div_lt_of_lt_mul (by rw [Nat.mul_comm]; exact h))
      simp; omega
theorem or128 : ∀ m : Fin 256, bits .or .u8 (m.val : Int) 128 = ((m.val % 128 + 128 : Nat) : Int) := by decide +kernel
theorem wrap8 (n : Nat) : IntKind.u8.wrap (n : Int) = ((n % 256 : Nat) : Int) := by
  simp [IntKind.wrap, IntKind.signed, IntKind.bits]
theorem byte_or (n : Nat) : bits .or .u8 ((n : Int) % 256) 128 = ((n % 128 + 128 : Nat) : Int) := by
  rw [show (n : Int) % 256 = ((n % 256 : Nat) : Int) by omega]
  have := or128 ⟨n % 256, by omega⟩
  simp only at this
  rw [this]
  congr 1; omega

set_option maxRecDepth 100000 in
theorem wr_number (B g : Nat) (v : Value) (xs : List Int) (n : Nat) (w : World) (H : WrAt w B g v xs) (hB : B ≤ w.heap.size) (hn : n ≤ 9223372036854775807) (hl : xs.length ≤ 16777216) :
    Calls Try.prog 36 #[.pointer (some ⟨g, 0, none⟩), .int .i64 (n : Int)] w (WrPost B g w (xs ++ numB n)) := by
  have hlen : Hid ((xs ++ numB n).length ≤ 16777300) := by
    show (xs ++ numB n).length ≤ 16777300
    have := numB_len 9 n (by omega)
    simp; omega
  have H1 := Lib.hid H
  clear H
  go_enter Try.func36, Try.ntmps36
  go_wp2
  go_loopw [1] (fun v1 wr => ∃ (m : Nat) (v : Value) (ys : List Int), v1 = .int .i64 (m : Int) ∧ m ≤ 9223372036854775807 ∧ Hid (ys ++ numB m = xs ++ numB n) ∧ Hid (WrAt wr B g v ys) ∧ Below B w wr) (fun v1 _ => (intOf v1).toNat)
  case atStart => exact ⟨n, v, xs, rfl, hn, rfl, H1.out, Below.refl _ _⟩
  case round =>
    obtain ⟨m, v, ys, rfl, hm, he, HW, HB⟩ := hrel
    have hsz := HB.size
    have hyl : ys.length ≤ 16777300 := by
      have := hlen.out
      rw [← he.out] at this
      simp at this; omega
    have hBw : B ≤ wr.heap.size := Nat.le_trans hB hsz
    have k0 := (blk_cell HW.out.blk 0).trans (show _ = some v from rfl)
    have z0 := blk_frozen HW.out.blk 0
    have HO := HW.out.own
    have HK := HW.out.blk
    have hne := own_ne HO HK ty_byte_wr
    by_cases h128 : 128 ≤ m
    · go_wp2_with (at_builtin; refine print_append_num (w0 := w) B rfl (.tmp 12) (.tmp 16) 80 5 .u8 1 rfl Try.underlying80 infoByte (by decide) v ys _ rfl rfl HO HB hBw (by omega) ?_; intro v1 w2 HO2 HB2 hg2 hat2; obtain ⟨g2, cap2, rfl, _, _⟩ := HO2.form (by simp); simp only [List.length_append, List.length_singleton] at HO2 hat2; have hb2 := blk_grown HK hg2 hne; have e0 := (blk_cell hb2 0).trans (show _ = some v from rfl); have f0 := blk_frozen hb2 0; have hl2 := blk_lt hb2)
      refine ⟨⟨m / 128, _, _, by simp, by omega, ?_, HW.out.put HO2 (by simp) hg2 hat2, HB2.setCell HW.out.hB _⟩, by simp [intOf]; omega⟩
      show _ = _
      rw [byte_or, ← he.out, numB_ge h128]
      simp
    · go_wp2_with (at_builtin; refine print_append_num (w0 := w) B rfl (.tmp 24) (.tmp 27) 80 5 .u8 1 rfl Try.underlying80 infoByte (by decide) v ys _ rfl rfl HO HB hBw (by omega) ?_; intro v1 w2 HO2 HB2 hg2 hat2; obtain ⟨g2, cap2, rfl, _, _⟩ := HO2.form (by simp); simp only [List.length_append, List.length_singleton] at HO2 hat2; have hb2 := blk_grown HK hg2 hne; have e0 := (blk_cell hb2 0).trans (show _ = some v from rfl); have f0 := blk_frozen hb2 0; have hl2 := blk_lt hb2)
      go_end0
      refine ⟨rfl, HB2.setCell HW.out.hB _, .slice (some ⟨g2, 0, none⟩) (ys.length + 1) cap2, ?_⟩
      rw [← he.out, numB_lt (by omega)]
      exact HW.out.put HO2 (by simp) hg2 hat2

/-! The bytes of a number, the lowest first. -/
def lowB (x : Int) : Nat → List Int
  | 0 => []
  | k + 1 => lowB x k ++ [(x / 2 ^ (8 * k)) % 256]
theorem wrap8i (a : Int) : IntKind.u8.wrap a = a % 256 := by simp [IntKind.wrap, IntKind.signed, IntKind.bits]
theorem lowB_len (x : Int) (k : Nat) : (lowB x k).length = k := by
  induction k with
  | zero => rfl
  | succ k ih => simp [lowB, ih]
section
variable {w : World} {B : Nat} {ops : Array Oper} {K : Act → World → Prop} {Q : Exit → Act → World → Prop} {E : Prop} {o : Oper} {a : Act}
theorem step_app_u8 (hgd : o.guard = none) (s x : Operand) (ho : o.op = .call { callee := .builtin .append, args := #[s, x], argTypes := #[80, 80] })
    (v : Value) (xs : List Int) (y : Int) (p : Nat) (hs : a.eval s = v) (hx : a.eval x = .slice (some ⟨p, 0, none⟩) 1 1) (hc : w.cell? ⟨p, 0, none⟩ = some (.int .u8 y))
    (HO : w.ownsRow B 5 1 v xs.length (nums .u8 xs)) (hB : B ≤ w.heap.size) (hl : xs.length ≤ 16777300)
    (h : ∀ g cap w1, w1.ownsRow B 5 1 (.slice (some ⟨g, 0, none⟩) (xs.length + 1) cap) (xs.length + 1) (nums .u8 (xs ++ [y])) → w.grownBy w1 v.ownBlock →
      ((Value.slice (some ⟨g, 0, none⟩) (xs.length + 1) cap).ownBlock = v.ownBlock ∨ ∃ b, (Value.slice (some ⟨g, 0, none⟩) (xs.length + 1) cap).ownBlock = some b ∧ w.heap.size ≤ b) → K (a.put o.dst (.slice (some ⟨g, 0, none⟩) (xs.length + 1) cap)) w1) :
    if Region.wanted o (yielded ops a.tmps) = true then Oper.wp Try.prog o a w K Q else E := by
  obtain ⟨i0, hi, hzz⟩ := Option.map_eq_some_iff.1 infoByte
  simp only [Prod.mk.injEq] at hzz
  obtain ⟨hz0, hz1, hz2⟩ := hzz
  have hn : (nums .u8 xs).length = xs.length := nums_length _ _
  refine step_append_lies w hgd s x 80 ho B 5 i0 (.int .u8 0) 1 1 Try.underlying80 hi hz0 hz1 hz2 rfl (by decide) v xs.length (nums .u8 xs) hs HO ⟨p, 0, none⟩ 1 1 [.int .u8 y] hx rfl ?_ ?_ (by decide) (by unfold maxLen; omega) ?_ hB _ rfl ?_
  · intro j u hj
    match j, hj with
    | 0, hj =>
      obtain rfl : Value.int .u8 y = u := by simpa using hj
      exact hc
  · intro u hu
    simp at hu; subst hu; rfl
  · omega
  · intro g cap w1 HO1 hg hat hlt
    refine h g cap w1 (by simpa [nums] using HO1) hg ?_
    rcases hat with hat | hat
    · exact .inl hat.symm
    · exact .inr ⟨g, rfl, by omega⟩
end

set_option maxRecDepth 100000 in
theorem wr_bytes (B g : Nat) (v : Value) (xs : List Int) (x : Int) (n : Nat) (w : World) (H : WrAt w B g v xs) (hB : B ≤ w.heap.size) (hx : U64 x) (hn : n ≤ 8) (hl : xs.length ≤ 16777216) :
    Calls Try.prog 38 #[.pointer (some ⟨g, 0, none⟩), .int .u64 x, .int .i64 (n : Int)] w (WrPost B g w (xs ++ lowB x n)) := by
  have H1 := Lib.hid H
  clear H
  go_enter Try.func38, Try.ntmps38
  go_wp2
  go_loopw [6, 8] (fun v6 v8 wr => ∃ (k : Nat) (v : Value), v8 = .int .i64 (k : Int) ∧ k ≤ n ∧ Hid (WrAt wr B g v (xs ++ lowB x k)) ∧ Below B w wr) (fun _ v8 _ => n - (intOf v8).toNat)
  case atStart => exact ⟨0, v, rfl, by omega, by simpa [Hid, lowB] using H1.out, Below.refl _ _⟩
  case round =>
    obtain ⟨k, v, rfl, hk, HW, HB⟩ := hrel
    have hsz := HB.size
    have hBw : B ≤ wr.heap.size := Nat.le_trans hB hsz
    by_cases hlt : k < n
    · have k0 := (blk_cell HW.out.blk 0).trans (show _ = some v from rfl)
      have z0 := blk_frozen HW.out.blk 0
      have hk8 : IntKind.i64.wrap (8 * (k : Int)) = 8 * (k : Int) := IntWalk.i64_in _ (by omega)
      have hk0 : (0 : Int) ≤ 8 * (k : Int) := by omega
      have hlg := blk_lt HW.out.blk
      have hyl : Hid (lowB x (k + 1) = lowB x k ++ [(IntKind.u8.wrap (x / 2 ^ (8 * (k : Int)).toNat))]) := by
        show _ = _
        rw [wrap8i, lowB, show (8 * (k : Int)).toNat = 8 * k by omega]
      have HO1 := own_drew (own_alloc HW.out.own (.cells #[.int .u8 (IntKind.u8.wrap (x / 2 ^ (8 * (k : Int)).toNat))] 5))
      have HK1 := blk_drew (blk_alloc HW.out.blk (.cells #[.int .u8 (IntKind.u8.wrap (x / 2 ^ (8 * (k : Int)).toNat))] 5))
      have hne := own_ne HO1 HK1 ty_byte_wr
      have hlen : (xs ++ lowB x k).length ≤ 16777300 := by simp [lowB_len]; omega
      go_wp2
      go_region_law (first | (refine step_app_u8 rfl (.tmp 15) (.tmp 21) rfl _ (xs ++ lowB x k) (IntKind.u8.wrap (x / 2 ^ (8 * (k : Int)).toNat)) wr.heap.size rfl rfl ?c1 HO1 ?c2 hlen ?_; (case c1 => simp); (case c2 => (simp; omega)); intro g2 cap w2 HO2 hg2 hat2; have hb2 := blk_grown HK1 hg2 hne; have e6 := (blk_cell hb2 0).trans (show _ = some v from rfl); have f6 := blk_frozen hb2 0))
      all_goals go_wp2
      all_goals
        simp only [List.length_append] at HO2 hat2
        refine ⟨⟨k + 1, .slice (some ⟨g2, 0, none⟩) (xs.length + (lowB x k).length + 1) cap, by go_num, by omega, ?_, ?_⟩, by simp [intOf]; omega⟩
        · show WrAt _ _ _ _ _
          rw [hyl.out, ← List.append_assoc]
          exact (WrAt.mk HK1 HO1 HW.out.hB).put HO2 (by simp; omega) hg2 hat2
        · exact ((HB.alloc hBw _).drew.grown hg2 (by simp; omega) (own_base HO1)).setCell HW.out.hB _
    · obtain rfl : k = n := by omega
      go_wp2
      go_end0
      exact ⟨rfl, HB, _, HW.out⟩

theorem own_lower {w : World} {B base size n : Nat} {e : TypeId} {v : Value} {xs : List Value} (h : w.ownsRow base e size v n xs) (hb : B ≤ base) : w.ownsRow B e size v n xs :=
  ⟨h.1, h.2.elim Or.inl (fun ⟨g, cap, cur, hv, hg, r⟩ => Or.inr ⟨g, cap, cur, hv, Nat.le_trans hb hg, r⟩)⟩
/-! The first number behind the mark: the mark's row is full. -/
def mark4 : List Int := [108, 116, 104, 49]
set_option maxRecDepth 100000 in
theorem wr_number_first (B g h : Nat) (n : Nat) (w : World) (HK : w.heap[g]? = some (.cells #[.slice (some ⟨h, 0, none⟩) 4 4] 82 (0, 0))) (HR : w.heap[h]? = some (.cells (nums .u8 mark4).toArray 5 (4, 5))) (hB : B ≤ w.heap.size) (hBg : B ≤ g) (hn : n < 128) :
    Calls Try.prog 36 #[.pointer (some ⟨g, 0, none⟩), .int .i64 (n : Int)] w (WrPost B g w (mark4 ++ [(n : Int)])) := by
  have k0 := (blk_cell HK 0).trans (show _ = some (Value.slice (some ⟨h, 0, none⟩) 4 4) from rfl)
  have hlg := blk_lt HK
  have hlh := blk_lt HR
  have HR2 : (w.alloc (.cells #[.int .u8 (n : Int)] 5)).heap[h]? = some (.cells (nums .u8 mark4).toArray 5 (4, 5)) := (heap_alloc_old w _ hlh).trans HR
  have F1 : ∀ b : Addr, some (⟨h, 0, none⟩ : Addr) = some b → ∀ j u, (nums .u8 mark4)[j]? = some u → (w.alloc (.cells #[.int .u8 (n : Int)] 5)).cell? (b.add j) = some u := by
    intro b hb j u hj
    obtain rfl : (⟨h, 0, none⟩ : Addr) = b := by injection hb
    rw [add_plain, cell_of_row _ h j _ _ _ HR2]
    simpa using hj
  have F2 : ∀ j u, [Value.int .u8 (n : Int)][j]? = some u → (w.alloc (.cells #[.int .u8 (n : Int)] 5)).cell? ((⟨w.heap.size, 0, none⟩ : Addr).add j) = some u := World.news_of_block (heap_alloc_new w _)
  have F3 : ∀ u ∈ [Value.int .u8 (n : Int)], u.oneCell' = true := by intro u hu; rw [List.mem_singleton.1 hu]; rfl
  obtain ⟨i0, hi, hzz⟩ := Option.map_eq_some_iff.1 infoByte
  simp only [Prod.mk.injEq] at hzz
  obtain ⟨hz0, hz1, hz2⟩ := hzz
  have G1 := Lib.hid F1
  have G2 := Lib.hid F2
  have G3 := Lib.hid F3
  clear F1 F2 F3
  go_enter Try.func36, Try.ntmps36
  go_wp2
  go_loopw [1] (fun v1 wr => v1 = .int .i64 (n : Int) ∧ wr = w) (fun v1 _ => 0)
  case atStart => exact ⟨rfl, rfl⟩
  case round =>
    obtain ⟨rfl, rfl⟩ := hrel
    go_wp2_with (at_builtin; refine wpList_append_grows _ rfl (.tmp 24) (.tmp 27) 80 rfl 5 i0 (.int .u8 0) 1 1 Try.underlying80 hi hz0 hz1 hz2 rfl (by decide) (some ⟨h, 0, none⟩) 4 4 (nums .u8 mark4) rfl (by intro e; cases e) rfl G1.out ⟨wr.heap.size, 0, none⟩ 1 1 [.int .u8 (n : Int)] rfl rfl G2.out G3.out (by decide) (by decide) (by decide) ?_; intro v1 w2 HO2 hg2; obtain ⟨g2, cap2, rfl, _, _⟩ := HO2.form (by decide); have hb2 := blk_grown (blk_alloc HK _) hg2 (by simp); have e0 := (blk_cell hb2 0).trans (show _ = some (Value.slice (some ⟨h, 0, none⟩) 4 4) from rfl); have f0 := blk_frozen hb2 0; have hl2 := blk_lt hb2)
    go_end0
    have HO3 : w2.ownsRow B 5 1 (.slice (some ⟨g2, 0, none⟩) 5 cap2) (mark4 ++ [(n : Int)]).length (nums .u8 (mark4 ++ [(n : Int)])) := by
      have := own_lower HO2 (B := B) (by simp; omega)
      simpa [nums, mark4] using this
    exact ⟨rfl, (((Below.refl B wr).alloc hB _).grown hg2 (by simp; omega) (fun k hk => by cases hk)).setCell hBg _, _, blk_set hb2 0 _, own_setCell HO3 (own_ne HO3 hb2 ty_byte_wr) _, hBg⟩
end Go.Proofs.Ytmfheegkfakjdaa
