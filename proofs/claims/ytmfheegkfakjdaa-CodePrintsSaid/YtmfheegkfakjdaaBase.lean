/- What a code in memory is, and small words for the walks. -/
import Derived.Test.YtmfheegkfakjdaaProg
import Derived.Test.YtmfheegkfakjdaaData
import Derived.Test.YtmfheegkfakjdaaWWords
import Derived.WalkSpells
import Derived.WalkLawsBesides
set_option linter.unusedVariables false
set_option linter.unusedSimpArgs false
namespace Go.Proofs.Ytmfheegkfakjdaa
open Go.RowKit Go.Proofs.YtmfheegkfakjdaaW.PrintWords

/-- A kind whose values are told by their cells alone. -/
def flat {α : Type} (enc : α → List Value) (sz : Nat) (hl : ∀ x, (enc x).length = sz) (h1 : ∀ x, ∀ u ∈ enc x, u.oneCell' = true) : Kd α where
  sz := sz
  E := []
  K := fun _ x cs => cs = enc x
  M := fun _ _ _ x cs => cs = enc x
  K_len := fun h => by rw [h]; exact hl _
  K_one := fun h u hu => by rw [h] at hu; exact h1 _ u hu
  K_below := fun _ h => h
  K_of_M := fun h => h
  M_mono := fun _ h => h
  M_bound := fun h => h
  M_move := fun _ h => h
  M_lower := fun _ h => h
def kPar : Kd Par := flat Par.cells 3 (fun _ => rfl) (fun x u hu => by simp at hu; rcases hu with rfl | rfl | rfl <;> rfl)
def kTy : Kd Ty := flat Ty.cells 2 (fun _ => rfl) (fun x u hu => by simp at hu; rcases hu with rfl | rfl <;> rfl)
def kSlt : Kd Slt := flat Slt.cells 5 (fun _ => rfl) (fun x u hu => by simp at hu; rcases hu with rfl | rfl | rfl | rfl | rfl <;> rfl)
def kIns : Kd Ins := flat Ins.cells 7 (fun _ => rfl) (fun x u hu => by simp at hu; rcases hu with rfl | rfl | rfl | rfl | rfl | rfl | rfl <;> rfl)

theorem add_block (ad : Addr) (k : Nat) : (ad.add k).block = ad.block := by unfold Addr.add; split <;> rfl
theorem cell_bound {w : World} {ad : Addr} {k : Nat} {v : Value} (h : w.cell? (ad.add k) = some v) : ad.block < w.heap.size := by
  have := World.block_lt_of_cell? w _ h
  rwa [add_block] at this
theorem lt_sk {a n : Nat} (h : a < n) (k : Nat) : a < n + k ↔ True := ⟨fun _ => trivial, fun _ => by omega⟩
theorem ne_sk {a n : Nat} (h : a < n) (k : Nat) : a = n + k ↔ False := ⟨fun e => by omega, False.elim⟩
theorem ne_s0 {a n : Nat} (h : a < n) : a = n ↔ False := ⟨fun e => by omega, False.elim⟩
theorem frozen_alloc_lt {w : World} {a : Addr} {o : Obj} (h : a.block < w.heap.size) : (w.alloc o).frozen? a = w.frozen? a := World.frozen?_alloc_old _ _ _ (by omega)
theorem cell_alloc_lt {w : World} {a : Addr} {o : Obj} (h : a.block < w.heap.size) : (w.alloc o).cell? a = w.cell? a := World.cell?_alloc_old _ _ _ (by omega)
/-- The cells of element i of a slice that is read. -/
theorem flat_at {α : Type} {enc : α → List Value} {sz : Nat} {hl : ∀ x, (enc x).length = sz} {h1 : ∀ x, ∀ u ∈ enc x, u.oneCell' = true} {w : World} {A : Option Addr} {n : Nat} {xs : List α} (h : (flat enc sz hl h1).C w A n xs) (i : Int) (h0 : 0 ≤ i) (hn : i < n) :
    ∃ ad x, A = some ad ∧ xs[i.toNat]? = some x ∧ ∀ j u, (enc x)[j]? = some u → w.cell? (ad.add (i.toNat * sz + j)) = some u := by
  obtain ⟨ad, e, hc⟩ := h.2.2 (by omega)
  have hlt : i.toNat < xs.length := by have := h.1; omega
  obtain ⟨c, _, hK, hcell⟩ := hc i.toNat _ (List.getElem?_eq_getElem hlt)
  refine ⟨ad, _, e, List.getElem?_eq_getElem hlt, fun j u hj => hcell j u ?_⟩
  have : c = enc xs[i.toNat] := hK
  rw [this]
  exact hj
theorem parAt {w : World} {A : Option Addr} {n : Nat} {xs : List Par} (h : kPar.C w A n xs) (i : Int) (h0 : 0 ≤ i) (hn : i < n) :
    ∃ ad x, A = some ad ∧ ad.block < w.heap.size ∧ xs[i.toNat]? = some x ∧ w.cell? (ad.add (i.toNat * 3)) = some (.string x.name) ∧ w.cell? ⟨ad.block, (ad.add (i.toNat * 3)).off + 1, none⟩ = some (.int .i64 x.kind) ∧ w.cell? ⟨ad.block, (ad.add (i.toNat * 3)).off + 2, none⟩ = some (.int .i64 x.len) := by
  obtain ⟨ad, x, e, hx, hc⟩ := flat_at h i h0 hn
  exact ⟨ad, x, e, cell_bound (hc 0 _ rfl), hx, hc 0 _ rfl, by rw [← add_block ad, ← add_field _ _ 1 (by omega)]; exact hc 1 _ rfl, by rw [← add_block ad, ← add_field _ _ 2 (by omega)]; exact hc 2 _ rfl⟩
theorem tyAt {w : World} {A : Option Addr} {n : Nat} {xs : List Ty} (h : kTy.C w A n xs) (i : Int) (h0 : 0 ≤ i) (hn : i < n) :
    ∃ ad x, A = some ad ∧ ad.block < w.heap.size ∧ xs[i.toNat]? = some x ∧ w.cell? (ad.add (i.toNat * 2)) = some (.int .i64 x.kind) ∧ w.cell? ⟨ad.block, (ad.add (i.toNat * 2)).off + 1, none⟩ = some (.int .i64 x.param) := by
  obtain ⟨ad, x, e, hx, hc⟩ := flat_at h i h0 hn
  exact ⟨ad, x, e, cell_bound (hc 0 _ rfl), hx, hc 0 _ rfl, by rw [← add_block ad, ← add_field _ _ 1 (by omega)]; exact hc 1 _ rfl⟩
theorem sltAt {w : World} {A : Option Addr} {n : Nat} {xs : List Slt} (h : kSlt.C w A n xs) (i : Int) (h0 : 0 ≤ i) (hn : i < n) :
    ∃ ad x, A = some ad ∧ ad.block < w.heap.size ∧ xs[i.toNat]? = some x ∧ w.cell? (ad.add (i.toNat * 5)) = some (.int .i64 x.ty.kind) ∧ w.cell? ⟨ad.block, (ad.add (i.toNat * 5)).off + 1, none⟩ = some (.int .i64 x.ty.param) ∧ w.cell? ⟨ad.block, (ad.add (i.toNat * 5)).off + 2, none⟩ = some (.bool x.keep) ∧ w.cell? ⟨ad.block, (ad.add (i.toNat * 5)).off + 3, none⟩ = some (.int .u32 x.bits) ∧ w.cell? ⟨ad.block, (ad.add (i.toNat * 5)).off + 4, none⟩ = some (.int .i64 x.int) := by
  obtain ⟨ad, x, e, hx, hc⟩ := flat_at h i h0 hn
  exact ⟨ad, x, e, cell_bound (hc 0 _ rfl), hx, hc 0 _ rfl, by rw [← add_block ad, ← add_field _ _ 1 (by omega)]; exact hc 1 _ rfl, by rw [← add_block ad, ← add_field _ _ 2 (by omega)]; exact hc 2 _ rfl, by rw [← add_block ad, ← add_field _ _ 3 (by omega)]; exact hc 3 _ rfl, by rw [← add_block ad, ← add_field _ _ 4 (by omega)]; exact hc 4 _ rfl⟩
theorem insAt {w : World} {A : Option Addr} {n : Nat} {xs : List Ins} (h : kIns.C w A n xs) (i : Int) (h0 : 0 ≤ i) (hn : i < n) :
    ∃ ad x, A = some ad ∧ ad.block < w.heap.size ∧ xs[i.toNat]? = some x ∧ w.cell? (ad.add (i.toNat * 7)) = some (.int .i64 x.op) ∧ w.cell? ⟨ad.block, (ad.add (i.toNat * 7)).off + 1, none⟩ = some (.int .i64 x.d) ∧ w.cell? ⟨ad.block, (ad.add (i.toNat * 7)).off + 2, none⟩ = some (.int .i64 x.a) ∧ w.cell? ⟨ad.block, (ad.add (i.toNat * 7)).off + 3, none⟩ = some (.int .i64 x.b) ∧ w.cell? ⟨ad.block, (ad.add (i.toNat * 7)).off + 4, none⟩ = some (.int .i64 x.c) ∧ w.cell? ⟨ad.block, (ad.add (i.toNat * 7)).off + 5, none⟩ = some (.int .i64 x.n) ∧ w.cell? ⟨ad.block, (ad.add (i.toNat * 7)).off + 6, none⟩ = some (.int .u32 x.bits) := by
  obtain ⟨ad, x, e, hx, hc⟩ := flat_at h i h0 hn
  exact ⟨ad, x, e, cell_bound (hc 0 _ rfl), hx, hc 0 _ rfl, by rw [← add_block ad, ← add_field _ _ 1 (by omega)]; exact hc 1 _ rfl, by rw [← add_block ad, ← add_field _ _ 2 (by omega)]; exact hc 2 _ rfl, by rw [← add_block ad, ← add_field _ _ 3 (by omega)]; exact hc 3 _ rfl, by rw [← add_block ad, ← add_field _ _ 4 (by omega)]; exact hc 4 _ rfl, by rw [← add_block ad, ← add_field _ _ 5 (by omega)]; exact hc 5 _ rfl, by rw [← add_block ad, ← add_field _ _ 6 (by omega)]; exact hc 6 _ rfl⟩

/-! ### a code that is read: four slices -/
structure CodeAt (w : World) (A0 A1 A2 A3 : Option Addr) (c0 c1 c2 c3 : Nat) (C : Cod) : Prop where
  r0 : kPar.C w A0 C.sign.length C.sign
  r1 : kTy.C w A1 C.regs.length C.regs
  r2 : kSlt.C w A2 C.slots.length C.slots
  r3 : kIns.C w A3 C.list.length C.list
  l0 : C.sign.length ≤ c0
  l1 : C.regs.length ≤ c1
  l2 : C.slots.length ≤ c2
  l3 : C.list.length ≤ c3
theorem CodeAt.below {w w1 : World} {A0 A1 A2 A3 : Option Addr} {c0 c1 c2 c3 : Nat} {C : Cod} (h : CodeAt w A0 A1 A2 A3 c0 c1 c2 c3 C) (hb : Below w.heap.size w w1) : CodeAt w1 A0 A1 A2 A3 c0 c1 c2 c3 C :=
  ⟨Kd.C_below h.r0 hb, Kd.C_below h.r1 hb, Kd.C_below h.r2 hb, Kd.C_below h.r3 hb, h.l0, h.l1, h.l2, h.l3⟩
/-- The value of such a code. -/
abbrev cv (A0 A1 A2 A3 : Option Addr) (n0 n1 n2 n3 c0 c1 c2 c3 : Nat) : Value := .agg #[.slice A0 n0 c0, .slice A1 n1 c1, .slice A2 n2 c2, .slice A3 n3 c3]

/-! ### posts -/
/-- It returns v; what was there is as it was. -/
def Ret (v : Value) (w : World) (e : Ending) (w' : World) : Prop := e = .returned v ∧ Below w.heap.size w w'
theorem bl_refl (w : World) : Below w.heap.size w w ↔ True := ⟨fun _ => trivial, fun _ => Below.refl _ _⟩
theorem bl_alloc {w W : World} (h : Below w.heap.size w W) (o : Obj) : Below w.heap.size w (W.alloc o) ↔ True := ⟨fun _ => trivial, fun _ => below_alloc h o⟩
theorem bl_drew {w W : World} (h : Below w.heap.size w W) : Below w.heap.size w W.drew ↔ True := ⟨fun _ => trivial, fun _ => below_drew h⟩
theorem bl_drewN {w W : World} (h : Below w.heap.size w W) (n : Nat) : Below w.heap.size w (W.drewN n) ↔ True := ⟨fun _ => trivial, fun _ => pw_below_drewN h n⟩
theorem bl_set {w W : World} (h : Below w.heap.size w W) {p : Addr} (hp : w.heap.size ≤ p.block) (u : Value) : Below w.heap.size w (W.setCell p u) ↔ True := ⟨fun _ => trivial, fun _ => h.setCell hp u⟩

theorem bl_call {w W w1 : World} (h : Below w.heap.size w W) (hb : Below W.heap.size W w1) : Below w.heap.size w w1 := h.trans (hb.mono h.size)
/-- What an old block holds is there behind a call. -/
theorem bcell {W w1 : World} (hb : Below W.heap.size W w1) : (∀ b o, b < W.heap.size → w1.cell? ⟨b, o, none⟩ = W.cell? ⟨b, o, none⟩) ∧ (∀ b o, b < W.heap.size → w1.frozen? ⟨b, o, none⟩ = W.frozen? ⟨b, o, none⟩) ∧ W.heap.size ≤ w1.heap.size :=
  ⟨fun b o h => hb.cell (p := ⟨b, o, none⟩) h, fun b o h => hb.frozen (p := ⟨b, o, none⟩) h, hb.size⟩

theorem blk_new' (w : World) (o : Obj) (n : Nat) (h : n = w.heap.size) : (w.alloc o).heap[n]? = some o := by subst h; exact blk_new w o

theorem two_stored {w : World} {g : Nat} {t : TypeId} {a0 a1 : Value} (h : w.heap[g]? = some (.cells #[a0, a1] t (0, 0))) (u0 u1 : Value) : ((w.setCell ⟨g, 0, none⟩ u0).setCell ⟨g, 1, none⟩ u1).heap[g]? = some (.cells #[u0, u1] t (0, 0)) :=
  blk_set (blk_set h 0 u0) 1 u1

theorem tys_stored {w : World} {g h : Nat} {t t' : TypeId} {a0 a1 b0 b1 : Value} (hne : g ≠ h) (H1 : w.heap[g]? = some (.cells #[a0, a1] t (0, 0))) (H2 : w.heap[h]? = some (.cells #[b0, b1] t' (0, 0))) (u0 u1 v0 v1 : Value) :
    ((((w.setCell ⟨g, 0, none⟩ u0).setCell ⟨g, 1, none⟩ u1).setCell ⟨h, 0, none⟩ v0).setCell ⟨h, 1, none⟩ v1).heap[g]? = some (.cells #[u0, u1] t (0, 0)) ∧
    ((((w.setCell ⟨g, 0, none⟩ u0).setCell ⟨g, 1, none⟩ u1).setCell ⟨h, 0, none⟩ v0).setCell ⟨h, 1, none⟩ v1).heap[h]? = some (.cells #[v0, v1] t' (0, 0)) :=
  ⟨blk_far (blk_far (two_stored H1 u0 u1) hne _) hne _, two_stored (blk_far (blk_far H2 (Ne.symm hne) _) (Ne.symm hne) _) v0 v1⟩

theorem bB_alloc {B : Nat} {w W : World} (hB : B ≤ w.heap.size) (h : Below B w W) (o : Obj) : Below B w (W.alloc o) := h.alloc (Nat.le_trans hB h.size) o

/-! ### the program's types -/
theorem infoInt : (Try.prog.info? 3).map (fun i => (i.zero, i.size, i.bytes)) = some (some (.int .i64 0), 1, 8) := by kernel_rfl
theorem infoBool : (Try.prog.info? 4).map (fun i => (i.zero, i.size, i.bytes)) = some (some (.bool false), 1, 1) := by kernel_rfl
theorem infoIns : (Try.prog.info? 40).map (fun i => (i.zero, i.size, i.bytes)) = some (some (.agg #[.int .i64 0, .int .i64 0, .int .i64 0, .int .i64 0, .int .i64 0, .int .i64 0, .int .u32 0]), 7, 56) := by kernel_rfl
theorem infoPar : (Try.prog.info? 42).map (fun i => (i.zero, i.size, i.bytes)) = some (some (.agg #[.string ⟨#[]⟩, .int .i64 0, .int .i64 0]), 3, 32) := by kernel_rfl
theorem infoTy : (Try.prog.info? 69).map (fun i => (i.zero, i.size, i.bytes)) = some (some (.agg #[.int .i64 0, .int .i64 0]), 2, 16) := by kernel_rfl
theorem infoSlt : (Try.prog.info? 72).map (fun i => (i.zero, i.size, i.bytes)) = some (some (.agg #[.int .i64 0, .int .i64 0, .bool false, .int .u32 0, .int .i64 0]), 5, 32) := by kernel_rfl
theorem infoInts : (Try.prog.info? 66).map (fun i => (i.zero, i.size, i.bytes)) = some (some (.slice none 0 0), 1, 24) := by kernel_rfl
end Go.Proofs.Ytmfheegkfakjdaa
