/- The data of the statements as plain lists, and what the checks of the code say of them, without the program. -/
import GoSem.Claim
set_option linter.unusedVariables false
set_option linter.unusedSimpArgs false
namespace Go.Proofs.Ytmfheegkfakjdaa

/-! ### plain data -/
structure Par where
  name : ByteArray
  kind : Int
  len : Int
structure Ty where
  kind : Int
  param : Int
structure Slt where
  ty : Ty
  keep : Bool
  bits : Int
  int : Int
structure Ins where
  op : Int
  d : Int
  a : Int
  b : Int
  c : Int
  n : Int
  bits : Int
structure Cod where
  sign : List Par
  regs : List Ty
  slots : List Slt
  list : List Ins
deriving instance DecidableEq for Par
deriving instance DecidableEq for Ty
deriving instance DecidableEq for Slt
deriving instance DecidableEq for Ins
deriving instance DecidableEq for Cod
def zPar : Par := ⟨⟨#[]⟩, 0, 0⟩
def zTy : Ty := ⟨0, 0⟩
def zSlt : Slt := ⟨zTy, false, 0, 0⟩
def zIns : Ins := ⟨0, 0, 0, 0, 0, 0, 0⟩
def zCod : Cod := ⟨[], [], [], []⟩
abbrev Par.cells (x : Par) : List Value := [.string x.name, .int .i64 x.kind, .int .i64 x.len]
abbrev Ty.cells (x : Ty) : List Value := [.int .i64 x.kind, .int .i64 x.param]
abbrev Slt.cells (x : Slt) : List Value := [.int .i64 x.ty.kind, .int .i64 x.ty.param, .bool x.keep, .int .u32 x.bits, .int .i64 x.int]
abbrev Ins.cells (x : Ins) : List Value := [.int .i64 x.op, .int .i64 x.d, .int .i64 x.a, .int .i64 x.b, .int .i64 x.c, .int .i64 x.n, .int .u32 x.bits]


/-! ### the rows of instructions -/
structure Row where
  d : Int
  a : Int
  b : Int
  c : Int
  n : Int
deriving instance DecidableEq for Row
def rowOf (op : Int) : Row :=
  if op = 1 then ⟨1, 0, 0, 0, 0⟩ else if op = 2 then ⟨2, 0, 0, 0, 1⟩ else if op = 3 then ⟨8, 7, 0, 0, 0⟩
  else if 4 ≤ op ∧ op ≤ 10 then ⟨4, 5, 5, 0, 0⟩ else if 11 ≤ op ∧ op ≤ 14 then ⟨4, 5, 0, 0, 0⟩ else if op = 15 then ⟨4, 5, 5, 5, 0⟩
  else if op = 16 then ⟨1, 1, 2, 0, 0⟩ else if op = 17 then ⟨1, 2, 0, 0, 0⟩ else if op = 18 then ⟨2, 1, 0, 0, 0⟩
  else if 19 ≤ op ∧ op ≤ 20 then ⟨1, 3, 0, 0, 0⟩ else if op = 21 then ⟨2, 2, 0, 0, 0⟩ else if op = 25 then ⟨2, 2, 0, 0, 0⟩
  else if op = 26 then ⟨2, 2, 2, 2, 0⟩ else if 22 ≤ op ∧ op ≤ 28 then ⟨2, 2, 2, 0, 0⟩
  else if 29 ≤ op ∧ op ≤ 30 then ⟨3, 0, 0, 0, 2⟩ else if op = 31 then ⟨0, 3, 0, 0, 2⟩ else if op = 32 then ⟨8, 0, 0, 0, 3⟩
  else if op = 33 then ⟨0, 8, 0, 0, 3⟩ else if op = 34 then ⟨0, 2, 0, 0, 0⟩ else if op = 36 then ⟨0, 0, 0, 0, 4⟩ else ⟨0, 0, 0, 0, 0⟩
def known (op : Int) : Bool := decide (1 ≤ op) && decide (op ≤ 37)
def elemw (op : Int) : Bool := decide (3 ≤ op) && decide (op ≤ 15)
/-- Does the row name D? -/
def sets (op : Int) : Bool := !decide ((rowOf op).d = 0)
/-- The registers that are read. -/
def pick (s x : Int) (l : List Int) : List Int := if s = 0 then l else x :: l
def reads (i : Ins) : List Int := pick (rowOf i.op).a i.a (pick (rowOf i.op).b i.b (pick (rowOf i.op).c i.c []))
/-- How many registers are read. -/
def nreads (op : Int) : Nat := (reads ⟨op, 0, 0, 0, 0, 0, 0⟩).length
def canonB (x : Int) : Bool := decide (x % 2147483648 ≤ 2139095040) || decide (x = 2143289344)
def mayTy (np : Int) (t : Ty) : Bool := if t.kind = 1 ∨ t.kind = 2 then decide (t.param = 0) else decide (t.kind = 3) && (decide (0 ≤ t.param) && decide (t.param < np))
def maySlt (np : Int) (s : Slt) : Bool :=
  mayTy np s.ty && (if s.ty.kind = 2 then decide (s.bits = 0) && (decide (0 ≤ s.int) && decide (s.int ≤ 2147483647)) else decide (s.int = 0) && canonB s.bits)
/-- Is a type of a sort, d being that of D? -/
def isSort (t : Ty) (sort : Int) (d : Ty) : Bool :=
  if sort = 1 then decide (t.kind = 1) else if sort = 2 then decide (t.kind = 2) else if sort = 3 then decide (t.kind = 3) else if sort = 4 then !decide (t.kind = 2)
  else if sort = 5 then decide (t.kind = 1) || decide (t = d) else if sort = 6 then decide (t = d) else if sort = 7 then decide (t = d) || (decide (t.kind = 1) && decide (d.kind = 3)) else true
/-- A register's type; whether it is there. -/
def isReg (C : Cod) (n : Int) : Bool := decide (0 ≤ n) && decide (n < C.regs.length)
def regOf (C : Cod) (n : Int) : Ty := if isReg C n then C.regs.getD n.toNat zTy else zTy
/-- A field of an instruction, by its sort, D being of type d. -/
def fldOk (C : Cod) (sort n : Int) (d : Ty) : Bool := if sort = 0 then decide (n = 0) else isReg C n && isSort (regOf C n) sort d
def dTy (C : Cod) (i : Ins) : Ty := if (rowOf i.op).d = 0 then zTy else regOf C i.d
def firstTy (C : Cod) (i : Ins) : Ty := if (rowOf i.op).d = 0 then (if (rowOf i.op).a = 0 then zTy else regOf C i.a) else regOf C i.d
def bitsOk (i : Ins) : Bool := if i.op = 1 then canonB i.bits else decide (i.bits = 0)
def nOk (C : Cod) (i : Ins) : Bool :=
  if (rowOf i.op).n = 1 then decide (0 ≤ i.n) && decide (i.n ≤ 2147483647)
  else if (rowOf i.op).n = 2 then decide (i.n = 0) || (decide (i.n = 1) && decide ((C.sign.getD (firstTy C i).param.toNat zPar).kind = 2))
  else if (rowOf i.op).n = 3 then decide (0 ≤ i.n) && (decide (i.n < C.slots.length) && decide ((C.slots.getD i.n.toNat zSlt).ty = firstTy C i))
  else if (rowOf i.op).n = 4 then decide (0 ≤ i.n) && decide (i.n < C.sign.length)
  else decide (i.n = 0)
def fieldsOk (C : Cod) (i : Ins) : Bool :=
  fldOk C (rowOf i.op).d i.d zTy && (fldOk C (rowOf i.op).a i.a (dTy C i) && (fldOk C (rowOf i.op).b i.b (dTy C i) && fldOk C (rowOf i.op).c i.c (dTy C i)))
/-- Does an instruction fit its row? -/
def rowFits (C : Cod) (i : Ins) : Bool := known i.op && (fieldsOk C i && (bitsOk i && nOk C i))
theorem isReg_iff {C : Cod} {n : Int} : isReg C n = true ↔ 0 ≤ n ∧ n < C.regs.length := by simp [isReg]
theorem regOf_mem {C : Cod} {n : Int} (h : isReg C n = true) : regOf C n ∈ C.regs := by
  have h2 := isReg_iff.1 h
  have hl : n.toNat < C.regs.length := by omega
  simp only [regOf, h, if_true, List.getD_eq_getElem?_getD, List.getElem?_eq_getElem hl, Option.getD_some]
  exact List.getElem_mem hl
theorem row_out {op : Int} (h : op < 1 ∨ 37 < op) : rowOf op = ⟨0, 0, 0, 0, 0⟩ ∧ known op = false := by
  constructor
  · unfold rowOf
    repeat rw [if_neg (by omega)]
  · simp [known]; omega
/-- What holds of the 37 and of the empty row holds of all rows. -/
theorem row_all {P : Row → Prop} (h0 : P ⟨0, 0, 0, 0, 0⟩) (h : ∀ k : Fin 38, P (rowOf (k.val : Int))) (op : Int) : P (rowOf op) := by
  by_cases hr : 1 ≤ op ∧ op ≤ 37
  · obtain ⟨k, rfl⟩ := Int.eq_ofNat_of_zero_le (show 0 ≤ op by omega)
    exact h ⟨k, by omega⟩
  · rw [(row_out (by omega)).1]
    exact h0
theorem row_n2 {op : Int} (h : (rowOf op).n = 2) : (rowOf op = ⟨3, 0, 0, 0, 2⟩) ∨ (rowOf op = ⟨0, 3, 0, 0, 2⟩) :=
  row_all (P := fun r => r.n = 2 → r = ⟨3, 0, 0, 0, 2⟩ ∨ r = ⟨0, 3, 0, 0, 2⟩) (by decide) (by decide) op h
/-- What has a part has a vector that is there. -/
theorem part_vec {C : Cod} {i : Ins} (hty : ∀ t ∈ C.regs, mayTy C.sign.length t = true) (hok : fieldsOk C i = true) (hn : (rowOf i.op).n = 2) : (firstTy C i).kind = 3 ∧ 0 ≤ (firstTy C i).param ∧ (firstTy C i).param < C.sign.length := by
  have key : ∀ n, isReg C n = true → isSort (regOf C n) 3 zTy = true → (regOf C n).kind = 3 ∧ 0 ≤ (regOf C n).param ∧ (regOf C n).param < C.sign.length := by
    intro n h1 h2
    have hk : (regOf C n).kind = 3 := by simpa [isSort] using h2
    have := hty _ (regOf_mem h1)
    simp [mayTy, hk] at this
    exact ⟨hk, this.1, this.2⟩
  rcases row_n2 hn with h | h
  · simp only [fieldsOk, h, fldOk] at hok
    simp at hok
    have : firstTy C i = regOf C i.d := by simp [firstTy, h]
    rw [this]
    exact key _ hok.1.1 hok.1.2
  · simp only [fieldsOk, h, fldOk] at hok
    simp at hok
    have : firstTy C i = regOf C i.a := by simp [firstTy, h]
    rw [this]
    refine key _ hok.2.1.1 ?_
    simpa [isSort] using hok.2.1.2

/-! ### the look at code, instruction by instruction: which registers are set, the new ones of each open block, the open blocks -/
structure Lk where
  S : List Bool
  N : List (List Int)
  O : List Int
def inOf (O : List Int) : Int := O.getLast?.getD (-1)
def clearAt (S : List Bool) (rs : List Int) : List Bool := rs.foldl (fun S r => S.set r.toNat false) S
def addLast (N : List (List Int)) (d : Int) : List (List Int) := if N = [] then [] else N.dropLast ++ [N.getLast?.getD [] ++ [d]]
def standsP (C : Cod) (l : Lk) (i : Ins) : Option Lk :=
  if i.op = 34 ∨ i.op = 36 then (if 0 ≤ inOf l.O ∨ l.O.length = 64 then none else some (if i.op = 36 then ⟨l.S, l.N, l.O ++ [i.n]⟩ else l))
  else if i.op = 35 then (if l.O.length = 0 ∨ 0 ≤ inOf l.O then none else some ⟨clearAt l.S (l.N.getLast?.getD []), l.N.dropLast, l.O.dropLast⟩)
  else if i.op = 37 then (if inOf l.O < 0 then none else some ⟨l.S, l.N, l.O.dropLast⟩)
  else if inOf l.O < 0 then some l
  else if elemw i.op = true ∨ i.op = 29 ∨ i.op = 30 ∨ i.op = 32 then (if regOf C i.d = ⟨3, inOf l.O⟩ then some l else none)
  else if i.op = 31 ∨ i.op = 33 then (if regOf C i.a = ⟨3, inOf l.O⟩ then some l else none)
  else none
def isSet (l : Lk) (r : Int) : Bool := l.S.getD r.toNat false
def opened (l : Lk) (i : Ins) : Lk := if i.op = 34 then ⟨l.S, l.N ++ [[]], l.O ++ [-1]⟩ else l
def readsP (l : Lk) (i : Ins) : Option Lk :=
  if (reads i).all (isSet l) then
    some (if sets i.op = true ∧ isSet l i.d = false then ⟨l.S.set i.d.toNat true, addLast (opened l i).N i.d, (opened l i).O⟩ else opened l i)
  else none
structure Lk.Ok (C : Cod) (l : Lk) (m : Nat) : Prop where
  hs : l.S.length = C.regs.length
  hn : ∀ x ∈ l.N, ∀ r ∈ x, 0 ≤ r ∧ r < C.regs.length
  ho : (l.O.filter (fun x => decide (x < 0))).length = l.N.length
  h64 : l.O.length ≤ 64
  hm : ∀ x ∈ l.N, x.length ≤ m
  hsmall : m ≤ 1048576
/-- All instructions from a place on: the place of the first fault, or none. -/
def lookP (C : Cod) : List Ins → Nat → Lk → Option Nat × Lk
  | [], _, l => (none, l)
  | i :: r, at_, l =>
    if rowFits C i = true then
      match (standsP C l i).bind fun l1 => readsP l1 i with
      | some l2 => lookP C r (at_ + 1) l2
      | none => (some at_, l)
    else (some at_, l)
theorem fits_d {C : Cod} {i : Ins} (h : rowFits C i = true) (hd : sets i.op = true) : isReg C i.d = true := by
  simp only [rowFits, fieldsOk, Bool.and_eq_true] at h
  have h1 := h.2.1.1
  have hne : ¬ (rowOf i.op).d = 0 := by simpa [sets] using hd
  simp only [fldOk, if_neg hne, Bool.and_eq_true] at h1
  exact h1.1
theorem fits_a {C : Cod} {i : Ins} (h : rowFits C i = true) (hd : (rowOf i.op).a ≠ 0) : isReg C i.a = true := by
  simp only [rowFits, fieldsOk, Bool.and_eq_true] at h
  have h1 := h.2.1.2.1
  simp only [fldOk, if_neg hd, Bool.and_eq_true] at h1
  exact h1.1
theorem fits_b {C : Cod} {i : Ins} (h : rowFits C i = true) (hd : (rowOf i.op).b ≠ 0) : isReg C i.b = true := by
  simp only [rowFits, fieldsOk, Bool.and_eq_true] at h
  have h1 := h.2.1.2.2.1
  simp only [fldOk, if_neg hd, Bool.and_eq_true] at h1
  exact h1.1
theorem fits_c {C : Cod} {i : Ins} (h : rowFits C i = true) (hd : (rowOf i.op).c ≠ 0) : isReg C i.c = true := by
  simp only [rowFits, fieldsOk, Bool.and_eq_true] at h
  have h1 := h.2.1.2.2.2
  simp only [fldOk, if_neg hd, Bool.and_eq_true] at h1
  exact h1.1
theorem sets_vec {op : Int} (h : elemw op = true ∨ op = 29 ∨ op = 30 ∨ op = 32) : sets op = true := by
  rcases h with h | rfl | rfl | rfl
  · simp only [elemw, Bool.and_eq_true, decide_eq_true_eq] at h
    obtain ⟨k, rfl⟩ := Int.eq_ofNat_of_zero_le (show 0 ≤ op by omega)
    have := (by decide : ∀ k : Fin 16, 3 ≤ k.val → sets (k.val : Int) = true) ⟨k, by omega⟩ (by show 3 ≤ k; omega)
    exact this
  · decide
  · decide
  · decide
end Go.Proofs.Ytmfheegkfakjdaa
