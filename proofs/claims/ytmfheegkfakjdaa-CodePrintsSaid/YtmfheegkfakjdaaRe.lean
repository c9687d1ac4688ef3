/- What read defers; read, at the codes that the statements' head asks of. -/
import Derived.Test.YtmfheegkfakjdaaRd
import Derived.Defers
import Derived.Recover
import Derived.Laws.Pointers
set_option linter.unusedVariables false
set_option linter.unusedSimpArgs false
namespace Go.Proofs.Ytmfheegkfakjdaa
open Go.RowKit Go.Proofs.YtmfheegkfakjdaaW.PrintWords
attribute [local simp] bl_refl bl_alloc bl_drew bl_drewN bl_set
attribute [local go_sem] add_block lt_sk ne_sk ne_s0 frozen_alloc_lt cell_alloc_lt

theorem catch_idle (p q : Addr) (w : World) :
    CallsD Try.prog 70 #[.pointer (some p), .pointer (some q)] .returning w fun e u' w' => e = .returned (.tuple #[]) ∧ u' = .returning ∧ w' = w := by
  refine callsD_of_wpS Try.func70 rfl fun c₀ cs hu => ?_
  apply wpS_seq
  apply wpS_region
  simp [wpOpsS, go_sem, recoverD, hu, Try.ntmps70, Exit.thenS]
  apply wpS_seq
  apply wpS_region
  simp [wpOpsS, go_sem, Exit.thenS]
  refine wpS_cond (t := false) (by simp [Act.eval, Array.replicate]) ?_
  simp only [Bool.false_eq_true, if_false]
  refine wpS_of_wp (wp_skip ?_)
  cases c₀
  simp_all [bodyPostS, results, Try.results70]
set_option maxRecDepth 100000 in
set_option maxHeartbeats 200000 in
theorem frame70 (x y : Value) : (#[x, y] ++ Array.replicate (Try.f70.ntmps - (#[x, y] : Array Value).size) undef : Array Value) = #[x, y, undef, undef, undef, undef, undef, undef, undef, undef, undef, undef, undef, undef, undef, undef, undef, undef] := by
  rw [Try.ntmps70]; rfl
theorem assert_fault (err at_ : Int) (w : World) : (Instr.typeAssert (.iface 92 (.agg #[.int .i64 err, .int .i64 at_])) 20 92 true).run Try.prog w = .ok (.tuple #[.agg #[.int .i64 err, .int .i64 at_], .bool true]) w := by kernel_rfl
set_option maxRecDepth 100000 in
set_option maxHeartbeats 200000 in
theorem catch_panicking (c f : Nat) (err at_ : Int) (A0 A1 A2 A3 f0 f1 : Value) (older : List PanicEntry) (w : World) (HC : w.heap[c]? = some (.cells #[A0, A1, A2, A3] 27 (0, 0))) (HF : w.heap[f]? = some (.cells #[f0, f1] 92 (0, 0))) :
    CallsD Try.prog 70 #[.pointer (some ⟨c, 0, none⟩), .pointer (some ⟨f, 0, none⟩)] (.panicking ({ v := .iface 92 (.agg #[.int .i64 err, .int .i64 at_]), recovered := false } :: older)) w fun e u' w' =>
      e = .returned (.tuple #[]) ∧ u' = .panicking ({ v := .iface 92 (.agg #[.int .i64 err, .int .i64 at_]), recovered := true } :: older) ∧ w'.heap[c]? = some (.cells #[.slice none 0 0, .slice none 0 0, .slice none 0 0, .slice none 0 0] 27 (0, 0)) ∧ w'.heap[f]? = some (.cells #[.int .i64 err, .int .i64 at_] 92 (0, 0)) ∧ (∀ B, B ≤ c → B ≤ f → B ≤ w.heap.size → Below B w w') := by
  have hta := assert_fault err at_
  have lc := blk_lt HC
  have lf := blk_lt HF
  have hne := blk_ne HC HF (by decide)
  have c0 := (blk_cell HC 0).trans (show _ = some A0 from rfl)
  have c1 := (blk_cell HC 1).trans (show _ = some A1 from rfl)
  have c2 := (blk_cell HC 2).trans (show _ = some A2 from rfl)
  have c3 := (blk_cell HC 3).trans (show _ = some A3 from rfl)
  have z0 := blk_frozen HC 0
  have z1 := blk_frozen HC 1
  have z2 := blk_frozen HC 2
  have z3 := blk_frozen HC 3
  have d0 := (blk_cell HF 0).trans (show _ = some f0 from rfl)
  have d1 := (blk_cell HF 1).trans (show _ = some f1 from rfl)
  have y0 := blk_frozen HF 0
  have y1 := blk_frozen HF 1
  refine callsD_of_wpS Try.func70 rfl fun c₀ cs hu => ?_
  rw [frame70]
  apply wpS_seq
  apply wpS_region
  simp [wpOpsS, go_sem, recoverD, hu, Try.ntmps70, Exit.thenS]
  apply wpS_seq
  apply wpS_region
  simp [wpOpsS, go_sem, Exit.thenS]
  refine wpS_cond (t := true) (by simp [Act.eval, Array.replicate]) ?_
  simp only [if_true]
  refine wpS_of_wp ?_
  generalize hQ : (fun (e : Exit) (a' : Act) (w' : World) => _) = Q
  have HQ := Lib.hid hQ
  clear hQ
  have HU := Lib.hid hu
  clear hu
  go_wp2
  go_region
  all_goals
    rw [← HQ.out]
    have s4 := blk_set (blk_set (blk_set (blk_set HC 0 (.slice none 0 0)) 1 (.slice none 0 0)) 2 (.slice none 0 0)) 3 (.slice none 0 0)
    have t4 := blk_far (blk_far (blk_far (blk_far HF (p := ⟨c, 0, none⟩) (Ne.symm hne) (.slice none 0 0)) (p := ⟨c, 1, none⟩) (Ne.symm hne) (.slice none 0 0)) (p := ⟨c, 2, none⟩) (Ne.symm hne) (.slice none 0 0)) (p := ⟨c, 3, none⟩) (Ne.symm hne) (.slice none 0 0)
    have s6 := blk_far (blk_far s4 (p := ⟨f, 0, none⟩) hne (.int .i64 err)) (p := ⟨f, 1, none⟩) hne (.int .i64 at_)
    have t6 := blk_set (blk_set t4 0 (.int .i64 err)) 1 (.int .i64 at_)
    refine ⟨rfl, _, rfl, .tuple #[], ?_, rfl, rfl, blk_drew (blk_alloc s6 _), blk_drew (blk_alloc t6 _), fun B h1 h2 h3 => ?_⟩
    · simp [results, Try.results70]
    · exact ((((((((Below.refl B w).setCell h1 _).setCell h1 _).setCell h1 _).setCell h1 _).setCell h2 _).setCell h2 _).alloc (by simpa using h3) _).drew

def markBytes : ByteArray := ⟨#[108, 116, 104, 49]⟩
set_option maxRecDepth 100000 in
set_option maxHeartbeats 1000000 in
theorem code_read_cut (b : ByteArray) (w : World) (h6 : b.size = 6) (hm : b.extract 0 4 = markBytes) (z4 : bt b 4 = 0) (z5 : bt b 5 = 0) :
    Calls Try.prog 44 #[.string b] w (Ret (.tuple #[emptyC, .agg #[.int .i64 242, .int .i64 6]]) w) := by
  have hmf : ∀ (fn : Fn) (first cap : Array Value) (w : World), (Instr.makeFunc fn first cap).run Try.prog w = .ok (.func fn first cap) w := fun _ _ _ _ => rfl
  have hsz : (b.size : Int) = 6 := by omega
  have hmk : (!markBytes.toList == ((⟨#[108, 116, 104, 49]⟩ : ByteArray).extract 0 4).toList) = false := by decide +kernel
  have h4 : (4 : Int) ≤ b.size := by omega
  go_enter_defers Try.func44, Try.ntmps44
  go_wp2
  go_region
  have HR : RdAt ((((w.alloc (.cells #[.slice none 0 0, .slice none 0 0, .slice none 0 0, .slice none 0 0] 27)).alloc (.cells #[.int .i64 0, .int .i64 0] 92)).alloc (.cells #[.string b, .int .i64 0] 133)).drew) (w.heap.size + 1 + 1) b 0 := blk_drew (blk_new' _ _ _ (by simp))
  have KC := blk_drew (blk_alloc (blk_alloc (blk_new w (.cells #[.slice none 0 0, .slice none 0 0, .slice none 0 0, .slice none 0 0] 27)) (.cells #[.int .i64 0, .int .i64 0] 92)) (.cells #[.string b, .int .i64 0] 133))
  have KF := blk_drew (blk_alloc (blk_new' (w.alloc (.cells #[.slice none 0 0, .slice none 0 0, .slice none 0 0, .slice none 0 0] 27)) (.cells #[.int .i64 0, .int .i64 0] 92) (w.heap.size + 1) (by simp)) (.cells #[.string b, .int .i64 0] 133))
  have HB : Below w.heap.size w ((((w.alloc (.cells #[.slice none 0 0, .slice none 0 0, .slice none 0 0, .slice none 0 0] 27)).alloc (.cells #[.int .i64 0, .int .i64 0] 92)).alloc (.cells #[.string b, .int .i64 0] 133)).drew) := below_drew (below_alloc (below_alloc (below_alloc (Below.refl _ _) _) _) _)
  have S1 : ((((w.alloc (.cells #[.slice none 0 0, .slice none 0 0, .slice none 0 0, .slice none 0 0] 27)).alloc (.cells #[.int .i64 0, .int .i64 0] 92)).alloc (.cells #[.string b, .int .i64 0] 133)).drew).heap.size = w.heap.size + 3 := by simp
  generalize ((((w.alloc (.cells #[.slice none 0 0, .slice none 0 0, .slice none 0 0, .slice none 0 0] 27)).alloc (.cells #[.int .i64 0, .int .i64 0] 92)).alloc (.cells #[.string b, .int .i64 0] 133)).drew) = W at HR KC KF HB S1 ⊢
  go_wp2_with (go_at_call 71; refine (rd_part (w.heap.size + 1 + 1) b 0 4 _ HR (by omega) (by omega)).mono ?_; rintro e w1 ⟨rfl, hg1, H1⟩)
  go_wp2_with (go_at_call 72; refine (rd_code_cut (w.heap.size + 1 + 1) b _ H1 h6 z4 z5).mono ?_; rintro e w2 ⟨rfl, hg2⟩)
  have KC2 := blk_grown (blk_grown KC hg1 (by simp; omega)) hg2 (by simp; omega)
  have KF2 := blk_grown (blk_grown KF hg1 (by simp)) hg2 (by simp)
  have HB2 := (HB.grown hg1 (by omega) (fun k hk => by injection hk; omega)).grown hg2 (Nat.le_trans (by omega) hg1.size) (fun k hk => by injection hk; omega)
  refine leaves_cons (f := 70) (args := #[.pointer (some ⟨w.heap.size, 0, none⟩), .pointer (some ⟨w.heap.size + 1, 0, none⟩)]) (by simp) (by simp [go_sem]) ?_
  refine (catch_panicking w.heap.size (w.heap.size + 1) 242 6 _ _ _ _ _ _ [] _ KC2 KF2).mono ?_
  rintro e u' w3 ⟨rfl, rfl, C3, F3, B3⟩
  have HB3 := HB2.trans (B3 w.heap.size (Nat.le_refl _) (by omega) (Nat.le_trans (by omega) (Nat.le_trans hg1.size hg2.size)))
  have r0 := (blk_cell C3 0).trans (show _ = some (Value.slice none 0 0) from rfl)
  have r1 := (blk_cell C3 1).trans (show _ = some (Value.slice none 0 0) from rfl)
  have r2 := (blk_cell C3 2).trans (show _ = some (Value.slice none 0 0) from rfl)
  have r3 := (blk_cell C3 3).trans (show _ = some (Value.slice none 0 0) from rfl)
  have x0 := (blk_cell F3 0).trans (show _ = some (Value.int .i64 242) from rfl)
  have x1 := (blk_cell F3 1).trans (show _ = some (Value.int .i64 6) from rfl)
  refine ⟨.tuple #[emptyC, .agg #[.int .i64 242, .int .i64 6]], ?_, rfl, HB3⟩
  simp [settle, results, Try.results44, go_sem, r0, r1, r2, r3, x0, x1, emptyC]
set_option maxRecDepth 100000 in
set_option maxHeartbeats 1000000 in
theorem code_read_ok (b : ByteArray) (w : World) (h16 : b.size = 16) (hm : b.extract 0 4 = markBytes) (z4 : bt b 4 = 0) (z5 : bt b 5 = 0) (z6 : bt b 6 = 0) (z7 : bt b 7 = 0) (hsum : joinB (b.extract 8 (8 + 8)) 8 = crc (b.extract 0 8)) :
    Calls Try.prog 44 #[.string b] w (Ret (.tuple #[emptyC, .agg #[.int .i64 0, .int .i64 0]]) w) := by
  have hmf : ∀ (fn : Fn) (first cap : Array Value) (w : World), (Instr.makeFunc fn first cap).run Try.prog w = .ok (.func fn first cap) w := fun _ _ _ _ => rfl
  have hsz : (b.size : Int) = 16 := by omega
  have hmk : (!markBytes.toList == ((⟨#[108, 116, 104, 49]⟩ : ByteArray).extract 0 4).toList) = false := by decide +kernel
  have h4 : (4 : Int) ≤ b.size := by omega
  have h8 : (8 : Int) ≤ b.size := by omega
  have hne : ((joinB (b.extract 8 (8 + 8)) 8) != crc (b.extract 0 8)) = false := by rw [hsum]; simp
  go_enter_defers Try.func44, Try.ntmps44
  go_wp2
  go_region
  have HR : RdAt ((((w.alloc (.cells #[.slice none 0 0, .slice none 0 0, .slice none 0 0, .slice none 0 0] 27)).alloc (.cells #[.int .i64 0, .int .i64 0] 92)).alloc (.cells #[.string b, .int .i64 0] 133)).drew) (w.heap.size + 1 + 1) b 0 := blk_drew (blk_new' _ _ _ (by simp))
  have KC := blk_drew (blk_alloc (blk_alloc (blk_new w (.cells #[.slice none 0 0, .slice none 0 0, .slice none 0 0, .slice none 0 0] 27)) (.cells #[.int .i64 0, .int .i64 0] 92)) (.cells #[.string b, .int .i64 0] 133))
  have KF := blk_drew (blk_alloc (blk_new' (w.alloc (.cells #[.slice none 0 0, .slice none 0 0, .slice none 0 0, .slice none 0 0] 27)) (.cells #[.int .i64 0, .int .i64 0] 92) (w.heap.size + 1) (by simp)) (.cells #[.string b, .int .i64 0] 133))
  have HB : Below w.heap.size w ((((w.alloc (.cells #[.slice none 0 0, .slice none 0 0, .slice none 0 0, .slice none 0 0] 27)).alloc (.cells #[.int .i64 0, .int .i64 0] 92)).alloc (.cells #[.string b, .int .i64 0] 133)).drew) := below_drew (below_alloc (below_alloc (below_alloc (Below.refl _ _) _) _) _)
  have S1 : ((((w.alloc (.cells #[.slice none 0 0, .slice none 0 0, .slice none 0 0, .slice none 0 0] 27)).alloc (.cells #[.int .i64 0, .int .i64 0] 92)).alloc (.cells #[.string b, .int .i64 0] 133)).drew).heap.size = w.heap.size + 3 := by simp
  generalize ((((w.alloc (.cells #[.slice none 0 0, .slice none 0 0, .slice none 0 0, .slice none 0 0] 27)).alloc (.cells #[.int .i64 0, .int .i64 0] 92)).alloc (.cells #[.string b, .int .i64 0] 133)).drew) = W at HR KC KF HB S1 ⊢
  go_wp2_with (go_at_call 71; refine (rd_part (w.heap.size + 1 + 1) b 0 4 _ HR (by omega) (by omega)).mono ?_; rintro e w1 ⟨rfl, hg1, H1⟩)
  have C1 := blk_grown KC hg1 (by simp; omega)
  have F1 := blk_grown KF hg1 (by simp)
  have l1 := blk_lt C1
  have HB1 := HB.grown hg1 (by omega) (fun k hk => by injection hk; omega)
  unfold emptyC
  go_wp2_with (go_at_call 72; refine (rd_code0 (w.heap.size + 1 + 1) b _ H1 (by omega) (by omega) z4 z5 z6 z7).mono ?_; unfold emptyC; rintro e w2 ⟨rfl, hg2, H2⟩; have C2 := blk_grown C1 hg2 (by simp; omega); have F2 := blk_grown F1 hg2 (by simp); have HB2 := HB1.grown hg2 (Nat.le_trans (by omega) hg1.size) (fun k hk => by injection hk; omega); have c20 := (blk_cell C2 0).trans (show _ = some (Value.slice none 0 0) from rfl); have c21 := (blk_cell C2 1).trans (show _ = some (Value.slice none 0 0) from rfl); have c22 := (blk_cell C2 2).trans (show _ = some (Value.slice none 0 0) from rfl); have c23 := (blk_cell C2 3).trans (show _ = some (Value.slice none 0 0) from rfl); have z20 := blk_frozen C2 0; have z21 := blk_frozen C2 1; have z22 := blk_frozen C2 2; have z23 := blk_frozen C2 3; have l2 := blk_lt C2; have k21 := (blk_cell H2 1).trans (show _ = some (Value.int .i64 8) from rfl))
  have H2' := blk_far (blk_far (blk_far (blk_far H2 (p := ⟨w.heap.size, 0, none⟩) (by simp only []; omega) (.slice none 0 0)) (p := ⟨w.heap.size, 1, none⟩) (by simp only []; omega) (.slice none 0 0)) (p := ⟨w.heap.size, 2, none⟩) (by simp only []; omega) (.slice none 0 0)) (p := ⟨w.heap.size, 3, none⟩) (by simp only []; omega) (.slice none 0 0)
  have F2' := blk_far (blk_far (blk_far (blk_far F2 (p := ⟨w.heap.size, 0, none⟩) (by simp only []; omega) (.slice none 0 0)) (p := ⟨w.heap.size, 1, none⟩) (by simp only []; omega) (.slice none 0 0)) (p := ⟨w.heap.size, 2, none⟩) (by simp only []; omega) (.slice none 0 0)) (p := ⟨w.heap.size, 3, none⟩) (by simp only []; omega) (.slice none 0 0)
  have C2' := blk_set (blk_set (blk_set (blk_set C2 0 (.slice none 0 0)) 1 (.slice none 0 0)) 2 (.slice none 0 0)) 3 (.slice none 0 0)
  have HB2' : Below w.heap.size w ((((w2.setCell ⟨w.heap.size, 0, none⟩ (.slice none 0 0)).setCell ⟨w.heap.size, 1, none⟩ (.slice none 0 0)).setCell ⟨w.heap.size, 2, none⟩ (.slice none 0 0)).setCell ⟨w.heap.size, 3, none⟩ (.slice none 0 0)) := (((HB2.setCell (Nat.le_refl _) _).setCell (Nat.le_refl _) _).setCell (Nat.le_refl _) _).setCell (Nat.le_refl _) _
  clear C1 F1 C2 F2 H1 H2 c20 c21 c22 c23 z20 z21 z22 z23 k21 l1 l2
  generalize ((((w2.setCell ⟨w.heap.size, 0, none⟩ (.slice none 0 0)).setCell ⟨w.heap.size, 1, none⟩ (.slice none 0 0)).setCell ⟨w.heap.size, 2, none⟩ (.slice none 0 0)).setCell ⟨w.heap.size, 3, none⟩ (.slice none 0 0)) = V at H2' F2' C2' HB2' ⊢
  have hs2 := HB2'.size
  go_wp2_with (go_at_call 73; refine (rd_bytes8 (w.heap.size + 1 + 1) b 8 _ H2' (by omega) (by omega)).mono ?_; rintro e w3 ⟨rfl, hg3, H3⟩; have C3 := blk_grown C2' hg3 (by simp; omega); have F3 := blk_grown F2' hg3 (by simp); have HB3 := HB2'.grown hg3 hs2 (fun k hk => by injection hk; omega))
  go_wp2_with (go_at_call 18; refine (code_Print _ (by rw [ByteArray.size_extract]; omega) _).mono ?_; rintro e w4 ⟨rfl, hb4⟩; have C4 := blk_below C3 hb4; have F4 := blk_below F3 hb4; have H4 := blk_below H3 hb4; have HB4 := bl_call HB3 hb4; have l4 := blk_lt C4; have m4 := blk_lt F4; have n4 := blk_lt H4; have q0 := (blk_cell C4 0).trans (show _ = some (Value.slice none 0 0) from rfl); have q1 := (blk_cell C4 1).trans (show _ = some (Value.slice none 0 0) from rfl); have q2 := (blk_cell C4 2).trans (show _ = some (Value.slice none 0 0) from rfl); have q3 := (blk_cell C4 3).trans (show _ = some (Value.slice none 0 0) from rfl); have z0 := blk_frozen C4 0; have z1 := blk_frozen C4 1; have z2 := blk_frozen C4 2; have z3 := blk_frozen C4 3; have y0 := blk_frozen F4 0; have y1 := blk_frozen F4 1; have x0 := (blk_cell F4 0).trans (show _ = some (Value.int .i64 0) from rfl); have x1 := (blk_cell F4 1).trans (show _ = some (Value.int .i64 0) from rfl); have k40 := (blk_cell H4 0).trans (show _ = some (Value.string b) from rfl); have k41 := (blk_cell H4 1).trans (show _ = some (Value.int .i64 16) from rfl))
  have C5 := blk_far (blk_far (blk_set (blk_set (blk_set (blk_set C4 0 (.slice none 0 0)) 1 (.slice none 0 0)) 2 (.slice none 0 0)) 3 (.slice none 0 0)) (p := ⟨w.heap.size + 1, 0, none⟩) (by simp only []; omega) (.int .i64 0)) (p := ⟨w.heap.size + 1, 1, none⟩) (by simp only []; omega) (.int .i64 0)
  have F5 := blk_set (blk_set (blk_far (blk_far (blk_far (blk_far F4 (p := ⟨w.heap.size, 0, none⟩) (by simp only []; omega) (.slice none 0 0)) (p := ⟨w.heap.size, 1, none⟩) (by simp only []; omega) (.slice none 0 0)) (p := ⟨w.heap.size, 2, none⟩) (by simp only []; omega) (.slice none 0 0)) (p := ⟨w.heap.size, 3, none⟩) (by simp only []; omega) (.slice none 0 0)) 0 (.int .i64 0)) 1 (.int .i64 0)
  refine leaves_cons (f := 70) (args := #[.pointer (some ⟨w.heap.size, 0, none⟩), .pointer (some ⟨w.heap.size + 1, 0, none⟩)]) (by simp) (by simp [go_sem]) ?_
  refine (catch_idle _ _ _).mono ?_
  rintro e u' w5 ⟨rfl, rfl, rfl⟩
  have r0 := (blk_cell C5 0).trans (show _ = some (Value.slice none 0 0) from rfl)
  have r1 := (blk_cell C5 1).trans (show _ = some (Value.slice none 0 0) from rfl)
  have r2 := (blk_cell C5 2).trans (show _ = some (Value.slice none 0 0) from rfl)
  have r3 := (blk_cell C5 3).trans (show _ = some (Value.slice none 0 0) from rfl)
  have x0 := (blk_cell F5 0).trans (show _ = some (Value.int .i64 0) from rfl)
  have x1 := (blk_cell F5 1).trans (show _ = some (Value.int .i64 0) from rfl)
  refine ⟨.tuple #[emptyC, .agg #[.int .i64 0, .int .i64 0]], ?_, rfl, ?_⟩
  · clear C5 F5 C4 F4 H4 q0 q1 q2 q3
    generalize ((((((w4.setCell ⟨w.heap.size, 0, none⟩ (.slice none 0 0)).setCell ⟨w.heap.size, 1, none⟩ (.slice none 0 0)).setCell ⟨w.heap.size, 2, none⟩ (.slice none 0 0)).setCell ⟨w.heap.size, 3, none⟩ (.slice none 0 0)).setCell ⟨w.heap.size + 1, 0, none⟩ (.int .i64 0)).setCell ⟨w.heap.size + 1, 1, none⟩ (.int .i64 0)) = U at r0 r1 r2 r3 x0 x1 ⊢
    simp [settle, results, Try.results44, go_sem, r0, r1, r2, r3, x0, x1, emptyC]
  · exact (((((HB4.setCell (Nat.le_refl _) _).setCell (Nat.le_refl _) _).setCell (Nat.le_refl _) _).setCell (Nat.le_refl _) _).setCell (Nat.le_succ _) _).setCell (Nat.le_succ _) _
end Go.Proofs.Ytmfheegkfakjdaa
