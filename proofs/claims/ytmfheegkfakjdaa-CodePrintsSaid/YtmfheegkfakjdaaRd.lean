/- The reader of bytecode. -/
import Derived.Test.YtmfheegkfakjdaaPr
import Derived.BigQuiet
import Derived.OwnWalk
import Derived.Laws.AppendOwn
import Derived.Maps.AppendAt
set_option linter.unusedVariables false
set_option linter.unusedSimpArgs false
namespace Go.Proofs.Ytmfheegkfakjdaa
open Go.RowKit Go.Proofs.YtmfheegkfakjdaaW.PrintWords
attribute [local simp] bl_refl bl_alloc bl_drew bl_drewN bl_set
attribute [local go_sem] add_block lt_sk ne_sk ne_s0 frozen_alloc_lt cell_alloc_lt

/-- A reader at block g: these bytes, and where it stands. -/
def RdAt (w : World) (g : Nat) (b : ByteArray) (at_ : Nat) : Prop := w.heap[g]? = some (.cells #[.string b, .int .i64 (at_ : Int)] 133 (0, 0))
def RdPost (g : Nat) (b : ByteArray) (at_ : Nat) (v : Value) (w : World) (e : Ending) (w' : World) : Prop := e = .returned v ∧ w.grownBy w' (some g) ∧ RdAt w' g b at_
/-- It gives up with an error and its place. -/
def RdBad (g : Nat) (err at_ : Int) (w : World) (e : Ending) (w' : World) : Prop := e = .panicked [{ v := .iface 92 (.agg #[.int .i64 err, .int .i64 at_]), recovered := false }] ∧ w.grownBy w' (some g)
theorem gb_set {a w : World} {g : Nat} (h : a.grownBy w (some g)) (i : Nat) (v : Value) : a.grownBy (w.setCell ⟨g, i, none⟩ v) (some g) :=
  h.trans ⟨rfl, rfl, rfl, by simp [World.setCell], fun k _ hk => Below.heap_setCell _ _ _ k (fun e => hk (by rw [e]))⟩
theorem gb_drew {a w : World} {row : Option Nat} (h : a.grownBy w row) : a.grownBy w.drew row := ⟨h.os, h.tape, h.output, h.size, h.block⟩
theorem gb_alloc {a w : World} {row : Option Nat} (h : a.grownBy w row) (o : Obj) : a.grownBy (w.alloc o) row := h.trans (World.grownBy_alloc w o row)
theorem gb_new {a w : World} {row : Option Nat} (h : a.grownBy w row) {n : Nat} (hn : a.heap.size ≤ n) (i : Nat) (v : Value) : a.grownBy (w.setCell ⟨n, i, none⟩ v) row :=
  ⟨h.os, h.tape, h.output, by simpa [World.setCell] using h.size, fun k hk hr => (Below.heap_setCell _ _ _ k (by simp only []; omega)).trans (h.block k hk hr)⟩
theorem gb_refl (w : World) (row : Option Nat) : w.grownBy w row := World.grownBy.refl w row

set_option maxRecDepth 100000 in
theorem rd_part_cut (g : Nat) (b : ByteArray) (p n : Nat) (w : World) (H : RdAt w g b p) (hs : b.size ≤ 1099511627776) (hp : p ≤ b.size) (hn : n ≤ 1099511627776) (hc : b.size < p + n) :
    Calls Try.prog 71 #[.pointer (some ⟨g, 0, none⟩), .int .i64 (n : Int)] w (RdBad g 242 p w) := by
  have k0 := (blk_cell H 0).trans (show _ = some (Value.string b) from rfl)
  have k1 := (blk_cell H 1).trans (show _ = some (Value.int .i64 (p : Int)) from rfl)
  have hw : IntKind.i64.wrap ((b.size : Int) - (p : Int)) = (b.size : Int) - p := IntWalk.i64_in _ (by omega)
  have hlt : (b.size : Int) - (p : Int) < (n : Int) := by omega
  go_enter Try.func71, Try.ntmps71
  go_wp2
  go_region
  all_goals go_wp2
  all_goals exact ⟨rfl, rfl, gb_drew (gb_refl _ _)⟩

set_option maxRecDepth 100000 in
theorem rd_part (g : Nat) (b : ByteArray) (p n : Nat) (w : World) (H : RdAt w g b p) (hs : b.size ≤ 1099511627776) (hc : p + n ≤ b.size) :
    Calls Try.prog 71 #[.pointer (some ⟨g, 0, none⟩), .int .i64 (n : Int)] w (RdPost g b (p + n) (.string (b.extract p (p + n))) w) := by
  have k0 := (blk_cell H 0).trans (show _ = some (Value.string b) from rfl)
  have k1 := (blk_cell H 1).trans (show _ = some (Value.int .i64 (p : Int)) from rfl)
  have z1 := blk_frozen H 1
  have hlg := blk_lt H
  have hw : IntKind.i64.wrap ((b.size : Int) - (p : Int)) = (b.size : Int) - p := IntWalk.i64_in _ (by omega)
  have hw2 : IntKind.i64.wrap ((p : Int) + (n : Int)) = (p : Int) + n := IntWalk.i64_in _ (by omega)
  have hlt : ¬ (b.size : Int) - (p : Int) < (n : Int) := by omega
  have h1 : (0 : Int) ≤ (p : Int) := by omega
  have h2 : (p : Int) ≤ (p : Int) + (n : Int) := by omega
  have h3 : (p : Int) + (n : Int) ≤ b.size := by omega
  go_enter Try.func71, Try.ntmps71
  go_wp2
  go_region
  all_goals go_wp2
  all_goals go_region
  all_goals go_wp2
  all_goals
    go_ret
    refine ⟨by congr 2, gb_drew (gb_drew (gb_set (gb_refl _ _) 1 _)), ?_⟩
    have := blk_set H 1 (Value.int .i64 ((p : Int) + (n : Int)))
    rw [show ((p : Int) + (n : Int)) = ((p + n : Nat) : Int) by omega] at this
    exact blk_drew (blk_drew this)

/-! Numbers of one byte, 0; and a number that is cut off. -/
set_option maxRecDepth 100000 in
set_option maxHeartbeats 1000000 in
theorem rd_number0 (g : Nat) (b : ByteArray) (p m : Nat) (w : World) (H : RdAt w g b p) (hs : b.size ≤ 1099511627776) (hp : p < b.size) (hz : bt b p = 0) (hm : m ≤ 9223372036854775807) :
    Calls Try.prog 94 #[.pointer (some ⟨g, 0, none⟩), .int .i64 (m : Int)] w (RdPost g b (p + 1) (.int .i64 0) w) := by
  have k0 := (blk_cell H 0).trans (show _ = some (Value.string b) from rfl)
  have k1 := (blk_cell H 1).trans (show _ = some (Value.int .i64 (p : Int)) from rfl)
  have z1 := blk_frozen H 1
  have hlg := blk_lt H
  have hw2 : IntKind.i64.wrap ((p : Int) + 1) = (p : Int) + 1 := IntWalk.i64_in _ (by omega)
  have h1 : (0 : Int) ≤ (p : Int) := by omega
  have h2 : ((p : Int) == (b.size : Int)) = false := by simp; omega
  have h3 : (p : Int) < b.size := by omega
  have hwm : IntKind.u64.wrap (m : Int) = (m : Int) := IntWalk.u64_in _ (by omega)
  have hm0 : ¬ (m : Int) < 0 := by omega
  have hb0 : bits .or .u64 0 (IntKind.u64.wrap (IntKind.u64.wrap (bits .and .u8 0 127))) = 0 := by decide
  have hbz : ∀ h : p < b.size, ((b[p]'h).toNat : Int) = 0 := fun h => (bt_at b p h).trans hz
  go_enter Try.func94, Try.ntmps94
  go_wp2
  go_loopw [6, 7, 8] (fun v6 v7 v8 wr => v6 = .int .u64 0 ∧ v7 = .int .i64 0 ∧ wr = w) (fun _ _ _ _ => 0)
  case atStart => exact ⟨rfl, rfl, rfl⟩
  case round =>
    obtain ⟨rfl, rfl, rfl⟩ := hrel
    go_wp2
    go_region
    all_goals go_wp2
    all_goals go_region
    all_goals go_wp2
    all_goals
      go_ret
      refine ⟨rfl, gb_drew (gb_drew (gb_set (gb_refl _ _) 1 _)), ?_⟩
      have := blk_set H 1 (Value.int .i64 ((p : Int) + 1))
      exact blk_drew (blk_drew this)

set_option maxRecDepth 100000 in
theorem rd_number_cut (g : Nat) (b : ByteArray) (m : Nat) (w : World) (H : RdAt w g b b.size) :
    Calls Try.prog 94 #[.pointer (some ⟨g, 0, none⟩), .int .i64 (m : Int)] w (RdBad g 242 b.size w) := by
  have k0 := (blk_cell H 0).trans (show _ = some (Value.string b) from rfl)
  have k1 := (blk_cell H 1).trans (show _ = some (Value.int .i64 (b.size : Int)) from rfl)
  have hlg := blk_lt H
  have h2 : ((b.size : Int) == (b.size : Int)) = true := by simp
  go_enter Try.func94, Try.ntmps94
  go_wp2
  go_loopw [6, 7, 8] (fun v6 v7 v8 wr => v6 = .int .u64 0 ∧ v7 = .int .i64 0 ∧ wr = w) (fun _ _ _ _ => 0)
  case atStart => exact ⟨rfl, rfl, rfl⟩
  case round =>
    obtain ⟨rfl, rfl, rfl⟩ := hrel
    go_wp2
    go_region
    all_goals go_wp2
    all_goals exact ⟨rfl, rfl, gb_drew (gb_refl _ _)⟩

/-! The code of four zeros is the empty code; of two zeros and no more it is cut off. -/
def emptyC : Value := .agg #[.slice none 0 0, .slice none 0 0, .slice none 0 0, .slice none 0 0]
set_option maxRecDepth 100000 in
set_option maxHeartbeats 1000000 in
theorem rd_code0 (g : Nat) (b : ByteArray) (w : World) (H : RdAt w g b 4) (hs : b.size ≤ 1099511627776) (h8 : 8 ≤ b.size) (z4 : bt b 4 = 0) (z5 : bt b 5 = 0) (z6 : bt b 6 = 0) (z7 : bt b 7 = 0) :
    Calls Try.prog 72 #[.pointer (some ⟨g, 0, none⟩)] w (RdPost g b 8 emptyC w) := by
  go_enter Try.func72, Try.ntmps72
  have hlg := blk_lt H
  go_wp2_with (go_at_call 94; refine (rd_number0 g b 4 64 _ (blk_alloc (blk_alloc H _) _) hs (by omega) z4 (by omega)).mono ?_; rintro e w1 ⟨rfl, hb, H1⟩; have K1 := blk_grown (blk_alloc (blk_new w _) _) hb (by simp; omega); have L1 := blk_grown (blk_new' _ _ (w.heap.size + 1) (by simp)) hb (by simp; omega); have G1 := (gb_alloc (gb_alloc (gb_refl w (some g)) _) _).trans hb; have s1 := G1.size; have t1 := blk_lt L1; clear hb)
  go_loop [4, 11] (fun v4 v11 => v11 = .int .i64 0) (fun _ _ => 0)
  case atStart => rfl
  case round =>
    obtain rfl := hrel
    go_wp2_with (go_at_call 94; refine (rd_number0 g b 5 16384 _ H1 hs (by omega) z5 (by omega)).mono ?_; rintro e w2 ⟨rfl, hb, H2⟩; have K2 := blk_grown K1 hb (by simp; omega); have L2 := blk_grown L1 hb (by simp; omega); have G2 := G1.trans hb; have s2 := G2.size; have t2 := blk_lt L2; clear hb)
    go_loop [33] (fun v33 => v33 = .int .i64 0) (fun _ => 0)
    case atStart => rfl
    case round =>
      obtain rfl := hrel
      go_wp2_with (go_at_call 94; refine (rd_number0 g b 6 4096 _ H2 hs (by omega) z6 (by omega)).mono ?_; rintro e w3 ⟨rfl, hb, H3⟩; have K3 := blk_grown K2 hb (by simp; omega); have L3 := blk_grown L2 hb (by simp; omega); have G3 := G2.trans hb; have s3 := G3.size; have t3 := blk_lt L3; clear hb)
      go_loop [5, 45] (fun v5 v45 => v45 = .int .i64 0) (fun _ _ => 0)
      case atStart => rfl
      case round =>
        obtain rfl := hrel
        go_wp2_with (go_at_call 94; refine (rd_number0 g b 7 32768 _ H3 hs (by omega) z7 (by omega)).mono ?_; rintro e w4 ⟨rfl, hb, H4⟩; have K4 := blk_grown K3 hb (by simp; omega); have L4 := blk_grown L3 hb (by simp; omega); have G4 := G3.trans hb; have s4 := G4.size; have t4 := blk_lt L4; clear hb)
        go_loop [6, 8, 73, 78, 79, 80] (fun v6 v8 v73 v78 v79 v80 => v73 = .int .i64 0) (fun _ _ _ _ _ _ => 0)
        case atStart => rfl
        case round =>
          obtain rfl := hrel
          have c0 := (blk_cell L4 0).trans (show _ = some (Value.slice none 0 0) from rfl)
          have d0 := blk_frozen K4 0
          have e0 := (blk_cell K4 0).trans (show _ = some (Value.slice none 0 0) from rfl)
          have c1 := (blk_cell L4 1).trans (show _ = some (Value.slice none 0 0) from rfl)
          have d1 := blk_frozen K4 1
          have e1 := (blk_cell K4 1).trans (show _ = some (Value.slice none 0 0) from rfl)
          have c2 := (blk_cell L4 2).trans (show _ = some (Value.slice none 0 0) from rfl)
          have d2 := blk_frozen K4 2
          have e2 := (blk_cell K4 2).trans (show _ = some (Value.slice none 0 0) from rfl)
          have c3 := (blk_cell L4 3).trans (show _ = some (Value.slice none 0 0) from rfl)
          have d3 := blk_frozen K4 3
          have e3 := (blk_cell K4 3).trans (show _ = some (Value.slice none 0 0) from rfl)
          have u4 := blk_lt K4
          go_wp2
          refine bodyPost_ret (v := emptyC) ?_ rfl ⟨rfl, ?_, ?_⟩
          · have M := blk_set (blk_set (blk_set (blk_set K4 0 (.slice none 0 0)) 1 (.slice none 0 0)) 2 (.slice none 0 0)) 3 (.slice none 0 0)
            have r0 := (blk_cell M 0).trans (show _ = some (Value.slice none 0 0) from rfl)
            have r1 := (blk_cell M 1).trans (show _ = some (Value.slice none 0 0) from rfl)
            have r2 := (blk_cell M 2).trans (show _ = some (Value.slice none 0 0) from rfl)
            have r3 := (blk_cell M 3).trans (show _ = some (Value.slice none 0 0) from rfl)
            clear M
            generalize ((((w4.setCell ⟨w.heap.size, 0, none⟩ (.slice none 0 0)).setCell ⟨w.heap.size, 1, none⟩ (.slice none 0 0)).setCell ⟨w.heap.size, 2, none⟩ (.slice none 0 0)).setCell ⟨w.heap.size, 3, none⟩ (.slice none 0 0)) = W at r0 r1 r2 r3 ⊢
            simp [results, Try.results72, go_sem, emptyC, r0, r1, r2, r3]
          · exact gb_new (gb_new (gb_new (gb_new G4 (Nat.le_refl _) _ _) (Nat.le_refl _) _ _) (Nat.le_refl _) _ _) (Nat.le_refl _) _ _
          · exact blk_far (blk_far (blk_far (blk_far H4 (by simp only []; omega) _) (by simp only []; omega) _) (by simp only []; omega) _) (by simp only []; omega) _

set_option maxRecDepth 100000 in
set_option maxHeartbeats 1000000 in
theorem rd_code_cut (g : Nat) (b : ByteArray) (w : World) (H : RdAt w g b 4) (h6 : b.size = 6) (z4 : bt b 4 = 0) (z5 : bt b 5 = 0) :
    Calls Try.prog 72 #[.pointer (some ⟨g, 0, none⟩)] w (RdBad g 242 6 w) := by
  have hs : b.size ≤ 1099511627776 := by omega
  have hlg := blk_lt H
  go_enter Try.func72, Try.ntmps72
  go_wp2_with (go_at_call 94; refine (rd_number0 g b 4 64 _ (blk_alloc (blk_alloc H _) _) hs (by omega) z4 (by omega)).mono ?_; rintro e w1 ⟨rfl, hb, H1⟩; have G1 := (gb_alloc (gb_alloc (gb_refl w (some g)) _) _).trans hb; clear hb)
  go_loop [4, 11] (fun v4 v11 => v11 = .int .i64 0) (fun _ _ => 0)
  case atStart => rfl
  case round =>
    obtain rfl := hrel
    go_wp2_with (go_at_call 94; refine (rd_number0 g b 5 16384 _ H1 hs (by omega) z5 (by omega)).mono ?_; rintro e w2 ⟨rfl, hb, H2⟩; have G2 := G1.trans hb; clear hb)
    go_loop [33] (fun v33 => v33 = .int .i64 0) (fun _ => 0)
    case atStart => rfl
    case round =>
      obtain rfl := hrel
      go_wp2_with (go_at_call 94; refine (rd_number_cut g b 4096 _ (h6 ▸ H2)).mono ?_; rintro e w3 ⟨rfl, hb⟩; have G3 := G2.trans hb; clear hb)
      exact ⟨rfl, rfl, G3⟩

/-! So many bytes, the lowest first. -/
def joinB (b : ByteArray) : Nat → Int
  | 0 => 0
  | k + 1 => bits .or .u64 (joinB b k) (IntKind.u64.wrap (bt b k * 2 ^ (8 * k)))
set_option maxRecDepth 100000 in
theorem rd_bytes8 (g : Nat) (b : ByteArray) (p : Nat) (w : World) (H : RdAt w g b p) (hs : b.size ≤ 1099511627776) (hc : p + 8 ≤ b.size) :
    Calls Try.prog 73 #[.pointer (some ⟨g, 0, none⟩), .int .i64 8] w (RdPost g b (p + 8) (.int .u64 (joinB (b.extract p (p + 8)) 8)) w) := by
  have hlg := blk_lt H
  have kb := fun s W => print_bytes (P := Try.prog) 9 80 5 Try.underlying9 Try.underlying80 Try.underlying5 s W
  go_enter Try.func73, Try.ntmps73
  go_wp2_with (go_at_call 71; refine (rd_part g b p 8 _ H hs hc).mono ?_; rintro e w1 ⟨rfl, hb, H1⟩)
  have hsz : (b.extract p (p + 8)).size = 8 := by rw [ByteArray.size_extract]; omega
  have HR := bytes_reads w1 5 (b.extract p (p + 8)) (by omega)
  have HB : Below w1.heap.size w1 (Lib.bytesWorld w1 5 (b.extract p (p + 8))) := bytes_below (Below.refl _ _) (Nat.le_refl _) _ _
  have H2 : RdAt (Lib.bytesWorld w1 5 (b.extract p (p + 8))) g b (p + 8) := blk_below H1 HB
  have G2 : w.grownBy (Lib.bytesWorld w1 5 (b.extract p (p + 8))) (some g) := hb.trans (grown_of_below HB _)
  clear kb hb HB H1
  generalize Lib.bytesWorld w1 5 (b.extract p (p + 8)) = W at HR H2 G2 ⊢
  generalize hse : b.extract p (p + 8) = s at hsz HR ⊢
  have HS := Lib.hid hse
  clear hse
  go_loop [5, 6, 7, 13] (fun v5 v6 v7 v13 => ∃ (k : Nat) (c : Int), k ≤ 8 ∧ v13 = .int .i64 k ∧ v5 = .int .u64 c ∧ Hid (c = joinB s k)) (fun _ _ _ v13 => 8 - (intOf v13).toNat)
  case atStart => exact ⟨0, _, by omega, rfl, rfl, rfl⟩
  case round =>
    obtain ⟨k, c, hk, rfl, rfl, hj⟩ := hrel
    by_cases hlt : k < 8
    · have hc := reads_cell HR k (by omega)
      rw [rd_bytesOf] at hc
      have hw := bt_wrap s k
      have hk8 : IntKind.i64.wrap (8 * (k : Int)) = 8 * (k : Int) := IntWalk.i64_in _ (by omega)
      have hk0 : (0 : Int) ≤ 8 * (k : Int) := by omega
      clear HR
      go_wp2
      refine ⟨⟨k + 1, _, by omega, by go_num, rfl, ?_⟩, by simp [intOf]; omega⟩
      show _ = joinB s (k + 1)
      rw [joinB, ← hj.out]
    · obtain rfl : k = 8 := by omega
      go_wp2
      go_ret
      exact ⟨by rw [HS.out, ← hj.out]; rfl, G2, H2⟩
end Go.Proofs.Ytmfheegkfakjdaa
