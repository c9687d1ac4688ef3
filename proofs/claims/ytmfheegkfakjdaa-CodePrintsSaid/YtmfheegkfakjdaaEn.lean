/- Encode at the empty code. -/
import Derived.Test.YtmfheegkfakjdaaWr
import Derived.Test.YtmfheegkfakjdaaCn
import Derived.Lib.SlBytesConst
set_option linter.unusedVariables false
set_option linter.unusedSimpArgs false
namespace Go.Proofs.Ytmfheegkfakjdaa
open Go.RowKit Go.Proofs.YtmfheegkfakjdaaW.PrintWords
attribute [local simp] bl_refl bl_alloc bl_drew bl_drewN bl_set
attribute [local go_sem] add_block lt_sk ne_sk ne_s0 frozen_alloc_lt cell_alloc_lt

theorem wr_number0 (B g : Nat) (v : Value) (xs : List Int) (w : World) (H : WrAt w B g v xs) (hB : B ≤ w.heap.size) (hl : xs.length ≤ 16777216) :
    Calls Try.prog 36 #[.pointer (some ⟨g, 0, none⟩), .int .i64 0] w (WrPost B g w (xs ++ [0])) := by
  have := wr_number B g v xs 0 w H hB (by omega) hl
  rwa [numB_lt (by omega)] at this
theorem wr_number_first0 (B g h : Nat) (w : World) (HK : w.heap[g]? = some (.cells #[.slice (some ⟨h, 0, none⟩) 4 4] 82 (0, 0))) (HR : w.heap[h]? = some (.cells (nums .u8 mark4).toArray 5 (4, 5))) (hB : B ≤ w.heap.size) (hBg : B ≤ g) :
    Calls Try.prog 36 #[.pointer (some ⟨g, 0, none⟩), .int .i64 0] w (WrPost B g w (mark4 ++ [0])) := wr_number_first B g h 0 w HK HR hB hBg (by decide)
theorem wr_bytes8 (B g : Nat) (v : Value) (xs : List Int) (x : Int) (w : World) (H : WrAt w B g v xs) (hB : B ≤ w.heap.size) (hx : U64 x) (hl : xs.length ≤ 16777216) :
    Calls Try.prog 38 #[.pointer (some ⟨g, 0, none⟩), .int .u64 x, .int .i64 8] w (WrPost B g w (xs ++ lowB x 8)) :=
  wr_bytes B g v xs x 8 w H hB hx (by omega) hl
theorem blkB {w w1 : World} {B g : Nat} {o : Obj} (h : w.heap[g]? = some o) (hb : Below B w w1) (hg : g < B) : w1.heap[g]? = some o := (hb.block g hg).trans h
def headE : List Int := [108, 116, 104, 49, 0, 0, 0, 0]
def encE : ByteArray := strOfNums (headE ++ lowB (crc (strOfNums headE)) 8)
set_option maxRecDepth 100000 in
set_option maxHeartbeats 2000000 in
theorem code_Encode_nil (w : World) : Calls Try.prog 15 #[emptyCode] w (Ret (.tuple #[.string encE, .int .i64 0]) w) := by
  unfold emptyCode
  have kc := fun (w : World) (C : Array Value) (n c : Nat) => Lib.run_convert_bytes_const (P := Try.prog) w 80 5 C n c Try.underlying80 Try.underlying5
  go_enter Try.func15, Try.ntmps15
  go_wp2_with (go_at_call 23; refine (ir_Check_nil _).mono ?_; rintro e w1 ⟨rfl, hb⟩; have HB := bl_call (w := w) (below_alloc (Below.refl _ _) _) hb; have HK := blk_below (blk_new w _) hb; clear hb; have hlt := blk_lt HK; have q0 := (blk_cell HK 0).trans (show _ = some (Value.slice none 0 0) from rfl); have q1 := (blk_cell HK 1).trans (show _ = some (Value.slice none 0 0) from rfl); have q2 := (blk_cell HK 2).trans (show _ = some (Value.slice none 0 0) from rfl); have q3 := (blk_cell HK 3).trans (show _ = some (Value.slice none 0 0) from rfl))
  go_wp2_with (go_at_call 36; refine (wr_number_first0 w1.heap.size (w1.heap.size + 1) w1.heap.size _ (blk_new' _ _ _ (by simp)) (blk_alloc (blk_new w1 _) _) (by simp; omega) (by omega)).mono ?_; rintro e w2 ⟨rfl, hb, v2, W2⟩; have hs2 := Nat.le_trans (show w1.heap.size ≤ _ by simp; omega) hb.size; have K2 := blkB (blk_alloc (blk_alloc HK _) _) hb hlt; have B2 := hb; clear hb q0 q1 q2 q3; have q0 := (blk_cell K2 0).trans (show _ = some (Value.slice none 0 0) from rfl); have q1 := (blk_cell K2 1).trans (show _ = some (Value.slice none 0 0) from rfl); have q2 := (blk_cell K2 2).trans (show _ = some (Value.slice none 0 0) from rfl); have q3 := (blk_cell K2 3).trans (show _ = some (Value.slice none 0 0) from rfl))
  go_loop [8, 38] (fun v8 v38 => v38 = .int .i64 0) (fun _ _ => 0)
  case atStart => rfl
  case round =>
    obtain rfl := hrel
    go_wp2_with (go_at_call 36; refine (wr_number0 w1.heap.size (w1.heap.size + 1) _ _ _ W2 hs2 (by decide)).mono ?_; rintro e w3 ⟨rfl, hb, v3, W3⟩; have hs3 := Nat.le_trans hs2 hb.size; have K3 := blkB K2 hb hlt; have B3 := B2.trans hb; clear hb q0 q1 q2 q3; have q0 := (blk_cell K3 0).trans (show _ = some (Value.slice none 0 0) from rfl); have q1 := (blk_cell K3 1).trans (show _ = some (Value.slice none 0 0) from rfl); have q2 := (blk_cell K3 2).trans (show _ = some (Value.slice none 0 0) from rfl); have q3 := (blk_cell K3 3).trans (show _ = some (Value.slice none 0 0) from rfl))
    go_loop [10, 82] (fun v10 v82 => v82 = .int .i64 0) (fun _ _ => 0)
    case atStart => rfl
    case round =>
      obtain rfl := hrel
      go_wp2_with (go_at_call 36; refine (wr_number0 w1.heap.size (w1.heap.size + 1) _ _ _ W3 hs3 (by decide)).mono ?_; rintro e w4 ⟨rfl, hb, v4, W4⟩; have hs4 := Nat.le_trans hs3 hb.size; have K4 := blkB K3 hb hlt; have B4 := B3.trans hb; clear hb q0 q1 q2 q3; have q0 := (blk_cell K4 0).trans (show _ = some (Value.slice none 0 0) from rfl); have q1 := (blk_cell K4 1).trans (show _ = some (Value.slice none 0 0) from rfl); have q2 := (blk_cell K4 2).trans (show _ = some (Value.slice none 0 0) from rfl); have q3 := (blk_cell K4 3).trans (show _ = some (Value.slice none 0 0) from rfl))
      go_loop [12, 13, 98] (fun v12 v13 v98 => v98 = .int .i64 0) (fun _ _ _ => 0)
      case atStart => rfl
      case round =>
        obtain rfl := hrel
        go_wp2_with (go_at_call 36; refine (wr_number0 w1.heap.size (w1.heap.size + 1) _ _ _ W4 hs4 (by decide)).mono ?_; rintro e w5 ⟨rfl, hb, v5, W5⟩; have hs5 := Nat.le_trans hs4 hb.size; have K5 := blkB K4 hb hlt; have B5 := B4.trans hb; clear hb q0 q1 q2 q3; have q0 := (blk_cell K5 0).trans (show _ = some (Value.slice none 0 0) from rfl); have q1 := (blk_cell K5 1).trans (show _ = some (Value.slice none 0 0) from rfl); have q2 := (blk_cell K5 2).trans (show _ = some (Value.slice none 0 0) from rfl); have q3 := (blk_cell K5 3).trans (show _ = some (Value.slice none 0 0) from rfl))
        go_loop [15, 17, 140, 156, 157, 158] (fun v15 v17 v140 v156 v157 v158 => v140 = .int .i64 0) (fun _ _ _ _ _ _ => 0)
        case atStart => rfl
        case round =>
          obtain rfl := hrel
          have E5 : WrAt w5 w1.heap.size (w1.heap.size + 1) v5 headE := W5
          clear W5 W4 W3 W2 q0 q1 q2 q3
          have k0 := (blk_cell E5.blk 0).trans (show _ = some v5 from rfl)
          have hcv := own_string (P := Try.prog) (src := 80) (dst := 9) Try.underlying80 Try.underlying5 Try.underlying9 E5.own
          go_wp2_with (go_at_call 18; refine (code_Print (strOfNums headE) (by decide) _).mono ?_; rintro e w6 ⟨rfl, hb⟩; have E6 := E5.below hb; have hs6 := Nat.le_trans hs5 hb.size; have B6 := B5.trans (hb.mono hs5); clear hb)
          go_wp2_with (go_at_call 38; refine (wr_bytes8 w1.heap.size (w1.heap.size + 1) _ _ _ _ E6 hs6 (u64_bits _ _ _) (by decide)).mono ?_; rintro e w7 ⟨rfl, hb, v7, W7⟩; have B7 := B6.trans hb; clear hb; have k7 := (blk_cell W7.blk 0).trans (show _ = some v7 from rfl); have hcv7 := own_string (P := Try.prog) (src := 80) (dst := 9) Try.underlying80 Try.underlying5 Try.underlying9 W7.own)
          refine bodyPost_ret (v := .tuple #[.string encE, .int .i64 0]) ?_ rfl ⟨rfl, ?_⟩
          · simp [results, Try.results15, go_sem, encE]
            rfl
          · have := (below_alloc (below_alloc HB (.cells (nums .u8 mark4).toArray 5 (4, 5))) (.cells #[.slice (some ⟨w1.heap.size, 0, none⟩) 4 4] 82))
            exact this.trans (B7.mono HB.size)
end Go.Proofs.Ytmfheegkfakjdaa
