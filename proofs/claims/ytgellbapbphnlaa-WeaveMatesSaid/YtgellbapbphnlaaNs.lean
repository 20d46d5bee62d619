/- aes: what a nil key does -/
import Derived.Test.YtgellbapbphnlaaKb
import Derived.Test.YtgellbapbphnlaaAes6
namespace Go.Proofs.Ytgellbapbphnlaa
open Go.RowKit

set_option maxRecDepth 100000 in
theorem rounds_nil (w : World) : Calls Try.prog 70 #[.pointer none] w fun e w' => e = .returned (.int .i64 0) ∧ w = w' := by
  go_enter Try.func70, Try.ntmps70
  go_wp2_with fail
  go_ret
  exact ⟨rfl, rfl⟩

set_option maxRecDepth 100000 in
set_option maxHeartbeats 2000000 in
theorem enc_nil (w : World) (s : List UInt8) :
    Calls Try.prog 39 #[.pointer none, .agg (bys s).toArray] w fun e w' => e = .returned (.agg (bys z16).toArray) ∧ Below w.heap.size w w' := by
  have hM : Blk ((w.alloc (.cells (bys s).toArray tA16)).alloc (.cells (bys z16).toArray tA16)) (w.heap.size + 1) (bys z16) tA16 := by
    have := Blk.new (w.alloc (.cells (bys s).toArray tA16)) (bys z16) tA16
    simpa using this
  have hB : Below w.heap.size w ((w.alloc (.cells (bys s).toArray tA16)).alloc (.cells (bys z16).toArray tA16)) := ((Below.refl _ _).alloc (Nat.le_refl _) _).alloc (by simp) _
  go_enter Try.func39, Try.ntmps39
  go_wp2_with fail
  change Calls _ _ _ ((w.alloc (.cells (bys s).toArray tA16)).alloc (.cells (bys z16).toArray tA16)) _
  generalize ((w.alloc (.cells (bys s).toArray tA16)).alloc (.cells (bys z16).toArray tA16)) = w2 at *
  refine (rounds_nil _).mono ?_
  rintro e w1 ⟨rfl, rfl⟩
  have f0 := hM.frozen 0
  have c0 := hM.cell 0
  have f1 := hM.frozen 1
  have c1 := hM.cell 1
  have f2 := hM.frozen 2
  have c2 := hM.cell 2
  have f3 := hM.frozen 3
  have c3 := hM.cell 3
  have f4 := hM.frozen 4
  have c4 := hM.cell 4
  have f5 := hM.frozen 5
  have c5 := hM.cell 5
  have f6 := hM.frozen 6
  have c6 := hM.cell 6
  have f7 := hM.frozen 7
  have c7 := hM.cell 7
  have f8 := hM.frozen 8
  have c8 := hM.cell 8
  have f9 := hM.frozen 9
  have c9 := hM.cell 9
  have f10 := hM.frozen 10
  have c10 := hM.cell 10
  have f11 := hM.frozen 11
  have c11 := hM.cell 11
  have f12 := hM.frozen 12
  have c12 := hM.cell 12
  have f13 := hM.frozen 13
  have c13 := hM.cell 13
  have f14 := hM.frozen 14
  have c14 := hM.cell 14
  have f15 := hM.frozen 15
  have c15 := hM.cell 15
  simp only [z16, bys, List.replicate, List.map, List.getElem?_cons_zero, List.getElem?_cons_succ] at c0 c1 c2 c3 c4 c5 c6 c7 c8 c9 c10 c11 c12 c13 c14 c15
  go_wp2_with fail
  have hMs : Blk _ (w.heap.size + 1) (bys z16) tA16 := ((((((((((((((((hM.set 0 (.int .u8 0)).set 1 (.int .u8 0)).set 2 (.int .u8 0)).set 3 (.int .u8 0)).set 4 (.int .u8 0)).set 5 (.int .u8 0)).set 6 (.int .u8 0)).set 7 (.int .u8 0)).set 8 (.int .u8 0)).set 9 (.int .u8 0)).set 10 (.int .u8 0)).set 11 (.int .u8 0)).set 12 (.int .u8 0)).set 13 (.int .u8 0)).set 14 (.int .u8 0)).set 15 (.int .u8 0))
  refine bodyPost_ret (v := .agg (bys z16).toArray) (results_cell_row (P := Try.prog) (p := 4) (ty := 36) rfl _ _ (w.heap.size + 1) tA16 _ (0, 0) _ rfl hMs under54 rfl (by rw [size54]; rfl)) rfl ⟨rfl, ?_⟩
  exact hB.trans ((((((((((((((((((Chg.refl w.heap.size [] w2).setCell (p := ⟨w.heap.size + 1, 0, none⟩) (.inr (by simp)) (.int .u8 0)).setCell (p := ⟨w.heap.size + 1, 1, none⟩) (.inr (by simp)) (.int .u8 0)).setCell (p := ⟨w.heap.size + 1, 2, none⟩) (.inr (by simp)) (.int .u8 0)).setCell (p := ⟨w.heap.size + 1, 3, none⟩) (.inr (by simp)) (.int .u8 0)).setCell (p := ⟨w.heap.size + 1, 4, none⟩) (.inr (by simp)) (.int .u8 0)).setCell (p := ⟨w.heap.size + 1, 5, none⟩) (.inr (by simp)) (.int .u8 0)).setCell (p := ⟨w.heap.size + 1, 6, none⟩) (.inr (by simp)) (.int .u8 0)).setCell (p := ⟨w.heap.size + 1, 7, none⟩) (.inr (by simp)) (.int .u8 0)).setCell (p := ⟨w.heap.size + 1, 8, none⟩) (.inr (by simp)) (.int .u8 0)).setCell (p := ⟨w.heap.size + 1, 9, none⟩) (.inr (by simp)) (.int .u8 0)).setCell (p := ⟨w.heap.size + 1, 10, none⟩) (.inr (by simp)) (.int .u8 0)).setCell (p := ⟨w.heap.size + 1, 11, none⟩) (.inr (by simp)) (.int .u8 0)).setCell (p := ⟨w.heap.size + 1, 12, none⟩) (.inr (by simp)) (.int .u8 0)).setCell (p := ⟨w.heap.size + 1, 13, none⟩) (.inr (by simp)) (.int .u8 0)).setCell (p := ⟨w.heap.size + 1, 14, none⟩) (.inr (by simp)) (.int .u8 0)).setCell (p := ⟨w.heap.size + 1, 15, none⟩) (.inr (by simp)) (.int .u8 0)).below (Nat.le_refl _) (by simp))

end Go.Proofs.Ytgellbapbphnlaa
