/- aes: rows turned back -/
import Derived.Test.YtnmmnlffobnbfaaGreatDoorAes2
namespace Go.Proofs.YtnmmnlffobnbfaaGreatDoor
open Go.RowKit

set_option maxRecDepth 100000 in
set_option maxHeartbeats 2000000 in
theorem shift_back (a0 a1 a2 a3 a4 a5 a6 a7 a8 a9 a10 a11 a12 a13 a14 a15 : UInt8) (w : World) :
    Calls Tryz.prog 175 #[.agg #[B a0, B a1, B a2, B a3, B a4, B a5, B a6, B a7, B a8, B a9, B a10, B a11, B a12, B a13, B a14, B a15], .int .i64 (-1)] w fun e w' => e = .returned (.agg (bys (hs16 [a0, a1, a2, a3, a4, a5, a6, a7, a8, a9, a10, a11, a12, a13, a14, a15])).toArray) ∧ Below w.heap.size w w' := by
  go_enter Tryz.func175, Tryz.ntmps175
  go_wp2_with fail
  refine wp_loop_rounds 17 ?_
  iterate 16 (rw [rounds_succ]; go_wp2_with fail)
  rw [rounds_succ]
  go_wp2_with fail
  refine bodyPost_ret (v := .agg (bys (hs16 [a0, a1, a2, a3, a4, a5, a6, a7, a8, a9, a10, a11, a12, a13, a14, a15])).toArray) (by simp [results, Tryz.results175, go_sem, bys, hs16]) rfl ⟨rfl, ?_⟩
  go_grown

theorem shift_any (l : List UInt8) (hl : l.length = 16) (w : World) :
    Calls Tryz.prog 175 #[.agg (bys l).toArray, .int .i64 1] w fun e w' => e = .returned (.agg (bys (sh16 l)).toArray) ∧ Below w.heap.size w w' := by
  obtain ⟨a0, a1, a2, a3, a4, a5, a6, a7, a8, a9, a10, a11, a12, a13, a14, a15, rfl⟩ := len16 hl
  exact shift_one a0 a1 a2 a3 a4 a5 a6 a7 a8 a9 a10 a11 a12 a13 a14 a15 w
theorem shiftb_any (l : List UInt8) (hl : l.length = 16) (w : World) :
    Calls Tryz.prog 175 #[.agg (bys l).toArray, .int .i64 (-1)] w fun e w' => e = .returned (.agg (bys (hs16 l)).toArray) ∧ Below w.heap.size w w' := by
  obtain ⟨a0, a1, a2, a3, a4, a5, a6, a7, a8, a9, a10, a11, a12, a13, a14, a15, rfl⟩ := len16 hl
  exact shift_back a0 a1 a2 a3 a4 a5 a6 a7 a8 a9 a10 a11 a12 a13 a14 a15 w

end Go.Proofs.YtnmmnlffobnbfaaGreatDoor
