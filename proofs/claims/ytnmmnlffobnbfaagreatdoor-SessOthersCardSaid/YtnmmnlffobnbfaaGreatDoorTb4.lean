/- sess: the example; SessRoom, walked -/
import Derived.Test.YtnmmnlffobnbfaaGreatDoorTb3
namespace Go.Proofs.YtnmmnlffobnbfaaGreatDoor
open Go.RowKit

theorem handles_len (w : World) (lo t : Nat) (st : List Pl) (ht : TabAt lo w t st) (hn : st.length ≤ 64) (hc : ∀ j, j < st.length → (st.getD j (false, 0)).2 < 1000000) :
    Calls Tryz.prog 67 #[.pointer (some ⟨t, 0, none⟩)] w fun e w' => ∃ a c, e = .returned (.slice a (hands st st.length).length c) ∧ Below w.heap.size w w' := by
  refine (handles_any w lo t st ht hn hc).mono ?_
  rintro e w' ⟨v, rfl, hown, hB⟩
  rcases hown.2 with ⟨hv, h0⟩ | ⟨g, cap, cur, hv, _⟩
  · exact ⟨none, 0, by rw [hv, h0], hB⟩
  · exact ⟨_, cap, by rw [hv], hB⟩

theorem awk_idx0 : idx [(false, 0), (false, 0)] = 0 := by decide
theorem awk_idx1 : idx [(true, 0), (false, 0)] = 1 := by decide
theorem awk_idx2 : idx [(false, 1), (true, 0)] = 0 := by decide
theorem awk_closeF : closeF [(true, 0), (true, 0)] 1 = [(false, 1), (true, 0)] := by decide
theorem awk_closeV : closeV [(true, 0), (true, 0)] 1 = .int .i64 0 := by rfl

theorem Below.up {lo : Nat} {N : Nat} {a b c : World} (h1 : Below N a b) (h2 : Below lo b c) (h : N ≤ lo) : Below N a c := h1.trans (Below.mono h2 h)

set_option maxRecDepth 100000 in
set_option maxHeartbeats 2000000 in
theorem awake19_any (w : World) :
    Calls Tryz.prog 32 #[] w fun e w' => e = .returned (.bool true) ∧ Below w.heap.size w w' := by
  go_enter Tryz.func32, Tryz.ntmps32
  go_wp2_with fail
  refine (newtable_any _ 2 (by omega) (by omega)).mono ?_
  rintro e w1 ⟨t, rfl, hT, hB⟩
  go_wp2_with fail
  refine (open_some _ w.heap.size t [(false, 0), (false, 0)] 0 hT (by decide) (by decide) awk_idx0 (by decide)).mono ?_
  rintro e w2 ⟨rfl, hT, hB2⟩
  have hB := hB.trans hB2
  go_wp2_with fail
  refine (open_some _ w.heap.size t [(true, 0), (false, 0)] 1 hT (by decide) (by decide) awk_idx1 (by decide)).mono ?_
  rintro e w3 ⟨rfl, hT, hB2⟩
  have hB := hB.trans hB2
  go_wp2_with fail
  refine (close_any _ w.heap.size t [(true, 0), (true, 0)] 1 hT (by decide) (by decide) (by decide) (by omega)).mono ?_
  rw [awk_closeF, awk_closeV]
  rintro e w4 ⟨rfl, hT, hB2⟩
  have hB := hB.trans hB2
  go_wp2_with fail
  refine (open_some _ w.heap.size t [(false, 1), (true, 0)] 0 hT (by decide) (by decide) awk_idx2 (by decide)).mono ?_
  rintro e w5 ⟨rfl, hT, hB2⟩
  have hB := hB.trans hB2
  have n1 : hnum [(false, 0), (false, 0)] 0 = 1 := by decide
  have n2 : hnum [(true, 0), (false, 0)] 1 = 2 := by decide
  have n3 : hnum [(false, 1), (true, 0)] 0 = 3 := by decide
  rw [n1, n2, n3]
  clear n1 n2 n3
  go_wp2_with fail
  go_ret
  exact ⟨rfl, hB⟩
end Go.Proofs.YtnmmnlffobnbfaaGreatDoor
