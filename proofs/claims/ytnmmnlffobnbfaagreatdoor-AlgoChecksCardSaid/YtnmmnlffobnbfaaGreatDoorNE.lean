/- Dt (joined by merge4.py) -/
import Derived.Test.YtnmmnlffobnbfaaGreatDoorND
import Derived.Test.YtnmmnlffobnbfaaGreatDoorMW
/- the door lays the table of SHA-256's rounds: what its cells are -/
namespace Go.Proofs.YtnmmnlffobnbfaaGreatDoor
open Go.ChangeShapes Go.WideShapes Go.ChangeAt Go.RowKit

theorem shaK_data : (Rows.laid_palfrey_sha_rounds : DataW Unit) = .agg (shaK.map fun n => .lit (.int .u32 (wv n))) := by kernel_rfl
theorem tabW_of_laid {W : World} (h : laidMetH Tryz.prog laidL W) : TabW W := by
  rw [MakeChecks.laidMetH_plain _ _ _ (by kernel_rfl)] at h
  obtain ⟨ps, ⟨g, t, cs, fuel, p, q, hg, ht, hv, hd, _, _⟩, _, _⟩ := h
  obtain rfl := Option.some.inj ((show Tryz.prog.globalNamed "palfrey/sha.rounds" = some 0 by kernel_rfl).symm.trans hg)
  obtain rfl := Option.some.inj ((show (Tryz.prog.globals[0]?).map (·.type) = some tW64 by kernel_rfl).symm.trans ht)
  rw [shaK_data] at hd
  obtain ⟨xs, m, _, ex, _, hl, hel⟩ := DataW.trod_array Tryz.underlying128 hd
  have c5 : Tryz.prog.cellsOf 76 = 1 := by kernel_rfl
  have hlen : shaK.length = 64 := by kernel_rfl
  have each : ∀ r, r < 64 → W.cell? ⟨0, r, none⟩ = some (.int .u32 (wv (shaK.getD r 0))) := by
    intro r hr
    have hE := hel r hr
    rw [c5, Nat.mul_one, List.getElem?_eq_getElem (by omega)] at hE
    obtain ⟨z, e1, e2, _⟩ := DataW.trod_int Tryz.underlying76 hE
    have e3 : (xs.map (·.1)) = shaK.map fun n => .lit (.int .u32 (wv n)) := (DataW.agg.inj (Prod.mk.inj ex).1).symm
    have e4 : (xs.map (·.1))[r]? = (shaK.map fun n => (DataW.lit (.int .u32 (wv n)) : DataW Unit))[r]? := by rw [e3]
    rw [List.getElem?_map, List.getElem?_map, List.getElem?_eq_getElem (by omega : r < xs.length), List.getElem?_eq_getElem (by omega : r < shaK.length), e2] at e4
    have hz : z = wv (shaK.getD r 0) := by
      simp only [Option.map_some, Option.some.injEq, DataW.lit.injEq, Lit.int.injEq, true_and] at e4
      rw [e4, List.getD, List.getElem?_eq_getElem (by omega : r < shaK.length)]; rfl
    rw [World.var?_cell hg hv r, ← hz]
    have : cs.toList[r]? = some (.int .u32 z) := by
      have h0 : ((cs.toList.drop r).take 1)[0]? = some (.int .u32 z) := by rw [e1]; rfl
      simpa using h0
    simpa using this
  refine ⟨?_, each⟩
  have h0 := each 0 (by omega)
  apply Decidable.byContradiction
  intro hge
  have h3 : W.heap[0]? = none := Array.getElem?_eq_none (by omega)
  simp [World.cell?, h3] at h0
end Go.Proofs.YtnmmnlffobnbfaaGreatDoor
