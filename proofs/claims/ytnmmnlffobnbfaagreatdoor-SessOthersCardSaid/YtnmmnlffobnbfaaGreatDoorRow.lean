/- what the rows' proofs share: arguments opened -/
import Derived.Test.YtnmmnlffobnbfaaGreatDoorBits1
import Derived.ProofKit
import Derived.OpenShut
namespace Go.Proofs.YtnmmnlffobnbfaaGreatDoor
open Go.ChangeShapes Go.WideShapes Go.ChangeAt Go.RowKit

theorem Tryz.own : ownKnob Tryz.prog.godebug = none := by kernel_rfl
theorem Tryz.laidOut : laidOutB Tryz.prog = true := by kernel_rfl

section
variable {H : Type} {enc : TypeId × Value → H} {P : Program} {w : World} {base b0 : Nat} {spare : Nat → Bool} {held : Bool} {r : Reach} {t e : TypeId}
theorem byte_of {n : Int} (h : (Lit.int .u8 n).wf = true) : ∃ x : UInt8, n = bv x := by
  have ⟨h0, h1⟩ := bounds_u8 h
  exact ⟨UInt8.ofNat n.toNat, by unfold bv; simp; omega⟩
theorem okWide_array {n : Nat} (ht : P.underlying t = some (.array n e)) {v : Value} (h : Value.okWide P w r b0 t v) : ∃ cs, v = .agg cs ∧ cs.size = P.cellsOf t := by
  simp only [Value.okWide, ht] at h
  obtain ⟨cs, h1, h2, _⟩ := h
  exact ⟨cs, h1, h2⟩
theorem open_bytes {n : Nat} (ht : P.underlying t = some (.array n e)) (he : P.underlying e = some (.int .u8)) (hce : P.cellsOf e = 1) (hC : P.cellsOf t = n) {v : Value} {d : DataW H} {p : List MemPlace}
    (hv : Value.okWide P w r b0 t v) (h : DataW.Trod enc P w base spare held t v d p) : ∃ l : List UInt8, l.length = n ∧ v = .agg (bys l).toArray := by
  obtain ⟨cs, rfl, hsz⟩ := okWide_array ht hv
  obtain ⟨fuel, hf⟩ := h
  obtain ⟨xs, m, _, _, hl, hxs, hi⟩ := DataW.trod_array ht hf
  have each : ∀ i, i < n → ∃ x : UInt8, cs[i]? = some (.int .u8 (bv x)) := by
    intro i hin
    have h1 := hi i hin
    rw [List.getElem?_eq_getElem (by omega)] at h1
    obtain ⟨k, hk, _, hw⟩ := DataW.trod_int he h1
    obtain ⟨x, rfl⟩ := byte_of hw
    refine ⟨x, ?_⟩
    have h2 : ((cs.toList.drop i).take 1)[0]? = some (.int .u8 (bv x)) := by
      have : ((Value.agg cs).cells.toList.drop (i * P.cellsOf e)).take (P.cellsOf e) = (cs.toList.drop i).take 1 := by rw [hce, Nat.mul_one]; rfl
      rw [← this, hk]; rfl
    simpa [List.getElem?_take] using h2
  have hx : ∃ l : List UInt8, l.length = n ∧ ∀ i, i < n → cs[i]? = some (.int .u8 (bv (l.getD i 0))) := by
    have : ∀ k, k ≤ n → ∃ l : List UInt8, l.length = k ∧ ∀ i, i < k → cs[i]? = some (.int .u8 (bv (l.getD i 0))) := by
      intro k
      induction k with
      | zero => intro _; exact ⟨[], rfl, fun i h => by omega⟩
      | succ k ih =>
        intro hk
        obtain ⟨l, hl, hc⟩ := ih (by omega)
        obtain ⟨x, hx⟩ := each k (by omega)
        refine ⟨l ++ [x], by simp [hl], fun i hi => ?_⟩
        by_cases hik : i < k
        · rw [hc i hik]; simp [List.getD, List.getElem?_append_left (show i < l.length by omega)]
        · obtain rfl : i = k := by omega
          rw [hx]; simp [List.getD, ← hl]
    exact this n (Nat.le_refl _)
  obtain ⟨l, hl, hc⟩ := hx
  refine ⟨l, hl, ?_⟩
  congr 1
  apply Array.ext_getElem?
  intro i
  by_cases hin : i < n
  · rw [hc i hin]; simp only [List.getElem?_toArray]; rw [bys_get l i (by omega)]
  · rw [Array.getElem?_eq_none (by omega), List.getElem?_toArray, List.getElem?_eq_none (by rw [bys_length]; omega)]
end
end Go.Proofs.YtnmmnlffobnbfaaGreatDoor
