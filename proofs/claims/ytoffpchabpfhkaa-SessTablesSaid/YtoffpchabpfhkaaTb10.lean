/- sess: the numbers of handles are small -/
import Derived.Test.YtoffpchabpfhkaaTb7
import Derived.Test.YtoffpchabpfhkaaTb8
namespace Go.Proofs.Ytoffpchabpfhkaa

theorem isTold_small {st : List Pl} {n k : Nat} {h : Int} (hn : n ≤ 64) (hk : k ≤ 100) (hc : ∀ j, j < n → cl st j ≤ k) (ht : isTold st n h) : 0 ≤ h ∧ h ≤ 1000000 := by
  obtain ⟨j, q, hj, e, hq⟩ := ht
  have h1 : q ≤ 100 := by have := hc j hj; omega
  have h2 : n * q ≤ 64 * 100 := Nat.mul_le_mul hn h1
  omega
theorem handF_range (x : ActV) (told : List Int) (hx : -9223372036854775808 ≤ x.h ∧ x.h ≤ 9223372036854775807) (ht : ∀ h ∈ told, 0 ≤ h ∧ h ≤ 1000000) : -9223372036854775808 ≤ handF x told ∧ handF x told ≤ 9223372036854775807 := by
  unfold handF
  split
  · exact hx
  · generalize ((x.h.tmod told.length + told.length).tmod told.length).toNat = i
    by_cases hi : i < told.length
    · rw [List.getD, List.getElem?_eq_getElem hi]
      have := ht _ (List.getElem_mem hi)
      simp only [Option.getD_some]
      omega
    · rw [List.getD, List.getElem?_eq_none (by omega)]
      decide
end Go.Proofs.Ytoffpchabpfhkaa
