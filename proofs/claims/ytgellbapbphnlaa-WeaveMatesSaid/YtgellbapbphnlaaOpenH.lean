/- bytes and rows of bytes within an argument, opened -/
import Derived.Test.YtgellbapbphnlaaOpenB
import Derived.ChangeArms
namespace Go.Proofs.Ytgellbapbphnlaa
open Go.ChangeShapes Go.WideShapes Go.ChangeAt Go.RowKit Go.Deep

section
variable {H : Type} {enc : TypeId × Value → H} {P : Program} {w : World} {base b0 fuel : Nat} {spare : Nat → Bool} {held : Bool} {r : Reach} {t e : TypeId} {cs : List Value} {x : DataW H × List MemPlace}
theorem trod_bytes {n : Nat} (ht : P.underlying t = some (.array n e)) (he : P.underlying e = some (.int .u8)) (hce : P.cellsOf e = 1) (hC : P.cellsOf t = n)
    (hf : DataW.trod enc P w base spare held fuel t cs = some x) : ∃ l : List UInt8, l.length = n ∧ cs = bys l := by
  obtain ⟨xs, m, _, _, hl, hxs, hi⟩ := DataW.trod_array ht hf
  have each : ∀ i, i < n → ∃ x : UInt8, cs[i]? = some (.int .u8 (bv x)) := by
    intro i hin
    have h1 := hi i hin
    rw [List.getElem?_eq_getElem (by omega)] at h1
    obtain ⟨k, hk, _, hw⟩ := DataW.trod_int he h1
    obtain ⟨x, rfl⟩ := byte_of hw
    refine ⟨x, ?_⟩
    have h2 : ((cs.drop i).take 1)[0]? = some (.int .u8 (bv x)) := by
      rw [hce, Nat.mul_one] at hk
      rw [hk]; rfl
    simpa [List.getElem?_take] using h2
  have hx : ∃ l : List UInt8, l.length = n ∧ ∀ i, i < n → cs[i]? = some (.int .u8 (bv (l.getD i 0))) := by
    have : ∀ k, k ≤ n → ∃ l : List UInt8, l.length = k ∧ ∀ i, i < k → cs[i]? = some (.int .u8 (bv (l.getD i 0))) := by
      intro k
      induction k with
      | zero => intro _; exact ⟨[], rfl, fun i h => by omega⟩
      | succ k ih =>
        intro hk
        obtain ⟨l, hl, hc⟩ := ih (by omega)
        obtain ⟨x, hx⟩ := each k (by omega)
        refine ⟨l ++ [x], by simp [hl], fun i hi => ?_⟩
        by_cases hik : i < k
        · rw [hc i hik]; simp [List.getD, List.getElem?_append_left (show i < l.length by omega)]
        · obtain rfl : i = k := by omega
          rw [hx]; simp [List.getD, ← hl]
    exact this n (Nat.le_refl _)
  obtain ⟨l, hl', hc⟩ := hx
  refine ⟨l, hl', ?_⟩
  apply List.ext_getElem?
  intro i
  by_cases hin : i < n
  · rw [hc i hin, bys_get l i (by omega)]
  · rw [List.getElem?_eq_none (by omega), List.getElem?_eq_none (by rw [bys_length]; omega)]
end
section
variable {H : Type} {enc : TypeId × Value → H} {w : World} {base b0 fuel : Nat} {spare : Nat → Bool} {held : Bool} {r : Reach}
set_option maxRecDepth 100000 in
theorem trod_rowb {cs : List Value} {x : DataW H × List MemPlace} (hf : DataW.trod enc Try.prog w base spare held fuel 33 cs = some x) :
    ∃ (pa : Option Addr) (l : List UInt8) (cap : Nat), cs = [.slice pa l.length cap] ∧ l.length ≤ cap ∧ cap ≤ maxLen ∧ RowAt w pa l := by
  rcases open_slice1 under33b cells5 hf with ⟨h0, _⟩ | ⟨a', len', cap', m, n, V, D, Pl, e, hb, hl, hm, hmm, _, hx⟩
  · exact ⟨none, [], 0, h0, by simp, by simp, RowAt.nil _ _⟩
  · have hlm : len' ≤ m := by rw [hmm]; split <;> omega
    have each : ∀ i, i < len' → ∃ x : UInt8, w.cell? (a'.add i) = some (.int .u8 (bv x)) := by
      intro i hi
      obtain ⟨h1, h2⟩ := hx i (by omega)
      obtain ⟨k, hk, _, hw⟩ := DataW.trod_int under5r h2
      obtain ⟨x, rfl⟩ := byte_of hw
      refine ⟨x, ?_⟩
      rw [h1, (List.cons.inj hk).1]
    obtain ⟨q, hq⟩ := choose_lt each
    refine ⟨some a', (List.range len').map q, cap', by simpa using e, by simp; omega, hm, fun k hk => ?_⟩
    have hk' : k < len' := by simpa using hk
    have hs := World.cell?_spot (hq 0 (by omega))
    obtain ⟨b, o, spot⟩ := a'
    have hs' : spot = none := by simpa [Addr.add] using hs
    subst hs'
    have h1 := hq k hk'
    rw [Addr.add_mid] at h1
    refine ⟨b, o, rfl, ?_, ?_⟩
    · apply Decidable.byContradiction; intro hge
      have h3 : w.heap[b]? = none := Array.getElem?_eq_none (by omega)
      simp [World.cell?, h3] at h1
    · rw [h1]; simp [List.getD, hk']
end
end Go.Proofs.Ytgellbapbphnlaa
