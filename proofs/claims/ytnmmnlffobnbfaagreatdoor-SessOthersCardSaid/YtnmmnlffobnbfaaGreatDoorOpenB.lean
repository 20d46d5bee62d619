/- a slice of bytes as an argument, opened -/
import Derived.Test.YtnmmnlffobnbfaaGreatDoorRow
import Derived.Deep.Slices
import Derived.ChangeArms
namespace Go.Proofs.YtnmmnlffobnbfaaGreatDoor
open Go.ChangeShapes Go.WideShapes Go.ChangeAt Go.RowKit Go.Deep

section
variable {H : Type} {enc : TypeId × Value → H} {w : World} {base b0 : Nat} {spare : Nat → Bool} {held : Bool} {r : Reach}
theorem cells5 : Tryz.prog.cellsOf 5 = 1 := by kernel_rfl
theorem under5r : Tryz.prog.underlying 5 = some (.int .u8) := by kernel_rfl
set_option maxRecDepth 100000 in
theorem open_rowb {v : Value} {d : DataW H} {p : List MemPlace} (hv : Value.okWide Tryz.prog w r b0 23 v) (h : DataW.Trod enc Tryz.prog w base spare held 23 v d p) :
    ∃ (pa : Option Addr) (l : List UInt8) (cap : Nat), v = .slice pa l.length cap ∧ l.length ≤ cap ∧ cap ≤ maxLen ∧ RowAt w pa l := by
  obtain ⟨a, len, cap, rfl⟩ := okWide_slice under33b hv
  obtain ⟨fuel, hf⟩ := h
  rcases open_slice1 under33b cells5 hf with ⟨h0, _⟩ | ⟨a', len', cap', m, n, V, D, Pl, e, hb, hl, hm, hmm, _, hx⟩
  · have h0' : [Value.slice a len cap] = [Value.slice none 0 0] := h0
    simp only [List.cons.injEq, Value.slice.injEq, and_true] at h0'
    obtain ⟨rfl, rfl, rfl⟩ := h0'
    exact ⟨none, [], 0, rfl, by simp, by simp, RowAt.nil _ _⟩
  · have e' : [Value.slice a len cap] = [Value.slice (some a') len' cap'] := e
    simp only [List.cons.injEq, Value.slice.injEq, and_true] at e'
    obtain ⟨rfl, rfl, rfl⟩ := e'
    have hlm : len ≤ m := by rw [hmm]; split <;> omega
    have each : ∀ i, i < len → ∃ x : UInt8, w.cell? (a'.add i) = some (.int .u8 (bv x)) := by
      intro i hi
      obtain ⟨h1, h2⟩ := hx i (by omega)
      obtain ⟨k, hk, _, hw⟩ := DataW.trod_int under5r h2
      obtain ⟨x, rfl⟩ := byte_of hw
      refine ⟨x, ?_⟩
      rw [h1, (List.cons.inj hk).1]
    obtain ⟨q, hq⟩ := choose_lt each
    refine ⟨some a', (List.range len).map q, cap, by simp, by simp; omega, hm, fun k hk => ?_⟩
    have hk' : k < len := by simpa using hk
    have hs := World.cell?_spot (hq 0 (by omega))
    obtain ⟨b, o, spot⟩ := a'
    have hs' : spot = none := by simpa [Addr.add] using hs
    subst hs'
    have h1 := hq k hk'
    rw [Addr.add_mid] at h1
    refine ⟨b, o, rfl, ?_, ?_⟩
    · apply Decidable.byContradiction; intro hge
      have h3 : w.heap[b]? = none := Array.getElem?_eq_none (by omega)
      simp [World.cell?, h3] at h1
    · rw [h1]; simp [List.getD, hk']
end
end Go.Proofs.YtnmmnlffobnbfaaGreatDoor
