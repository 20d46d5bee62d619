/- a slice of slices of bytes as an argument, opened -/
import Derived.Test.YtlgeebnmonmdaaaOpenT
import Derived.Test.YtlgeebnmonmdaaaLParts
namespace Go.Proofs.Ytlgeebnmonmdaaa
open Go.ChangeShapes Go.WideShapes Go.ChangeAt Go.RowKit Go.Deep
section
variable {H : Type} {enc : TypeId × Value → H} {w : World} {base b0 fuel : Nat} {spare : Nat → Bool} {held : Bool} {r : Reach}
theorem under_rows : Try.prog.underlying 42 = some (.slice 26) := by kernel_rfl
theorem cells_row1 : Try.prog.cellsOf 26 = 1 := by kernel_rfl
set_option maxRecDepth 100000 in
theorem open_rows {v : Value} {d : DataW H} {p : List MemPlace} (hv : Value.okWide Try.prog w r b0 42 v) (h : DataW.Trod enc Try.prog w base spare held 42 v d p) :
    ∃ (pl : Option Addr) (L : List (List UInt8)) (cap : Nat), v = .slice pl L.length cap ∧ RowsAt w w.heap.size pl L := by
  obtain ⟨a, len, cap, rfl⟩ := okWide_slice under_rows hv
  obtain ⟨fuel, hf⟩ := h
  rcases open_slice1 under_rows cells_row1 hf with ⟨h0, _⟩ | ⟨a', len', cap', m, n, V, D, Pl, e, hb, hl, hm, hmm, _, hx⟩
  · have h0' : [Value.slice a len cap] = [Value.slice none 0 0] := h0
    simp only [List.cons.injEq, Value.slice.injEq, and_true] at h0'
    obtain ⟨rfl, rfl, rfl⟩ := h0'
    exact ⟨none, [], 0, rfl, fun j hj => by simp at hj⟩
  · have e' : [Value.slice a len cap] = [Value.slice (some a') len' cap'] := e
    simp only [List.cons.injEq, Value.slice.injEq, and_true] at e'
    obtain ⟨rfl, rfl, rfl⟩ := e'
    have hlm : len ≤ m := by rw [hmm]; split <;> omega
    have each : ∀ i, i < len → ∃ t : Option Addr × List UInt8 × Nat, w.cell? (a'.add i) = some (.slice t.1 t.2.1.length t.2.2) ∧ t.2.1.length ≤ t.2.2 ∧ RowAt w t.1 t.2.1 := by
      intro i hi
      obtain ⟨h1, h2⟩ := hx i (by omega)
      obtain ⟨pj, l, cj, hk, hlc, _, hr⟩ := trod_rowb h2
      refine ⟨⟨pj, l, cj⟩, ?_, hlc, hr⟩
      rw [h1, (List.cons.inj hk).1]
    obtain ⟨q, hq⟩ := choose_lt each
    refine ⟨some a', (List.range len).map fun i => (q i).2.1, cap, by simp, fun k hk => ?_⟩
    have hk' : k < len := by simpa using hk
    have hs := World.cell?_spot (hq 0 (by omega)).1
    obtain ⟨b, o, spot⟩ := a'
    have hs' : spot = none := by simpa [Addr.add] using hs
    subst hs'
    obtain ⟨h1, h2, h3⟩ := hq k hk'
    rw [Addr.add_mid] at h1
    have hg : ((List.range len).map fun i => (q i).2.1).getD k [] = (q k).2.1 := by simp [List.getD, hk']
    rw [hg]
    refine ⟨b, o, (q k).1, (q k).2.2, rfl, ?_, h1, h2, h3, h3.pos⟩
    apply Decidable.byContradiction; intro hge
    have h3 : w.heap[b]? = none := Array.getElem?_eq_none (by omega)
    simp [World.cell?, h3] at h1
end
end Go.Proofs.Ytlgeebnmonmdaaa
