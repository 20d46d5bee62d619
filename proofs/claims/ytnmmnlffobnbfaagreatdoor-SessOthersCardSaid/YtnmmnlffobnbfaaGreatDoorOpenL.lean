/- a slice of slices of bytes as an argument, opened -/
import Derived.Test.YtnmmnlffobnbfaaGreatDoorOpenB
import Derived.Test.YtnmmnlffobnbfaaGreatDoorPs
namespace Go.Proofs.YtnmmnlffobnbfaaGreatDoor
open Go.ChangeShapes Go.WideShapes Go.ChangeAt Go.RowKit Go.Deep
/-- A slice of slices of bytes. -/
def RowsAt (w : World) (N : Nat) (pl : Option Addr) (L : List (List UInt8)) : Prop := ∀ j, j < L.length → ∃ b o pj cj, pl = some ⟨b, o, none⟩ ∧ b < w.heap.size ∧ w.cell? ⟨b, o + j, none⟩ = some (.slice pj (L.getD j []).length cj) ∧ (L.getD j []).length ≤ cj ∧ RowAt w pj (L.getD j []) ∧ (0 < (L.getD j []).length → ∀ a, pj = some a → a.block < N)
theorem RowsAt.chg {w w' : World} {pl : Option Addr} {L : List (List UInt8)} {N M sb : Nat} (h : RowsAt w M pl L) (hc : Chg N [sb] w w') (hN : w.heap.size ≤ N) (hs : w.heap.size ≤ sb) : RowsAt w' M pl L := fun j hj => by
  obtain ⟨b, o, pj, cj, e, hb, hcell, hl, hr, hlo⟩ := h j hj
  refine ⟨b, o, pj, cj, e, Nat.lt_of_lt_of_le hb hc.size, ?_, hl, hr.chg2 hc hN (fun h0 a ea => by have := hr.pos h0 a ea; simp; omega), hlo⟩
  have hbl := hc.block b (by omega) (by simp; omega)
  have e : w'.cell? ⟨b, o + j, none⟩ = w.cell? ⟨b, o + j, none⟩ := by simp [World.cell?, hbl]
  rw [e]; exact hcell
theorem RowsAt.below {w w' : World} {M : Nat} {pl : Option Addr} {L : List (List UInt8)} (h : RowsAt w M pl L) (hB : Below w.heap.size w w') : RowsAt w' M pl L :=
  h.chg (N := w.heap.size) (sb := w.heap.size) (Chg.ofBelow hB) (Nat.le_refl _) (Nat.le_refl _)
section
variable {H : Type} {enc : TypeId × Value → H} {w : World} {base b0 fuel : Nat} {spare : Nat → Bool} {held : Bool} {r : Reach}
set_option maxRecDepth 100000 in
theorem trod_rowL {cs : List Value} {x : DataW H × List MemPlace} (hf : DataW.trod enc Tryz.prog w base spare held fuel 23 cs = some x) :
    ∃ (pa : Option Addr) (l : List UInt8) (cap : Nat), cs = [.slice pa l.length cap] ∧ l.length ≤ cap ∧ cap ≤ maxLen ∧ RowAt w pa l := by
  rcases open_slice1 under33b cells5 hf with ⟨h0, _⟩ | ⟨a', len', cap', m, n, V, D, Pl, e, hb, hl, hm, hmm, _, hx⟩
  · exact ⟨none, [], 0, h0, by simp, by simp, RowAt.nil _ _⟩
  · have hlm : len' ≤ m := by rw [hmm]; split <;> omega
    have each : ∀ i, i < len' → ∃ x : UInt8, w.cell? (a'.add i) = some (.int .u8 (bv x)) := by
      intro i hi
      obtain ⟨h1, h2⟩ := hx i (by omega)
      obtain ⟨k, hk, _, hw⟩ := DataW.trod_int under5r h2
      obtain ⟨x, rfl⟩ := byte_of hw
      refine ⟨x, ?_⟩
      rw [h1, (List.cons.inj hk).1]
    obtain ⟨q, hq⟩ := choose_lt each
    refine ⟨some a', (List.range len').map q, cap', by simpa using e, by simp; omega, hm, fun k hk => ?_⟩
    have hk' : k < len' := by simpa using hk
    have hs := World.cell?_spot (hq 0 (by omega))
    obtain ⟨b, o, spot⟩ := a'
    have hs' : spot = none := by simpa [Addr.add] using hs
    subst hs'
    have h1 := hq k hk'
    rw [Addr.add_mid] at h1
    refine ⟨b, o, rfl, ?_, ?_⟩
    · apply Decidable.byContradiction; intro hge
      have h3 : w.heap[b]? = none := Array.getElem?_eq_none (by omega)
      simp [World.cell?, h3] at h1
    · rw [h1]; simp [List.getD, hk']
theorem under_rows : Tryz.prog.underlying 22 = some (.slice 23) := by kernel_rfl
theorem cells_row1 : Tryz.prog.cellsOf 23 = 1 := by kernel_rfl
set_option maxRecDepth 100000 in
theorem open_rows {v : Value} {d : DataW H} {p : List MemPlace} (hv : Value.okWide Tryz.prog w r b0 22 v) (h : DataW.Trod enc Tryz.prog w base spare held 22 v d p) :
    ∃ (pl : Option Addr) (L : List (List UInt8)) (cap : Nat), v = .slice pl L.length cap ∧ RowsAt w w.heap.size pl L := by
  obtain ⟨a, len, cap, rfl⟩ := okWide_slice under_rows hv
  obtain ⟨fuel, hf⟩ := h
  rcases open_slice1 under_rows cells_row1 hf with ⟨h0, _⟩ | ⟨a', len', cap', m, n, V, D, Pl, e, hb, hl, hm, hmm, _, hx⟩
  · have h0' : [Value.slice a len cap] = [Value.slice none 0 0] := h0
    simp only [List.cons.injEq, Value.slice.injEq, and_true] at h0'
    obtain ⟨rfl, rfl, rfl⟩ := h0'
    exact ⟨none, [], 0, rfl, fun j hj => by simp at hj⟩
  · have e' : [Value.slice a len cap] = [Value.slice (some a') len' cap'] := e
    simp only [List.cons.injEq, Value.slice.injEq, and_true] at e'
    obtain ⟨rfl, rfl, rfl⟩ := e'
    have hlm : len ≤ m := by rw [hmm]; split <;> omega
    have each : ∀ i, i < len → ∃ t : Option Addr × List UInt8 × Nat, w.cell? (a'.add i) = some (.slice t.1 t.2.1.length t.2.2) ∧ t.2.1.length ≤ t.2.2 ∧ RowAt w t.1 t.2.1 := by
      intro i hi
      obtain ⟨h1, h2⟩ := hx i (by omega)
      obtain ⟨pj, l, cj, hk, hlc, _, hr⟩ := trod_rowL h2
      refine ⟨⟨pj, l, cj⟩, ?_, hlc, hr⟩
      rw [h1, (List.cons.inj hk).1]
    obtain ⟨q, hq⟩ := choose_lt each
    refine ⟨some a', (List.range len).map fun i => (q i).2.1, cap, by simp, fun k hk => ?_⟩
    have hk' : k < len := by simpa using hk
    have hs := World.cell?_spot (hq 0 (by omega)).1
    obtain ⟨b, o, spot⟩ := a'
    have hs' : spot = none := by simpa [Addr.add] using hs
    subst hs'
    obtain ⟨h1, h2, h3⟩ := hq k hk'
    rw [Addr.add_mid] at h1
    have hg : ((List.range len).map fun i => (q i).2.1).getD k [] = (q k).2.1 := by simp [List.getD, hk']
    rw [hg]
    refine ⟨b, o, (q k).1, (q k).2.2, rfl, ?_, h1, h2, h3, h3.pos⟩
    apply Decidable.byContradiction; intro hge
    have h3 : w.heap[b]? = none := Array.getElem?_eq_none (by omega)
    simp [World.cell?, h3] at h1
end
end Go.Proofs.YtnmmnlffobnbfaaGreatDoor
