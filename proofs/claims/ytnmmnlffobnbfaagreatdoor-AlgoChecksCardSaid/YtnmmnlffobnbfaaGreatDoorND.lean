/- Row · Door · OpenB · OpenL (joined by merge4.py) -/
import Derived.Test.YtnmmnlffobnbfaaGreatDoorMD
import Derived.ProofKit
import Derived.OpenShut
import Derived.Test.YtnmmnlffobnbfaaGreatDoorRows
import Derived.LaidMore
import Derived.Stop.Joined
import Derived.Deep.Slices
import Derived.ChangeArms
import Derived.Test.YtnmmnlffobnbfaaGreatDoorMF
/- what the rows' proofs share: arguments opened -/
namespace Go.Proofs.YtnmmnlffobnbfaaGreatDoor
open Go.ChangeShapes Go.WideShapes Go.ChangeAt Go.RowKit

theorem Tryz.own : ownKnob Tryz.prog.godebug = none := by kernel_rfl
theorem Tryz.laidOut : laidOutB Tryz.prog = true := by kernel_rfl

section
variable {H : Type} {enc : TypeId × Value → H} {P : Program} {w : World} {base b0 : Nat} {spare : Nat → Bool} {held : Bool} {r : Reach} {t e : TypeId}
theorem byte_of {n : Int} (h : (Lit.int .u8 n).wf = true) : ∃ x : UInt8, n = bv x := by
  have ⟨h0, h1⟩ := bounds_u8 h
  exact ⟨UInt8.ofNat n.toNat, by unfold bv; simp; omega⟩
theorem okWide_array {n : Nat} (ht : P.underlying t = some (.array n e)) {v : Value} (h : Value.okWide P w r b0 t v) : ∃ cs, v = .agg cs ∧ cs.size = P.cellsOf t := by
  simp only [Value.okWide, ht] at h
  obtain ⟨cs, h1, h2, _⟩ := h
  exact ⟨cs, h1, h2⟩
theorem open_bytes {n : Nat} (ht : P.underlying t = some (.array n e)) (he : P.underlying e = some (.int .u8)) (hce : P.cellsOf e = 1) (hC : P.cellsOf t = n) {v : Value} {d : DataW H} {p : List MemPlace}
    (hv : Value.okWide P w r b0 t v) (h : DataW.Trod enc P w base spare held t v d p) : ∃ l : List UInt8, l.length = n ∧ v = .agg (bys l).toArray := by
  obtain ⟨cs, rfl, hsz⟩ := okWide_array ht hv
  obtain ⟨fuel, hf⟩ := h
  obtain ⟨xs, m, _, _, hl, hxs, hi⟩ := DataW.trod_array ht hf
  have each : ∀ i, i < n → ∃ x : UInt8, cs[i]? = some (.int .u8 (bv x)) := by
    intro i hin
    have h1 := hi i hin
    rw [List.getElem?_eq_getElem (by omega)] at h1
    obtain ⟨k, hk, _, hw⟩ := DataW.trod_int he h1
    obtain ⟨x, rfl⟩ := byte_of hw
    refine ⟨x, ?_⟩
    have h2 : ((cs.toList.drop i).take 1)[0]? = some (.int .u8 (bv x)) := by
      have : ((Value.agg cs).cells.toList.drop (i * P.cellsOf e)).take (P.cellsOf e) = (cs.toList.drop i).take 1 := by rw [hce, Nat.mul_one]; rfl
      rw [← this, hk]; rfl
    simpa [List.getElem?_take] using h2
  have hx : ∃ l : List UInt8, l.length = n ∧ ∀ i, i < n → cs[i]? = some (.int .u8 (bv (l.getD i 0))) := by
    have : ∀ k, k ≤ n → ∃ l : List UInt8, l.length = k ∧ ∀ i, i < k → cs[i]? = some (.int .u8 (bv (l.getD i 0))) := by
      intro k
      induction k with
      | zero => intro _; exact ⟨[], rfl, fun i h => by omega⟩
      | succ k ih =>
        intro hk
        obtain ⟨l, hl, hc⟩ := ih (by omega)
        obtain ⟨x, hx⟩ := each k (by omega)
        refine ⟨l ++ [x], by simp [hl], fun i hi => ?_⟩
        by_cases hik : i < k
        · rw [hc i hik]; simp [List.getD, List.getElem?_append_left (show i < l.length by omega)]
        · obtain rfl : i = k := by omega
          rw [hx]; simp [List.getD, ← hl]
    exact this n (Nat.le_refl _)
  obtain ⟨l, hl, hc⟩ := hx
  refine ⟨l, hl, ?_⟩
  congr 1
  apply Array.ext_getElem?
  intro i
  by_cases hin : i < n
  · rw [hc i hin]; simp only [List.getElem?_toArray]; rw [bys_get l i (by omega)]
  · rw [Array.getElem?_eq_none (by omega), List.getElem?_toArray, List.getElem?_eq_none (by rw [bys_length]; omega)]
end
end Go.Proofs.YtnmmnlffobnbfaaGreatDoor

/- what the door lays: the table of SHA-256's rounds -/
namespace Go.Proofs.YtnmmnlffobnbfaaGreatDoor
open Go.ChangeShapes Go.WideShapes Go.ChangeAt Go.WideMaps Go.WideElems Go.RowKit

abbrev laidL {H : Type} : List (String × DataW H) := [("palfrey/sha.rounds", Rows.laid_palfrey_sha_rounds)]
theorem door_met (os : Os) (args : Array Value) : laidMetH Tryz.prog laidL ((World.doorLaid Tryz.prog 14 os).forCall (fun _ _ => 0) ⟨#[], args, []⟩).memory :=
  laidMetH_of_parts3 (fuel := 8) (laidMet_of_run' 8 (by kernel_rfl) (by kernel_rfl)) (by kernel_rfl) (by kernel_rfl)
end Go.Proofs.YtnmmnlffobnbfaaGreatDoor

/- a slice of bytes as an argument, opened -/
namespace Go.Proofs.YtnmmnlffobnbfaaGreatDoor
open Go.ChangeShapes Go.WideShapes Go.ChangeAt Go.RowKit Go.Deep

section
variable {H : Type} {enc : TypeId × Value → H} {w : World} {base b0 : Nat} {spare : Nat → Bool} {held : Bool} {r : Reach}
theorem cells5 : Tryz.prog.cellsOf 5 = 1 := by kernel_rfl
theorem under5r : Tryz.prog.underlying 5 = some (.int .u8) := by kernel_rfl
set_option maxRecDepth 100000 in
theorem open_rowb {v : Value} {d : DataW H} {p : List MemPlace} (hv : Value.okWide Tryz.prog w r b0 23 v) (h : DataW.Trod enc Tryz.prog w base spare held 23 v d p) :
    ∃ (pa : Option Addr) (l : List UInt8) (cap : Nat), v = .slice pa l.length cap ∧ l.length ≤ cap ∧ cap ≤ maxLen ∧ RowAt w pa l := by
  obtain ⟨a, len, cap, rfl⟩ := okWide_slice under33b hv
  obtain ⟨fuel, hf⟩ := h
  rcases open_slice1 under33b cells5 hf with ⟨h0, _⟩ | ⟨a', len', cap', m, n, V, D, Pl, e, hb, hl, hm, hmm, _, hx⟩
  · have h0' : [Value.slice a len cap] = [Value.slice none 0 0] := h0
    simp only [List.cons.injEq, Value.slice.injEq, and_true] at h0'
    obtain ⟨rfl, rfl, rfl⟩ := h0'
    exact ⟨none, [], 0, rfl, by simp, by simp, RowAt.nil _ _⟩
  · have e' : [Value.slice a len cap] = [Value.slice (some a') len' cap'] := e
    simp only [List.cons.injEq, Value.slice.injEq, and_true] at e'
    obtain ⟨rfl, rfl, rfl⟩ := e'
    have hlm : len ≤ m := by rw [hmm]; split <;> omega
    have each : ∀ i, i < len → ∃ x : UInt8, w.cell? (a'.add i) = some (.int .u8 (bv x)) := by
      intro i hi
      obtain ⟨h1, h2⟩ := hx i (by omega)
      obtain ⟨k, hk, _, hw⟩ := DataW.trod_int under5r h2
      obtain ⟨x, rfl⟩ := byte_of hw
      refine ⟨x, ?_⟩
      rw [h1, (List.cons.inj hk).1]
    obtain ⟨q, hq⟩ := choose_lt each
    refine ⟨some a', (List.range len).map q, cap, by simp, by simp; omega, hm, fun k hk => ?_⟩
    have hk' : k < len := by simpa using hk
    have hs := World.cell?_spot (hq 0 (by omega))
    obtain ⟨b, o, spot⟩ := a'
    have hs' : spot = none := by simpa [Addr.add] using hs
    subst hs'
    have h1 := hq k hk'
    rw [Addr.add_mid] at h1
    refine ⟨b, o, rfl, ?_, ?_⟩
    · apply Decidable.byContradiction; intro hge
      have h3 : w.heap[b]? = none := Array.getElem?_eq_none (by omega)
      simp [World.cell?, h3] at h1
    · rw [h1]; simp [List.getD, hk']
end
end Go.Proofs.YtnmmnlffobnbfaaGreatDoor

/- a slice of slices of bytes as an argument, opened -/
namespace Go.Proofs.YtnmmnlffobnbfaaGreatDoor
open Go.ChangeShapes Go.WideShapes Go.ChangeAt Go.RowKit Go.Deep
/-- A slice of slices of bytes. -/
def RowsAt (w : World) (N : Nat) (pl : Option Addr) (L : List (List UInt8)) : Prop := ∀ j, j < L.length → ∃ b o pj cj, pl = some ⟨b, o, none⟩ ∧ b < w.heap.size ∧ w.cell? ⟨b, o + j, none⟩ = some (.slice pj (L.getD j []).length cj) ∧ (L.getD j []).length ≤ cj ∧ RowAt w pj (L.getD j []) ∧ (0 < (L.getD j []).length → ∀ a, pj = some a → a.block < N)
theorem RowsAt.chg {w w' : World} {pl : Option Addr} {L : List (List UInt8)} {N M sb : Nat} (h : RowsAt w M pl L) (hc : Chg N [sb] w w') (hN : w.heap.size ≤ N) (hs : w.heap.size ≤ sb) : RowsAt w' M pl L := fun j hj => by
  obtain ⟨b, o, pj, cj, e, hb, hcell, hl, hr, hlo⟩ := h j hj
  refine ⟨b, o, pj, cj, e, Nat.lt_of_lt_of_le hb hc.size, ?_, hl, hr.chg2 hc hN (fun h0 a ea => by have := hr.pos h0 a ea; simp; omega), hlo⟩
  have hbl := hc.block b (by omega) (by simp; omega)
  have e : w'.cell? ⟨b, o + j, none⟩ = w.cell? ⟨b, o + j, none⟩ := by simp [World.cell?, hbl]
  rw [e]; exact hcell
theorem RowsAt.below {w w' : World} {M : Nat} {pl : Option Addr} {L : List (List UInt8)} (h : RowsAt w M pl L) (hB : Below w.heap.size w w') : RowsAt w' M pl L :=
  h.chg (N := w.heap.size) (sb := w.heap.size) (Chg.ofBelow hB) (Nat.le_refl _) (Nat.le_refl _)
section
variable {H : Type} {enc : TypeId × Value → H} {w : World} {base b0 fuel : Nat} {spare : Nat → Bool} {held : Bool} {r : Reach}
set_option maxRecDepth 100000 in
theorem trod_rowL {cs : List Value} {x : DataW H × List MemPlace} (hf : DataW.trod enc Tryz.prog w base spare held fuel 23 cs = some x) :
    ∃ (pa : Option Addr) (l : List UInt8) (cap : Nat), cs = [.slice pa l.length cap] ∧ l.length ≤ cap ∧ cap ≤ maxLen ∧ RowAt w pa l := by
  rcases open_slice1 under33b cells5 hf with ⟨h0, _⟩ | ⟨a', len', cap', m, n, V, D, Pl, e, hb, hl, hm, hmm, _, hx⟩
  · exact ⟨none, [], 0, h0, by simp, by simp, RowAt.nil _ _⟩
  · have hlm : len' ≤ m := by rw [hmm]; split <;> omega
    have each : ∀ i, i < len' → ∃ x : UInt8, w.cell? (a'.add i) = some (.int .u8 (bv x)) := by
      intro i hi
      obtain ⟨h1, h2⟩ := hx i (by omega)
      obtain ⟨k, hk, _, hw⟩ := DataW.trod_int under5r h2
      obtain ⟨x, rfl⟩ := byte_of hw
      refine ⟨x, ?_⟩
      rw [h1, (List.cons.inj hk).1]
    obtain ⟨q, hq⟩ := choose_lt each
    refine ⟨some a', (List.range len').map q, cap', by simpa using e, by simp; omega, hm, fun k hk => ?_⟩
    have hk' : k < len' := by simpa using hk
    have hs := World.cell?_spot (hq 0 (by omega))
    obtain ⟨b, o, spot⟩ := a'
    have hs' : spot = none := by simpa [Addr.add] using hs
    subst hs'
    have h1 := hq k hk'
    rw [Addr.add_mid] at h1
    refine ⟨b, o, rfl, ?_, ?_⟩
    · apply Decidable.byContradiction; intro hge
      have h3 : w.heap[b]? = none := Array.getElem?_eq_none (by omega)
      simp [World.cell?, h3] at h1
    · rw [h1]; simp [List.getD, hk']
theorem under_rows : Tryz.prog.underlying 22 = some (.slice 23) := by kernel_rfl
theorem cells_row1 : Tryz.prog.cellsOf 23 = 1 := by kernel_rfl
set_option maxRecDepth 100000 in
theorem open_rows {v : Value} {d : DataW H} {p : List MemPlace} (hv : Value.okWide Tryz.prog w r b0 22 v) (h : DataW.Trod enc Tryz.prog w base spare held 22 v d p) :
    ∃ (pl : Option Addr) (L : List (List UInt8)) (cap : Nat), v = .slice pl L.length cap ∧ RowsAt w w.heap.size pl L := by
  obtain ⟨a, len, cap, rfl⟩ := okWide_slice under_rows hv
  obtain ⟨fuel, hf⟩ := h
  rcases open_slice1 under_rows cells_row1 hf with ⟨h0, _⟩ | ⟨a', len', cap', m, n, V, D, Pl, e, hb, hl, hm, hmm, _, hx⟩
  · have h0' : [Value.slice a len cap] = [Value.slice none 0 0] := h0
    simp only [List.cons.injEq, Value.slice.injEq, and_true] at h0'
    obtain ⟨rfl, rfl, rfl⟩ := h0'
    exact ⟨none, [], 0, rfl, fun j hj => by simp at hj⟩
  · have e' : [Value.slice a len cap] = [Value.slice (some a') len' cap'] := e
    simp only [List.cons.injEq, Value.slice.injEq, and_true] at e'
    obtain ⟨rfl, rfl, rfl⟩ := e'
    have hlm : len ≤ m := by rw [hmm]; split <;> omega
    have each : ∀ i, i < len → ∃ t : Option Addr × List UInt8 × Nat, w.cell? (a'.add i) = some (.slice t.1 t.2.1.length t.2.2) ∧ t.2.1.length ≤ t.2.2 ∧ RowAt w t.1 t.2.1 := by
      intro i hi
      obtain ⟨h1, h2⟩ := hx i (by omega)
      obtain ⟨pj, l, cj, hk, hlc, _, hr⟩ := trod_rowL h2
      refine ⟨⟨pj, l, cj⟩, ?_, hlc, hr⟩
      rw [h1, (List.cons.inj hk).1]
    obtain ⟨q, hq⟩ := choose_lt each
    refine ⟨some a', (List.range len).map fun i => (q i).2.1, cap, by simp, fun k hk => ?_⟩
    have hk' : k < len := by simpa using hk
    have hs := World.cell?_spot (hq 0 (by omega)).1
    obtain ⟨b, o, spot⟩ := a'
    have hs' : spot = none := by simpa [Addr.add] using hs
    subst hs'
    obtain ⟨h1, h2, h3⟩ := hq k hk'
    rw [Addr.add_mid] at h1
    have hg : ((List.range len).map fun i => (q i).2.1).getD k [] = (q k).2.1 := by simp [List.getD, hk']
    rw [hg]
    refine ⟨b, o, (q k).1, (q k).2.2, rfl, ?_, h1, h2, h3, h3.pos⟩
    apply Decidable.byContradiction; intro hge
    have h3 : w.heap[b]? = none := Array.getElem?_eq_none (by omega)
    simp [World.cell?, h3] at h1
end
end Go.Proofs.YtnmmnlffobnbfaaGreatDoor
