/- weave: a text as (part of) an argument, opened -/
import Derived.Test.YtgellbapbphnlaaOpenH
import Derived.Test.YtgellbapbphnlaaXc
import Derived.Deep.Slices
namespace Go.Proofs.Ytgellbapbphnlaa
open Go.ChangeShapes Go.WideShapes Go.ChangeAt Go.RowKit Go.Deep

section
variable {H : Type} {enc : TypeId × Value → H} {w : World} {base b0 fuel : Nat} {spare : Nat → Bool} {held : Bool} {r : Reach}
set_option maxRecDepth 100000 in
theorem trod_text {cs : List Value} {x : DataW H × List MemPlace} (hf : DataW.trod enc Try.prog w base spare held fuel 39 cs = some x) :
    ∃ t : TextV, TextOk w t ∧ cs = textc t := by
  obtain ⟨xs, m, _, _, hl, hxs, hi⟩ := DataW.trod_struct Try.underlying39 hf
  have hx4 : xs.length = 5 := hxs
  have h0 := hi 0 _ rfl
  have h1 := hi 1 _ rfl
  have h2 := hi 2 _ rfl
  have h3 := hi 3 _ rfl
  have h4 := hi 4 _ rfl
  rw [List.getElem?_eq_getElem (by omega)] at h0 h1 h2 h3 h4
  obtain ⟨K, hK, e0⟩ := trod_bytes Try.underlying35 Try.underlying5 (by kernel_rfl) (by kernel_rfl) h0
  obtain ⟨long, e1, _⟩ := DataW.trod_bool Try.underlying4 h1
  obtain ⟨iv, hiv, e2⟩ := trod_bytes Try.underlying36 Try.underlying5 (by kernel_rfl) (by kernel_rfl) h2
  obtain ⟨n, e3, _, w3⟩ := DataW.trod_int Try.underlying37 h3
  obtain ⟨pa, a, ca, e4, hca, _, hra⟩ := trod_rowb h4
  have hn : ∃ q : Nat, n = (q : Int) ∧ q < 4294967296 := by
    have ⟨g0, g1⟩ := bounds_u32 w3
    exact ⟨n.toNat, by omega, by omega⟩
  obtain ⟨q, rfl, hq⟩ := hn
  have c0 : Try.prog.cellsOf 35 = 32 := by kernel_rfl
  have c1 : Try.prog.cellsOf 4 = 1 := by kernel_rfl
  have c2 : Try.prog.cellsOf 36 = 16 := by kernel_rfl
  have c3 : Try.prog.cellsOf 37 = 1 := by kernel_rfl
  have c4 : Try.prog.cellsOf 33 = 1 := by kernel_rfl
  have c5 : Try.prog.cellsOf 39 = 51 := by kernel_rfl
  have e0 : cs.take 32 = bys K := by rw [← c0]; exact e0
  have e1 : (cs.drop 32).take 1 = [.bool long] := by rw [← c1]; exact e1
  have e2 : (cs.drop 33).take 16 = bys iv := by rw [← c2]; exact e2
  have e3 : (cs.drop 49).take 1 = [.int .u32 q] := by rw [← c3]; exact e3
  have e4 : (cs.drop 50).take 1 = [.slice pa a.length ca] := by rw [← c4]; exact e4
  rw [c5] at hl
  refine ⟨⟨K, long, iv, q, pa, a, ca⟩, ⟨hK, hiv, hq, hra, hca⟩, ?_⟩
  have d4 : cs.drop 50 = [.slice pa a.length ca] := by rw [← e4]; exact (List.take_of_length_le (by rw [List.length_drop]; omega)).symm
  have d3 : cs.drop 49 = [.int .u32 q, .slice pa a.length ca] := by
    have := List.take_append_drop 1 (cs.drop 49)
    rw [List.drop_drop, e3, d4] at this
    exact this.symm
  have d2 : cs.drop 33 = bys iv ++ [.int .u32 q, .slice pa a.length ca] := by
    have := List.take_append_drop 16 (cs.drop 33)
    rw [List.drop_drop, e2, d3] at this
    exact this.symm
  have d1 : cs.drop 32 = [.bool long] ++ (bys iv ++ [.int .u32 q, .slice pa a.length ca]) := by
    have := List.take_append_drop 1 (cs.drop 32)
    rw [List.drop_drop, e1, d2] at this
    exact this.symm
  unfold textc
  rw [List.append_assoc, List.append_assoc, ← d1, ← e0, List.take_append_drop]
theorem textc_head {x : TextV} (h : TextOk w x) : (textc x)[0]? = some (.int .u8 (bv (x.K.getD 0 0))) := by
  unfold textc
  rw [List.getElem?_append_left (by simp [bys, h.K]; omega), List.getElem?_append_left (by simp [bys, h.K]), List.getElem?_append_left (by rw [bys_length, h.K]; omega), bys_get _ _ (by rw [h.K]; omega)]
instance : Inhabited TextV := ⟨⟨[], false, [], 0, none, [], 0⟩⟩
theorem cells_text : Try.prog.cellsOf 39 = 51 := by kernel_rfl
set_option maxRecDepth 100000 in
theorem open_texts {v : Value} {d : DataW H} {p : List MemPlace} (hv : Value.okWide Try.prog w r b0 22 v) (h : DataW.Trod enc Try.prog w base spare held 22 v d p) :
    ∃ (pa : Option Addr) (l : List TextV) (cap : Nat), v = .slice pa l.length cap ∧ TextsAt w pa l ∧ l.length ≤ maxLen := by
  obtain ⟨a, len, cap, rfl⟩ := okWide_slice Try.underlying22 hv
  obtain ⟨fuel, hf⟩ := h
  rcases open_slice Try.underlying22 hf with ⟨h0, _⟩ | ⟨a', len', cap', m, n, D, Pl, e, hb, hl, hm, hmm, _, hx⟩
  · have h0' : [Value.slice a len cap] = [Value.slice none 0 0] := h0
    simp only [List.cons.injEq, Value.slice.injEq, and_true] at h0'
    obtain ⟨rfl, rfl, rfl⟩ := h0'
    exact ⟨none, [], 0, rfl, fun k hk => by simp at hk, by simp⟩
  · have e' : [Value.slice a len cap] = [Value.slice (some a') len' cap'] := e
    simp only [List.cons.injEq, Value.slice.injEq, and_true] at e'
    obtain ⟨rfl, rfl, rfl⟩ := e'
    have hlm : len ≤ m := by rw [hmm]; split <;> omega
    have each : ∀ i, i < len → ∃ x : TextV, TextOk w x ∧ ∀ j, j < 51 → w.cell? ((a'.add (i * 51)).add j) = (textc x)[j]? := by
      intro i hi
      obtain ⟨cs', h1, h2⟩ := hx i (by omega)
      rw [cells_text] at h1
      obtain ⟨_, hlen, hcell⟩ := World.cells?_some h1
      obtain ⟨t, ht, rfl⟩ := trod_text h2
      exact ⟨t, ht, fun j hj => hcell j hj⟩
    obtain ⟨q, hq⟩ := choose_lt each
    refine ⟨some a', (List.range len).map q, cap, by simp, fun k hk => ?_, by simp; omega⟩
    have hk' : k < len := by simpa using hk
    obtain ⟨hok, h1⟩ := hq k hk'
    have hs := World.cell?_spot (v := .int .u8 (bv ((q 0).K.getD 0 0))) (by rw [(hq 0 (by omega)).2 0 (by omega)]; exact textc_head (hq 0 (by omega)).1)
    obtain ⟨b, o, spot⟩ := a'
    have hs' : spot = none := by simpa [Addr.add] using hs
    subst hs'
    have he : ((List.range len).map q)[k] = q k := by simp
    rw [he]
    refine ⟨hok, b, o, rfl, ?_, fun j hj => ?_⟩
    · have h2 := h1 32 (by omega)
      rw [Addr.add_mid, Addr.add_mid, textc_long hok] at h2
      apply Decidable.byContradiction; intro hge
      have h3 : w.heap[b]? = none := Array.getElem?_eq_none (by omega)
      simp [World.cell?, h3] at h2
    · have h2 := h1 j hj
      rw [Addr.add_mid, Addr.add_mid] at h2
      exact h2
end
end Go.Proofs.Ytgellbapbphnlaa
