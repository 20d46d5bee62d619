/- the acts as an argument, opened -/
import Derived.Test.YtoffpchabpfhkaaRow
import Derived.Test.YtoffpchabpfhkaaTb6
import Derived.Deep.Slices
import Derived.ChangeArms
namespace Go.Proofs.Ytoffpchabpfhkaa
open Go.ChangeShapes Go.WideShapes Go.ChangeAt Go.RowKit Go.Deep

instance : Inhabited ActV := ⟨⟨0, 0, false, 0, none, 0, 0⟩⟩
abbrev tActs : TypeId := 22
abbrev tAct : TypeId := 35
section
variable {H : Type} {enc : TypeId × Value → H} {w : World} {base b0 : Nat} {spare : Nat → Bool} {held : Bool} {r : Reach}
theorem cells_act : Try.prog.cellsOf tAct = 5 := by kernel_rfl
theorem cells_u8 : Try.prog.cellsOf 5 = 1 := by kernel_rfl
theorem cells_int : Try.prog.cellsOf 3 = 1 := by kernel_rfl
theorem cells_bool : Try.prog.cellsOf 4 = 1 := by kernel_rfl
theorem cells_bytes : Try.prog.cellsOf 33 = 1 := by kernel_rfl
theorem at5 {α : Type} {xs : List α} (h : xs.length = 5) (i : Nat) (hi : i < 5) : ∃ x, xs[i]? = some x := ⟨_, List.getElem?_eq_getElem (by omega)⟩
set_option maxRecDepth 100000 in
theorem open_acts {v : Value} {d : DataW H} {p : List MemPlace} (hv : Value.okWide Try.prog w r b0 tActs v) (h : DataW.Trod enc Try.prog w base spare held tActs v d p) :
    ∃ (pa : Option Addr) (l : List ActV) (cap : Nat), v = .slice pa l.length cap ∧ ActsAt w pa l ∧ l.length ≤ maxLen ∧ ∀ k (h : k < l.length), -9223372036854775808 ≤ l[k].h ∧ l[k].h ≤ 9223372036854775807 := by
  obtain ⟨a, len, cap, rfl⟩ := okWide_slice Try.underlying22 hv
  obtain ⟨fuel, hf⟩ := h
  rcases open_slice Try.underlying22 hf with ⟨h0, _⟩ | ⟨a', len', cap', m, n, D, Pl, e, hb, hl, hm, hmm, _, hx⟩
  · have h0' : [Value.slice a len cap] = [Value.slice none 0 0] := h0
    simp only [List.cons.injEq, Value.slice.injEq, and_true] at h0'
    obtain ⟨rfl, rfl, rfl⟩ := h0'
    exact ⟨none, [], 0, rfl, fun k hk => by simp at hk, by simp, fun k hk => by simp at hk⟩
  · have e' : [Value.slice a len cap] = [Value.slice (some a') len' cap'] := e
    simp only [List.cons.injEq, Value.slice.injEq, and_true] at e'
    obtain ⟨rfl, rfl, rfl⟩ := e'
    have hlm : len ≤ m := by rw [hmm]; split <;> omega
    have each : ∀ i, i < len → ∃ x : ActV, (∀ j, j < 5 → w.cell? ((a'.add (i * 5)).add j) = (actc x)[j]?) ∧ -9223372036854775808 ≤ x.h ∧ x.h ≤ 9223372036854775807 := by
      intro i hi
      obtain ⟨cs', h1, h2⟩ := hx i (by omega)
      rw [cells_act] at h1
      obtain ⟨_, hlen, hcell⟩ := World.cells?_some h1
      obtain ⟨xs, k, _, _, _, hxl, hg⟩ := DataW.trod_struct Try.underlying35 h2
      match cs', hlen with
      | [v0, v1, v2, v3, v4], _ =>
        have hxl5 : xs.length = 5 := hxl
        obtain ⟨x0, X0⟩ := at5 hxl5 0 (by decide)
        obtain ⟨x1, X1⟩ := at5 hxl5 1 (by decide)
        obtain ⟨x2, X2⟩ := at5 hxl5 2 (by decide)
        obtain ⟨x3, X3⟩ := at5 hxl5 3 (by decide)
        obtain ⟨x4, X4⟩ := at5 hxl5 4 (by decide)
        have g0 := (hg 0 _ rfl).trans X0
        have g1 := (hg 1 _ rfl).trans X1
        have g2 := (hg 2 _ rfl).trans X2
        have g3 := (hg 3 _ rfl).trans X3
        have g4 := (hg 4 _ rfl).trans X4
        simp only [List.getElem_toArray, List.getElem_cons_zero, List.getElem_cons_succ, cells_u8, cells_int, cells_bool, cells_bytes, List.drop, List.take] at g0 g1 g2 g3 g4
        obtain ⟨n0, e0, _, w0⟩ := DataW.trod_int Try.underlying5 g0
        obtain ⟨n1, e1, _, w1⟩ := DataW.trod_int Try.underlying3 g1
        obtain ⟨n2, e2, _⟩ := DataW.trod_bool Try.underlying4 g2
        obtain ⟨n3, e3, _, w3⟩ := DataW.trod_int Try.underlying3 g3
        obtain ⟨x0, rfl⟩ := byte_of w0
        obtain rfl := (List.cons.inj e0).1
        obtain rfl := (List.cons.inj e1).1
        obtain rfl := (List.cons.inj e2).1
        obtain rfl := (List.cons.inj e3).1
        have z4 : ∃ ka kn kc, v4 = .slice ka kn kc := by
          rcases DataW.trod_slice Try.underlying33 g4 with ⟨e4, _⟩ | ⟨a4, l4, c4, _, _, _, _, e4, _⟩
          · exact ⟨none, 0, 0, (List.cons.inj e4).1⟩
          · exact ⟨some a4, l4, c4, (List.cons.inj e4).1⟩
        obtain ⟨ka, kn, kc, rfl⟩ := z4
        have hb := bounds_i64 w1
        exact ⟨⟨x0, n1, n2, n3, ka, kn, kc⟩, fun j hj => hcell j hj, hb.1, hb.2⟩
    obtain ⟨q, hq⟩ := choose_lt each
    refine ⟨some a', (List.range len).map q, cap, by simp, fun k hk => ?_, by simp; omega, fun k hk => ?_⟩
    · have hk' : k < len := by simpa using hk
      obtain ⟨h1, _⟩ := hq k hk'
      have hs := World.cell?_spot (v := .int .u8 (bv (q 0).what)) (by rw [(hq 0 (by omega)).1 0 (by omega)]; rfl)
      obtain ⟨b, o, spot⟩ := a'
      have hs' : spot = none := by simpa [Addr.add] using hs
      subst hs'
      refine ⟨b, o, rfl, ?_, fun j hj => ?_⟩
      · have h2 := h1 0 (by omega)
        rw [Addr.add_mid, Addr.add_mid] at h2
        apply Decidable.byContradiction; intro hge
        have h3 : w.heap[b]? = none := Array.getElem?_eq_none (by omega)
        simp [World.cell?, h3, actc] at h2
      · have h2 := h1 j hj
        rw [Addr.add_mid, Addr.add_mid] at h2
        simp only [List.getElem_map, List.getElem_range]
        exact h2
    · have hk' : k < len := by simpa using hk
      simpa using (hq k hk').2
end
end Go.Proofs.Ytoffpchabpfhkaa
