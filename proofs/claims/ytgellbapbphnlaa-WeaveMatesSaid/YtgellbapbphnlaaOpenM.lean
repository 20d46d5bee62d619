/- weave: texts and a text by value as arguments, opened -/
import Derived.Test.YtgellbapbphnlaaOpenW
namespace Go.Proofs.Ytgellbapbphnlaa
open Go.ChangeShapes Go.WideShapes Go.ChangeAt Go.RowKit Go.Deep

section
variable {H : Type} {enc : TypeId × Value → H} {w : World} {base b0 fuel : Nat} {spare : Nat → Bool} {held : Bool} {r : Reach}
set_option maxRecDepth 100000 in
theorem open_textsC {v : Value} {d : DataW H} {p : List MemPlace} (hv : Value.okWide Try.prog w r b0 22 v) (h : DataW.Trod enc Try.prog w base spare held 22 v d p) :
    ∃ (pa : Option Addr) (l : List TextV) (cap : Nat), v = .slice pa l.length cap ∧ TextsAt w pa l ∧ l.length ≤ cap := by
  obtain ⟨pa, l, cap, e, ht, _⟩ := open_texts hv h
  refine ⟨pa, l, cap, e, ht, ?_⟩
  obtain ⟨fuel, hf⟩ := h
  rcases open_slice Try.underlying22 hf with ⟨h0, _⟩ | ⟨a', len', cap', m, n, D, Pl, e2, hb, hl, hm, hmm, _, hx⟩
  · rw [e] at h0
    have h0' : [Value.slice pa l.length cap] = [Value.slice none 0 0] := h0
    simp only [List.cons.injEq, Value.slice.injEq, and_true] at h0'
    omega
  · rw [e] at e2
    have e' : [Value.slice pa l.length cap] = [Value.slice (some a') len' cap'] := e2
    simp only [List.cons.injEq, Value.slice.injEq, and_true] at e'
    omega
set_option maxRecDepth 100000 in
theorem open_text {v : Value} {d : DataW H} {p : List MemPlace} (hv : Value.okWide Try.prog w r b0 39 v) (h : DataW.Trod enc Try.prog w base spare held 39 v d p) :
    ∃ t : TextV, TextOk w t ∧ v = .agg (textc t).toArray := by
  simp only [Value.okWide, Try.underlying39] at hv
  obtain ⟨cs, rfl, _, _⟩ := hv
  obtain ⟨fuel, hf⟩ := h
  obtain ⟨t, ht, e⟩ := trod_text hf
  refine ⟨t, ht, ?_⟩
  congr 1
  apply Array.toList_inj.1
  exact e
end
end Go.Proofs.Ytgellbapbphnlaa
