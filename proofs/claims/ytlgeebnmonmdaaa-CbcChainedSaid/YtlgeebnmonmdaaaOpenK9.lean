/- law 9's key as an argument, opened -/
import Derived.Test.YtlgeebnmonmdaaaOpenK
namespace Go.Proofs.Ytlgeebnmonmdaaa
open Go.ChangeShapes Go.WideShapes Go.ChangeAt Go.RowKit Go.Deep

section
variable {H : Type} {enc : TypeId × Value → H} {w : World} {base b0 fuel : Nat} {spare : Nat → Bool} {held : Bool} {r : Reach}
set_option maxRecDepth 100000 in
theorem trod_key9 {cs : List Value} {x : DataW H × List MemPlace} (hf : DataW.trod enc Try.prog w base spare held fuel 48 cs = some x) :
    ∃ K long IV, K.length = 32 ∧ IV.length = 16 ∧ cs = kcells K long IV := by
  obtain ⟨xs, m, _, _, hl, hxs, hi⟩ := DataW.trod_struct Try.underlying48 hf
  have hx3 : xs.length = 3 := hxs
  have h0 := hi 0 _ rfl
  have h1 := hi 1 _ rfl
  have h2 := hi 2 _ rfl
  rw [List.getElem?_eq_getElem (by omega)] at h0 h1 h2
  obtain ⟨K, hK, e0⟩ := trod_bytes Try.underlying22 Try.underlying5 (by kernel_rfl) (by kernel_rfl) h0
  obtain ⟨IV, hI, e2⟩ := trod_bytes Try.underlying23 Try.underlying5 (by kernel_rfl) (by kernel_rfl) h2
  obtain ⟨long, e1, _⟩ := DataW.trod_bool Try.underlying4 h1
  have c0 : Try.prog.cellsOf 22 = 32 := by kernel_rfl
  have c1 : Try.prog.cellsOf 4 = 1 := by kernel_rfl
  have c2 : Try.prog.cellsOf 23 = 16 := by kernel_rfl
  have c3 : Try.prog.cellsOf 48 = 49 := by kernel_rfl
  have e0 : cs.take 32 = bys K := by rw [← c0]; exact e0
  have e1 : (cs.drop 32).take 1 = [.bool long] := by rw [← c1]; exact e1
  have e2 : (cs.drop 33).take 16 = bys IV := by rw [← c2]; exact e2
  rw [c3] at hl
  refine ⟨K, long, IV, hK, hI, ?_⟩
  unfold kcells
  rw [← e0, ← e2]
  have d2 : (cs.drop 33).take 16 = cs.drop 33 := List.take_of_length_le (by rw [List.length_drop]; omega)
  rw [d2]
  have d1 : cs.drop 32 = .bool long :: cs.drop 33 := by
    have := List.take_append_drop 1 (cs.drop 32)
    rw [List.drop_drop, e1] at this
    exact this.symm
  rw [← d1, List.take_append_drop]
set_option maxRecDepth 100000 in
theorem open_key9 {v : Value} {d : DataW H} {p : List MemPlace} (hv : Value.okWide Try.prog w r b0 48 v) (h : DataW.Trod enc Try.prog w base spare held 48 v d p) :
    ∃ K long IV, K.length = 32 ∧ IV.length = 16 ∧ v = .agg (kcells K long IV).toArray := by
  simp only [Value.okWide, Try.underlying48] at hv
  obtain ⟨cs, rfl, _, _⟩ := hv
  obtain ⟨fuel, hf⟩ := h
  obtain ⟨K, long, IV, hK, hI, e⟩ := trod_key9 hf
  refine ⟨K, long, IV, hK, hI, ?_⟩
  congr 1
  apply Array.toList_inj.1
  exact e
end
end Go.Proofs.Ytlgeebnmonmdaaa
