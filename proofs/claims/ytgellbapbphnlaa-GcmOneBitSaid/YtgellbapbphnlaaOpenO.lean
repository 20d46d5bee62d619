/- GcmOneBit's argument, opened -/
import Derived.Test.YtgellbapbphnlaaOpenG
import Derived.Test.YtgellbapbphnlaaG5
namespace Go.Proofs.Ytgellbapbphnlaa
open Go.ChangeShapes Go.WideShapes Go.ChangeAt Go.RowKit Go.Deep
section
variable {H : Type} {enc : TypeId × Value → H} {w : World} {base b0 fuel : Nat} {spare : Nat → Bool} {held : Bool} {r : Reach}
set_option maxRecDepth 100000 in
theorem open_one {v : Value} {d : DataW H} {p : List MemPlace} (hv : Value.okWide Try.prog w r b0 75 v) (h : DataW.Trod enc Try.prog w base spare held 75 v d p) :
    ∃ K long pi iv ci pa a ca pb b cb at' aad, K.length = 32 ∧ v = .agg (obc K long (.slice pi (List.length iv) ci) (.slice pa (List.length a) ca) (.slice pb (List.length b) cb) at' aad).toArray ∧ RowAt w pi iv ∧ RowAt w pa a ∧ RowAt w pb b ∧ at' < 65536 := by
  simp only [Value.okWide, Try.underlying75] at hv
  obtain ⟨arr, rfl, _, _⟩ := hv
  obtain ⟨fuel, hf⟩ := h
  obtain ⟨xs, m, _, _, hl, hxs, hi⟩ := DataW.trod_struct Try.underlying75 hf
  have hx4 : xs.length = 4 := hxs
  have h0 := hi 0 _ rfl
  have h1 := hi 1 _ rfl
  have h2 := hi 2 _ rfl
  have h3 := hi 3 _ rfl
  rw [List.getElem?_eq_getElem (by omega)] at h0 h1 h2 h3
  have c0 : Try.prog.cellsOf 55 = 35 := by kernel_rfl
  have c1 : Try.prog.cellsOf 33 = 1 := by kernel_rfl
  have c2 : Try.prog.cellsOf 73 = 1 := by kernel_rfl
  have c3 : Try.prog.cellsOf 4 = 1 := by kernel_rfl
  have c4 : Try.prog.cellsOf 75 = 38 := by kernel_rfl
  rw [c4] at hl
  obtain ⟨K, long, pi, iv, ci, pa, a, ca, hK, e0, hri, _, hra, _⟩ := trod_key10 h0
  obtain ⟨pb, b, cb, e1, _, _, hrb⟩ := trod_rowb h1
  obtain ⟨n, e2, _, wn⟩ := DataW.trod_int Try.underlying73 h2
  obtain ⟨aad, e3, _⟩ := DataW.trod_bool Try.underlying4 h3
  have hn := bounds_u16 wn
  obtain ⟨n, rfl⟩ : ∃ k : Nat, n = k := ⟨n.toNat, by omega⟩
  refine ⟨K, long, pi, iv, ci, pa, a, ca, pb, b, cb, n, aad, hK, ?_, hri, hra, hrb, by omega⟩
  congr 1
  apply Array.toList_inj.1
  have hl' : arr.toList.length = 38 := hl
  have e0 : arr.toList.take 35 = kc10 K long (.slice pi iv.length ci) (.slice pa a.length ca) := by rw [← c0]; exact e0
  have e1 : (arr.toList.drop 35).take 1 = [.slice pb b.length cb] := by rw [← c1]; exact e1
  have e2 : (arr.toList.drop 36).take 1 = [.int .u16 n] := by rw [← c2]; exact e2
  have e3 : (arr.toList.drop 37).take 1 = [.bool aad] := by rw [← c3]; exact e3
  generalize arr.toList = cs at *
  show cs = obc K long (.slice pi iv.length ci) (.slice pa a.length ca) (.slice pb b.length cb) n aad
  unfold obc
  rw [← e0]
  have d3 : cs.drop 37 = [.bool aad] := by rw [← e3]; exact (List.take_of_length_le (by rw [List.length_drop]; omega)).symm
  have d2 : cs.drop 36 = .int .u16 n :: [.bool aad] := by
    have := List.take_append_drop 1 (cs.drop 36)
    rw [List.drop_drop, e2, d3] at this
    exact this.symm
  have d1 : cs.drop 35 = .slice pb b.length cb :: .int .u16 n :: [.bool aad] := by
    have := List.take_append_drop 1 (cs.drop 35)
    rw [List.drop_drop, e1, d2] at this
    exact this.symm
  rw [← d1, List.take_append_drop]
end
end Go.Proofs.Ytgellbapbphnlaa
