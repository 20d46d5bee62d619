/- CtrBack's argument, opened -/
import Derived.Test.YtlgeebnmonmdaaaOpenK
import Derived.Test.YtlgeebnmonmdaaaLCtrB
namespace Go.Proofs.Ytlgeebnmonmdaaa
open Go.ChangeShapes Go.WideShapes Go.ChangeAt Go.RowKit Go.Deep
section
variable {H : Type} {enc : TypeId × Value → H} {w : World} {base b0 fuel : Nat} {spare : Nat → Bool} {held : Bool} {r : Reach}
set_option maxRecDepth 100000 in
theorem trod_rowb {cs : List Value} {x : DataW H × List MemPlace} (hf : DataW.trod enc Try.prog w base spare held fuel 26 cs = some x) :
    ∃ (pa : Option Addr) (l : List UInt8) (cap : Nat), cs = [.slice pa l.length cap] ∧ l.length ≤ cap ∧ cap ≤ maxLen ∧ RowAt w pa l := by
  rcases open_slice1 under33b cells5 hf with ⟨h0, _⟩ | ⟨a', len', cap', m, n, V, D, Pl, e, hb, hl, hm, hmm, _, hx⟩
  · exact ⟨none, [], 0, h0, by simp, by simp, RowAt.nil _ _⟩
  · have hlm : len' ≤ m := by rw [hmm]; split <;> omega
    have each : ∀ i, i < len' → ∃ x : UInt8, w.cell? (a'.add i) = some (.int .u8 (bv x)) := by
      intro i hi
      obtain ⟨h1, h2⟩ := hx i (by omega)
      obtain ⟨k, hk, _, hw⟩ := DataW.trod_int under5r h2
      obtain ⟨x, rfl⟩ := byte_of hw
      refine ⟨x, ?_⟩
      rw [h1, (List.cons.inj hk).1]
    obtain ⟨q, hq⟩ := choose_lt each
    refine ⟨some a', (List.range len').map q, cap', by simpa using e, by simp; omega, hm, fun k hk => ?_⟩
    have hk' : k < len' := by simpa using hk
    have hs := World.cell?_spot (hq 0 (by omega))
    obtain ⟨b, o, spot⟩ := a'
    have hs' : spot = none := by simpa [Addr.add] using hs
    subst hs'
    have h1 := hq k hk'
    rw [Addr.add_mid] at h1
    refine ⟨b, o, rfl, ?_, ?_⟩
    · apply Decidable.byContradiction; intro hge
      have h3 : w.heap[b]? = none := Array.getElem?_eq_none (by omega)
      simp [World.cell?, h3] at h1
    · rw [h1]; simp [List.getD, hk']
set_option maxRecDepth 100000 in
theorem open_turned {v : Value} {d : DataW H} {p : List MemPlace} (hv : Value.okWide Try.prog w r b0 37 v) (h : DataW.Trod enc Try.prog w base spare held 37 v d p) :
    ∃ K long IV pb cap a y b, K.length = 32 ∧ IV.length = 16 ∧ v = .agg (tcells K long IV pb (List.length b) cap a y).toArray ∧ RowAt w pb b ∧ b.length ≤ cap ∧ a < 65536 := by
  simp only [Value.okWide, Try.underlying37] at hv
  obtain ⟨arr, rfl, _, _⟩ := hv
  obtain ⟨fuel, hf⟩ := h
  obtain ⟨xs, m, _, _, hl, hxs, hi⟩ := DataW.trod_struct Try.underlying37 hf
  have hx4 : xs.length = 4 := hxs
  have h0 := hi 0 _ rfl
  have h1 := hi 1 _ rfl
  have h2 := hi 2 _ rfl
  have h3 := hi 3 _ rfl
  rw [List.getElem?_eq_getElem (by omega)] at h0 h1 h2 h3
  have c0 : Try.prog.cellsOf 25 = 49 := by kernel_rfl
  have c1 : Try.prog.cellsOf 26 = 1 := by kernel_rfl
  have c2 : Try.prog.cellsOf 35 = 1 := by kernel_rfl
  have c3 : Try.prog.cellsOf 5 = 1 := by kernel_rfl
  have c4 : Try.prog.cellsOf 37 = 52 := by kernel_rfl
  rw [c4] at hl
  obtain ⟨K, long, IV, hK, hI, e0⟩ := trod_key8 h0
  obtain ⟨pb, b, cap, e1, hbc, _, hrow⟩ := trod_rowb h1
  obtain ⟨a, e2, _, wa⟩ := DataW.trod_int Try.underlying35 h2
  obtain ⟨y, e3, _, wy⟩ := DataW.trod_int Try.underlying5 h3
  obtain ⟨y, rfl⟩ := byte_of wy
  have ha := bounds_u16 wa
  obtain ⟨a, rfl⟩ : ∃ k : Nat, a = k := ⟨a.toNat, by omega⟩
  refine ⟨K, long, IV, pb, cap, a, y, b, hK, hI, ?_, hrow, hbc, by omega⟩
  congr 1
  apply Array.toList_inj.1
  have hl' : arr.toList.length = 52 := hl
  have e0 : arr.toList.take 49 = kcells K long IV := by rw [← c0]; exact e0
  have e1 : (arr.toList.drop 49).take 1 = [.slice pb b.length cap] := by rw [← c1]; exact e1
  have e2 : (arr.toList.drop 50).take 1 = [.int .u16 a] := by rw [← c2]; exact e2
  have e3 : (arr.toList.drop 51).take 1 = [.int .u8 (bv y)] := by rw [← c3]; exact e3
  generalize arr.toList = cs at *
  show cs = tcells K long IV pb b.length cap a y
  unfold tcells
  rw [← e0]
  have d3 : cs.drop 51 = [.int .u8 (bv y)] := by rw [← e3]; exact (List.take_of_length_le (by rw [List.length_drop]; omega)).symm
  have d2 : cs.drop 50 = .int .u16 a :: [.int .u8 (bv y)] := by
    have := List.take_append_drop 1 (cs.drop 50)
    rw [List.drop_drop, e2, d3] at this
    exact this.symm
  have d1 : cs.drop 49 = .slice pb b.length cap :: .int .u16 a :: [.int .u8 (bv y)] := by
    have := List.take_append_drop 1 (cs.drop 49)
    rw [List.drop_drop, e1, d2] at this
    exact this.symm
  rw [← d1, List.take_append_drop]
end
end Go.Proofs.Ytlgeebnmonmdaaa
