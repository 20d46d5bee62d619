/- law 10's key as an argument, opened -/
import Derived.Test.YtgellbapbphnlaaOpenB
import Derived.Test.YtgellbapbphnlaaK10
import Derived.ChangeArms
namespace Go.Proofs.Ytgellbapbphnlaa
open Go.ChangeShapes Go.WideShapes Go.ChangeAt Go.RowKit Go.Deep

section
variable {H : Type} {enc : TypeId × Value → H} {P : Program} {w : World} {base b0 fuel : Nat} {spare : Nat → Bool} {held : Bool} {r : Reach} {t e : TypeId} {cs : List Value} {x : DataW H × List MemPlace}
theorem trod_bytes {n : Nat} (ht : P.underlying t = some (.array n e)) (he : P.underlying e = some (.int .u8)) (hce : P.cellsOf e = 1) (hC : P.cellsOf t = n)
    (hf : DataW.trod enc P w base spare held fuel t cs = some x) : ∃ l : List UInt8, l.length = n ∧ cs = bys l := by
  obtain ⟨xs, m, _, _, hl, hxs, hi⟩ := DataW.trod_array ht hf
  have each : ∀ i, i < n → ∃ x : UInt8, cs[i]? = some (.int .u8 (bv x)) := by
    intro i hin
    have h1 := hi i hin
    rw [List.getElem?_eq_getElem (by omega)] at h1
    obtain ⟨k, hk, _, hw⟩ := DataW.trod_int he h1
    obtain ⟨x, rfl⟩ := byte_of hw
    refine ⟨x, ?_⟩
    have h2 : ((cs.drop i).take 1)[0]? = some (.int .u8 (bv x)) := by
      rw [hce, Nat.mul_one] at hk
      rw [hk]; rfl
    simpa [List.getElem?_take] using h2
  have hx : ∃ l : List UInt8, l.length = n ∧ ∀ i, i < n → cs[i]? = some (.int .u8 (bv (l.getD i 0))) := by
    have : ∀ k, k ≤ n → ∃ l : List UInt8, l.length = k ∧ ∀ i, i < k → cs[i]? = some (.int .u8 (bv (l.getD i 0))) := by
      intro k
      induction k with
      | zero => intro _; exact ⟨[], rfl, fun i h => by omega⟩
      | succ k ih =>
        intro hk
        obtain ⟨l, hl, hc⟩ := ih (by omega)
        obtain ⟨x, hx⟩ := each k (by omega)
        refine ⟨l ++ [x], by simp [hl], fun i hi => ?_⟩
        by_cases hik : i < k
        · rw [hc i hik]; simp [List.getD, List.getElem?_append_left (show i < l.length by omega)]
        · obtain rfl : i = k := by omega
          rw [hx]; simp [List.getD, ← hl]
    exact this n (Nat.le_refl _)
  obtain ⟨l, hl', hc⟩ := hx
  refine ⟨l, hl', ?_⟩
  apply List.ext_getElem?
  intro i
  by_cases hin : i < n
  · rw [hc i hin, bys_get l i (by omega)]
  · rw [List.getElem?_eq_none (by omega), List.getElem?_eq_none (by rw [bys_length]; omega)]
end
section
variable {H : Type} {enc : TypeId × Value → H} {w : World} {base b0 fuel : Nat} {spare : Nat → Bool} {held : Bool} {r : Reach}
set_option maxRecDepth 100000 in
theorem trod_rowb {cs : List Value} {x : DataW H × List MemPlace} (hf : DataW.trod enc Try.prog w base spare held fuel 33 cs = some x) :
    ∃ (pa : Option Addr) (l : List UInt8) (cap : Nat), cs = [.slice pa l.length cap] ∧ l.length ≤ cap ∧ cap ≤ maxLen ∧ RowAt w pa l := by
  rcases open_slice1 under33b cells5 hf with ⟨h0, _⟩ | ⟨a', len', cap', m, n, V, D, Pl, e, hb, hl, hm, hmm, _, hx⟩
  · exact ⟨none, [], 0, h0, by simp, by simp, RowAt.nil _ _⟩
  · have hlm : len' ≤ m := by rw [hmm]; split <;> omega
    have each : ∀ i, i < len' → ∃ x : UInt8, w.cell? (a'.add i) = some (.int .u8 (bv x)) := by
      intro i hi
      obtain ⟨h1, h2⟩ := hx i (by omega)
      obtain ⟨k, hk, _, hw⟩ := DataW.trod_int under5r h2
      obtain ⟨x, rfl⟩ := byte_of hw
      refine ⟨x, ?_⟩
      rw [h1, (List.cons.inj hk).1]
    obtain ⟨q, hq⟩ := choose_lt each
    refine ⟨some a', (List.range len').map q, cap', by simpa using e, by simp; omega, hm, fun k hk => ?_⟩
    have hk' : k < len' := by simpa using hk
    have hs := World.cell?_spot (hq 0 (by omega))
    obtain ⟨b, o, spot⟩ := a'
    have hs' : spot = none := by simpa [Addr.add] using hs
    subst hs'
    have h1 := hq k hk'
    rw [Addr.add_mid] at h1
    refine ⟨b, o, rfl, ?_, ?_⟩
    · apply Decidable.byContradiction; intro hge
      have h3 : w.heap[b]? = none := Array.getElem?_eq_none (by omega)
      simp [World.cell?, h3] at h1
    · rw [h1]; simp [List.getD, hk']
set_option maxRecDepth 100000 in
theorem trod_key10 {cs : List Value} {x : DataW H × List MemPlace} (hf : DataW.trod enc Try.prog w base spare held fuel 55 cs = some x) :
    ∃ K long pi iv ci pa a ca, K.length = 32 ∧ cs = kc10 K long (.slice pi (List.length iv) ci) (.slice pa (List.length a) ca) ∧ RowAt w pi iv ∧ iv.length ≤ ci ∧ RowAt w pa a ∧ a.length ≤ ca := by
  obtain ⟨xs, m, _, _, hl, hxs, hi⟩ := DataW.trod_struct Try.underlying55 hf
  have hx4 : xs.length = 4 := hxs
  have h0 := hi 0 _ rfl
  have h1 := hi 1 _ rfl
  have h2 := hi 2 _ rfl
  have h3 := hi 3 _ rfl
  rw [List.getElem?_eq_getElem (by omega)] at h0 h1 h2 h3
  obtain ⟨K, hK, e0⟩ := trod_bytes Try.underlying35 Try.underlying5 (by kernel_rfl) (by kernel_rfl) h0
  obtain ⟨long, e1, _⟩ := DataW.trod_bool Try.underlying4 h1
  obtain ⟨pi, iv, ci, e2, hci, _, hri⟩ := trod_rowb h2
  obtain ⟨pa, a, ca, e3, hca, _, hra⟩ := trod_rowb h3
  have c0 : Try.prog.cellsOf 35 = 32 := by kernel_rfl
  have c1 : Try.prog.cellsOf 4 = 1 := by kernel_rfl
  have c2 : Try.prog.cellsOf 33 = 1 := by kernel_rfl
  have c3 : Try.prog.cellsOf 55 = 35 := by kernel_rfl
  have e0 : cs.take 32 = bys K := by rw [← c0]; exact e0
  have e1 : (cs.drop 32).take 1 = [.bool long] := by rw [← c1]; exact e1
  have e2 : (cs.drop 33).take 1 = [.slice pi iv.length ci] := by rw [← c2]; exact e2
  have e3 : (cs.drop 34).take 1 = [.slice pa a.length ca] := by rw [← c2]; exact e3
  rw [c3] at hl
  refine ⟨K, long, pi, iv, ci, pa, a, ca, hK, ?_, hri, hci, hra, hca⟩
  unfold kc10
  rw [← e0]
  have d3 : cs.drop 34 = [.slice pa a.length ca] := by rw [← e3]; exact (List.take_of_length_le (by rw [List.length_drop]; omega)).symm
  have d2 : cs.drop 33 = .slice pi iv.length ci :: [.slice pa a.length ca] := by
    have := List.take_append_drop 1 (cs.drop 33)
    rw [List.drop_drop, e2, d3] at this
    exact this.symm
  have d1 : cs.drop 32 = .bool long :: .slice pi iv.length ci :: [.slice pa a.length ca] := by
    have := List.take_append_drop 1 (cs.drop 32)
    rw [List.drop_drop, e1, d2] at this
    exact this.symm
  rw [← d1, List.take_append_drop]
set_option maxRecDepth 100000 in
theorem open_key10 {v : Value} {d : DataW H} {p : List MemPlace} (hv : Value.okWide Try.prog w r b0 55 v) (h : DataW.Trod enc Try.prog w base spare held 55 v d p) :
    ∃ K long pi iv ci pa a ca, K.length = 32 ∧ v = .agg (kc10 K long (.slice pi (List.length iv) ci) (.slice pa (List.length a) ca)).toArray ∧ RowAt w pi iv ∧ iv.length ≤ ci ∧ RowAt w pa a ∧ a.length ≤ ca := by
  simp only [Value.okWide, Try.underlying55] at hv
  obtain ⟨cs, rfl, _, _⟩ := hv
  obtain ⟨fuel, hf⟩ := h
  obtain ⟨K, long, pi, iv, ci, pa, a, ca, hK, e, h1, h2, h3, h4⟩ := trod_key10 hf
  refine ⟨K, long, pi, iv, ci, pa, a, ca, hK, ?_, h1, h2, h3, h4⟩
  congr 1
  apply Array.toList_inj.1
  exact e
end
end Go.Proofs.Ytgellbapbphnlaa
