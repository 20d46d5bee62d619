/- weave: what woven does, in plain numbers and lists -/
import Derived.Test.YtgellbapbphnlaaW5
import Derived.Test.YtgellbapbphnlaaXk
namespace Go.Proofs.Ytgellbapbphnlaa
open Go.RowKit

/-- Bytes under a stream. -/
def xf (ks : Nat → UInt8) (b : List UInt8) : List UInt8 := (List.range b.length).map fun i => b.getD i 0 ^^^ ks i
theorem xf_len (ks : Nat → UInt8) (b : List UInt8) : (xf ks b).length = b.length := by simp [xf]
theorem xf_get (ks : Nat → UInt8) (b : List UInt8) (i : Nat) (h : i < b.length) : (xf ks b).getD i 0 = b.getD i 0 ^^^ ks i := by simp [xf, h]
theorem xf_nil (ks : Nat → UInt8) : xf ks [] = [] := rfl
theorem xf_xk (E : List UInt8 → List UInt8) (iv b : List UInt8) : xf (ksb E iv) b = xk E iv 0 b := by
  unfold xf xk
  apply List.map_congr_left
  intro i _
  rw [Nat.zero_add]
theorem xf_xf (ks : Nat → UInt8) (b : List UInt8) : xf ks (xf ks b) = b := by
  apply ext_getD
  · simp [xf]
  · intro j hj
    rw [xf_len, xf_len] at hj
    rw [xf_get _ _ _ (by rw [xf_len]; exact hj), xf_get _ _ _ hj, UInt8.xor_assoc, UInt8.xor_self, UInt8.xor_zero]
/-- One block more. -/
theorem xf_block (ks : Nat → UInt8) (b blk : List UInt8) (size a : Nat) (hl : blk.length = size) (hb : ∀ j, j < size → blk.getD j 0 = ks (size * a + j)) (ha : size * a ≤ b.length) :
    xf ks (b.take (size * a)) ++ List.zipWith (· ^^^ ·) (b.drop (size * a)) blk = xf ks (b.take (size * (a + 1))) := by
  have hm : size * (a + 1) = size * a + size := by rw [Nat.mul_add, Nat.mul_one]
  rw [hm]
  generalize size * a = q at *
  have hl1 : (xf ks (b.take q)).length = q := by rw [xf_len, List.length_take]; omega
  apply ext_getD
  · rw [List.length_append, hl1, List.length_zipWith, xf_len, List.length_take, List.length_drop, hl]; omega
  · intro j hj
    rw [List.length_append, hl1, List.length_zipWith, List.length_drop, hl] at hj
    rw [xf_get _ _ _ (by rw [List.length_take]; omega)]
    have e0 : (b.take (q + size)).getD j 0 = b.getD j 0 := by simp only [List.getD, List.getElem?_take, if_pos (show j < q + size by omega)]
    rw [e0]
    by_cases h : j < q
    · have e1 : (xf ks (b.take q) ++ List.zipWith (· ^^^ ·) (b.drop q) blk).getD j 0 = (xf ks (b.take q)).getD j 0 := by simp only [List.getD, List.getElem?_append_left (show j < (xf ks (b.take q)).length by rw [hl1]; exact h)]
      have e2 : (b.take q).getD j 0 = b.getD j 0 := by simp only [List.getD, List.getElem?_take, if_pos h]
      rw [e1, xf_get _ _ _ (by rw [List.length_take]; omega), e2]
    · have e1 : (xf ks (b.take q) ++ List.zipWith (· ^^^ ·) (b.drop q) blk).getD j 0 = (List.zipWith (· ^^^ ·) (b.drop q) blk).getD (j - q) 0 := by
        simp only [List.getD, List.getElem?_append_right (show (xf ks (b.take q)).length ≤ j by rw [hl1]; omega), hl1]
      have e2 : (List.zipWith (· ^^^ ·) (b.drop q) blk).getD (j - q) 0 = b.getD j 0 ^^^ blk.getD (j - q) 0 := by
        simp only [List.getD, List.getElem?_zipWith, List.getElem?_drop]
        rw [List.getElem?_eq_getElem (show q + (j - q) < b.length by omega), List.getElem?_eq_getElem (show j - q < blk.length by omega), List.getElem?_eq_getElem (show j < b.length by omega)]
        simp only [Option.getD_some]
        congr 2; omega
      rw [e1, e2, hb _ (by omega), show q + (j - q) = j by omega]
/-- How many of the first d threads are text k's. -/
def cntT (T : List (Nat × Nat)) (d k : Nat) : Nat := (T.take d).countP (fun p => p.1 == k)
theorem cntT_zero (T : List (Nat × Nat)) (k : Nat) : cntT T 0 k = 0 := rfl
theorem cntT_succ (T : List (Nat × Nat)) (d k : Nat) (h : d < T.length) : cntT T (d + 1) k = cntT T d k + if T[d].1 = k then 1 else 0 := by
  unfold cntT
  rw [List.take_add_one, List.getElem?_eq_getElem h, List.countP_append]
  by_cases e : T[d].1 = k
  · simp [e]
  · simp [e]
theorem thrAt_fst (size : Nat) (l : List Nat) : ∀ k, ∀ p ∈ thrAt size l k, p.1 < k
  | 0, p, h => by simp [thrAt] at h
  | k + 1, p, h => by
    rw [thrAt, List.mem_append] at h
    rcases h with h | h
    · have := thrAt_fst size l k p h; omega
    · simp only [List.mem_map] at h
      obtain ⟨j, _, rfl⟩ := h
      exact Nat.lt_succ_self _
theorem countP_fst (size : Nat) (l : List Nat) (k t : Nat) (h : k ≤ t) : (thrAt size l k).countP (fun p => p.1 == t) = 0 := by
  rw [List.countP_eq_zero]
  intro p hp
  have := thrAt_fst size l k p hp
  simp; omega
theorem thrAt_at (size : Nat) (hs : 0 < size) (l : List Nat) : ∀ k d (h : d < (thrAt size l k).length), (thrAt size l k)[d].1 < k ∧ (thrAt size l k)[d].2 = cntT (thrAt size l k) d (thrAt size l k)[d].1 ∧ size * (thrAt size l k)[d].2 < l.getD (thrAt size l k)[d].1 0
  | 0, d, h => by simp [thrAt] at h
  | k + 1, d, h => by
    by_cases hd : d < (thrAt size l k).length
    · have ih := thrAt_at size hs l k d hd
      have e : (thrAt size l (k + 1))[d] = (thrAt size l k)[d] := by
        simp only [thrAt]; rw [List.getElem_append_left hd]
      rw [e]
      refine ⟨by omega, ?_, ih.2.2⟩
      rw [ih.2.1]
      unfold cntT
      rw [thrAt, List.take_append_of_le_length (by omega)]
    · have h' := h
      rw [thrAt, List.length_append, List.length_map, List.length_range] at h'
      have e : (thrAt size l (k + 1))[d] = (k, d - (thrAt size l k).length) := by
        simp only [thrAt]; rw [List.getElem_append_right (by omega)]; simp
      rw [e]
      refine ⟨Nat.lt_succ_self _, ?_, ?_⟩
      · unfold cntT
        rw [thrAt, List.take_append, List.countP_append, List.take_of_length_le (by omega), countP_fst size l k k (Nat.le_refl _), ← List.map_take, Nat.zero_add]
        show d - (thrAt size l k).length = _
        rw [List.countP_eq_length.2]
        · rw [List.length_map, List.length_take, List.length_range, Nat.min_eq_left (by omega)]
        · intro p hp
          simp only [List.mem_map] at hp
          obtain ⟨j, _, rfl⟩ := hp
          simp
      · show size * (d - (thrAt size l k).length) < l.getD k 0
        have h2 : d - (thrAt size l k).length < (l.getD k 0 + (size - 1)) / size := by omega
        have h3 := Nat.mul_le_mul_left size (Nat.succ_le_of_lt h2)
        have h4 := Nat.mul_div_le (l.getD k 0 + (size - 1)) size
        rw [Nat.mul_succ] at h3
        omega
theorem thrAt_all (size : Nat) (hs : 0 < size) (l : List Nat) : ∀ k t, t < k → l.getD t 0 ≤ size * (thrAt size l k).countP (fun p => p.1 == t)
  | 0, t, h => by omega
  | k + 1, t, h => by
    rw [thrAt, List.countP_append]
    by_cases e : t = k
    · subst e
      rw [countP_fst size l t t (Nat.le_refl _), Nat.zero_add, List.countP_eq_length.2]
      · rw [List.length_map, List.length_range]
        have h4 := Nat.lt_mul_div_succ (l.getD t 0 + (size - 1)) hs
        rw [Nat.mul_add, Nat.mul_one] at h4
        omega
      · intro p hp
        simp only [List.mem_map] at hp
        obtain ⟨j, _, rfl⟩ := hp
        simp
    · have := thrAt_all size hs l k t (by omega)
      rw [Nat.mul_add]; omega
theorem cntT_all (size : Nat) (hs : 0 < size) (l : List Nat) (n t : Nat) (ht : t < n) (b : List UInt8) (hb : b.length = l.getD t 0) : b.take (size * cntT (thrAt size l n) (thrAt size l n).length t) = b := by
  unfold cntT
  rw [List.take_length]
  exact List.take_of_length_le (by rw [hb]; exact thrAt_all size hs l n t ht)
theorem pairsc_get (l : List (Nat × Nat)) (d : Nat) (h : d < l.length) : (pairsc l)[2 * d]? = some (.int .i64 (l[d].1 : Int)) ∧ (pairsc l)[2 * d + 1]? = some (.int .i64 (l[d].2 : Int)) := by
  induction l generalizing d with
  | nil => simp at h
  | cons p l ih =>
    have e : pairsc (p :: l) = .int .i64 (p.1 : Int) :: .int .i64 (p.2 : Int) :: pairsc l := by simp [pairsc]
    cases d with
    | zero => rw [e]; exact ⟨rfl, rfl⟩
    | succ d =>
      have := ih d (by simpa using h)
      rw [e, show 2 * (d + 1) = 2 * d + 1 + 1 by omega]
      simpa using this
theorem pairsc_len (l : List (Nat × Nat)) : (pairsc l).length = 2 * l.length := by
  induction l with
  | nil => rfl
  | cons p l ih => 
    have e : pairsc (p :: l) = .int .i64 (p.1 : Int) :: .int .i64 (p.2 : Int) :: pairsc l := by simp [pairsc]
    rw [e, List.length_cons, List.length_cons, ih, List.length_cons]; omega
end Go.Proofs.Ytgellbapbphnlaa
