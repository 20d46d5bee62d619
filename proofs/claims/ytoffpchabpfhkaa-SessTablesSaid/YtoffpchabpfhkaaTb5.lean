/- sess: SessRoom, walked -/
import Derived.Test.YtoffpchabpfhkaaTb4
namespace Go.Proofs.Ytoffpchabpfhkaa
open Go.RowKit

/-- k places are p, the others q. -/
def mixd (p q : Pl) (n k : Nat) : List Pl := List.replicate k p ++ List.replicate (n - k) q
theorem mixd_len (p q : Pl) (n k : Nat) (h : k ≤ n) : (mixd p q n k).length = n := by simp [mixd]; omega
theorem mixd_at (p q : Pl) (n k j : Nat) (h : k ≤ n) (hj : j < n) : (mixd p q n k).getD j (false, 0) = if j < k then p else q := by
  unfold mixd
  by_cases hl : j < k
  · simp [List.getD, List.getElem?_append, hl]
  · simp [List.getD, List.getElem?_append, hl, show j - k < n - k by omega]
theorem mixd_set (p q : Pl) (n k : Nat) (h : k < n) : (mixd p q n k).set k p = mixd p q n (k + 1) := by
  apply List.ext_getElem
  · rw [List.length_set, mixd_len _ _ _ _ (by omega), mixd_len _ _ _ _ (by omega)]
  · intro j h1 h2
    have hj : j < n := by rw [mixd_len _ _ _ _ (by omega)] at h2; exact h2
    have e1 := mixd_at p q n k j (by omega) hj
    have e2 := mixd_at p q n (k + 1) j (by omega) hj
    have hj1 : j < (mixd p q n k).length := by rw [mixd_len _ _ _ _ (by omega)]; exact hj
    simp only [List.getD, List.getElem?_eq_getElem hj1, List.getElem?_eq_getElem h2, Option.getD_some] at e1 e2
    rw [List.getElem_set, e2]
    split
    · rw [if_pos (by omega)]
    · rw [e1]
      split
      · rw [if_pos (by omega)]
      · rw [if_neg (by omega)]
theorem mixd_all (p q r : Pl) (n : Nat) : mixd p q n n = mixd r p n 0 := by simp [mixd]
theorem mixd_rep (p q : Pl) (n : Nat) : List.replicate n q = mixd p q n 0 := by simp [mixd]

theorem opn_idx (i n k : Nat) (h : k < n) : idx (mixd (true, i) (false, i) n k) = k := by
  refine idx_at _ _ (by rw [mixd_len _ _ _ _ (by omega)]; exact h) (fun j hj => ?_) ?_
  · rw [mixd_at _ _ _ _ _ (by omega) (by omega), if_pos hj]
  · rw [mixd_at _ _ _ _ _ (by omega) h, if_neg (by omega)]
theorem opn_full (i n : Nat) : idx (mixd (true, i) (false, i) n n) = -1 := by
  refine idx_none _ (fun j hj => ?_)
  rw [mixd_len _ _ _ _ (Nat.le_refl _)] at hj
  rw [mixd_at _ _ _ _ _ (Nat.le_refl _) hj, if_pos hj]
theorem mixd_num (i n k j : Nat) (b c : Bool) (hk : k ≤ n) (hj : j < n) : hnum (mixd (b, i) (c, i) n k) j = ((1 + j + n * i : Nat) : Int) := by
  unfold hnum
  rw [mixd_len _ _ _ _ hk, mixd_at _ _ _ _ _ hk hj]
  split <;> rfl
theorem hands_some (st : List Pl) (k : Nat) (h : ∀ j, j < k → (st.getD j (false, 0)).1 = true) : (hands st k).length = k := by
  induction k with
  | zero => rfl
  | succ k ih => unfold hands; rw [if_pos (h k (by omega)), List.length_append, ih (fun j hj => h j (by omega))]; rfl
theorem hands_none (st : List Pl) (k : Nat) (h : ∀ j, j < k → (st.getD j (false, 0)).1 = false) : (hands st k).length = 0 := by
  induction k with
  | zero => rfl
  | succ k ih => unfold hands; rw [if_neg (by rw [h k (by omega)]; decide)]; exact ih (fun j hj => h j (by omega))
theorem cls_look (i n k : Nat) (h : k < n) : lookF (mixd (false, i + 1) (true, i) n k) ((1 + k + n * i : Nat) : Int) = some k := by
  have e : ((((1 + k + n * i : Nat) : Int) - 1) % ((mixd (false, i + 1) (true, i) n k).length : Int)).toNat = k := by
    rw [mixd_len _ _ _ _ (by omega), show ((1 + k + n * i : Nat) : Int) - 1 = ((k + n * i : Nat) : Int) by omega, ← Int.natCast_emod, Int.toNat_natCast, Nat.add_mul_mod_self_left, Nat.mod_eq_of_lt h]
  unfold lookF
  rw [if_neg (by omega), e]
  refine if_pos ⟨?_, ?_⟩
  · rw [mixd_at _ _ _ _ _ (by omega) h, if_neg (by omega)]
  · unfold hnum
    rw [mixd_len _ _ _ _ (by omega), mixd_at _ _ _ _ _ (by omega) h, if_neg (by omega)]
theorem cls_set (i n k : Nat) (h : k < n) : closeF (mixd (false, i + 1) (true, i) n k) ((1 + k + n * i : Nat) : Int) = mixd (false, i + 1) (true, i) n (k + 1) := by
  unfold closeF
  rw [cls_look i n k h]
  show (mixd (false, i + 1) (true, i) n k).set k (false, ((mixd (false, i + 1) (true, i) n k).getD k (false, 0)).2 + 1) = _
  rw [mixd_at _ _ _ _ _ (by omega) h, if_neg (by omega)]
  exact mixd_set _ _ _ _ h
theorem cls_val (i n k : Nat) (h : k < n) : closeV (mixd (false, i + 1) (true, i) n k) ((1 + k + n * i : Nat) : Int) = .int .i64 0 := by
  unfold closeV; rw [cls_look i n k h]
theorem mixd_few (i n k M : Nat) (b c : Bool) (d : Nat) (hk : k ≤ n) (hi : i < M) (hd : d < M) : ∀ j, j < (mixd (b, i) (c, d) n k).length → ((mixd (b, i) (c, d) n k).getD j (false, 0)).2 < M := fun j hj => by
  rw [mixd_len _ _ _ _ hk] at hj
  rw [mixd_at _ _ _ _ _ hk hj]
  split <;> assumption
end Go.Proofs.Ytoffpchabpfhkaa
