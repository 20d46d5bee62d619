/- gcm: one bit turned of the text or the aad: plain lemmas -/
import Derived.Test.YtgellbapbphnlaaG1
namespace Go.Proofs.Ytgellbapbphnlaa
open Go.RowKit

theorem blkZ_ne (L : List UInt8) (p : Nat) (x : UInt8) (j : Nat) (h : j ≠ p / 16) : blkZ (L.set p x) j = blkZ L j := by
  have e : ((L.set p x).drop (16 * j)).take 16 = (L.drop (16 * j)).take 16 := by
    apply List.ext_getElem?
    intro i
    simp only [List.getElem?_take, List.getElem?_drop]
    by_cases hi : i < 16
    · rw [if_pos hi, if_pos hi, List.getElem?_set_ne (by omega)]
    · rw [if_neg hi, if_neg hi]
  unfold blkZ
  rw [e]
theorem blkZ_at (L : List UInt8) (p : Nat) (x : UInt8) (hp : p < L.length) (hx : x ≠ L.getD p 0) : blkZ (L.set p x) (p / 16) ≠ blkZ L (p / 16) := by
  have get : ∀ M : List UInt8, M.length = L.length → (blkZ M (p / 16)).getD (p % 16) 0 = M.getD p 0 := fun M hM => by
    unfold blkZ
    have hlt : p % 16 < ((M.drop (16 * (p / 16))).take 16).length := by rw [List.length_take, List.length_drop]; omega
    simp only [List.getD]
    rw [List.getElem?_append_left hlt, List.getElem?_take, if_pos (by omega), List.getElem?_drop, show 16 * (p / 16) + p % 16 = p by omega]
  intro e
  have e1 := get (L.set p x) (by simp)
  rw [e, get L rfl] at e1
  have e2 : (L.set p x).getD p 0 = x := by simp [List.getD, hp]
  rw [e2] at e1
  exact hx e1.symm
theorem ghF_set (h L : List UInt8) (hh : h.length = 16) (h0 : be h ≠ 0) (p : Nat) (x : UInt8) (hp : p < L.length) (hx : x ≠ L.getD p 0) : ghF h (L.set p x) ≠ ghF h L := by
  intro e
  unfold ghF at e
  rw [List.length_set] at e
  have hb := be16 hh
  have h1 := (ghN_apart hb h0 (L.set p x) L (p / 16) (blkZ_at L p x hp hx) (fun j hj => blkZ_ne L p x j hj) (nblk L.length)).2 (by unfold nblk; omega)
  apply h1
  have e2 : be (toBe 16 (ghN (be h) (L.set p x) (nblk L.length))) = be (toBe 16 (ghN (be h) L (nblk L.length))) := by rw [e]
  rw [be_toBe, be_toBe] at e2
  have l1 : ghN (be h) (L.set p x) (nblk L.length) < 256 ^ 16 := ghN_lt hb _ _
  have l2 : ghN (be h) L (nblk L.length) < 256 ^ 16 := ghN_lt hb _ _
  rwa [Nat.mod_eq_of_lt l1, Nat.mod_eq_of_lt l2] at e2
theorem padZ_set (a : List UInt8) (p : Nat) (x : UInt8) (hp : p < a.length) : padZ (a.set p x) = (padZ a).set p x := by
  unfold padZ
  rw [List.length_set, List.set_append_left _ _ hp]
theorem getD_app_left (a b : List UInt8) (p : Nat) (hp : p < a.length) : (a ++ b).getD p 0 = a.getD p 0 := by simp [List.getD, List.getElem?_append_left hp]
theorem getD_app_right (a b : List UInt8) (p : Nat) : (a ++ b).getD (a.length + p) 0 = b.getD p 0 := by simp [List.getD, List.getElem?_append_right]
theorem padZ_getD (a : List UInt8) (p : Nat) (hp : p < a.length) : (padZ a).getD p 0 = a.getD p 0 := getD_app_left _ _ _ hp
theorem padZ_lt (a : List UInt8) (p : Nat) (hp : p < a.length) : p < (padZ a).length := by unfold padZ; rw [List.length_append]; omega
theorem zipX_inj : ∀ {l a b : List UInt8}, a.length = l.length → b.length = l.length → List.zipWith (· ^^^ ·) a l = List.zipWith (· ^^^ ·) b l → a = b
  | [], [], [], _, _, _ => rfl
  | x :: l, a :: a', b :: b', ha, hb, h => by
    simp only [List.zipWith_cons_cons, List.cons.injEq] at h
    have h1 : (a ^^^ x) ^^^ x = (b ^^^ x) ^^^ x := by rw [h.1]
    rw [UInt8.xor_assoc, UInt8.xor_assoc, UInt8.xor_self, UInt8.xor_zero, UInt8.xor_zero] at h1
    rw [h1, zipX_inj (by simpa using ha) (by simpa using hb) h.2]
/-- With a byte of the aad, or of the text, turned the tag is another one. -/
theorem tagF_aad (E : List UInt8 → List UInt8) (c a X : List UInt8) (hE : ∀ s : List UInt8, s.length = 16 → (E s).length = 16) (hc : c.length = 16) (h0 : be (E z16) ≠ 0) (p : Nat) (x : UInt8) (hp : p < a.length) (hx : x ≠ a.getD p 0) :
    tagF E c (a.set p x) X ≠ tagF E c a X := by
  intro e
  unfold tagF at e
  have hg := zipX_inj (by rw [ghF_len, hE c hc]) (by rw [ghF_len, hE c hc]) e
  rw [List.length_set, padZ_set a p x hp, ← List.set_append_left _ _ (padZ_lt a p hp), ← List.set_append_left _ _ (by rw [List.length_append]; have := padZ_lt a p hp; omega)] at hg
  refine ghF_set (E z16) (padZ a ++ padZ X ++ lenF a.length X.length) (hE z16 rfl) h0 p x (by rw [List.length_append, List.length_append]; have := padZ_lt a p hp; omega) ?_ hg
  rw [getD_app_left _ _ _ (by rw [List.length_append]; have := padZ_lt a p hp; omega), getD_app_left _ _ _ (padZ_lt a p hp), padZ_getD a p hp]
  exact hx
theorem tagF_text (E : List UInt8 → List UInt8) (c a X : List UInt8) (hE : ∀ s : List UInt8, s.length = 16 → (E s).length = 16) (hc : c.length = 16) (h0 : be (E z16) ≠ 0) (p : Nat) (x : UInt8) (hp : p < X.length) (hx : x ≠ X.getD p 0) :
    tagF E c a (X.set p x) ≠ tagF E c a X := by
  intro e
  unfold tagF at e
  have hg := zipX_inj (by rw [ghF_len, hE c hc]) (by rw [ghF_len, hE c hc]) e
  have hl := padZ_lt X p hp
  have e1 : padZ a ++ (padZ X).set p x ++ lenF a.length X.length = (padZ a ++ padZ X ++ lenF a.length X.length).set ((padZ a).length + p) x := by
    rw [List.set_append_left _ _ (by rw [List.length_append]; omega), List.set_append_right _ _ (by omega), Nat.add_sub_cancel_left]
  rw [List.length_set, padZ_set X p x hp, e1] at hg
  refine ghF_set (E z16) (padZ a ++ padZ X ++ lenF a.length X.length) (hE z16 rfl) h0 ((padZ a).length + p) x (by rw [List.length_append, List.length_append]; omega) ?_ hg
  rw [getD_app_left _ _ _ (by rw [List.length_append]; omega), getD_app_right, padZ_getD X p hp]
  exact hx
theorem open_bitA (E : List UInt8 → List UInt8) (c a b : List UInt8) (hE : ∀ s : List UInt8, s.length = 16 → (E s).length = 16) (hc : c.length = 16) (h0 : be (E z16) ≠ 0) (p : Nat) (x : UInt8) (hp : p < a.length) (hx : x ≠ a.getD p 0) :
    openG E c (a.set p x) (sealG E c a b) = none := by
  have hl := sealG_len E c a b hE hc
  obtain ⟨ht, hd⟩ := sealG_take E c a b hE hc
  unfold openG
  rw [hl, Nat.add_sub_cancel, ht, hd, if_neg]
  exact fun e => tagF_aad E c a _ hE hc h0 p x hp hx e.symm
theorem open_bitT (E : List UInt8 → List UInt8) (c a b : List UInt8) (hE : ∀ s : List UInt8, s.length = 16 → (E s).length = 16) (hc : c.length = 16) (h0 : be (E z16) ≠ 0) (p : Nat) (x : UInt8) (hp : p < b.length) (hx : x ≠ (sealG E c a b).getD p 0) :
    openG E c a ((sealG E c a b).set p x) = none := by
  have hl := sealG_len E c a b hE hc
  obtain ⟨ht, hd⟩ := sealG_take E c a b hE hc
  have hX : (List.zipWith (· ^^^ ·) b (streamF E c b.length)).length = b.length := by rw [List.length_zipWith, streamF_len E c _ hE hc, Nat.min_self]
  obtain ⟨X, hXe⟩ : ∃ X, List.zipWith (· ^^^ ·) b (streamF E c b.length) = X := ⟨_, rfl⟩
  rw [hXe] at ht hd hX
  have hg : (sealG E c a b).getD p 0 = X.getD p 0 := by
    rw [← ht]
    simp only [List.getD, List.getElem?_take, if_pos hp]
  have e1 : ((sealG E c a b).set p x).take b.length = X.set p x := by rw [← ht, List.take_set]
  have e2 : ((sealG E c a b).set p x).drop b.length = tagF E c a X := by rw [List.drop_set_of_lt hp, hd]
  unfold openG
  rw [List.length_set, hl, Nat.add_sub_cancel, e1, e2, if_neg]
  exact fun e => tagF_text E c a X hE hc h0 p x (by rw [hX]; exact hp) (by rw [← hg]; exact hx) e.symm
end Go.Proofs.Ytgellbapbphnlaa
