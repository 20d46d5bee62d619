/- GCM's hash over blocks, and the reference's product of polynomials: plain lemmas -/
import Derived.Test.YtgellbapbphnlaaGf
import Derived.Test.YtgellbapbphnlaaCn
namespace Go.Proofs.Ytgellbapbphnlaa
open Go.RowKit

/-- Block j of a row, noughts behind where it ends. -/
def blkZ (b : List UInt8) (j : Nat) : List UInt8 := ((b.drop (16 * j)).take 16) ++ List.replicate (16 - ((b.drop (16 * j)).take 16).length) 0
theorem blkZ_len (b : List UInt8) (j : Nat) : (blkZ b j).length = 16 := by simp only [blkZ, List.length_append, List.length_replicate, List.length_take, List.length_drop]; omega
theorem be16 {x : List UInt8} (h : x.length = 16) : be x < 2 ^ 128 := by
  have := be_lt x
  rw [h] at this
  exact this
/-- The hash behind j blocks. -/
def ghN (h : Nat) (b : List UInt8) : Nat → Nat
  | 0 => 0
  | j + 1 => mulN (ghN h b j ^^^ be (blkZ b j)) h
theorem ghN_lt {h : Nat} (hh : h < 2 ^ 128) (b : List UInt8) : ∀ j, ghN h b j < 2 ^ 128
  | 0 => by show 0 < 2 ^ 128; decide
  | j + 1 => mulN_lt _ hh
/-- Blocks of a row. -/
def nblk (n : Nat) : Nat := (n + 15) / 16
/-- The hash of a row. -/
def ghF (h : List UInt8) (b : List UInt8) : List UInt8 := toBe 16 (ghN (be h) b (nblk b.length))
theorem ghF_len (h b : List UInt8) : (ghF h b).length = 16 := toBe_len _ _
/-- Noughts up to whole blocks. -/
def padZ (b : List UInt8) : List UInt8 := b ++ List.replicate ((16 - b.length % 16) % 16) 0
theorem padZ_len (b : List UInt8) : (padZ b).length = 16 * nblk b.length := by simp only [padZ, List.length_append, List.length_replicate, nblk]; omega
/-- Rows that differ in one block alone have other hashes. -/
theorem ghN_apart {h : Nat} (hh : h < 2 ^ 128) (h0 : h ≠ 0) (a b : List UInt8) (i : Nat) (hd : blkZ a i ≠ blkZ b i) (he : ∀ j, j ≠ i → blkZ a j = blkZ b j) : ∀ k, (k ≤ i → ghN h a k = ghN h b k) ∧ (i < k → ghN h a k ≠ ghN h b k)
  | 0 => ⟨fun _ => rfl, fun h => absurd h (Nat.not_lt_zero _)⟩
  | k + 1 => by
    obtain ⟨h1, h2⟩ := ghN_apart hh h0 a b i hd he k
    have la := ghN_lt hh a k
    have lb := ghN_lt hh b k
    have ba := be16 (blkZ_len a k)
    have bb := be16 (blkZ_len b k)
    have xc : ∀ {x y z t : Nat}, x ^^^ y = z ^^^ t → x = z → y = t := fun {x y z t} e e2 => by
      subst e2
      have : x ^^^ (x ^^^ y) = x ^^^ (x ^^^ t) := by rw [e]
      rwa [← Nat.xor_assoc, ← Nat.xor_assoc, Nat.xor_self, Nat.zero_xor, Nat.zero_xor] at this
    refine ⟨fun hk => ?_, fun hk e => ?_⟩
    · rw [ghN, ghN, h1 (by omega), he k (by omega)]
    · rw [ghN, ghN] at e
      have e2 := mulN_inj hh h0 (Nat.xor_lt_two_pow la ba) (Nat.xor_lt_two_pow lb bb) e
      by_cases hki : k = i
      · subst hki
        exact hd (be_inj (by rw [blkZ_len, blkZ_len]) (xc e2 (h1 (Nat.le_refl _))))
      · rw [he k hki] at e2
        rw [Nat.xor_comm (ghN h a k), Nat.xor_comm (ghN h b k)] at e2
        exact h2 (by omega) (xc e2 rfl)

/-! ## The reference's product -/
/-- The i-th bit of a block, the highest first. -/
def atB (a : List UInt8) (i : Nat) : Nat := ((a.getD (i / 8) 0) >>> UInt8.ofNat (7 - i % 8)).toNat % 2
theorem be_get : ∀ (l : List UInt8) (q : Nat), q < l.length → be l / 256 ^ (l.length - 1 - q) % 256 = (l.getD q 0).toNat
  | [], _, h => by simp at h
  | c :: l, q, h => by
    have e : be (c :: l) = be [c] * 256 ^ l.length + be l := be_append [c] l
    have e1 : be [c] = c.toNat := by simp [be]
    have hl := be_lt l
    have hp : 0 < 256 ^ l.length := Nat.pow_pos (by decide)
    cases q with
    | zero =>
      have : (c :: l).length - 1 - 0 = l.length := by simp
      rw [this, e, e1, Nat.mul_comm, Nat.mul_add_div hp, Nat.div_eq_of_lt hl, Nat.add_zero, Nat.mod_eq_of_lt c.toNat_lt]
      simp
    | succ q =>
      have hq : q < l.length := by simpa using h
      have h2 : (c :: l).length - 1 - (q + 1) = l.length - 1 - q := by simp; omega
      have ih := be_get l q hq
      rw [h2, e]
      have e3 : 256 ^ l.length = 256 ^ (l.length - 1 - q) * (256 * 256 ^ q) := by
        rw [← Nat.mul_assoc, ← Nat.pow_succ, ← Nat.pow_add]; congr 1; omega
      rw [e3, ← Nat.mul_assoc, Nat.mul_comm (be [c]), Nat.mul_assoc, Nat.mul_add_div (Nat.pow_pos (by decide)), ← Nat.mul_assoc, Nat.mul_comm _ 256, Nat.mul_assoc, Nat.mul_add_mod, ih]
      simp
theorem testBit_be {a : List UInt8} (ha : a.length = 16) (i : Nat) (hi : i < 128) : (be a).testBit (127 - i) = decide (atB a i = 1) := by
  have h := be_get a (i / 8) (by omega)
  rw [ha] at h
  unfold atB
  rw [UInt8.toNat_shiftRight, Nat.testBit_eq_decide_div_mod_eq]
  have e2 : (UInt8.ofNat (7 - i % 8)).toNat % 8 = 7 - i % 8 := by simp; omega
  rw [e2, ← h, Nat.shiftRight_eq_div_pow]
  have e3 : 2 ^ (127 - i) = 256 ^ (16 - 1 - i / 8) * 2 ^ (7 - i % 8) := by
    rw [show (256 : Nat) = 2 ^ 8 from rfl, ← Nat.pow_mul, ← Nat.pow_add]; congr 1; omega
  rw [e3, ← Nat.div_div_eq_div_mul]
  generalize be a / 256 ^ (16 - 1 - i / 8) = x
  have : x % 256 / 2 ^ (7 - i % 8) % 2 = x / 2 ^ (7 - i % 8) % 2 := by
    have h8 : ∀ s, s < 8 → ∀ x, x % 256 / 2 ^ s % 2 = x / 2 ^ s % 2 := fun s hs x => by
      have : s = 0 ∨ s = 1 ∨ s = 2 ∨ s = 3 ∨ s = 4 ∨ s = 5 ∨ s = 6 ∨ s = 7 := by omega
      rcases this with rfl | rfl | rfl | rfl | rfl | rfl | rfl | rfl <;> omega
    exact h8 _ (by omega) x
  rw [this]
/-- What a row of numbers comes to: those that are odd. -/
def vP (p : List Nat) : Nat → Nat
  | 0 => 0
  | j + 1 => vP p j ^^^ (if p.getD j 0 % 2 = 1 then onI j ONE else 0)
theorem vP_lt (p : List Nat) : ∀ m, vP p m < 2 ^ 128
  | 0 => by show 0 < 2 ^ 128; decide
  | m + 1 => by
    rw [vP]
    refine Nat.xor_lt_two_pow (vP_lt p m) ?_
    split
    · exact onI_lt _ ONE_lt
    · decide
theorem vP_zero (m : Nat) (n : Nat) : vP (List.replicate n 0) m = 0 := by
  induction m with
  | zero => rfl
  | succ m ih =>
    rw [vP, ih]
    have : (List.replicate n 0).getD m 0 = 0 := by simp only [List.getD, List.getElem?_replicate]; split <;> rfl
    rw [this]; simp
/-- One more at place j. -/
def incP (p : List Nat) (j : Nat) : List Nat := p.set j (p.getD j 0 + 1)
theorem incP_len (p : List Nat) (j : Nat) : (incP p j).length = p.length := by simp [incP]
theorem incP_get (p : List Nat) (j i : Nat) (h : j < p.length) : (incP p j).getD i 0 = if i = j then p.getD i 0 + 1 else p.getD i 0 := by
  unfold incP
  by_cases e : i = j
  · subst e; simp [List.getD, h]
  · simp [List.getD, Ne.symm e, e]
theorem vP_inc (p : List Nat) (j : Nat) (h : j < p.length) : ∀ m, vP (incP p j) m = vP p m ^^^ (if j < m then onI j ONE else 0)
  | 0 => by simp [vP]
  | m + 1 => by
    rw [vP, vP_inc p j h m, vP, incP_get p j m h]
    by_cases e : m = j
    · subst e
      rw [if_pos rfl, if_neg (Nat.lt_irrefl _), Nat.xor_zero, if_pos (Nat.lt_succ_self _), Nat.xor_assoc]
      congr 1
      by_cases ho : p.getD m 0 % 2 = 1
      · rw [if_pos ho, if_neg (by omega), Nat.xor_self]
      · rw [if_neg ho, if_pos (by omega), Nat.zero_xor]
    · rw [if_neg e, Nat.xor_assoc, Nat.xor_assoc]
      congr 1
      rw [Nat.xor_comm]
      congr 1
      by_cases hl : j < m
      · rw [if_pos hl, if_pos (by omega)]
      · rw [if_neg hl, if_neg (by omega)]
/-- What stands above the 127th is taken in. -/
theorem onI_down (i : Nat) (h : 128 ≤ i) : onI i ONE = onI (i - 128) ONE ^^^ onI (i - 127) ONE ^^^ onI (i - 126) ONE ^^^ onI (i - 121) ONE := by
  obtain ⟨k, rfl⟩ : ∃ k, i = k + 128 := ⟨i - 128, by omega⟩
  rw [show k + 128 - 128 = k + 0 by omega, show k + 128 - 127 = k + 1 by omega, show k + 128 - 126 = k + 2 by omega, show k + 128 - 121 = k + 7 by omega]
  rw [onI_add k 128, onI_add k 0, onI_add k 1, onI_add k 2, onI_add k 7, ← onI_xor, ← onI_xor, ← onI_xor]
  exact congrArg (onI k) (by decide +kernel)
/-- Row i of the product: k of its bits are in. -/
def rowP (i : Nat) (b : List UInt8) (p : List Nat) : Nat → List Nat
  | 0 => p
  | k + 1 => if atB b k = 1 then incP (rowP i b p k) (i + k) else rowP i b p k
theorem rowP_len (i : Nat) (b : List UInt8) (p : List Nat) : ∀ k, (rowP i b p k).length = p.length
  | 0 => rfl
  | k + 1 => by rw [rowP]; split; rw [incP_len, rowP_len i b p k]; exact rowP_len i b p k
theorem rowP_le (i : Nat) (b : List UInt8) (p : List Nat) (B : Nat) (h : ∀ j, p.getD j 0 ≤ B) : ∀ k, k + i ≤ p.length → ∀ j, (rowP i b p k).getD j 0 ≤ B + k
  | 0, _, j => h j
  | k + 1, hk, j => by
    have ih := rowP_le i b p B h k (by omega) j
    rw [rowP]
    split
    · rw [incP_get _ _ _ (by rw [rowP_len]; omega)]
      split <;> omega
    · omega
theorem rowP_vP (i : Nat) (b : List UInt8) (hb : b.length = 16) (p : List Nat) (hp : p.length = 256) (hi : i < 128) : ∀ k, k ≤ 128 → vP (rowP i b p k) 255 = vP p 255 ^^^ onI i (mulTo (be b) ONE k)
  | 0, _ => by rw [mulTo, onI_zero, Nat.xor_zero]; rfl
  | k + 1, hk => by
    rw [rowP, mulTo, onI_xor, testBit_be hb k (by omega)]
    by_cases hb1 : atB b k = 1
    · rw [if_pos hb1, vP_inc _ _ (by rw [rowP_len]; omega), rowP_vP i b hb p hp hi k (by omega), if_pos (by omega), Nat.xor_assoc, onI_add]
      simp [hb1]
    · rw [if_neg hb1, rowP_vP i b hb p hp hi k (by omega)]
      simp [hb1, onI_zero]
/-- i rows of the product. -/
def prodP (a b : List UInt8) : Nat → List Nat
  | 0 => List.replicate 256 0
  | i + 1 => if atB a i = 1 then rowP i b (prodP a b i) 128 else prodP a b i
theorem prodP_len (a b : List UInt8) : ∀ i, (prodP a b i).length = 256
  | 0 => by rw [prodP, List.length_replicate]
  | i + 1 => by rw [prodP]; split; rw [rowP_len, prodP_len a b i]; exact prodP_len a b i
theorem prodP_le (a b : List UInt8) : ∀ i, i ≤ 128 → ∀ j, (prodP a b i).getD j 0 ≤ 128 * i
  | 0, _, j => by
    have : (List.replicate 256 0).getD j 0 = 0 := by simp only [List.getD, List.getElem?_replicate]; split <;> rfl
    rw [prodP, this]; exact Nat.zero_le _
  | i + 1, h, j => by
    rw [prodP]
    split
    · have := rowP_le i b (prodP a b i) (128 * i) (prodP_le a b i (by omega)) 128 (by rw [prodP_len]; omega) j
      omega
    · have := prodP_le a b i (by omega) j
      omega
theorem prodP_vP (a b : List UInt8) (ha : a.length = 16) (hb : b.length = 16) : ∀ i, i ≤ 128 → vP (prodP a b i) 255 = mulTo (be a) (be b) i
  | 0, _ => vP_zero _ _
  | i + 1, h => by
    rw [prodP, mulTo, testBit_be ha i (by omega)]
    by_cases h1 : atB a i = 1
    · rw [if_pos h1, rowP_vP i b hb _ (prodP_len a b i) (by omega) 128 (Nat.le_refl _), prodP_vP a b ha hb i (by omega), show mulTo (be b) ONE 128 = be b from mulN_ONE (be16 hb)]
      simp only [h1, decide_true, if_true]
    · rw [if_neg h1, prodP_vP a b ha hb i (by omega)]
      simp only [h1, decide_false, Bool.false_eq_true, if_false, Nat.xor_zero]
/-- What stands at i, taken in. -/
def downP (p : List Nat) (i : Nat) : List Nat := if p.getD i 0 % 2 = 1 then incP (incP (incP (incP p (i - 128)) (i - 127)) (i - 126)) (i - 121) else p
theorem downP_len (p : List Nat) (i : Nat) : (downP p i).length = p.length := by unfold downP; split <;> simp [incP_len]
theorem incP_le (p : List Nat) (j B : Nat) (hj : j < p.length) (h : ∀ i, p.getD i 0 ≤ B) : ∀ i, (incP p j).getD i 0 ≤ B + 1 := fun i => by
  have := h i
  rw [incP_get p j i hj]
  split <;> omega
theorem downP_le (p : List Nat) (i B : Nat) (hp : p.length = 256) (hi : i < 256) (h : ∀ j, p.getD j 0 ≤ B) : ∀ j, (downP p i).getD j 0 ≤ B + 4 := by
  intro j
  unfold downP
  split
  · exact incP_le _ _ _ (by simp only [incP_len]; omega) (incP_le _ _ _ (by simp only [incP_len]; omega) (incP_le _ _ _ (by simp only [incP_len]; omega) (incP_le _ _ _ (by omega) h))) j
  · have := h j; omega
theorem downP_vP (p : List Nat) (i : Nat) (hp : p.length = 256) (hi : i < 256) (h : 128 ≤ i) : vP (downP p i) i = vP p (i + 1) := by
  unfold downP
  rw [vP]
  by_cases ho : p.getD i 0 % 2 = 1
  · rw [if_pos ho, if_pos ho, vP_inc _ _ (by simp only [incP_len]; omega), vP_inc _ _ (by simp only [incP_len]; omega), vP_inc _ _ (by simp only [incP_len]; omega), vP_inc _ _ (by omega),
      if_pos (by omega), if_pos (by omega), if_pos (by omega), if_pos (by omega), onI_down i h]
    simp only [Nat.xor_assoc]
  · rw [if_neg ho, if_neg ho, Nat.xor_zero]
/-- d places from the 254th on, taken in. -/
def foldP (p : List Nat) : Nat → List Nat
  | 0 => p
  | d + 1 => downP (foldP p d) (254 - d)
theorem foldP_len (p : List Nat) : ∀ d, (foldP p d).length = p.length
  | 0 => rfl
  | d + 1 => by rw [foldP, downP_len, foldP_len p d]
theorem foldP_le (p : List Nat) (B : Nat) (hp : p.length = 256) (h : ∀ j, p.getD j 0 ≤ B) : ∀ d, ∀ j, (foldP p d).getD j 0 ≤ B + 4 * d
  | 0, j => h j
  | d + 1, j => by
    have := downP_le (foldP p d) (254 - d) (B + 4 * d) (by rw [foldP_len, hp]) (by omega) (foldP_le p B hp h d) j
    rw [foldP]; omega
theorem foldP_vP (p : List Nat) (hp : p.length = 256) : ∀ d, d ≤ 127 → vP (foldP p d) (255 - d) = vP p 255
  | 0, _ => rfl
  | d + 1, h => by
    have := downP_vP (foldP p d) (254 - d) (by rw [foldP_len, hp]) (by omega) (by omega)
    rw [foldP, show 255 - (d + 1) = 254 - d by omega, this, show 254 - d + 1 = 255 - d by omega, foldP_vP p hp d (by omega)]
/-- A bit of a block, set. -/
def setB (x : List UInt8) (i : Nat) : List UInt8 := x.set (i / 8) (x.getD (i / 8) 0 ||| ((1 : UInt8) <<< UInt8.ofNat (7 - i % 8)))
/-- The bits of a row of numbers, i of them. -/
def outP (p : List Nat) : Nat → List UInt8
  | 0 => List.replicate 16 0
  | i + 1 => if p.getD i 0 % 2 = 1 then setB (outP p i) i else outP p i
theorem outP_len (p : List Nat) : ∀ i, (outP p i).length = 16
  | 0 => by simp [outP]
  | i + 1 => by rw [outP]; split; unfold setB; rw [List.length_set, outP_len p i]; exact outP_len p i
def bitTest : Bool := (List.range 256).all fun x => (List.range 8).all fun s => (List.range 8).all fun t =>
  ((UInt8.ofNat x ||| ((1 : UInt8) <<< UInt8.ofNat (7 - s))) >>> UInt8.ofNat (7 - t)).toNat % 2 == if s = t then 1 else (UInt8.ofNat x >>> UInt8.ofNat (7 - t)).toNat % 2
set_option maxRecDepth 100000 in
theorem bitTest_ok : bitTest = true := by decide +kernel
theorem setB_at (x : List UInt8) (hx : x.length = 16) (i j : Nat) (hi : i < 128) : atB (setB x i) j = if i = j then 1 else atB x j := by
  have hb := bitTest_ok
  unfold bitTest at hb
  rw [List.all_eq_true] at hb
  have h1 := hb (x.getD (i / 8) 0).toNat (by have := (x.getD (i / 8) 0).toNat_lt; simpa using this)
  rw [List.all_eq_true] at h1
  have h2 := h1 (i % 8) (by simp; omega)
  rw [List.all_eq_true] at h2
  have h3 := h2 (j % 8) (by simp; omega)
  rw [beq_iff_eq, UInt8.ofNat_toNat] at h3
  unfold atB setB
  by_cases e : j / 8 = i / 8
  · have e1 : (x.set (i / 8) (x.getD (i / 8) 0 ||| ((1 : UInt8) <<< UInt8.ofNat (7 - i % 8)))).getD (j / 8) 0 = x.getD (i / 8) 0 ||| ((1 : UInt8) <<< UInt8.ofNat (7 - i % 8)) := by
      rw [e]; simp [List.getD, show i / 8 < x.length by omega]
    rw [e1, h3, e]
    by_cases e2 : i % 8 = j % 8
    · rw [if_pos e2, if_pos (by omega)]
    · rw [if_neg e2, if_neg (by omega)]
  · have e1 : (x.set (i / 8) (x.getD (i / 8) 0 ||| ((1 : UInt8) <<< UInt8.ofNat (7 - i % 8)))).getD (j / 8) 0 = x.getD (j / 8) 0 := by
      simp [List.getD, Ne.symm e]
    rw [e1, if_neg (by intro e3; subst e3; exact e rfl)]
theorem outP_at (p : List Nat) : ∀ i, i ≤ 128 → ∀ j, atB (outP p i) j = if j < i ∧ p.getD j 0 % 2 = 1 then 1 else 0
  | 0, _, j => by
    have : (List.replicate 16 (0 : UInt8)).getD (j / 8) 0 = 0 := by simp only [List.getD, List.getElem?_replicate]; split <;> rfl
    unfold atB outP
    rw [this, if_neg (by omega)]
    simp
  | i + 1, h, j => by
    have ih := outP_at p i (by omega) j
    rw [outP]
    split
    · rename_i ho
      rw [setB_at _ (outP_len p i) i j (by omega), ih]
      by_cases e : i = j
      · subst e; rw [if_pos rfl, if_pos ⟨by omega, ho⟩]
      · rw [if_neg e]
        by_cases hj : j < i ∧ p.getD j 0 % 2 = 1
        · rw [if_pos hj, if_pos ⟨by omega, hj.2⟩]
        · rw [if_neg hj, if_neg (fun hh => hj ⟨by omega, hh.2⟩)]
    · rename_i ho
      rw [ih]
      by_cases hj : j < i ∧ p.getD j 0 % 2 = 1
      · rw [if_pos hj, if_pos ⟨by omega, hj.2⟩]
      · rw [if_neg hj, if_neg (fun hh => hj ⟨by have : j ≠ i := fun e => ho (e ▸ hh.2); omega, hh.2⟩)]
theorem vP_bit (p : List Nat) : ∀ m, m ≤ 128 → ∀ j, j < 128 → (vP p m).testBit (127 - j) = decide (j < m ∧ p.getD j 0 % 2 = 1)
  | 0, _, j, _ => by simp [vP]
  | m + 1, h, j, hj => by
    rw [vP, Nat.testBit_xor, vP_bit p m (by omega) j hj]
    by_cases e : j = m
    · subst e
      by_cases ho : p.getD j 0 % 2 = 1
      · rw [if_pos ho, onI_ONE j hj, Nat.testBit_two_pow_self, decide_eq_false (fun hh => absurd hh.1 (Nat.lt_irrefl _)), decide_eq_true ⟨Nat.lt_succ_self _, ho⟩]; rfl
      · rw [if_neg ho, Nat.zero_testBit, Bool.xor_false, decide_eq_false (fun hh => ho hh.2), decide_eq_false (fun hh => ho hh.2)]
    · have h2 : (if p.getD m 0 % 2 = 1 then onI m ONE else 0).testBit (127 - j) = false := by
        split
        · rw [onI_ONE m (by omega)]; exact Nat.testBit_two_pow_of_ne (by omega)
        · simp
      rw [h2, Bool.xor_false]
      apply decide_eq_decide.2
      constructor
      · rintro ⟨a, b⟩; exact ⟨by omega, b⟩
      · rintro ⟨a, b⟩; exact ⟨by omega, b⟩
theorem outP_be (p : List Nat) : be (outP p 128) = vP p 128 := by
  apply Nat.eq_of_testBit_eq
  intro i
  by_cases hi : i < 128
  · have e : i = 127 - (127 - i) := by omega
    rw [e, testBit_be (outP_len p 128) _ (by omega), outP_at p 128 (Nat.le_refl _), vP_bit p 128 (Nat.le_refl _) _ (by omega)]
    by_cases h : 127 - i < 128 ∧ p.getD (127 - i) 0 % 2 = 1
    · rw [if_pos h, decide_eq_true h]; rfl
    · rw [if_neg h, decide_eq_false h]; rfl
  · rw [Nat.testBit_lt_two_pow (Nat.lt_of_lt_of_le (be16 (outP_len p 128)) (Nat.pow_le_pow_right (by decide) (by omega))), Nat.testBit_lt_two_pow (Nat.lt_of_lt_of_le (vP_lt p 128) (Nat.pow_le_pow_right (by decide) (by omega)))]
/-- What the reference's product comes to. -/
theorem ref_mul (a b : List UInt8) (ha : a.length = 16) (hb : b.length = 16) : outP (foldP (prodP a b 128) 127) 128 = toBe 16 (mulN (be a) (be b)) := by
  apply be_inj
  · rw [outP_len, toBe_len]
  · have h : vP (foldP (prodP a b 128) 127) 128 = vP (prodP a b 128) 255 := foldP_vP _ (prodP_len a b 128) 127 (Nat.le_refl _)
    rw [outP_be, be_toBe, h, prodP_vP a b ha hb 128 (Nat.le_refl _)]
    exact (Nat.mod_eq_of_lt (mulN_lt _ (be16 hb))).symm
end Go.Proofs.Ytgellbapbphnlaa
