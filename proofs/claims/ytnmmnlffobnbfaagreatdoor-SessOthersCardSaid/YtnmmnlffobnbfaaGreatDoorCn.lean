/- bytes as numbers, the highest first: plain lemmas -/
import Derived.Test.YtnmmnlffobnbfaaGreatDoorBase
namespace Go.Proofs.YtnmmnlffobnbfaaGreatDoor
open Go.RowKit

def be : List UInt8 → Nat := List.foldl (fun n c => n * 256 + c.toNat) 0
/-- The k lowest bytes of a number, the lowest first. -/
def leF (k n : Nat) : List UInt8 := (List.range k).map fun i => UInt8.ofNat (n / 256 ^ i)
/-- .. the highest first. -/
def toBe (k n : Nat) : List UInt8 := (leF k n).reverse
def cnt (c : List UInt8) (n : Nat) : List UInt8 := toBe 16 (be c + n)

theorem be_snoc (l : List UInt8) (c : UInt8) : be (l ++ [c]) = be l * 256 + c.toNat := by simp [be]
theorem be_nil : be [] = 0 := rfl
theorem be_foldl (l : List UInt8) (x : Nat) : List.foldl (fun n (c : UInt8) => n * 256 + c.toNat) x l = x * 256 ^ l.length + be l := by
  induction l generalizing x with
  | nil => simp [be]
  | cons c l ih =>
    have h1 := ih (x * 256 + c.toNat)
    have h2 := ih (0 * 256 + c.toNat)
    simp only [List.foldl_cons, List.length_cons]
    rw [h1]
    have : be (c :: l) = List.foldl (fun n (c : UInt8) => n * 256 + c.toNat) (0 * 256 + c.toNat) l := rfl
    rw [this, h2, Nat.pow_succ, Nat.add_mul, Nat.add_mul, Nat.zero_mul, Nat.zero_add]
    rw [Nat.mul_assoc, Nat.mul_comm 256, Nat.add_assoc]
theorem be_append (l r : List UInt8) : be (l ++ r) = be l * 256 ^ r.length + be r := by
  have : be (l ++ r) = List.foldl (fun n (c : UInt8) => n * 256 + c.toNat) (be l) r := by simp [be]
  rw [this, be_foldl]
theorem be_lt (l : List UInt8) : be l < 256 ^ l.length := by
  induction l with
  | nil => simp [be]
  | cons c l ih =>
    have : be (c :: l) = be [c] * 256 ^ l.length + be l := be_append [c] l
    have h1 : be [c] = c.toNat := by simp [be]
    have h2 := c.toNat_lt
    rw [this, h1, List.length_cons, Nat.pow_succ]
    have : (c.toNat + 1) * 256 ^ l.length ≤ 256 * 256 ^ l.length := Nat.mul_le_mul_right _ (by omega)
    rw [Nat.add_mul, Nat.one_mul] at this
    rw [Nat.mul_comm (256 ^ l.length) 256]
    omega
theorem leF_len (k n : Nat) : (leF k n).length = k := by simp [leF]
theorem toBe_len (k n : Nat) : (toBe k n).length = k := by simp [toBe, leF]
theorem cnt_len (c : List UInt8) (n : Nat) : (cnt c n).length = 16 := toBe_len _ _
theorem toBe_succ (k n : Nat) : toBe (k + 1) n = toBe k (n / 256) ++ [UInt8.ofNat n] := by
  unfold toBe leF
  rw [List.range_succ_eq_map, List.map_cons, List.reverse_cons, List.map_map]
  congr 1
  · congr 1
    apply List.map_congr_left
    intro i _
    simp only [Function.comp_apply]
    rw [Nat.div_div_eq_div_mul, Nat.pow_succ, Nat.mul_comm]
  · simp
theorem be_toBe (k n : Nat) : be (toBe k n) = n % 256 ^ k := by
  induction k generalizing n with
  | zero => simp [toBe, leF, be, Nat.mod_one]
  | succ k ih =>
    rw [toBe_succ, be_snoc, ih, Nat.pow_succ, Nat.mul_comm (256 ^ k) 256, Nat.mod_mul]
    simp
    omega
theorem toBe_be (l : List UInt8) (k : Nat) (h : l.length = k) : toBe k (be l) = l := by
  induction k generalizing l with
  | zero => rw [List.length_eq_zero_iff.1 h]; rfl
  | succ k ih =>
    have hne : l ≠ [] := fun e => by subst e; simp at h
    obtain ⟨p, c, rfl⟩ : ∃ p c, l = p ++ [c] := ⟨l.dropLast, l.getLast hne, (List.dropLast_concat_getLast hne).symm⟩
    have hp : p.length = k := by simpa using h
    rw [toBe_succ, be_snoc]
    have hc := c.toNat_lt
    rw [show (be p * 256 + c.toNat) / 256 = be p by omega, ih p hp]
    congr 2
    apply UInt8.toNat_inj.1
    simp
theorem toBe_congr (k : Nat) {x y : Nat} (h : x % 256 ^ k = y % 256 ^ k) : toBe k x = toBe k y := by
  rw [← toBe_be (toBe k x) k (toBe_len k x), ← toBe_be (toBe k y) k (toBe_len k y), be_toBe, be_toBe, h]
theorem toBe_mod (k n : Nat) : toBe k (n % 256 ^ k) = toBe k n := toBe_congr k (by simp)
theorem be_inj {l r : List UInt8} (h : l.length = r.length) (e : be l = be r) : l = r := by
  rw [← toBe_be l _ rfl, ← toBe_be r _ rfl, e, h]
theorem toBe_add (a b n : Nat) : toBe (a + b) n = toBe a (n / 256 ^ b) ++ toBe b n := by
  apply be_inj
  · rw [List.length_append, toBe_len, toBe_len, toBe_len]
  · rw [be_append, be_toBe, be_toBe, be_toBe, toBe_len, Nat.pow_add, Nat.mul_comm (256 ^ a), Nat.mod_mul, Nat.mul_comm]
    omega
theorem cnt_cnt (c : List UInt8) (a b : Nat) : cnt (cnt c a) b = cnt c (a + b) := by
  unfold cnt
  rw [be_toBe, ← Nat.add_assoc]
  apply toBe_congr
  simp
theorem cnt_zero (c : List UInt8) (h : c.length = 16) : cnt c 0 = c := by unfold cnt; rw [Nat.add_zero]; exact toBe_be c 16 h
/-- Count, as the program does it: in two halves. -/
theorem cnt_halves (c : List UInt8) (n : Nat) (h : c.length = 16) :
    cnt c n = toBe 8 ((be (c.take 8) + (be (c.drop 8) + n) / 18446744073709551616) % 18446744073709551616) ++ toBe 8 ((be (c.drop 8) + n) % 18446744073709551616) := by
  have e : (18446744073709551616 : Nat) = 256 ^ 8 := by decide
  have hc : be c = be (c.take 8) * 256 ^ 8 + be (c.drop 8) := by
    have := be_append (c.take 8) (c.drop 8)
    rw [List.take_append_drop] at this
    rw [this, List.length_drop, h]
  rw [e, toBe_mod, toBe_mod]
  unfold cnt
  rw [show (16 : Nat) = 8 + 8 from rfl, toBe_add, hc]
  congr 1
  · rw [Nat.add_assoc, Nat.add_comm, Nat.add_mul_div_right _ _ (by decide), Nat.add_comm]
  · apply toBe_congr
    rw [Nat.add_assoc, Nat.add_comm, Nat.add_mul_mod_self_right]
theorem leF_get (k n i : Nat) (h : i < k) : (leF k n).getD i 0 = UInt8.ofNat (n / 256 ^ i) := by simp [leF, h]
end Go.Proofs.YtnmmnlffobnbfaaGreatDoor
