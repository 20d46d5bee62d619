/- bytes under a stream of counters: plain lemmas -/
import Derived.Test.YtgellbapbphnlaaKv
namespace Go.Proofs.Ytgellbapbphnlaa
open Go.RowKit

/-- The stream's byte number i. -/
def ksb (E : List UInt8 → List UInt8) (iv : List UInt8) (i : Nat) : UInt8 := (E (cnt iv (i / 16))).getD (i % 16) 0
def ksL (E : List UInt8 → List UInt8) (iv : List UInt8) (p L : Nat) : List UInt8 := (List.range L).map fun i => ksb E iv (p + i)
/-- Bytes under the stream from place p on. -/
def xk (E : List UInt8 → List UInt8) (iv : List UInt8) (p : Nat) (b : List UInt8) : List UInt8 := (List.range b.length).map fun i => b.getD i 0 ^^^ ksb E iv (p + i)
theorem ksL_len (E : List UInt8 → List UInt8) (iv : List UInt8) (p L : Nat) : (ksL E iv p L).length = L := by simp [ksL]
theorem xk_len (E : List UInt8 → List UInt8) (iv : List UInt8) (p : Nat) (b : List UInt8) : (xk E iv p b).length = b.length := by simp [xk]
theorem xk_get (E : List UInt8 → List UInt8) (iv : List UInt8) (p : Nat) (b : List UInt8) (i : Nat) (h : i < b.length) : (xk E iv p b).getD i 0 = b.getD i 0 ^^^ ksb E iv (p + i) := by simp [xk, h]
theorem ksL_get (E : List UInt8 → List UInt8) (iv : List UInt8) (p L i : Nat) (h : i < L) : (ksL E iv p L).getD i 0 = ksb E iv (p + i) := by simp [ksL, h]
theorem ksL_drop (E : List UInt8 → List UInt8) (iv : List UInt8) (p L k : Nat) (h : k ≤ L) : (ksL E iv p L).drop k = ksL E iv (p + k) (L - k) := by
  apply ext_getD
  · simp [ksL]
  · intro j hj
    rw [List.length_drop, ksL_len] at hj
    rw [ksL_get _ _ _ _ _ hj]
    have : ((ksL E iv p L).drop k).getD j 0 = (ksL E iv p L).getD (k + j) 0 := by simp [List.getD]
    rw [this, ksL_get _ _ _ _ _ (by omega), Nat.add_assoc]
theorem ksL_block (E : List UInt8 → List UInt8) (iv : List UInt8) (f : Nat) (h : (E (cnt iv f)).length = 16) : E (cnt iv f) = ksL E iv (16 * f) 16 := by
  apply ext_getD
  · rw [ksL_len, h]
  · intro j hj
    rw [ksL_get _ _ _ _ _ (by omega)]
    unfold ksb
    rw [show (16 * f + j) / 16 = f by omega, show (16 * f + j) % 16 = j by omega]
/-- One part of the bytes at hand. -/
theorem xk_part (E : List UInt8 → List UInt8) (iv : List UInt8) (p L : Nat) (b : List UInt8) : List.zipWith (· ^^^ ·) b (ksL E iv p L) = xk E iv p (b.take (min b.length L)) := by
  apply ext_getD
  · rw [List.length_zipWith, ksL_len, xk_len, List.length_take]; omega
  · intro j hj
    rw [List.length_zipWith, ksL_len] at hj
    rw [xk_get _ _ _ _ _ (by rw [List.length_take]; omega)]
    have h1 : (List.zipWith (· ^^^ ·) b (ksL E iv p L)).getD j 0 = b.getD j 0 ^^^ (ksL E iv p L).getD j 0 := by
      simp only [List.getD, List.getElem?_zipWith]
      rw [List.getElem?_eq_getElem (show j < b.length by omega), List.getElem?_eq_getElem (show j < (ksL E iv p L).length by rw [ksL_len]; omega)]
      rfl
    have h2 : (b.take (min b.length L)).getD j 0 = b.getD j 0 := by simp only [List.getD, List.getElem?_take, if_pos hj]
    rw [h1, h2, ksL_get _ _ _ _ _ (by omega)]
theorem xk_append (E : List UInt8 → List UInt8) (iv : List UInt8) (p : Nat) (a b : List UInt8) : xk E iv p (a ++ b) = xk E iv p a ++ xk E iv (p + a.length) b := by
  apply ext_getD
  · simp [xk]
  · intro j hj
    rw [xk_len, List.length_append] at hj
    rw [xk_get _ _ _ _ _ (by rw [List.length_append]; exact hj)]
    by_cases h : j < a.length
    · have e1 : (xk E iv p a ++ xk E iv (p + a.length) b).getD j 0 = (xk E iv p a).getD j 0 := by simp [List.getD, List.getElem?_append_left (show j < (xk E iv p a).length by rw [xk_len]; exact h)]
      have e2 : (a ++ b).getD j 0 = a.getD j 0 := by simp [List.getD, List.getElem?_append_left h]
      rw [e1, e2, xk_get _ _ _ _ _ h]
    · have e1 : (xk E iv p a ++ xk E iv (p + a.length) b).getD j 0 = (xk E iv (p + a.length) b).getD (j - a.length) 0 := by
        simp [List.getD, List.getElem?_append_right (show (xk E iv p a).length ≤ j by rw [xk_len]; omega), xk_len]
      have e2 : (a ++ b).getD j 0 = b.getD (j - a.length) 0 := by simp [List.getD, List.getElem?_append_right (show a.length ≤ j by omega)]
      rw [e1, e2, xk_get _ _ _ _ _ (by omega), show p + a.length + (j - a.length) = p + j by omega]
theorem xk_xk (E : List UInt8 → List UInt8) (iv : List UInt8) (p : Nat) (b : List UInt8) : xk E iv p (xk E iv p b) = b := by
  apply ext_getD
  · simp [xk]
  · intro j hj
    rw [xk_len, xk_len] at hj
    rw [xk_get _ _ _ _ _ (by rw [xk_len]; exact hj), xk_get _ _ _ _ _ hj, UInt8.xor_assoc, UInt8.xor_self, UInt8.xor_zero]

end Go.Proofs.Ytgellbapbphnlaa
