/- aes: a column mixed four times is what it was -/
import Derived.Test.YtgellbapbphnlaaAes6
namespace Go.Proofs.Ytgellbapbphnlaa

theorem all256 {p : UInt8 → Prop} (h : ∀ n : Fin 256, p (UInt8.ofNat n)) (x : UInt8) : p x := by
  have := h ⟨x.toNat, x.toNat_lt⟩
  simpa using this
def g27 (y : UInt8) : UInt8 := if y = 0 then 0 else 27
theorem dbl_form (x : UInt8) : dbl x = (x <<< 1) ^^^ g27 (x >>> 7) := by
  revert x; apply all256; decide +kernel
theorem shr7 (x : UInt8) : x >>> 7 = 0 ∨ x >>> 7 = 1 := by
  revert x; apply all256; decide +kernel
theorem dbl_xor (x y : UInt8) : dbl (x ^^^ y) = dbl x ^^^ dbl y := by
  rw [dbl_form, dbl_form, dbl_form]
  have e1 : (x ^^^ y) <<< 1 = x <<< 1 ^^^ y <<< 1 := by
    apply UInt8.toBitVec_inj.1; simp [BitVec.shiftLeft_xor_distrib]
  have e2 : (x ^^^ y) >>> 7 = x >>> 7 ^^^ y >>> 7 := by
    apply UInt8.toBitVec_inj.1; simp [BitVec.ushiftRight_xor_distrib]
  rw [e1, e2]
  have e3 : g27 (x >>> 7 ^^^ y >>> 7) = g27 (x >>> 7) ^^^ g27 (y >>> 7) := by
    rcases shr7 x with h | h <;> rcases shr7 y with h' | h' <;> rw [h, h'] <;> decide
  rw [e3]
  ac_rfl
theorem xlc (a b c : UInt8) : a ^^^ (b ^^^ c) = b ^^^ (a ^^^ c) := by rw [← UInt8.xor_assoc, UInt8.xor_comm a b, UInt8.xor_assoc]
theorem xss (a b : UInt8) : a ^^^ (a ^^^ b) = b := by rw [← UInt8.xor_assoc]; simp
set_option maxHeartbeats 1000000 in
theorem mx_two (a b c d : UInt8) : mx4 (mx4 [a, b, c, d]) = [a ^^^ dbl (dbl (a ^^^ c)), b ^^^ dbl (dbl (b ^^^ d)), c ^^^ dbl (dbl (a ^^^ c)), d ^^^ dbl (dbl (b ^^^ d))] := by
  simp only [mx4, dbl_xor]
  generalize dbl (dbl a) = a2
  generalize dbl (dbl b) = b2
  generalize dbl (dbl c) = c2
  generalize dbl (dbl d) = d2
  generalize dbl a = a1
  generalize dbl b = b1
  generalize dbl c = c1
  generalize dbl d = d1
  simp only [UInt8.xor_assoc]
  simp [UInt8.xor_comm, xlc, xss]
theorem mx_four {l : List UInt8} (h : l.length = 4) : mx4 (mx4 (mx4 (mx4 l))) = l := by
  obtain ⟨a, b, c, d, rfl⟩ := len4 h
  rw [mx_two, mx_two]
  have e1 : a ^^^ dbl (dbl (a ^^^ c)) ^^^ (c ^^^ dbl (dbl (a ^^^ c))) = a ^^^ c := by
    generalize dbl (dbl (a ^^^ c)) = z
    simp [UInt8.xor_comm, xlc]
  have e2 : b ^^^ dbl (dbl (b ^^^ d)) ^^^ (d ^^^ dbl (dbl (b ^^^ d))) = b ^^^ d := by
    generalize dbl (dbl (b ^^^ d)) = z
    simp [UInt8.xor_comm, xlc]
  rw [e1, e2]
  simp [UInt8.xor_assoc]
end Go.Proofs.Ytgellbapbphnlaa
