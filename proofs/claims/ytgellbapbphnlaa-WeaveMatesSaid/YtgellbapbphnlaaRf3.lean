/- the reference of aes: its columns are those of the program -/
import Derived.Test.YtgellbapbphnlaaRf2
import Derived.Test.YtgellbapbphnlaaLin
namespace Go.Proofs.Ytgellbapbphnlaa

theorem mul_1 (x : UInt8) : mulF 1 x = x := by revert x; apply all256; decide +kernel
theorem mul_2 (x : UInt8) : mulF 2 x = dbl x := by revert x; apply all256; decide +kernel
theorem mul_3 (x : UInt8) : mulF 3 x = x ^^^ dbl x := by revert x; apply all256; decide +kernel
theorem mul_9 (x : UInt8) : mulF 9 x = x ^^^ dbl (dbl (dbl x)) := by revert x; apply all256; decide +kernel
theorem mul_11 (x : UInt8) : mulF 11 x = x ^^^ dbl x ^^^ dbl (dbl (dbl x)) := by revert x; apply all256; decide +kernel
theorem mul_13 (x : UInt8) : mulF 13 x = x ^^^ dbl (dbl x) ^^^ dbl (dbl (dbl x)) := by revert x; apply all256; decide +kernel
theorem mul_14 (x : UInt8) : mulF 14 x = dbl x ^^^ dbl (dbl x) ^^^ dbl (dbl (dbl x)) := by revert x; apply all256; decide +kernel
theorem x0_ (a : UInt8) : 0 ^^^ a = a := by simp
set_option maxHeartbeats 1000000 in
theorem row2_0 (a b c d : UInt8) : 0 ^^^ mulF 2 a ^^^ mulF 3 b ^^^ mulF 1 c ^^^ mulF 1 d = a ^^^ (a ^^^ b ^^^ c ^^^ d) ^^^ dbl (a ^^^ b) := by
  simp only [mul_1, mul_2, mul_3, dbl_xor, x0_]
  generalize dbl (dbl (dbl a)) = a3
  generalize dbl (dbl (dbl b)) = b3
  generalize dbl (dbl (dbl c)) = c3
  generalize dbl (dbl (dbl d)) = d3
  generalize dbl (dbl a) = a2
  generalize dbl (dbl b) = b2
  generalize dbl (dbl c) = c2
  generalize dbl (dbl d) = d2
  generalize dbl a = a1
  generalize dbl b = b1
  generalize dbl c = c1
  generalize dbl d = d1
  simp only [UInt8.xor_assoc]
  simp [UInt8.xor_comm, xlc, xss]
set_option maxHeartbeats 1000000 in
theorem row2_1 (a b c d : UInt8) : 0 ^^^ mulF 1 a ^^^ mulF 2 b ^^^ mulF 3 c ^^^ mulF 1 d = b ^^^ (a ^^^ b ^^^ c ^^^ d) ^^^ dbl (b ^^^ c) := by
  simp only [mul_1, mul_2, mul_3, dbl_xor, x0_]
  generalize dbl (dbl (dbl a)) = a3
  generalize dbl (dbl (dbl b)) = b3
  generalize dbl (dbl (dbl c)) = c3
  generalize dbl (dbl (dbl d)) = d3
  generalize dbl (dbl a) = a2
  generalize dbl (dbl b) = b2
  generalize dbl (dbl c) = c2
  generalize dbl (dbl d) = d2
  generalize dbl a = a1
  generalize dbl b = b1
  generalize dbl c = c1
  generalize dbl d = d1
  simp only [UInt8.xor_assoc]
  simp [UInt8.xor_comm, xlc, xss]
set_option maxHeartbeats 1000000 in
theorem row2_2 (a b c d : UInt8) : 0 ^^^ mulF 1 a ^^^ mulF 1 b ^^^ mulF 2 c ^^^ mulF 3 d = c ^^^ (a ^^^ b ^^^ c ^^^ d) ^^^ dbl (c ^^^ d) := by
  simp only [mul_1, mul_2, mul_3, dbl_xor, x0_]
  generalize dbl (dbl (dbl a)) = a3
  generalize dbl (dbl (dbl b)) = b3
  generalize dbl (dbl (dbl c)) = c3
  generalize dbl (dbl (dbl d)) = d3
  generalize dbl (dbl a) = a2
  generalize dbl (dbl b) = b2
  generalize dbl (dbl c) = c2
  generalize dbl (dbl d) = d2
  generalize dbl a = a1
  generalize dbl b = b1
  generalize dbl c = c1
  generalize dbl d = d1
  simp only [UInt8.xor_assoc]
  simp [xlc, xss]
set_option maxHeartbeats 1000000 in
theorem row2_3 (a b c d : UInt8) : 0 ^^^ mulF 3 a ^^^ mulF 1 b ^^^ mulF 1 c ^^^ mulF 2 d = d ^^^ (a ^^^ b ^^^ c ^^^ d) ^^^ dbl (d ^^^ a) := by
  simp only [mul_1, mul_2, mul_3, dbl_xor, x0_]
  generalize dbl (dbl (dbl a)) = a3
  generalize dbl (dbl (dbl b)) = b3
  generalize dbl (dbl (dbl c)) = c3
  generalize dbl (dbl (dbl d)) = d3
  generalize dbl (dbl a) = a2
  generalize dbl (dbl b) = b2
  generalize dbl (dbl c) = c2
  generalize dbl (dbl d) = d2
  generalize dbl a = a1
  generalize dbl b = b1
  generalize dbl c = c1
  generalize dbl d = d1
  simp only [UInt8.xor_assoc]
  simp [UInt8.xor_comm, xlc, xss]
set_option maxHeartbeats 1000000 in
theorem row14_0 (a b c d : UInt8) : 0 ^^^ mulF 14 a ^^^ mulF 11 b ^^^ mulF 13 c ^^^ mulF 9 d = (a ^^^ dbl (dbl (a ^^^ c))) ^^^ ((a ^^^ dbl (dbl (a ^^^ c))) ^^^ (b ^^^ dbl (dbl (b ^^^ d))) ^^^ (c ^^^ dbl (dbl (a ^^^ c))) ^^^ (d ^^^ dbl (dbl (b ^^^ d)))) ^^^ dbl ((a ^^^ dbl (dbl (a ^^^ c))) ^^^ (b ^^^ dbl (dbl (b ^^^ d)))) := by
  simp only [mul_9, mul_11, mul_13, mul_14, dbl_xor, x0_]
  generalize dbl (dbl (dbl a)) = a3
  generalize dbl (dbl (dbl b)) = b3
  generalize dbl (dbl (dbl c)) = c3
  generalize dbl (dbl (dbl d)) = d3
  generalize dbl (dbl a) = a2
  generalize dbl (dbl b) = b2
  generalize dbl (dbl c) = c2
  generalize dbl (dbl d) = d2
  generalize dbl a = a1
  generalize dbl b = b1
  generalize dbl c = c1
  generalize dbl d = d1
  simp only [UInt8.xor_assoc]
  simp [UInt8.xor_comm, xlc, xss]
set_option maxHeartbeats 1000000 in
theorem row14_1 (a b c d : UInt8) : 0 ^^^ mulF 9 a ^^^ mulF 14 b ^^^ mulF 11 c ^^^ mulF 13 d = (b ^^^ dbl (dbl (b ^^^ d))) ^^^ ((a ^^^ dbl (dbl (a ^^^ c))) ^^^ (b ^^^ dbl (dbl (b ^^^ d))) ^^^ (c ^^^ dbl (dbl (a ^^^ c))) ^^^ (d ^^^ dbl (dbl (b ^^^ d)))) ^^^ dbl ((b ^^^ dbl (dbl (b ^^^ d))) ^^^ (c ^^^ dbl (dbl (a ^^^ c)))) := by
  simp only [mul_9, mul_11, mul_13, mul_14, dbl_xor, x0_]
  generalize dbl (dbl (dbl a)) = a3
  generalize dbl (dbl (dbl b)) = b3
  generalize dbl (dbl (dbl c)) = c3
  generalize dbl (dbl (dbl d)) = d3
  generalize dbl (dbl a) = a2
  generalize dbl (dbl b) = b2
  generalize dbl (dbl c) = c2
  generalize dbl (dbl d) = d2
  generalize dbl a = a1
  generalize dbl b = b1
  generalize dbl c = c1
  generalize dbl d = d1
  simp only [UInt8.xor_assoc]
  simp [UInt8.xor_comm, xlc, xss]
set_option maxHeartbeats 1000000 in
theorem row14_2 (a b c d : UInt8) : 0 ^^^ mulF 13 a ^^^ mulF 9 b ^^^ mulF 14 c ^^^ mulF 11 d = (c ^^^ dbl (dbl (a ^^^ c))) ^^^ ((a ^^^ dbl (dbl (a ^^^ c))) ^^^ (b ^^^ dbl (dbl (b ^^^ d))) ^^^ (c ^^^ dbl (dbl (a ^^^ c))) ^^^ (d ^^^ dbl (dbl (b ^^^ d)))) ^^^ dbl ((c ^^^ dbl (dbl (a ^^^ c))) ^^^ (d ^^^ dbl (dbl (b ^^^ d)))) := by
  simp only [mul_9, mul_11, mul_13, mul_14, dbl_xor, x0_]
  generalize dbl (dbl (dbl a)) = a3
  generalize dbl (dbl (dbl b)) = b3
  generalize dbl (dbl (dbl c)) = c3
  generalize dbl (dbl (dbl d)) = d3
  generalize dbl (dbl a) = a2
  generalize dbl (dbl b) = b2
  generalize dbl (dbl c) = c2
  generalize dbl (dbl d) = d2
  generalize dbl a = a1
  generalize dbl b = b1
  generalize dbl c = c1
  generalize dbl d = d1
  simp only [UInt8.xor_assoc]
  simp [UInt8.xor_comm, xlc, xss]
set_option maxHeartbeats 1000000 in
theorem row14_3 (a b c d : UInt8) : 0 ^^^ mulF 11 a ^^^ mulF 13 b ^^^ mulF 9 c ^^^ mulF 14 d = (d ^^^ dbl (dbl (b ^^^ d))) ^^^ ((a ^^^ dbl (dbl (a ^^^ c))) ^^^ (b ^^^ dbl (dbl (b ^^^ d))) ^^^ (c ^^^ dbl (dbl (a ^^^ c))) ^^^ (d ^^^ dbl (dbl (b ^^^ d)))) ^^^ dbl ((d ^^^ dbl (dbl (b ^^^ d))) ^^^ (a ^^^ dbl (dbl (a ^^^ c)))) := by
  simp only [mul_9, mul_11, mul_13, mul_14, dbl_xor, x0_]
  generalize dbl (dbl (dbl a)) = a3
  generalize dbl (dbl (dbl b)) = b3
  generalize dbl (dbl (dbl c)) = c3
  generalize dbl (dbl (dbl d)) = d3
  generalize dbl (dbl a) = a2
  generalize dbl (dbl b) = b2
  generalize dbl (dbl c) = c2
  generalize dbl (dbl d) = d2
  generalize dbl a = a1
  generalize dbl b = b1
  generalize dbl c = c1
  generalize dbl d = d1
  simp only [UInt8.xor_assoc]
  simp [UInt8.xor_comm, xlc, xss]
theorem col_2 {l : List UInt8} (h : l.length = 16) : colF [2, 3, 1, 1] l = mixTo 1 4 l := by
  obtain ⟨x0, x1, x2, x3, x4, x5, x6, x7, x8, x9, x10, x11, x12, x13, x14, x15, rfl⟩ := len16 h
  have e : colF [2, 3, 1, 1] [x0, x1, x2, x3, x4, x5, x6, x7, x8, x9, x10, x11, x12, x13, x14, x15] = [0 ^^^ mulF 2 x0 ^^^ mulF 3 x1 ^^^ mulF 1 x2 ^^^ mulF 1 x3, 0 ^^^ mulF 1 x0 ^^^ mulF 2 x1 ^^^ mulF 3 x2 ^^^ mulF 1 x3, 0 ^^^ mulF 1 x0 ^^^ mulF 1 x1 ^^^ mulF 2 x2 ^^^ mulF 3 x3, 0 ^^^ mulF 3 x0 ^^^ mulF 1 x1 ^^^ mulF 1 x2 ^^^ mulF 2 x3, 0 ^^^ mulF 2 x4 ^^^ mulF 3 x5 ^^^ mulF 1 x6 ^^^ mulF 1 x7, 0 ^^^ mulF 1 x4 ^^^ mulF 2 x5 ^^^ mulF 3 x6 ^^^ mulF 1 x7, 0 ^^^ mulF 1 x4 ^^^ mulF 1 x5 ^^^ mulF 2 x6 ^^^ mulF 3 x7, 0 ^^^ mulF 3 x4 ^^^ mulF 1 x5 ^^^ mulF 1 x6 ^^^ mulF 2 x7, 0 ^^^ mulF 2 x8 ^^^ mulF 3 x9 ^^^ mulF 1 x10 ^^^ mulF 1 x11, 0 ^^^ mulF 1 x8 ^^^ mulF 2 x9 ^^^ mulF 3 x10 ^^^ mulF 1 x11, 0 ^^^ mulF 1 x8 ^^^ mulF 1 x9 ^^^ mulF 2 x10 ^^^ mulF 3 x11, 0 ^^^ mulF 3 x8 ^^^ mulF 1 x9 ^^^ mulF 1 x10 ^^^ mulF 2 x11, 0 ^^^ mulF 2 x12 ^^^ mulF 3 x13 ^^^ mulF 1 x14 ^^^ mulF 1 x15, 0 ^^^ mulF 1 x12 ^^^ mulF 2 x13 ^^^ mulF 3 x14 ^^^ mulF 1 x15, 0 ^^^ mulF 1 x12 ^^^ mulF 1 x13 ^^^ mulF 2 x14 ^^^ mulF 3 x15, 0 ^^^ mulF 3 x12 ^^^ mulF 1 x13 ^^^ mulF 1 x14 ^^^ mulF 2 x15] := rfl
  rw [e]
  simp only [row2_0, row2_1, row2_2, row2_3]
  rfl
theorem mx_three (a b c d : UInt8) : mxN 3 [a, b, c, d] = mx4 [a ^^^ dbl (dbl (a ^^^ c)), b ^^^ dbl (dbl (b ^^^ d)), c ^^^ dbl (dbl (a ^^^ c)), d ^^^ dbl (dbl (b ^^^ d))] := by
  rw [← mx_two]; rfl
theorem col_14 {l : List UInt8} (h : l.length = 16) : colF [14, 11, 13, 9] l = mixTo 3 4 l := by
  obtain ⟨x0, x1, x2, x3, x4, x5, x6, x7, x8, x9, x10, x11, x12, x13, x14, x15, rfl⟩ := len16 h
  have e : colF [14, 11, 13, 9] [x0, x1, x2, x3, x4, x5, x6, x7, x8, x9, x10, x11, x12, x13, x14, x15] = [0 ^^^ mulF 14 x0 ^^^ mulF 11 x1 ^^^ mulF 13 x2 ^^^ mulF 9 x3, 0 ^^^ mulF 9 x0 ^^^ mulF 14 x1 ^^^ mulF 11 x2 ^^^ mulF 13 x3, 0 ^^^ mulF 13 x0 ^^^ mulF 9 x1 ^^^ mulF 14 x2 ^^^ mulF 11 x3, 0 ^^^ mulF 11 x0 ^^^ mulF 13 x1 ^^^ mulF 9 x2 ^^^ mulF 14 x3, 0 ^^^ mulF 14 x4 ^^^ mulF 11 x5 ^^^ mulF 13 x6 ^^^ mulF 9 x7, 0 ^^^ mulF 9 x4 ^^^ mulF 14 x5 ^^^ mulF 11 x6 ^^^ mulF 13 x7, 0 ^^^ mulF 13 x4 ^^^ mulF 9 x5 ^^^ mulF 14 x6 ^^^ mulF 11 x7, 0 ^^^ mulF 11 x4 ^^^ mulF 13 x5 ^^^ mulF 9 x6 ^^^ mulF 14 x7, 0 ^^^ mulF 14 x8 ^^^ mulF 11 x9 ^^^ mulF 13 x10 ^^^ mulF 9 x11, 0 ^^^ mulF 9 x8 ^^^ mulF 14 x9 ^^^ mulF 11 x10 ^^^ mulF 13 x11, 0 ^^^ mulF 13 x8 ^^^ mulF 9 x9 ^^^ mulF 14 x10 ^^^ mulF 11 x11, 0 ^^^ mulF 11 x8 ^^^ mulF 13 x9 ^^^ mulF 9 x10 ^^^ mulF 14 x11, 0 ^^^ mulF 14 x12 ^^^ mulF 11 x13 ^^^ mulF 13 x14 ^^^ mulF 9 x15, 0 ^^^ mulF 9 x12 ^^^ mulF 14 x13 ^^^ mulF 11 x14 ^^^ mulF 13 x15, 0 ^^^ mulF 13 x12 ^^^ mulF 9 x13 ^^^ mulF 14 x14 ^^^ mulF 11 x15, 0 ^^^ mulF 11 x12 ^^^ mulF 13 x13 ^^^ mulF 9 x14 ^^^ mulF 14 x15] := rfl
  have e2 : mixTo 3 4 [x0, x1, x2, x3, x4, x5, x6, x7, x8, x9, x10, x11, x12, x13, x14, x15] = mxN 3 [x0, x1, x2, x3] ++ mxN 3 [x4, x5, x6, x7] ++ mxN 3 [x8, x9, x10, x11] ++ mxN 3 [x12, x13, x14, x15] := by
    show ((([] ++ mxN 3 [x0, x1, x2, x3]) ++ mxN 3 [x4, x5, x6, x7]) ++ mxN 3 [x8, x9, x10, x11]) ++ mxN 3 [x12, x13, x14, x15] ++ [] = _
    simp
  rw [e, e2, mx_three, mx_three, mx_three, mx_three]
  simp only [row14_0, row14_1, row14_2, row14_3]
  rfl
end Go.Proofs.Ytgellbapbphnlaa
