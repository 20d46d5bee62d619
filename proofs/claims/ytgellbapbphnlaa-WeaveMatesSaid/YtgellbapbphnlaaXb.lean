/- weave and chacha: several texts in one -/
import Derived.Test.YtgellbapbphnlaaCb
import Derived.Test.YtgellbapbphnlaaRc
import Derived.ArgAppend
import Derived.Lib.SlBytesConst
import Derived.Test.YtgellbapbphnlaaXd
/- the reference's quarter round -/
namespace Go.Proofs.Ytgellbapbphnlaa
open Go.RowKit

def addS (s : List UInt32) (x y : Nat) : List UInt32 := s.set x (s.getD x 0 + s.getD y 0)
def rotS (s : List UInt32) (x y k : Nat) : List UInt32 := s.set x (rotl (s.getD x 0 ^^^ s.getD y 0) k)
theorem addS_len (s : List UInt32) (x y : Nat) : (addS s x y).length = s.length := by simp [addS]
theorem rotS_len (s : List UInt32) (x y k : Nat) : (rotS s x y k).length = s.length := by simp [rotS]
def refq (s : List UInt32) (a b c d : Nat) : List UInt32 :=
  rotS (addS (rotS (addS (rotS (addS (rotS (addS s a b) d a 16) c d) b c 12) a b) d a 8) c d) b c 7
theorem refq_len (s : List UInt32) (a b c d : Nat) : (refq s a b c d).length = s.length := by simp [refq, addS_len, rotS_len]
theorem gset (l : List UInt32) (i j : Nat) (v : UInt32) (hi : i < l.length) : (l.set i v).getD j 0 = if i = j then v else l.getD j 0 := by
  simp only [List.getD, List.getElem?_set]
  by_cases e : i = j
  · subst e; simp [hi]
  · simp [e]
theorem ext32 {l r : List UInt32} (h : l.length = r.length) (e : ∀ j, j < l.length → l.getD j 0 = r.getD j 0) : l = r := by
  apply List.ext_getElem h
  intro i h1 h2
  have := e i h1
  simpa [List.getD, h1, h2] using this
theorem addS_get (s : List UInt32) (x y j : Nat) (hx : x < s.length) : (addS s x y).getD j 0 = if x = j then s.getD x 0 + s.getD y 0 else s.getD j 0 := gset _ _ _ _ hx
theorem rotS_get (s : List UInt32) (x y k j : Nat) (hx : x < s.length) : (rotS s x y k).getD j 0 = if x = j then rotl (s.getD x 0 ^^^ s.getD y 0) k else s.getD j 0 := gset _ _ _ _ hx
theorem refq_eq (s : List UInt32) (a b c d : Nat) (hs : s.length = 16) (ha : a < 16) (hb : b < 16) (hc : c < 16) (hd : d < 16) (n1 : a ≠ b) (n2 : a ≠ c) (n3 : a ≠ d) (n4 : b ≠ c) (n5 : b ≠ d) (n6 : c ≠ d) : refq s a b c d = qAt s a b c d := by
  apply ext32
  · rw [refq_len, qAt_len]
  · intro j hj
    have e1 : ∀ x y : Nat, x ≠ y → (x = y) = False := fun x y h => eq_false h
    unfold refq qAt qrF qrA
    rw [rotS_get _ _ _ _ _ (by simp only [addS_len, rotS_len]; omega)]
    simp only [gset, List.length_set, hs, ha, hb, hc, hd]
    repeat rw [addS_get _ _ _ _ (by simp only [addS_len, rotS_len]; omega)]
    simp only [addS_get, rotS_get, addS_len, rotS_len, hs, ha, hb, hc, hd, e1 _ _ n1, e1 _ _ n2, e1 _ _ n3, e1 _ _ n4, e1 _ _ n5, e1 _ _ n6, e1 _ _ n1.symm, e1 _ _ n2.symm, e1 _ _ n3.symm, e1 _ _ n4.symm, e1 _ _ n5.symm, e1 _ _ n6.symm, if_true, if_false]
    by_cases j1 : d = j
    · subst j1; simp [n5, n6]
    · by_cases j2 : c = j
      · subst j2; simp [n4, n6.symm]
      · by_cases j3 : b = j
        · subst j3; simp [n4.symm, n5.symm]
        · by_cases j4 : a = j
          · subst j4; simp [n1.symm, n2.symm, n3.symm]
          · simp [j1, j2, j3, j4]

set_option maxRecDepth 100000 in
set_option maxHeartbeats 4000000 in
theorem refquarter_any (w : World) (g : Nat) (s : List UInt32) (a b c d : Nat) (hg : Blk w g (ws s) tS16) (hs : s.length = 16) (ha : a < 16) (hb : b < 16) (hc : c < 16) (hd : d < 16) :
    Calls Try.prog 89 #[.pointer (some ⟨g, 0, none⟩), .int .i64 a, .int .i64 b, .int .i64 c, .int .i64 d] w fun e w' => e = .returned (.tuple #[]) ∧ Blk w' g (ws (refq s a b c d)) tS16 ∧ Chg w.heap.size [g] w w' ∧ w.heap.size = w'.heap.size := by
  have p1 : (a : Int) < 16 := by omega
  have p2 : (b : Int) < 16 := by omega
  have p3 : (c : Int) < 16 := by omega
  have p4 : (d : Int) < 16 := by omega
  have p5 : 0 ≤ (a : Int) := by omega
  have p6 : 0 ≤ (b : Int) := by omega
  have p7 : 0 ≤ (c : Int) := by omega
  have p8 : 0 ≤ (d : Int) := by omega
  have Hf := hid (show refq s a b c d = rotS (addS (rotS (addS (rotS (addS (rotS (addS s a b) d a 16) c d) b c 12) a b) d a 8) c d) b c 7 from rfl)
  go_enter Try.func89, Try.ntmps89
  go_upto_region 0 with fail
  have l0x := ws_get s a (by omega)
  have l0y := ws_get s b (by omega)
  obtain ⟨s1, e0⟩ : ∃ y, addS s a b = y := ⟨_, rfl⟩
  have q0 : s.set a (s.getD a 0 + s.getD b 0) = s1 := e0
  generalize s.getD a 0 = x0 at l0x l0y q0
  generalize s.getD b 0 = y0 at l0x l0y q0
  have n0 : s1.length = 16 := by rw [← e0, addS_len]; omega
  have E0 := hid e0
  have Q0 := hid q0
  have c0 := (hg.cell a).trans l0x
  have f0 := hg.frozen a
  have S0 : Blk w.drew g (ws s) tS16 := hg
  have b0 := (hg.set a (W32 (x0 + y0))).drew
  have a0 : IntKind.u32.wrap (wv x0 + wv y0) = wv (x0 + y0) := by rw [← w_add]; rfl
  rw [ws_set, Q0.out] at b0
  have C0 := ((Chg.refl w.heap.size [g] w).setCell (p := ⟨g, a, none⟩) (.inl (by simp)) (W32 (x0 + y0))).drew
  have z0 : w.heap.size = (w.setCell ⟨g, a, none⟩ (W32 (x0 + y0))).drew.heap.size := by simp
  have Z0 := hid z0
  clear e0 q0 z0
  try simp only [Act.put]
  refine tkR (fun w' => Blk w' g (ws s) tS16) [13] (by kernel_rfl) (fun c a d v w h => by cases d <;> exact h) (S0) (fun hPF hHeld => ?_)
  refine tkB 0 (.some 10) _ _ rfl rfl (by kernel_rfl) (by kernel_rfl) (by kernel_rfl) (by kernel_rfl) hPF rfl (fun w' => by (go_simp; try with_reducible rfl)) hHeld (fun hHeld => ?_)
  simp only [Act.put, List.setIfInBounds_toArray, List.set_cons_zero, List.set_cons_succ]
  refine tkB 1 (.some 11) _ _ rfl rfl (by kernel_rfl) (by kernel_rfl) (by kernel_rfl) (by kernel_rfl) hPF rfl (fun w' => by (go_simp; try with_reducible rfl)) hHeld (fun hHeld => ?_)
  simp only [Act.put, List.setIfInBounds_toArray, List.set_cons_zero, List.set_cons_succ]
  refine tkB 2 (.some 12) _ _ rfl rfl (by kernel_rfl) (by kernel_rfl) (by kernel_rfl) (by kernel_rfl) hPF rfl (fun w' => by (go_simp; try with_reducible rfl)) hHeld (fun hHeld => ?_)
  simp only [Act.put, List.setIfInBounds_toArray, List.set_cons_zero, List.set_cons_succ]
  refine tkB 3 (.some 13) _ _ rfl rfl (by kernel_rfl) (by kernel_rfl) (by kernel_rfl) (by kernel_rfl) hPF rfl (fun w' => by (go_simp; try with_reducible rfl)) hHeld (fun hHeld => ?_)
  simp only [Act.put, List.setIfInBounds_toArray, List.set_cons_zero, List.set_cons_succ]
  refine tkA 4 (.some 14) _ _ rfl rfl (by kernel_rfl) (by kernel_rfl) (by kernel_rfl) (by kernel_rfl) (by kernel_rfl) hPF rfl (fun w' hw' => by (have h1 := (hw'.cell a).trans l0x; go_simp; try with_reducible rfl)) hHeld (fun hHeld => ?_)
  simp only [Act.put, List.setIfInBounds_toArray, List.set_cons_zero, List.set_cons_succ]
  refine tkB 5 (.some 15) _ _ rfl rfl (by kernel_rfl) (by kernel_rfl) (by kernel_rfl) (by kernel_rfl) hPF rfl (fun w' => by (go_simp; try with_reducible rfl)) hHeld (fun hHeld => ?_)
  simp only [Act.put, List.setIfInBounds_toArray, List.set_cons_zero, List.set_cons_succ]
  refine tkB 6 (.some 16) _ _ rfl rfl (by kernel_rfl) (by kernel_rfl) (by kernel_rfl) (by kernel_rfl) hPF rfl (fun w' => by (go_simp; try with_reducible rfl)) hHeld (fun hHeld => ?_)
  simp only [Act.put, List.setIfInBounds_toArray, List.set_cons_zero, List.set_cons_succ]
  refine tkB 7 (.some 17) _ _ rfl rfl (by kernel_rfl) (by kernel_rfl) (by kernel_rfl) (by kernel_rfl) hPF rfl (fun w' => by (go_simp; try with_reducible rfl)) hHeld (fun hHeld => ?_)
  simp only [Act.put, List.setIfInBounds_toArray, List.set_cons_zero, List.set_cons_succ]
  refine tkB 8 (.some 18) _ _ rfl rfl (by kernel_rfl) (by kernel_rfl) (by kernel_rfl) (by kernel_rfl) hPF rfl (fun w' => by (go_simp; try with_reducible rfl)) hHeld (fun hHeld => ?_)
  simp only [Act.put, List.setIfInBounds_toArray, List.set_cons_zero, List.set_cons_succ]
  refine tkA 9 (.some 19) _ _ rfl rfl (by kernel_rfl) (by kernel_rfl) (by kernel_rfl) (by kernel_rfl) (by kernel_rfl) hPF rfl (fun w' hw' => by (have h1 := (hw'.cell b).trans l0y; go_simp; try with_reducible rfl)) hHeld (fun hHeld => ?_)
  simp only [Act.put, List.setIfInBounds_toArray, List.set_cons_zero, List.set_cons_succ]
  refine tkB 10 (.some 20) _ _ rfl rfl (by kernel_rfl) (by kernel_rfl) (by kernel_rfl) (by kernel_rfl) hPF rfl (fun w' => by (go_simp; try with_reducible rfl)) hHeld (fun hHeld => ?_)
  simp only [Act.put, List.setIfInBounds_toArray, List.set_cons_zero, List.set_cons_succ]
  refine tkB 11 (.some 21) _ _ rfl rfl (by kernel_rfl) (by kernel_rfl) (by kernel_rfl) (by kernel_rfl) hPF rfl (fun w' => by (go_simp; try with_reducible rfl)) hHeld (fun hHeld => ?_)
  simp only [Act.put, List.setIfInBounds_toArray, List.set_cons_zero, List.set_cons_succ]
  refine tkB 12 (.some 22) _ _ rfl rfl (by kernel_rfl) (by kernel_rfl) (by kernel_rfl) (by kernel_rfl) hPF rfl (fun w' => by (go_simp; try with_reducible rfl)) hHeld (fun hHeld => ?_)
  simp only [Act.put, List.setIfInBounds_toArray, List.set_cons_zero, List.set_cons_succ]
  refine tkW (rs := [13]) (by kernel_rfl) (by simp) (AllK.close (o := _) rfl (by kernel_rfl) (fun KC hKC => ?_) AllK.nil)
  go_simp
  refine hKC.out _ _ (fun hHeld => ?_)
  clear hKC KC
  try simp only [Act.put]
  refine tkD (by kernel_rfl) ?_ _
  generalize (w.setCell ⟨g, a, none⟩ (W32 (x0 + y0))).drew = w1 at *
  clear c0 f0 S0 l0x l0y
  go_upto_region 1 with fail
  have l1x := ws_get s1 d (by omega)
  have l1y := ws_get s1 a (by omega)
  obtain ⟨s2, e1⟩ : ∃ y, rotS s1 d a 16 = y := ⟨_, rfl⟩
  have q1 : s1.set d (rotl (s1.getD d 0 ^^^ s1.getD a 0) 16) = s2 := e1
  generalize s1.getD d 0 = x1 at l1x l1y q1
  generalize s1.getD a 0 = y1 at l1x l1y q1
  have n1 : s2.length = 16 := by rw [← e1, rotS_len]; omega
  have E1 := hid e1
  have Q1 := hid q1
  have c1 := (b0.cell d).trans l1x
  have f1 := b0.frozen d
  have S1 : Blk w1.drew g (ws s1) tS16 := b0
  have b1 := (b0.set d (W32 (rotl (x1 ^^^ y1) 16))).drew
  rw [ws_set, Q1.out] at b1
  have C1 := (C0.setCell (p := ⟨g, d, none⟩) (.inl (by simp)) (W32 (rotl (x1 ^^^ y1) 16))).drew
  have z1 : w.heap.size = (w1.setCell ⟨g, d, none⟩ (W32 (rotl (x1 ^^^ y1) 16))).drew.heap.size := by have h9 : w.heap.size = w1.heap.size := Z0.out; simpa using h9
  have Z1 := hid z1
  clear e1 q1 z1
  try simp only [Act.put]
  refine tkR (fun w' => Blk w' g (ws s1) tS16) [16] (by kernel_rfl) (fun c a d v w h => by cases d <;> exact h) (S1) (fun hPF hHeld => ?_)
  refine tkB 0 (.some 23) _ _ rfl rfl (by kernel_rfl) (by kernel_rfl) (by kernel_rfl) (by kernel_rfl) hPF rfl (fun w' => by (go_simp; try with_reducible rfl)) hHeld (fun hHeld => ?_)
  simp only [Act.put, List.setIfInBounds_toArray, List.set_cons_zero, List.set_cons_succ]
  refine tkB 1 (.some 24) _ _ rfl rfl (by kernel_rfl) (by kernel_rfl) (by kernel_rfl) (by kernel_rfl) hPF rfl (fun w' => by (go_simp; try with_reducible rfl)) hHeld (fun hHeld => ?_)
  simp only [Act.put, List.setIfInBounds_toArray, List.set_cons_zero, List.set_cons_succ]
  refine tkB 2 (.some 25) _ _ rfl rfl (by kernel_rfl) (by kernel_rfl) (by kernel_rfl) (by kernel_rfl) hPF rfl (fun w' => by (go_simp; try with_reducible rfl)) hHeld (fun hHeld => ?_)
  simp only [Act.put, List.setIfInBounds_toArray, List.set_cons_zero, List.set_cons_succ]
  refine tkB 3 (.some 26) _ _ rfl rfl (by kernel_rfl) (by kernel_rfl) (by kernel_rfl) (by kernel_rfl) hPF rfl (fun w' => by (go_simp; try with_reducible rfl)) hHeld (fun hHeld => ?_)
  simp only [Act.put, List.setIfInBounds_toArray, List.set_cons_zero, List.set_cons_succ]
  refine tkB 4 (.some 27) _ _ rfl rfl (by kernel_rfl) (by kernel_rfl) (by kernel_rfl) (by kernel_rfl) hPF rfl (fun w' => by (go_simp; try with_reducible rfl)) hHeld (fun hHeld => ?_)
  simp only [Act.put, List.setIfInBounds_toArray, List.set_cons_zero, List.set_cons_succ]
  refine tkB 5 (.some 28) _ _ rfl rfl (by kernel_rfl) (by kernel_rfl) (by kernel_rfl) (by kernel_rfl) hPF rfl (fun w' => by (go_simp; try with_reducible rfl)) hHeld (fun hHeld => ?_)
  simp only [Act.put, List.setIfInBounds_toArray, List.set_cons_zero, List.set_cons_succ]
  refine tkA 6 (.some 29) _ _ rfl rfl (by kernel_rfl) (by kernel_rfl) (by kernel_rfl) (by kernel_rfl) (by kernel_rfl) hPF rfl (fun w' hw' => by (have h1 := (hw'.cell d).trans l1x; go_simp; try with_reducible rfl)) hHeld (fun hHeld => ?_)
  simp only [Act.put, List.setIfInBounds_toArray, List.set_cons_zero, List.set_cons_succ]
  refine tkB 7 (.some 30) _ _ rfl rfl (by kernel_rfl) (by kernel_rfl) (by kernel_rfl) (by kernel_rfl) hPF rfl (fun w' => by (go_simp; try with_reducible rfl)) hHeld (fun hHeld => ?_)
  simp only [Act.put, List.setIfInBounds_toArray, List.set_cons_zero, List.set_cons_succ]
  refine tkB 8 (.some 31) _ _ rfl rfl (by kernel_rfl) (by kernel_rfl) (by kernel_rfl) (by kernel_rfl) hPF rfl (fun w' => by (go_simp; try with_reducible rfl)) hHeld (fun hHeld => ?_)
  simp only [Act.put, List.setIfInBounds_toArray, List.set_cons_zero, List.set_cons_succ]
  refine tkB 9 (.some 32) _ _ rfl rfl (by kernel_rfl) (by kernel_rfl) (by kernel_rfl) (by kernel_rfl) hPF rfl (fun w' => by (go_simp; try with_reducible rfl)) hHeld (fun hHeld => ?_)
  simp only [Act.put, List.setIfInBounds_toArray, List.set_cons_zero, List.set_cons_succ]
  refine tkB 10 (.some 33) _ _ rfl rfl (by kernel_rfl) (by kernel_rfl) (by kernel_rfl) (by kernel_rfl) hPF rfl (fun w' => by (go_simp; try with_reducible rfl)) hHeld (fun hHeld => ?_)
  simp only [Act.put, List.setIfInBounds_toArray, List.set_cons_zero, List.set_cons_succ]
  refine tkA 11 (.some 34) _ _ rfl rfl (by kernel_rfl) (by kernel_rfl) (by kernel_rfl) (by kernel_rfl) (by kernel_rfl) hPF rfl (fun w' hw' => by (have h1 := (hw'.cell a).trans l1y; go_simp; try with_reducible rfl)) hHeld (fun hHeld => ?_)
  simp only [Act.put, List.setIfInBounds_toArray, List.set_cons_zero, List.set_cons_succ]
  refine tkB 12 (.some 35) _ _ rfl rfl (by kernel_rfl) (by kernel_rfl) (by kernel_rfl) (by kernel_rfl) hPF rfl (fun w' => by (go_simp; try with_reducible rfl)) hHeld (fun hHeld => ?_)
  simp only [Act.put, List.setIfInBounds_toArray, List.set_cons_zero, List.set_cons_succ]
  refine tkB 14 (.some 37) _ _ rfl rfl (by kernel_rfl) (by kernel_rfl) (by kernel_rfl) (by kernel_rfl) hPF rfl (fun w' => by (go_simp; try with_reducible rfl)) hHeld (fun hHeld => ?_)
  simp only [Act.put, List.setIfInBounds_toArray, List.set_cons_zero, List.set_cons_succ]
  have hS := hHeld (by kernel_rfl)
  refine tkW (rs := [13]) (by kernel_rfl) (by simp) (AllK.cons (o := _) rfl (fun KC hKC => ?_) AllK.nil)
  go_simp
  refine (refleft_any _ _ 16 (by omega)).mono ?_
  rintro e w' ⟨rfl, rfl⟩
  refine hKC.out _ _ (hS) (fun hHeld => ?_)
  clear hKC KC
  try simp only [Act.put, List.setIfInBounds_toArray, List.set_cons_zero, List.set_cons_succ]
  refine tkB 15 (.some 38) _ _ rfl rfl (by kernel_rfl) (by kernel_rfl) (by kernel_rfl) (by kernel_rfl) hPF rfl (fun w' => by (go_simp; try with_reducible rfl)) hHeld (fun hHeld => ?_)
  simp only [Act.put, List.setIfInBounds_toArray, List.set_cons_zero, List.set_cons_succ]
  refine tkW (rs := [16]) (by kernel_rfl) (by simp) (AllK.close (o := _) rfl (by kernel_rfl) (fun KC hKC => ?_) AllK.nil)
  go_simp
  refine hKC.out _ _ (fun hHeld => ?_)
  clear hKC KC
  try simp only [Act.put]
  refine tkD (by kernel_rfl) ?_ _
  generalize (w1.setCell ⟨g, d, none⟩ (W32 (rotl (x1 ^^^ y1) 16))).drew = w2 at *
  clear c1 f1 S1 l1x l1y
  go_upto_region 2 with fail
  have l2x := ws_get s2 c (by omega)
  have l2y := ws_get s2 d (by omega)
  obtain ⟨s3, e2⟩ : ∃ y, addS s2 c d = y := ⟨_, rfl⟩
  have q2 : s2.set c (s2.getD c 0 + s2.getD d 0) = s3 := e2
  generalize s2.getD c 0 = x2 at l2x l2y q2
  generalize s2.getD d 0 = y2 at l2x l2y q2
  have n2 : s3.length = 16 := by rw [← e2, addS_len]; omega
  have E2 := hid e2
  have Q2 := hid q2
  have c2 := (b1.cell c).trans l2x
  have f2 := b1.frozen c
  have S2 : Blk w2.drew g (ws s2) tS16 := b1
  have b2 := (b1.set c (W32 (x2 + y2))).drew
  have a2 : IntKind.u32.wrap (wv x2 + wv y2) = wv (x2 + y2) := by rw [← w_add]; rfl
  rw [ws_set, Q2.out] at b2
  have C2 := (C1.setCell (p := ⟨g, c, none⟩) (.inl (by simp)) (W32 (x2 + y2))).drew
  have z2 : w.heap.size = (w2.setCell ⟨g, c, none⟩ (W32 (x2 + y2))).drew.heap.size := by have h9 : w.heap.size = w2.heap.size := Z1.out; simpa using h9
  have Z2 := hid z2
  clear e2 q2 z2
  try simp only [Act.put]
  refine tkR (fun w' => Blk w' g (ws s2) tS16) [13] (by kernel_rfl) (fun c a d v w h => by cases d <;> exact h) (S2) (fun hPF hHeld => ?_)
  refine tkB 0 (.some 39) _ _ rfl rfl (by kernel_rfl) (by kernel_rfl) (by kernel_rfl) (by kernel_rfl) hPF rfl (fun w' => by (go_simp; try with_reducible rfl)) hHeld (fun hHeld => ?_)
  simp only [Act.put, List.setIfInBounds_toArray, List.set_cons_zero, List.set_cons_succ]
  refine tkB 1 (.some 40) _ _ rfl rfl (by kernel_rfl) (by kernel_rfl) (by kernel_rfl) (by kernel_rfl) hPF rfl (fun w' => by (go_simp; try with_reducible rfl)) hHeld (fun hHeld => ?_)
  simp only [Act.put, List.setIfInBounds_toArray, List.set_cons_zero, List.set_cons_succ]
  refine tkB 2 (.some 41) _ _ rfl rfl (by kernel_rfl) (by kernel_rfl) (by kernel_rfl) (by kernel_rfl) hPF rfl (fun w' => by (go_simp; try with_reducible rfl)) hHeld (fun hHeld => ?_)
  simp only [Act.put, List.setIfInBounds_toArray, List.set_cons_zero, List.set_cons_succ]
  refine tkB 3 (.some 42) _ _ rfl rfl (by kernel_rfl) (by kernel_rfl) (by kernel_rfl) (by kernel_rfl) hPF rfl (fun w' => by (go_simp; try with_reducible rfl)) hHeld (fun hHeld => ?_)
  simp only [Act.put, List.setIfInBounds_toArray, List.set_cons_zero, List.set_cons_succ]
  refine tkA 4 (.some 43) _ _ rfl rfl (by kernel_rfl) (by kernel_rfl) (by kernel_rfl) (by kernel_rfl) (by kernel_rfl) hPF rfl (fun w' hw' => by (have h1 := (hw'.cell c).trans l2x; go_simp; try with_reducible rfl)) hHeld (fun hHeld => ?_)
  simp only [Act.put, List.setIfInBounds_toArray, List.set_cons_zero, List.set_cons_succ]
  refine tkB 5 (.some 44) _ _ rfl rfl (by kernel_rfl) (by kernel_rfl) (by kernel_rfl) (by kernel_rfl) hPF rfl (fun w' => by (go_simp; try with_reducible rfl)) hHeld (fun hHeld => ?_)
  simp only [Act.put, List.setIfInBounds_toArray, List.set_cons_zero, List.set_cons_succ]
  refine tkB 6 (.some 45) _ _ rfl rfl (by kernel_rfl) (by kernel_rfl) (by kernel_rfl) (by kernel_rfl) hPF rfl (fun w' => by (go_simp; try with_reducible rfl)) hHeld (fun hHeld => ?_)
  simp only [Act.put, List.setIfInBounds_toArray, List.set_cons_zero, List.set_cons_succ]
  refine tkB 7 (.some 46) _ _ rfl rfl (by kernel_rfl) (by kernel_rfl) (by kernel_rfl) (by kernel_rfl) hPF rfl (fun w' => by (go_simp; try with_reducible rfl)) hHeld (fun hHeld => ?_)
  simp only [Act.put, List.setIfInBounds_toArray, List.set_cons_zero, List.set_cons_succ]
  refine tkB 8 (.some 47) _ _ rfl rfl (by kernel_rfl) (by kernel_rfl) (by kernel_rfl) (by kernel_rfl) hPF rfl (fun w' => by (go_simp; try with_reducible rfl)) hHeld (fun hHeld => ?_)
  simp only [Act.put, List.setIfInBounds_toArray, List.set_cons_zero, List.set_cons_succ]
  refine tkA 9 (.some 48) _ _ rfl rfl (by kernel_rfl) (by kernel_rfl) (by kernel_rfl) (by kernel_rfl) (by kernel_rfl) hPF rfl (fun w' hw' => by (have h1 := (hw'.cell d).trans l2y; go_simp; try with_reducible rfl)) hHeld (fun hHeld => ?_)
  simp only [Act.put, List.setIfInBounds_toArray, List.set_cons_zero, List.set_cons_succ]
  refine tkB 10 (.some 49) _ _ rfl rfl (by kernel_rfl) (by kernel_rfl) (by kernel_rfl) (by kernel_rfl) hPF rfl (fun w' => by (go_simp; try with_reducible rfl)) hHeld (fun hHeld => ?_)
  simp only [Act.put, List.setIfInBounds_toArray, List.set_cons_zero, List.set_cons_succ]
  refine tkB 11 (.some 50) _ _ rfl rfl (by kernel_rfl) (by kernel_rfl) (by kernel_rfl) (by kernel_rfl) hPF rfl (fun w' => by (go_simp; try with_reducible rfl)) hHeld (fun hHeld => ?_)
  simp only [Act.put, List.setIfInBounds_toArray, List.set_cons_zero, List.set_cons_succ]
  refine tkB 12 (.some 51) _ _ rfl rfl (by kernel_rfl) (by kernel_rfl) (by kernel_rfl) (by kernel_rfl) hPF rfl (fun w' => by (go_simp; try with_reducible rfl)) hHeld (fun hHeld => ?_)
  simp only [Act.put, List.setIfInBounds_toArray, List.set_cons_zero, List.set_cons_succ]
  refine tkW (rs := [13]) (by kernel_rfl) (by simp) (AllK.close (o := _) rfl (by kernel_rfl) (fun KC hKC => ?_) AllK.nil)
  go_simp
  refine hKC.out _ _ (fun hHeld => ?_)
  clear hKC KC
  try simp only [Act.put]
  refine tkD (by kernel_rfl) ?_ _
  generalize (w2.setCell ⟨g, c, none⟩ (W32 (x2 + y2))).drew = w3 at *
  clear c2 f2 S2 l2x l2y
  go_upto_region 3 with fail
  have l3x := ws_get s3 b (by omega)
  have l3y := ws_get s3 c (by omega)
  obtain ⟨s4, e3⟩ : ∃ y, rotS s3 b c 12 = y := ⟨_, rfl⟩
  have q3 : s3.set b (rotl (s3.getD b 0 ^^^ s3.getD c 0) 12) = s4 := e3
  generalize s3.getD b 0 = x3 at l3x l3y q3
  generalize s3.getD c 0 = y3 at l3x l3y q3
  have n3 : s4.length = 16 := by rw [← e3, rotS_len]; omega
  have E3 := hid e3
  have Q3 := hid q3
  have c3 := (b2.cell b).trans l3x
  have f3 := b2.frozen b
  have S3 : Blk w3.drew g (ws s3) tS16 := b2
  have b3 := (b2.set b (W32 (rotl (x3 ^^^ y3) 12))).drew
  rw [ws_set, Q3.out] at b3
  have C3 := (C2.setCell (p := ⟨g, b, none⟩) (.inl (by simp)) (W32 (rotl (x3 ^^^ y3) 12))).drew
  have z3 : w.heap.size = (w3.setCell ⟨g, b, none⟩ (W32 (rotl (x3 ^^^ y3) 12))).drew.heap.size := by have h9 : w.heap.size = w3.heap.size := Z2.out; simpa using h9
  have Z3 := hid z3
  clear e3 q3 z3
  try simp only [Act.put]
  refine tkR (fun w' => Blk w' g (ws s3) tS16) [16] (by kernel_rfl) (fun c a d v w h => by cases d <;> exact h) (S3) (fun hPF hHeld => ?_)
  refine tkB 0 (.some 52) _ _ rfl rfl (by kernel_rfl) (by kernel_rfl) (by kernel_rfl) (by kernel_rfl) hPF rfl (fun w' => by (go_simp; try with_reducible rfl)) hHeld (fun hHeld => ?_)
  simp only [Act.put, List.setIfInBounds_toArray, List.set_cons_zero, List.set_cons_succ]
  refine tkB 1 (.some 53) _ _ rfl rfl (by kernel_rfl) (by kernel_rfl) (by kernel_rfl) (by kernel_rfl) hPF rfl (fun w' => by (go_simp; try with_reducible rfl)) hHeld (fun hHeld => ?_)
  simp only [Act.put, List.setIfInBounds_toArray, List.set_cons_zero, List.set_cons_succ]
  refine tkB 2 (.some 54) _ _ rfl rfl (by kernel_rfl) (by kernel_rfl) (by kernel_rfl) (by kernel_rfl) hPF rfl (fun w' => by (go_simp; try with_reducible rfl)) hHeld (fun hHeld => ?_)
  simp only [Act.put, List.setIfInBounds_toArray, List.set_cons_zero, List.set_cons_succ]
  refine tkB 3 (.some 55) _ _ rfl rfl (by kernel_rfl) (by kernel_rfl) (by kernel_rfl) (by kernel_rfl) hPF rfl (fun w' => by (go_simp; try with_reducible rfl)) hHeld (fun hHeld => ?_)
  simp only [Act.put, List.setIfInBounds_toArray, List.set_cons_zero, List.set_cons_succ]
  refine tkB 4 (.some 56) _ _ rfl rfl (by kernel_rfl) (by kernel_rfl) (by kernel_rfl) (by kernel_rfl) hPF rfl (fun w' => by (go_simp; try with_reducible rfl)) hHeld (fun hHeld => ?_)
  simp only [Act.put, List.setIfInBounds_toArray, List.set_cons_zero, List.set_cons_succ]
  refine tkB 5 (.some 57) _ _ rfl rfl (by kernel_rfl) (by kernel_rfl) (by kernel_rfl) (by kernel_rfl) hPF rfl (fun w' => by (go_simp; try with_reducible rfl)) hHeld (fun hHeld => ?_)
  simp only [Act.put, List.setIfInBounds_toArray, List.set_cons_zero, List.set_cons_succ]
  refine tkA 6 (.some 58) _ _ rfl rfl (by kernel_rfl) (by kernel_rfl) (by kernel_rfl) (by kernel_rfl) (by kernel_rfl) hPF rfl (fun w' hw' => by (have h1 := (hw'.cell b).trans l3x; go_simp; try with_reducible rfl)) hHeld (fun hHeld => ?_)
  simp only [Act.put, List.setIfInBounds_toArray, List.set_cons_zero, List.set_cons_succ]
  refine tkB 7 (.some 59) _ _ rfl rfl (by kernel_rfl) (by kernel_rfl) (by kernel_rfl) (by kernel_rfl) hPF rfl (fun w' => by (go_simp; try with_reducible rfl)) hHeld (fun hHeld => ?_)
  simp only [Act.put, List.setIfInBounds_toArray, List.set_cons_zero, List.set_cons_succ]
  refine tkB 8 (.some 60) _ _ rfl rfl (by kernel_rfl) (by kernel_rfl) (by kernel_rfl) (by kernel_rfl) hPF rfl (fun w' => by (go_simp; try with_reducible rfl)) hHeld (fun hHeld => ?_)
  simp only [Act.put, List.setIfInBounds_toArray, List.set_cons_zero, List.set_cons_succ]
  refine tkB 9 (.some 61) _ _ rfl rfl (by kernel_rfl) (by kernel_rfl) (by kernel_rfl) (by kernel_rfl) hPF rfl (fun w' => by (go_simp; try with_reducible rfl)) hHeld (fun hHeld => ?_)
  simp only [Act.put, List.setIfInBounds_toArray, List.set_cons_zero, List.set_cons_succ]
  refine tkB 10 (.some 62) _ _ rfl rfl (by kernel_rfl) (by kernel_rfl) (by kernel_rfl) (by kernel_rfl) hPF rfl (fun w' => by (go_simp; try with_reducible rfl)) hHeld (fun hHeld => ?_)
  simp only [Act.put, List.setIfInBounds_toArray, List.set_cons_zero, List.set_cons_succ]
  refine tkA 11 (.some 63) _ _ rfl rfl (by kernel_rfl) (by kernel_rfl) (by kernel_rfl) (by kernel_rfl) (by kernel_rfl) hPF rfl (fun w' hw' => by (have h1 := (hw'.cell c).trans l3y; go_simp; try with_reducible rfl)) hHeld (fun hHeld => ?_)
  simp only [Act.put, List.setIfInBounds_toArray, List.set_cons_zero, List.set_cons_succ]
  refine tkB 12 (.some 64) _ _ rfl rfl (by kernel_rfl) (by kernel_rfl) (by kernel_rfl) (by kernel_rfl) hPF rfl (fun w' => by (go_simp; try with_reducible rfl)) hHeld (fun hHeld => ?_)
  simp only [Act.put, List.setIfInBounds_toArray, List.set_cons_zero, List.set_cons_succ]
  refine tkB 14 (.some 66) _ _ rfl rfl (by kernel_rfl) (by kernel_rfl) (by kernel_rfl) (by kernel_rfl) hPF rfl (fun w' => by (go_simp; try with_reducible rfl)) hHeld (fun hHeld => ?_)
  simp only [Act.put, List.setIfInBounds_toArray, List.set_cons_zero, List.set_cons_succ]
  have hS := hHeld (by kernel_rfl)
  refine tkW (rs := [13]) (by kernel_rfl) (by simp) (AllK.cons (o := _) rfl (fun KC hKC => ?_) AllK.nil)
  go_simp
  refine (refleft_any _ _ 12 (by omega)).mono ?_
  rintro e w' ⟨rfl, rfl⟩
  refine hKC.out _ _ (hS) (fun hHeld => ?_)
  clear hKC KC
  try simp only [Act.put, List.setIfInBounds_toArray, List.set_cons_zero, List.set_cons_succ]
  refine tkB 15 (.some 67) _ _ rfl rfl (by kernel_rfl) (by kernel_rfl) (by kernel_rfl) (by kernel_rfl) hPF rfl (fun w' => by (go_simp; try with_reducible rfl)) hHeld (fun hHeld => ?_)
  simp only [Act.put, List.setIfInBounds_toArray, List.set_cons_zero, List.set_cons_succ]
  refine tkW (rs := [16]) (by kernel_rfl) (by simp) (AllK.close (o := _) rfl (by kernel_rfl) (fun KC hKC => ?_) AllK.nil)
  go_simp
  refine hKC.out _ _ (fun hHeld => ?_)
  clear hKC KC
  try simp only [Act.put]
  refine tkD (by kernel_rfl) ?_ _
  generalize (w3.setCell ⟨g, b, none⟩ (W32 (rotl (x3 ^^^ y3) 12))).drew = w4 at *
  clear c3 f3 S3 l3x l3y
  go_upto_region 4 with fail
  have l4x := ws_get s4 a (by omega)
  have l4y := ws_get s4 b (by omega)
  obtain ⟨s5, e4⟩ : ∃ y, addS s4 a b = y := ⟨_, rfl⟩
  have q4 : s4.set a (s4.getD a 0 + s4.getD b 0) = s5 := e4
  generalize s4.getD a 0 = x4 at l4x l4y q4
  generalize s4.getD b 0 = y4 at l4x l4y q4
  have n4 : s5.length = 16 := by rw [← e4, addS_len]; omega
  have E4 := hid e4
  have Q4 := hid q4
  have c4 := (b3.cell a).trans l4x
  have f4 := b3.frozen a
  have S4 : Blk w4.drew g (ws s4) tS16 := b3
  have b4 := (b3.set a (W32 (x4 + y4))).drew
  have a4 : IntKind.u32.wrap (wv x4 + wv y4) = wv (x4 + y4) := by rw [← w_add]; rfl
  rw [ws_set, Q4.out] at b4
  have C4 := (C3.setCell (p := ⟨g, a, none⟩) (.inl (by simp)) (W32 (x4 + y4))).drew
  have z4 : w.heap.size = (w4.setCell ⟨g, a, none⟩ (W32 (x4 + y4))).drew.heap.size := by have h9 : w.heap.size = w4.heap.size := Z3.out; simpa using h9
  have Z4 := hid z4
  clear e4 q4 z4
  try simp only [Act.put]
  refine tkR (fun w' => Blk w' g (ws s4) tS16) [13] (by kernel_rfl) (fun c a d v w h => by cases d <;> exact h) (S4) (fun hPF hHeld => ?_)
  refine tkB 0 (.some 68) _ _ rfl rfl (by kernel_rfl) (by kernel_rfl) (by kernel_rfl) (by kernel_rfl) hPF rfl (fun w' => by (go_simp; try with_reducible rfl)) hHeld (fun hHeld => ?_)
  simp only [Act.put, List.setIfInBounds_toArray, List.set_cons_zero, List.set_cons_succ]
  refine tkB 1 (.some 69) _ _ rfl rfl (by kernel_rfl) (by kernel_rfl) (by kernel_rfl) (by kernel_rfl) hPF rfl (fun w' => by (go_simp; try with_reducible rfl)) hHeld (fun hHeld => ?_)
  simp only [Act.put, List.setIfInBounds_toArray, List.set_cons_zero, List.set_cons_succ]
  refine tkB 2 (.some 70) _ _ rfl rfl (by kernel_rfl) (by kernel_rfl) (by kernel_rfl) (by kernel_rfl) hPF rfl (fun w' => by (go_simp; try with_reducible rfl)) hHeld (fun hHeld => ?_)
  simp only [Act.put, List.setIfInBounds_toArray, List.set_cons_zero, List.set_cons_succ]
  refine tkB 3 (.some 71) _ _ rfl rfl (by kernel_rfl) (by kernel_rfl) (by kernel_rfl) (by kernel_rfl) hPF rfl (fun w' => by (go_simp; try with_reducible rfl)) hHeld (fun hHeld => ?_)
  simp only [Act.put, List.setIfInBounds_toArray, List.set_cons_zero, List.set_cons_succ]
  refine tkA 4 (.some 72) _ _ rfl rfl (by kernel_rfl) (by kernel_rfl) (by kernel_rfl) (by kernel_rfl) (by kernel_rfl) hPF rfl (fun w' hw' => by (have h1 := (hw'.cell a).trans l4x; go_simp; try with_reducible rfl)) hHeld (fun hHeld => ?_)
  simp only [Act.put, List.setIfInBounds_toArray, List.set_cons_zero, List.set_cons_succ]
  refine tkB 5 (.some 73) _ _ rfl rfl (by kernel_rfl) (by kernel_rfl) (by kernel_rfl) (by kernel_rfl) hPF rfl (fun w' => by (go_simp; try with_reducible rfl)) hHeld (fun hHeld => ?_)
  simp only [Act.put, List.setIfInBounds_toArray, List.set_cons_zero, List.set_cons_succ]
  refine tkB 6 (.some 74) _ _ rfl rfl (by kernel_rfl) (by kernel_rfl) (by kernel_rfl) (by kernel_rfl) hPF rfl (fun w' => by (go_simp; try with_reducible rfl)) hHeld (fun hHeld => ?_)
  simp only [Act.put, List.setIfInBounds_toArray, List.set_cons_zero, List.set_cons_succ]
  refine tkB 7 (.some 75) _ _ rfl rfl (by kernel_rfl) (by kernel_rfl) (by kernel_rfl) (by kernel_rfl) hPF rfl (fun w' => by (go_simp; try with_reducible rfl)) hHeld (fun hHeld => ?_)
  simp only [Act.put, List.setIfInBounds_toArray, List.set_cons_zero, List.set_cons_succ]
  refine tkB 8 (.some 76) _ _ rfl rfl (by kernel_rfl) (by kernel_rfl) (by kernel_rfl) (by kernel_rfl) hPF rfl (fun w' => by (go_simp; try with_reducible rfl)) hHeld (fun hHeld => ?_)
  simp only [Act.put, List.setIfInBounds_toArray, List.set_cons_zero, List.set_cons_succ]
  refine tkA 9 (.some 77) _ _ rfl rfl (by kernel_rfl) (by kernel_rfl) (by kernel_rfl) (by kernel_rfl) (by kernel_rfl) hPF rfl (fun w' hw' => by (have h1 := (hw'.cell b).trans l4y; go_simp; try with_reducible rfl)) hHeld (fun hHeld => ?_)
  simp only [Act.put, List.setIfInBounds_toArray, List.set_cons_zero, List.set_cons_succ]
  refine tkB 10 (.some 78) _ _ rfl rfl (by kernel_rfl) (by kernel_rfl) (by kernel_rfl) (by kernel_rfl) hPF rfl (fun w' => by (go_simp; try with_reducible rfl)) hHeld (fun hHeld => ?_)
  simp only [Act.put, List.setIfInBounds_toArray, List.set_cons_zero, List.set_cons_succ]
  refine tkB 11 (.some 79) _ _ rfl rfl (by kernel_rfl) (by kernel_rfl) (by kernel_rfl) (by kernel_rfl) hPF rfl (fun w' => by (go_simp; try with_reducible rfl)) hHeld (fun hHeld => ?_)
  simp only [Act.put, List.setIfInBounds_toArray, List.set_cons_zero, List.set_cons_succ]
  refine tkB 12 (.some 80) _ _ rfl rfl (by kernel_rfl) (by kernel_rfl) (by kernel_rfl) (by kernel_rfl) hPF rfl (fun w' => by (go_simp; try with_reducible rfl)) hHeld (fun hHeld => ?_)
  simp only [Act.put, List.setIfInBounds_toArray, List.set_cons_zero, List.set_cons_succ]
  refine tkW (rs := [13]) (by kernel_rfl) (by simp) (AllK.close (o := _) rfl (by kernel_rfl) (fun KC hKC => ?_) AllK.nil)
  go_simp
  refine hKC.out _ _ (fun hHeld => ?_)
  clear hKC KC
  try simp only [Act.put]
  refine tkD (by kernel_rfl) ?_ _
  generalize (w4.setCell ⟨g, a, none⟩ (W32 (x4 + y4))).drew = w5 at *
  clear c4 f4 S4 l4x l4y
  go_upto_region 5 with fail
  have l5x := ws_get s5 d (by omega)
  have l5y := ws_get s5 a (by omega)
  obtain ⟨s6, e5⟩ : ∃ y, rotS s5 d a 8 = y := ⟨_, rfl⟩
  have q5 : s5.set d (rotl (s5.getD d 0 ^^^ s5.getD a 0) 8) = s6 := e5
  generalize s5.getD d 0 = x5 at l5x l5y q5
  generalize s5.getD a 0 = y5 at l5x l5y q5
  have n5 : s6.length = 16 := by rw [← e5, rotS_len]; omega
  have E5 := hid e5
  have Q5 := hid q5
  have c5 := (b4.cell d).trans l5x
  have f5 := b4.frozen d
  have S5 : Blk w5.drew g (ws s5) tS16 := b4
  have b5 := (b4.set d (W32 (rotl (x5 ^^^ y5) 8))).drew
  rw [ws_set, Q5.out] at b5
  have C5 := (C4.setCell (p := ⟨g, d, none⟩) (.inl (by simp)) (W32 (rotl (x5 ^^^ y5) 8))).drew
  have z5 : w.heap.size = (w5.setCell ⟨g, d, none⟩ (W32 (rotl (x5 ^^^ y5) 8))).drew.heap.size := by have h9 : w.heap.size = w5.heap.size := Z4.out; simpa using h9
  have Z5 := hid z5
  clear e5 q5 z5
  try simp only [Act.put]
  refine tkR (fun w' => Blk w' g (ws s5) tS16) [16] (by kernel_rfl) (fun c a d v w h => by cases d <;> exact h) (S5) (fun hPF hHeld => ?_)
  refine tkB 0 (.some 81) _ _ rfl rfl (by kernel_rfl) (by kernel_rfl) (by kernel_rfl) (by kernel_rfl) hPF rfl (fun w' => by (go_simp; try with_reducible rfl)) hHeld (fun hHeld => ?_)
  simp only [Act.put, List.setIfInBounds_toArray, List.set_cons_zero, List.set_cons_succ]
  refine tkB 1 (.some 82) _ _ rfl rfl (by kernel_rfl) (by kernel_rfl) (by kernel_rfl) (by kernel_rfl) hPF rfl (fun w' => by (go_simp; try with_reducible rfl)) hHeld (fun hHeld => ?_)
  simp only [Act.put, List.setIfInBounds_toArray, List.set_cons_zero, List.set_cons_succ]
  refine tkB 2 (.some 83) _ _ rfl rfl (by kernel_rfl) (by kernel_rfl) (by kernel_rfl) (by kernel_rfl) hPF rfl (fun w' => by (go_simp; try with_reducible rfl)) hHeld (fun hHeld => ?_)
  simp only [Act.put, List.setIfInBounds_toArray, List.set_cons_zero, List.set_cons_succ]
  refine tkB 3 (.some 84) _ _ rfl rfl (by kernel_rfl) (by kernel_rfl) (by kernel_rfl) (by kernel_rfl) hPF rfl (fun w' => by (go_simp; try with_reducible rfl)) hHeld (fun hHeld => ?_)
  simp only [Act.put, List.setIfInBounds_toArray, List.set_cons_zero, List.set_cons_succ]
  refine tkB 4 (.some 85) _ _ rfl rfl (by kernel_rfl) (by kernel_rfl) (by kernel_rfl) (by kernel_rfl) hPF rfl (fun w' => by (go_simp; try with_reducible rfl)) hHeld (fun hHeld => ?_)
  simp only [Act.put, List.setIfInBounds_toArray, List.set_cons_zero, List.set_cons_succ]
  refine tkB 5 (.some 86) _ _ rfl rfl (by kernel_rfl) (by kernel_rfl) (by kernel_rfl) (by kernel_rfl) hPF rfl (fun w' => by (go_simp; try with_reducible rfl)) hHeld (fun hHeld => ?_)
  simp only [Act.put, List.setIfInBounds_toArray, List.set_cons_zero, List.set_cons_succ]
  refine tkA 6 (.some 87) _ _ rfl rfl (by kernel_rfl) (by kernel_rfl) (by kernel_rfl) (by kernel_rfl) (by kernel_rfl) hPF rfl (fun w' hw' => by (have h1 := (hw'.cell d).trans l5x; go_simp; try with_reducible rfl)) hHeld (fun hHeld => ?_)
  simp only [Act.put, List.setIfInBounds_toArray, List.set_cons_zero, List.set_cons_succ]
  refine tkB 7 (.some 88) _ _ rfl rfl (by kernel_rfl) (by kernel_rfl) (by kernel_rfl) (by kernel_rfl) hPF rfl (fun w' => by (go_simp; try with_reducible rfl)) hHeld (fun hHeld => ?_)
  simp only [Act.put, List.setIfInBounds_toArray, List.set_cons_zero, List.set_cons_succ]
  refine tkB 8 (.some 89) _ _ rfl rfl (by kernel_rfl) (by kernel_rfl) (by kernel_rfl) (by kernel_rfl) hPF rfl (fun w' => by (go_simp; try with_reducible rfl)) hHeld (fun hHeld => ?_)
  simp only [Act.put, List.setIfInBounds_toArray, List.set_cons_zero, List.set_cons_succ]
  refine tkB 9 (.some 90) _ _ rfl rfl (by kernel_rfl) (by kernel_rfl) (by kernel_rfl) (by kernel_rfl) hPF rfl (fun w' => by (go_simp; try with_reducible rfl)) hHeld (fun hHeld => ?_)
  simp only [Act.put, List.setIfInBounds_toArray, List.set_cons_zero, List.set_cons_succ]
  refine tkB 10 (.some 91) _ _ rfl rfl (by kernel_rfl) (by kernel_rfl) (by kernel_rfl) (by kernel_rfl) hPF rfl (fun w' => by (go_simp; try with_reducible rfl)) hHeld (fun hHeld => ?_)
  simp only [Act.put, List.setIfInBounds_toArray, List.set_cons_zero, List.set_cons_succ]
  refine tkA 11 (.some 92) _ _ rfl rfl (by kernel_rfl) (by kernel_rfl) (by kernel_rfl) (by kernel_rfl) (by kernel_rfl) hPF rfl (fun w' hw' => by (have h1 := (hw'.cell a).trans l5y; go_simp; try with_reducible rfl)) hHeld (fun hHeld => ?_)
  simp only [Act.put, List.setIfInBounds_toArray, List.set_cons_zero, List.set_cons_succ]
  refine tkB 12 (.some 93) _ _ rfl rfl (by kernel_rfl) (by kernel_rfl) (by kernel_rfl) (by kernel_rfl) hPF rfl (fun w' => by (go_simp; try with_reducible rfl)) hHeld (fun hHeld => ?_)
  simp only [Act.put, List.setIfInBounds_toArray, List.set_cons_zero, List.set_cons_succ]
  refine tkB 14 (.some 95) _ _ rfl rfl (by kernel_rfl) (by kernel_rfl) (by kernel_rfl) (by kernel_rfl) hPF rfl (fun w' => by (go_simp; try with_reducible rfl)) hHeld (fun hHeld => ?_)
  simp only [Act.put, List.setIfInBounds_toArray, List.set_cons_zero, List.set_cons_succ]
  have hS := hHeld (by kernel_rfl)
  refine tkW (rs := [13]) (by kernel_rfl) (by simp) (AllK.cons (o := _) rfl (fun KC hKC => ?_) AllK.nil)
  go_simp
  refine (refleft_any _ _ 8 (by omega)).mono ?_
  rintro e w' ⟨rfl, rfl⟩
  refine hKC.out _ _ (hS) (fun hHeld => ?_)
  clear hKC KC
  try simp only [Act.put, List.setIfInBounds_toArray, List.set_cons_zero, List.set_cons_succ]
  refine tkB 15 (.some 96) _ _ rfl rfl (by kernel_rfl) (by kernel_rfl) (by kernel_rfl) (by kernel_rfl) hPF rfl (fun w' => by (go_simp; try with_reducible rfl)) hHeld (fun hHeld => ?_)
  simp only [Act.put, List.setIfInBounds_toArray, List.set_cons_zero, List.set_cons_succ]
  refine tkW (rs := [16]) (by kernel_rfl) (by simp) (AllK.close (o := _) rfl (by kernel_rfl) (fun KC hKC => ?_) AllK.nil)
  go_simp
  refine hKC.out _ _ (fun hHeld => ?_)
  clear hKC KC
  try simp only [Act.put]
  refine tkD (by kernel_rfl) ?_ _
  generalize (w5.setCell ⟨g, d, none⟩ (W32 (rotl (x5 ^^^ y5) 8))).drew = w6 at *
  clear c5 f5 S5 l5x l5y
  go_upto_region 6 with fail
  have l6x := ws_get s6 c (by omega)
  have l6y := ws_get s6 d (by omega)
  obtain ⟨s7, e6⟩ : ∃ y, addS s6 c d = y := ⟨_, rfl⟩
  have q6 : s6.set c (s6.getD c 0 + s6.getD d 0) = s7 := e6
  generalize s6.getD c 0 = x6 at l6x l6y q6
  generalize s6.getD d 0 = y6 at l6x l6y q6
  have n6 : s7.length = 16 := by rw [← e6, addS_len]; omega
  have E6 := hid e6
  have Q6 := hid q6
  have c6 := (b5.cell c).trans l6x
  have f6 := b5.frozen c
  have S6 : Blk w6.drew g (ws s6) tS16 := b5
  have b6 := (b5.set c (W32 (x6 + y6))).drew
  have a6 : IntKind.u32.wrap (wv x6 + wv y6) = wv (x6 + y6) := by rw [← w_add]; rfl
  rw [ws_set, Q6.out] at b6
  have C6 := (C5.setCell (p := ⟨g, c, none⟩) (.inl (by simp)) (W32 (x6 + y6))).drew
  have z6 : w.heap.size = (w6.setCell ⟨g, c, none⟩ (W32 (x6 + y6))).drew.heap.size := by have h9 : w.heap.size = w6.heap.size := Z5.out; simpa using h9
  have Z6 := hid z6
  clear e6 q6 z6
  try simp only [Act.put]
  refine tkR (fun w' => Blk w' g (ws s6) tS16) [13] (by kernel_rfl) (fun c a d v w h => by cases d <;> exact h) (S6) (fun hPF hHeld => ?_)
  refine tkB 0 (.some 97) _ _ rfl rfl (by kernel_rfl) (by kernel_rfl) (by kernel_rfl) (by kernel_rfl) hPF rfl (fun w' => by (go_simp; try with_reducible rfl)) hHeld (fun hHeld => ?_)
  simp only [Act.put, List.setIfInBounds_toArray, List.set_cons_zero, List.set_cons_succ]
  refine tkB 1 (.some 98) _ _ rfl rfl (by kernel_rfl) (by kernel_rfl) (by kernel_rfl) (by kernel_rfl) hPF rfl (fun w' => by (go_simp; try with_reducible rfl)) hHeld (fun hHeld => ?_)
  simp only [Act.put, List.setIfInBounds_toArray, List.set_cons_zero, List.set_cons_succ]
  refine tkB 2 (.some 99) _ _ rfl rfl (by kernel_rfl) (by kernel_rfl) (by kernel_rfl) (by kernel_rfl) hPF rfl (fun w' => by (go_simp; try with_reducible rfl)) hHeld (fun hHeld => ?_)
  simp only [Act.put, List.setIfInBounds_toArray, List.set_cons_zero, List.set_cons_succ]
  refine tkB 3 (.some 100) _ _ rfl rfl (by kernel_rfl) (by kernel_rfl) (by kernel_rfl) (by kernel_rfl) hPF rfl (fun w' => by (go_simp; try with_reducible rfl)) hHeld (fun hHeld => ?_)
  simp only [Act.put, List.setIfInBounds_toArray, List.set_cons_zero, List.set_cons_succ]
  refine tkA 4 (.some 101) _ _ rfl rfl (by kernel_rfl) (by kernel_rfl) (by kernel_rfl) (by kernel_rfl) (by kernel_rfl) hPF rfl (fun w' hw' => by (have h1 := (hw'.cell c).trans l6x; go_simp; try with_reducible rfl)) hHeld (fun hHeld => ?_)
  simp only [Act.put, List.setIfInBounds_toArray, List.set_cons_zero, List.set_cons_succ]
  refine tkB 5 (.some 102) _ _ rfl rfl (by kernel_rfl) (by kernel_rfl) (by kernel_rfl) (by kernel_rfl) hPF rfl (fun w' => by (go_simp; try with_reducible rfl)) hHeld (fun hHeld => ?_)
  simp only [Act.put, List.setIfInBounds_toArray, List.set_cons_zero, List.set_cons_succ]
  refine tkB 6 (.some 103) _ _ rfl rfl (by kernel_rfl) (by kernel_rfl) (by kernel_rfl) (by kernel_rfl) hPF rfl (fun w' => by (go_simp; try with_reducible rfl)) hHeld (fun hHeld => ?_)
  simp only [Act.put, List.setIfInBounds_toArray, List.set_cons_zero, List.set_cons_succ]
  refine tkB 7 (.some 104) _ _ rfl rfl (by kernel_rfl) (by kernel_rfl) (by kernel_rfl) (by kernel_rfl) hPF rfl (fun w' => by (go_simp; try with_reducible rfl)) hHeld (fun hHeld => ?_)
  simp only [Act.put, List.setIfInBounds_toArray, List.set_cons_zero, List.set_cons_succ]
  refine tkB 8 (.some 105) _ _ rfl rfl (by kernel_rfl) (by kernel_rfl) (by kernel_rfl) (by kernel_rfl) hPF rfl (fun w' => by (go_simp; try with_reducible rfl)) hHeld (fun hHeld => ?_)
  simp only [Act.put, List.setIfInBounds_toArray, List.set_cons_zero, List.set_cons_succ]
  refine tkA 9 (.some 106) _ _ rfl rfl (by kernel_rfl) (by kernel_rfl) (by kernel_rfl) (by kernel_rfl) (by kernel_rfl) hPF rfl (fun w' hw' => by (have h1 := (hw'.cell d).trans l6y; go_simp; try with_reducible rfl)) hHeld (fun hHeld => ?_)
  simp only [Act.put, List.setIfInBounds_toArray, List.set_cons_zero, List.set_cons_succ]
  refine tkB 10 (.some 107) _ _ rfl rfl (by kernel_rfl) (by kernel_rfl) (by kernel_rfl) (by kernel_rfl) hPF rfl (fun w' => by (go_simp; try with_reducible rfl)) hHeld (fun hHeld => ?_)
  simp only [Act.put, List.setIfInBounds_toArray, List.set_cons_zero, List.set_cons_succ]
  refine tkB 11 (.some 108) _ _ rfl rfl (by kernel_rfl) (by kernel_rfl) (by kernel_rfl) (by kernel_rfl) hPF rfl (fun w' => by (go_simp; try with_reducible rfl)) hHeld (fun hHeld => ?_)
  simp only [Act.put, List.setIfInBounds_toArray, List.set_cons_zero, List.set_cons_succ]
  refine tkB 12 (.some 109) _ _ rfl rfl (by kernel_rfl) (by kernel_rfl) (by kernel_rfl) (by kernel_rfl) hPF rfl (fun w' => by (go_simp; try with_reducible rfl)) hHeld (fun hHeld => ?_)
  simp only [Act.put, List.setIfInBounds_toArray, List.set_cons_zero, List.set_cons_succ]
  refine tkW (rs := [13]) (by kernel_rfl) (by simp) (AllK.close (o := _) rfl (by kernel_rfl) (fun KC hKC => ?_) AllK.nil)
  go_simp
  refine hKC.out _ _ (fun hHeld => ?_)
  clear hKC KC
  try simp only [Act.put]
  refine tkD (by kernel_rfl) ?_ _
  generalize (w6.setCell ⟨g, c, none⟩ (W32 (x6 + y6))).drew = w7 at *
  clear c6 f6 S6 l6x l6y
  go_upto_region 7 with fail
  have l7x := ws_get s7 b (by omega)
  have l7y := ws_get s7 c (by omega)
  obtain ⟨s8, e7⟩ : ∃ y, rotS s7 b c 7 = y := ⟨_, rfl⟩
  have q7 : s7.set b (rotl (s7.getD b 0 ^^^ s7.getD c 0) 7) = s8 := e7
  generalize s7.getD b 0 = x7 at l7x l7y q7
  generalize s7.getD c 0 = y7 at l7x l7y q7
  have n7 : s8.length = 16 := by rw [← e7, rotS_len]; omega
  have E7 := hid e7
  have Q7 := hid q7
  have c7 := (b6.cell b).trans l7x
  have f7 := b6.frozen b
  have S7 : Blk w7.drew g (ws s7) tS16 := b6
  have b7 := (b6.set b (W32 (rotl (x7 ^^^ y7) 7))).drew
  rw [ws_set, Q7.out] at b7
  have C7 := (C6.setCell (p := ⟨g, b, none⟩) (.inl (by simp)) (W32 (rotl (x7 ^^^ y7) 7))).drew
  have z7 : w.heap.size = (w7.setCell ⟨g, b, none⟩ (W32 (rotl (x7 ^^^ y7) 7))).drew.heap.size := by have h9 : w.heap.size = w7.heap.size := Z6.out; simpa using h9
  have Z7 := hid z7
  clear e7 q7 z7
  try simp only [Act.put]
  refine tkR (fun w' => Blk w' g (ws s7) tS16) [16] (by kernel_rfl) (fun c a d v w h => by cases d <;> exact h) (S7) (fun hPF hHeld => ?_)
  refine tkB 0 (.some 110) _ _ rfl rfl (by kernel_rfl) (by kernel_rfl) (by kernel_rfl) (by kernel_rfl) hPF rfl (fun w' => by (go_simp; try with_reducible rfl)) hHeld (fun hHeld => ?_)
  simp only [Act.put, List.setIfInBounds_toArray, List.set_cons_zero, List.set_cons_succ]
  refine tkB 1 (.some 111) _ _ rfl rfl (by kernel_rfl) (by kernel_rfl) (by kernel_rfl) (by kernel_rfl) hPF rfl (fun w' => by (go_simp; try with_reducible rfl)) hHeld (fun hHeld => ?_)
  simp only [Act.put, List.setIfInBounds_toArray, List.set_cons_zero, List.set_cons_succ]
  refine tkB 2 (.some 112) _ _ rfl rfl (by kernel_rfl) (by kernel_rfl) (by kernel_rfl) (by kernel_rfl) hPF rfl (fun w' => by (go_simp; try with_reducible rfl)) hHeld (fun hHeld => ?_)
  simp only [Act.put, List.setIfInBounds_toArray, List.set_cons_zero, List.set_cons_succ]
  refine tkB 3 (.some 113) _ _ rfl rfl (by kernel_rfl) (by kernel_rfl) (by kernel_rfl) (by kernel_rfl) hPF rfl (fun w' => by (go_simp; try with_reducible rfl)) hHeld (fun hHeld => ?_)
  simp only [Act.put, List.setIfInBounds_toArray, List.set_cons_zero, List.set_cons_succ]
  refine tkB 4 (.some 114) _ _ rfl rfl (by kernel_rfl) (by kernel_rfl) (by kernel_rfl) (by kernel_rfl) hPF rfl (fun w' => by (go_simp; try with_reducible rfl)) hHeld (fun hHeld => ?_)
  simp only [Act.put, List.setIfInBounds_toArray, List.set_cons_zero, List.set_cons_succ]
  refine tkB 5 (.some 115) _ _ rfl rfl (by kernel_rfl) (by kernel_rfl) (by kernel_rfl) (by kernel_rfl) hPF rfl (fun w' => by (go_simp; try with_reducible rfl)) hHeld (fun hHeld => ?_)
  simp only [Act.put, List.setIfInBounds_toArray, List.set_cons_zero, List.set_cons_succ]
  refine tkA 6 (.some 116) _ _ rfl rfl (by kernel_rfl) (by kernel_rfl) (by kernel_rfl) (by kernel_rfl) (by kernel_rfl) hPF rfl (fun w' hw' => by (have h1 := (hw'.cell b).trans l7x; go_simp; try with_reducible rfl)) hHeld (fun hHeld => ?_)
  simp only [Act.put, List.setIfInBounds_toArray, List.set_cons_zero, List.set_cons_succ]
  refine tkB 7 (.some 117) _ _ rfl rfl (by kernel_rfl) (by kernel_rfl) (by kernel_rfl) (by kernel_rfl) hPF rfl (fun w' => by (go_simp; try with_reducible rfl)) hHeld (fun hHeld => ?_)
  simp only [Act.put, List.setIfInBounds_toArray, List.set_cons_zero, List.set_cons_succ]
  refine tkB 8 (.some 118) _ _ rfl rfl (by kernel_rfl) (by kernel_rfl) (by kernel_rfl) (by kernel_rfl) hPF rfl (fun w' => by (go_simp; try with_reducible rfl)) hHeld (fun hHeld => ?_)
  simp only [Act.put, List.setIfInBounds_toArray, List.set_cons_zero, List.set_cons_succ]
  refine tkB 9 (.some 119) _ _ rfl rfl (by kernel_rfl) (by kernel_rfl) (by kernel_rfl) (by kernel_rfl) hPF rfl (fun w' => by (go_simp; try with_reducible rfl)) hHeld (fun hHeld => ?_)
  simp only [Act.put, List.setIfInBounds_toArray, List.set_cons_zero, List.set_cons_succ]
  refine tkB 10 (.some 120) _ _ rfl rfl (by kernel_rfl) (by kernel_rfl) (by kernel_rfl) (by kernel_rfl) hPF rfl (fun w' => by (go_simp; try with_reducible rfl)) hHeld (fun hHeld => ?_)
  simp only [Act.put, List.setIfInBounds_toArray, List.set_cons_zero, List.set_cons_succ]
  refine tkA 11 (.some 121) _ _ rfl rfl (by kernel_rfl) (by kernel_rfl) (by kernel_rfl) (by kernel_rfl) (by kernel_rfl) hPF rfl (fun w' hw' => by (have h1 := (hw'.cell c).trans l7y; go_simp; try with_reducible rfl)) hHeld (fun hHeld => ?_)
  simp only [Act.put, List.setIfInBounds_toArray, List.set_cons_zero, List.set_cons_succ]
  refine tkB 12 (.some 122) _ _ rfl rfl (by kernel_rfl) (by kernel_rfl) (by kernel_rfl) (by kernel_rfl) hPF rfl (fun w' => by (go_simp; try with_reducible rfl)) hHeld (fun hHeld => ?_)
  simp only [Act.put, List.setIfInBounds_toArray, List.set_cons_zero, List.set_cons_succ]
  refine tkB 14 (.some 124) _ _ rfl rfl (by kernel_rfl) (by kernel_rfl) (by kernel_rfl) (by kernel_rfl) hPF rfl (fun w' => by (go_simp; try with_reducible rfl)) hHeld (fun hHeld => ?_)
  simp only [Act.put, List.setIfInBounds_toArray, List.set_cons_zero, List.set_cons_succ]
  have hS := hHeld (by kernel_rfl)
  refine tkW (rs := [13]) (by kernel_rfl) (by simp) (AllK.cons (o := _) rfl (fun KC hKC => ?_) AllK.nil)
  go_simp
  refine (refleft_any _ _ 7 (by omega)).mono ?_
  rintro e w' ⟨rfl, rfl⟩
  refine hKC.out _ _ (hS) (fun hHeld => ?_)
  clear hKC KC
  try simp only [Act.put, List.setIfInBounds_toArray, List.set_cons_zero, List.set_cons_succ]
  refine tkB 15 (.some 125) _ _ rfl rfl (by kernel_rfl) (by kernel_rfl) (by kernel_rfl) (by kernel_rfl) hPF rfl (fun w' => by (go_simp; try with_reducible rfl)) hHeld (fun hHeld => ?_)
  simp only [Act.put, List.setIfInBounds_toArray, List.set_cons_zero, List.set_cons_succ]
  refine tkW (rs := [16]) (by kernel_rfl) (by simp) (AllK.close (o := _) rfl (by kernel_rfl) (fun KC hKC => ?_) AllK.nil)
  go_simp
  refine hKC.out _ _ (fun hHeld => ?_)
  clear hKC KC
  try simp only [Act.put]
  refine tkD (by kernel_rfl) ?_ _
  generalize (w7.setCell ⟨g, b, none⟩ (W32 (rotl (x7 ^^^ y7) 7))).drew = w8 at *
  clear c7 f7 S7 l7x l7y
  go_wp2_with fail
  go_end0
  refine ⟨rfl, ?_, C7, Z7.out⟩
  rw [Hf.out, E0.out, E1.out, E2.out, E3.out, E4.out, E5.out, E6.out, E7.out]
  exact b7
end Go.Proofs.Ytgellbapbphnlaa

/- the reference's Block of ChaCha20 -/
namespace Go.Proofs.Ytgellbapbphnlaa
open Go.RowKit

/-- Eight quarter rounds, as the reference has them. -/
def ref8 (s : List UInt32) : List UInt32 :=
  refq (refq (refq (refq (refq (refq (refq (refq s 0 4 8 12) 1 5 9 13) 2 6 10 14) 3 7 11 15) 0 5 10 15) 1 6 11 12) 2 7 8 13) 3 4 9 14
theorem ref8_len (s : List UInt32) : (ref8 s).length = s.length := by simp [ref8, refq_len]
theorem ref8_dbl (s : List UInt32) (h : s.length = 16) : ref8 s = dblTo s 2 := by
  unfold ref8
  rw [refq_eq s 0 4 8 12 h (by decide) (by decide) (by decide) (by decide) (by decide) (by decide) (by decide) (by decide) (by decide) (by decide),
    refq_eq _ 1 5 9 13 (by simp only [qAt_len]; exact h) (by decide) (by decide) (by decide) (by decide) (by decide) (by decide) (by decide) (by decide) (by decide) (by decide),
    refq_eq _ 2 6 10 14 (by simp only [qAt_len]; exact h) (by decide) (by decide) (by decide) (by decide) (by decide) (by decide) (by decide) (by decide) (by decide) (by decide),
    refq_eq _ 3 7 11 15 (by simp only [qAt_len]; exact h) (by decide) (by decide) (by decide) (by decide) (by decide) (by decide) (by decide) (by decide) (by decide) (by decide),
    refq_eq _ 0 5 10 15 (by simp only [qAt_len]; exact h) (by decide) (by decide) (by decide) (by decide) (by decide) (by decide) (by decide) (by decide) (by decide) (by decide),
    refq_eq _ 1 6 11 12 (by simp only [qAt_len]; exact h) (by decide) (by decide) (by decide) (by decide) (by decide) (by decide) (by decide) (by decide) (by decide) (by decide),
    refq_eq _ 2 7 8 13 (by simp only [qAt_len]; exact h) (by decide) (by decide) (by decide) (by decide) (by decide) (by decide) (by decide) (by decide) (by decide) (by decide),
    refq_eq _ 3 4 9 14 (by simp only [qAt_len]; exact h) (by decide) (by decide) (by decide) (by decide) (by decide) (by decide) (by decide) (by decide) (by decide) (by decide)]
  rfl
def ref80 (s : List UInt32) : Nat → List UInt32
  | 0 => s
  | k + 1 => ref8 (ref80 s k)
theorem ref80_len (s : List UInt32) : ∀ k, (ref80 s k).length = s.length
  | 0 => rfl
  | k + 1 => by rw [ref80, ref8_len, ref80_len s k]
theorem ref80_eq (s : List UInt32) (h : s.length = 16) : ∀ k, ref80 s k = rounds20 s k
  | 0 => rfl
  | k + 1 => by rw [ref80, ref8_dbl _ (by rw [ref80_len]; exact h), ref80_eq s h k]; rfl
/-- The reference's first bytes. -/
def expandF : List UInt8 := [101, 120, 112, 97, 110, 100, 32, 51, 50, 45, 98, 121, 116, 101, 32, 107]
def allF (key nonce : List UInt8) (n : UInt32) : List UInt8 := expandF ++ key ++ word4 n ++ nonce
theorem allF_len (key nonce : List UInt8) (n : UInt32) (hk : key.length = 32) (hn : nonce.length = 12) : (allF key nonce n).length = 64 := by simp [allF, expandF, word4_len, hk, hn]
theorem wordsF_app (a b : List UInt8) (i j : Nat) (ha : a.length = 4 * i) : wordsF (a ++ b) (i + j) = wordsF a i ++ wordsF b j := by
  unfold wordsF
  rw [List.range_add, List.map_append, List.map_map]
  congr 1
  · apply List.map_congr_left
    intro x hx
    rw [List.mem_range] at hx
    congr 2
    rw [List.drop_append_of_le_length (by omega), List.take_append_of_le_length (by rw [List.length_drop]; omega)]
  · apply List.map_congr_left
    intro x _
    simp only [Function.comp_apply]
    congr 2
    rw [show 4 * (i + x) = a.length + 4 * x by omega, List.drop_append, List.drop_of_length_le (by omega), List.nil_append]
    congr 2; omega
theorem le_word4 (n : UInt32) : le (word4 n) = n.toNat := by
  have h : n.toNat < 256 ^ 4 := n.toNat_lt
  unfold le word4
  show be (toBe 4 n.toNat) = _
  rw [be_toBe]; exact Nat.mod_eq_of_lt h
theorem wordsF_word4 (n : UInt32) : wordsF (word4 n) 1 = [n] := by
  unfold wordsF
  have h : (word4 n).take 4 = word4 n := List.take_of_length_le (by rw [word4_len]; omega)
  simp [h, le_word4]
theorem wordsF_all (key nonce : List UInt8) (n : UInt32) (hk : key.length = 32) (_ : nonce.length = 12) : wordsF (allF key nonce n) 16 = initF key nonce n := by
  unfold allF initF
  rw [show (16 : Nat) = 4 + 8 + 1 + 3 from rfl, wordsF_app _ nonce (4 + 8 + 1) 3 (by simp [expandF, word4_len, hk]), wordsF_app _ (word4 n) (4 + 8) 1 (by simp [expandF, hk]), wordsF_app expandF key 4 8 (by rfl), wordsF_word4]
  congr 3
theorem sliceq (g c q : Nat) (hq : q + 4 ≤ 64) (hc : 64 ≤ c) (W : World) : (Instr.sliceAt 33 (.slice (some ⟨g, 0, none⟩) 64 c) (some (.int .i64 (q : Int))) (some (.int .i64 ((q : Int) + 4))) none).run Try.prog W = .ok (.slice (some ⟨g, q, none⟩) 4 (c - q)) W := by
  have h1 : (q : Int) + 4 ≤ (c : Int) := by omega
  have h2 : 0 ≤ (q : Int) := by omega
  have h3 : (q : Int) ≤ (q : Int) + 4 := by omega
  have h4 : 0 ≤ (q : Int) + 4 := by omega
  go_simp
  exact ⟨by omega, by omega⟩
def waTo (all : List UInt8) (k : Nat) : List UInt32 := wordsF all k ++ List.replicate (16 - k) 0
theorem waTo_len (all : List UInt8) (k : Nat) (h : k ≤ 16) : (waTo all k).length = 16 := by simp [waTo, wordsF]; omega
theorem waTo_set (all : List UInt8) (k : Nat) (h : k < 16) : (waTo all k).set k (UInt32.ofNat (le ((all.drop (4 * k)).take 4))) = waTo all (k + 1) := by
  unfold waTo
  rw [set_at _ _ _ _ _ (by simp [wordsF]) (by omega), wordsF_succ all k, show 16 - k - 1 = 16 - (k + 1) by omega]

set_option maxRecDepth 100000 in
set_option maxHeartbeats 8000000 in
theorem refblock_any (w : World) (pk pn : Option Addr) (kc nc : Nat) (key nonce : List UInt8) (n : UInt32) (hkr : RowAt w pk key) (hnr : RowAt w pn nonce) (hk : key.length = 32) (hn : nonce.length = 12) :
    Calls Try.prog 51 #[.slice pk 32 kc, .slice pn 12 nc, W32 n] w fun e w' => ∃ v, e = .returned v ∧ OwnR w.heap.size w' v (blockF key nonce n) ∧ Below w.heap.size w w' := by
  have hB0 : Below w.heap.size w (w.alloc (.cells (bys expandF).toArray 5 (16, 17))) := (Below.refl _ _).alloc (Nat.le_refl _) _
  have hob : (w.alloc (.cells (bys expandF).toArray 5 (16, 17))).heap[w.heap.size]? = some (.cells (bys expandF).toArray 5 (16, 17)) := (MapKept.heap_alloc w _).1
  have hold : ∀ b, (some ⟨w.heap.size, 0, none⟩ : Option Addr) = some b → ∀ j u, (bys expandF)[j]? = some u → (w.alloc (.cells (bys expandF).toArray 5 (16, 17))).cell? (b.add j) = some u := fun b e j u hu => by
    cases e
    rw [Addr.add_mid]
    simp only [World.cell?, hob]
    simpa using hu
  have hkr0 := hkr.below hB0
  obtain ⟨kb, ko, rfl, _, _⟩ := hkr 0 (by omega)
  have hal := allF_len key nonce n hk hn
  have hwa := wordsF_all key nonce n hk hn
  have hea : allF key nonce n = expandF ++ key ++ word4 n ++ nonce := rfl
  have hnw : IntKind.u64.wrap (wv n) = wv n := by have := wv_lo n; have := wv_hi n; rw [IntKind.wrap_u64]; omega
  have hnt := n.toNat_lt
  have hcv : ∀ C : Array Value, (convert 33 33 (.slice (some ⟨w.heap.size, 0, none⟩) 16 16)).run Try.prog (w.alloc (.cells C 5)) = .ok (.slice (some ⟨w.heap.size, 0, none⟩) 16 16) (w.alloc (.cells C 5 (C.size, C.size + 1))) := fun C => Lib.run_convert_bytes_const (P := Try.prog) w 33 5 C 16 16 under33b Try.underlying5
  obtain ⟨i5, hi5, hz5, hs5, hb5⟩ := info_parts info5
  have Hk := hid hk
  have Hn := hid hn
  have Hal := hid hal
  have Hwa := hid hwa
  have Hea := hid hea
  clear hk hn hal hwa hea hkr
  go_enter Try.func51, Try.ntmps51
  go_wp2_with (refine wpList_append_grows (w.alloc (.cells (bys expandF).toArray 5 (16, 17))) rfl (.tmp 15) (.tmp 16) 33 rfl 5 i5 (.int .u8 0) 1 1 under33b hi5 hz5 hs5 hb5 rfl (by decide) (some ⟨w.heap.size, 0, none⟩) 16 16 (bys expandF) rfl (fun e => by cases e) rfl hold ⟨kb, ko, none⟩ 32 kc (bys key) rfl (by rw [bys_length, Hk.out]) (hkr0.src rfl) (bys_one _) (by omega) (by unfold maxLen; omega) (by omega) ?_; intro v1 w1 hown1' hgrow1; have hown1 : OwnR w.heap.size w1 v1 (expandF ++ key) := OwnR.mono (base := (w.alloc (.cells (bys expandF).toArray 5 (16, 17))).heap.size) (by unfold OwnR; rw [show (expandF ++ key).length = 48 from (by rw [List.length_append, Hk.out]; rfl)]; simpa [bys] using hown1') (by simp); have hB1 := hB0.grown hgrow1 hB0.size (fun j e => by cases e))
  have hnr1 := hnr.below hB1
  refine (rputlittle_any w1 n.toNat 4 (by omega) (by omega)).mono ?_
  rintro e w2 ⟨v2, rfl, hown2, hB2⟩
  have hown1' := hown1.below hB2
  have hnr2 := hnr1.below hB2
  have hB12 := hB1.trans (hB2.mono hB1.size)
  obtain ⟨p2, c2, rfl, hc2, hr2⟩ := hown2.row
  rw [show (leF 4 n.toNat).length = 4 from leF_len _ _] at hc2 ⊢
  have hl1 : (expandF ++ key).length = 48 := by rw [List.length_append, Hk.out]; rfl
  have hl2 : (expandF ++ key ++ word4 n).length = 52 := by rw [List.length_append, hl1, word4_len]
  have Hl1 := hid hl1
  have Hl2 := hid hl2
  clear hl1 hl2 hcv hkr0 hB0 hown1 hgrow1 hown2 hold hob
  go_wp2_with (first | (refine wpList_addO hown1' rfl (.tmp 18) (.tmp 21) rfl rfl p2 4 c2 (word4 n) rfl hr2 (word4_len n) (by rw [Hl1.out]; omega) hB12.size ?_; intro v3 w3 hown3 hgrow3 _; have hB3 := hB12.grown hgrow3 hB12.size (fun j e => (hown1'.lt j e).1); have hnr3 := hnr.below hB3) | (refine wpList_addO hown3 rfl (.tmp 22) (.tmp 23) rfl rfl pn 12 nc nonce rfl hnr3 Hn.out (by rw [Hl2.out]; omega) hB3.size ?_; intro v4 w4 hown4 hgrow4 _; have hB4 := hB3.grown hgrow4 hB3.size (fun j e => (hown3.lt j e).1); rw [← Hea.out] at hown4))
  obtain ⟨g, c, rest, rfl, hc, hg, hgb⟩ := hown4.blk (by rw [Hal.out]; decide)
  have hz8 := Blk.new w4 (ws z16w) tS16
  have hB8 : Below w4.heap.size w4 (w4.alloc (.cells (ws z16w).toArray tS16)) := (Below.refl _ _).alloc (Nat.le_refl _) _
  change Code.wp _ _ _ _ (w4.alloc (.cells (ws z16w).toArray tS16))
  have hgb8 := hgb.below hB8 hgb.lt
  have hBw := hB4.trans (hB8.mono hB4.size)
  obtain ⟨b8, hb8⟩ : ∃ b, w4.heap.size = b := ⟨_, rfl⟩
  have hwb : w.heap.size ≤ b8 := by rw [← hb8]; exact hB4.size
  have hgb4 : g < b8 := by rw [← hb8]; exact hgb.lt
  generalize w4.alloc (.cells (ws z16w).toArray tS16) = w5 at *
  rw [hb8] at hz8 ⊢
  rw [Hal.out] at hc ⊢
  have Hb8 := hid hb8
  have hz8' : Blk w5 b8 (ws (waTo (allF key nonce n) 0)) tS16 := hz8
  clear hb8 hz8 hB8 hown1' hown3 hgrow3 hown4 hgrow4 hnr1 hnr2 hnr3 hr2 hB12 hB1 hB2 hB3 hB4 hgb
  obtain ⟨al, hae⟩ : ∃ al, allF key nonce n = al := ⟨_, rfl⟩
  rw [hae] at hz8' hgb8
  have Hae := hid hae
  clear hae
  go_loopw [9] (fun i wr => ∃ k : Nat, k ≤ 16 ∧ i = .int .i64 k ∧ Blk wr b8 (ws (waTo al k)) tS16 ∧ Chg w5.heap.size [b8] w5 wr) (fun i _ => 16 - (intOf i).toNat)
  case atStart => exact ⟨0, by omega, rfl, hz8', Chg.refl _ _ _⟩
  case round =>
    clear hz8'
    obtain ⟨k, hk, rfl, hb, hC⟩ := hrel
    by_cases hlt : k < 16
    · have q1 : (k : Int) < 16 := by omega
      have hal := Hal.out
      rw [Hae.out] at hal
      have hl := waTo_len al k (by omega)
      have hset := waTo_set al k hlt
      have hgr := (hgb8.chg hC hgb8.lt (by simp; omega)).headRow
      have hrow : RowAt wr (some ⟨g, 4 * k, none⟩) ((al.drop (4 * k)).take 4) := ((by simpa using hgr.drop (4 * k) : RowAt wr (some ⟨g, 4 * k, none⟩) (al.drop (4 * k)))).take 4
      have hrl : ((al.drop (4 * k)).take 4).length = 4 := by rw [List.length_take, List.length_drop, hal]; omega
      have hle := le4_lt al (4 * k)
      obtain ⟨y, hy⟩ : ∃ y, UInt32.ofNat (le ((al.drop (4 * k)).take 4)) = y := ⟨_, rfl⟩
      have hyw : ((le ((al.drop (4 * k)).take 4) : Nat) : Int) = wv y := by rw [← hy, w_lit _ hle]
      rw [hy] at hset
      have c8 := hb.cell k
      rw [ws_get _ _ (by rw [hl]; omega)] at c8
      have f8 := hb.frozen k
      generalize (waTo al k).getD k 0 = y0 at c8
      have hb2 := hb.set k (W32 y)
      rw [ws_set, hset] at hb2
      have hC2 := hC.setCell (p := ⟨b8, k, none⟩) (.inl (by simp)) (W32 y)
      obtain ⟨q, hq⟩ : ∃ q, 4 * k = q := ⟨_, rfl⟩
      have q2 : (4 : Int) * (k : Int) = (q : Int) := by omega
      have q3 : (q : Int) ≤ 60 := by omega
      rw [hq] at hrow hrl hyw
      have hsl := sliceq g c q (by omega) hc
      have Hrl := hid hrl
      have hU : U64 (le ((al.drop q).take 4)) = .int .u64 (wv y) := by show Value.int .u64 _ = _; rw [hyw]
      have HU := hid hU
      clear hal hset hgr hrl hle hy hyw hq hb hC hl hU
      go_wp2_with fail
      refine (reflittle_any wr _ 4 (c - q) _ hrow Hrl.out (by omega)).mono ?_
      rintro e w6 ⟨rfl, rfl⟩
      rw [HU.out]
      go_wp2_with fail
      go_roundw
      case rel => exact ⟨k + 1, by omega, by go_num, hb2, hC2⟩
      case measure => (simp [intOf]; try omega)
    · obtain rfl : k = 16 := by omega
      have q1 : ¬ (((16 : Nat) : Int) < 16) := by omega
      have hwf : waTo al 16 = initF key nonce n := by
        have h := Hwa.out
        rw [Hae.out] at h
        unfold waTo
        rw [h]; simp
      rw [hwf] at hb
      have hBr := hBw.trans (hC.below (M := w.heap.size) hBw.size (by intro k hk; simp at hk; omega))
      have hil := initF_len key nonce n
      obtain ⟨I, hI⟩ : ∃ I, initF key nonce n = I := ⟨_, rfl⟩
      rw [hI] at hb hil
      have hbf : blockF key nonce n = outTo (rounds20 I 10) I 16 := by unfold blockF; rw [hI]
      have Hbf := hid hbf
      have Hil := hid hil
      have hszI : (Try.prog.info? 132).map (·.size) = some (ws I).length := by rw [size132, ws_length, hil]
      have hz10 := Blk.new wr (ws z16w) tS16
      have hB10 : Below wr.heap.size wr (wr.alloc (.cells (ws z16w).toArray tS16)) := (Below.refl _ _).alloc (Nat.le_refl _) _
      have g10 := hz10.setCells (ws I) 0 (by rw [ws_length, ws_length, hil]; decide)
      rw [splice_whole _ _ (by rw [ws_length, ws_length, hil]; rfl)] at g10
      have hBw10 : Below wr.heap.size wr ((wr.alloc (.cells (ws z16w).toArray tS16)).setCells wr.heap.size 0 (ws I)) := hB10.trans (((Chg.refl wr.heap.size [] _).setCells (b := wr.heap.size) (.inr (Nat.le_refl _)) (ws I) 0).below (Nat.le_refl _) (by simp))
      have hb8l := hb.lt
      clear hI hil hbf hwf hC hgb8 hk hlt
      go_upto_region 8 with fail
      go_upto_region 9 with (first | (refine wpList_load_mid rfl 132 (.tmp 8) rfl b8 0 rfl (ws I) _ hb.whole Try.underlying132 rfl hszI ?_) | (refine wpList_store_mid rfl 132 (.tmp 10) (.tmp 40) rfl wr.heap.size 0 (ws I).toArray rfl rfl (hz10.there 0 _ (by rw [List.size_toArray, ws_length, ws_length, Hil.out]; decide)) (by rw [size132, List.size_toArray, ws_length, Hil.out]) (all_oneCell_toArray (ws_one _)) ?_))
      change Code.wp _ _ _ _ ((wr.alloc (.cells (ws z16w).toArray tS16)).setCells wr.heap.size 0 (ws I))
      have hb' := hb.below hBw10 hb.lt
      have hBr := hBr.trans (hBw10.mono hBr.size)
      obtain ⟨b10, hb10⟩ : ∃ b, wr.heap.size = b := ⟨_, rfl⟩
      generalize (wr.alloc (.cells (ws z16w).toArray tS16)).setCells wr.heap.size 0 (ws I) = w7 at *
      rw [hb10] at g10 hb8l ⊢
      have Hb10 := hid hb10
      clear hb10 hz10 hB10 hBw10 hb
      have hwb10 : w.heap.size ≤ b10 := by omega
      go_wp2_with fail
      go_loopw [11] (fun i wx => ∃ k : Nat, k ≤ 10 ∧ i = .int .i64 k ∧ Blk wx b10 (ws (ref80 I k)) tS16 ∧ Chg w7.heap.size [b10] w7 wx) (fun i _ => 10 - (intOf i).toNat)
      case atStart => exact ⟨0, by omega, rfl, g10, Chg.refl _ _ _⟩
      case round =>
       clear g10
       obtain ⟨k, hk, rfl, hb, hC⟩ := hrel
       by_cases hlt : k < 10
       ·
        have q1 : (k : Int) < 10 := by omega
        have hls : (ref80 I k).length = 16 := by rw [ref80_len]; exact Hil.out
        have hnx : ref80 I (k + 1) = ref8 (ref80 I k) := rfl
        generalize ref80 I k = s at hls hnx hb
        have Hnx := hid hnx
        clear hnx
        go_wp2_with fail
        refine (refquarter_any wr b10 s 0 4 8 12 hb hls (by decide) (by decide) (by decide) (by decide)).mono ?_
        rintro e x1 ⟨rfl, hb1, hD1, _⟩
        have hl1 : (refq s 0 4 8 12).length = 16 := by rw [refq_len]; exact hls
        obtain ⟨s1, e1⟩ : ∃ s', refq s 0 4 8 12 = s' := ⟨_, rfl⟩
        rw [e1] at hb1 hl1
        have E1 := hid e1
        have hC1 := hC.trans (hD1.mono hC.size (fun _ _ h => h))
        clear e1 hD1 hb hls hC
        go_wp2_with fail
        refine (refquarter_any x1 b10 s1 1 5 9 13 hb1 hl1 (by decide) (by decide) (by decide) (by decide)).mono ?_
        rintro e x2 ⟨rfl, hb2, hD2, _⟩
        have hl2 : (refq s1 1 5 9 13).length = 16 := by rw [refq_len]; exact hl1
        obtain ⟨s2, e2⟩ : ∃ s', refq s1 1 5 9 13 = s' := ⟨_, rfl⟩
        rw [e2] at hb2 hl2
        have E2 := hid e2
        have hC2 := hC1.trans (hD2.mono hC1.size (fun _ _ h => h))
        clear e2 hD2 hb1 hl1 hC1
        go_wp2_with fail
        refine (refquarter_any x2 b10 s2 2 6 10 14 hb2 hl2 (by decide) (by decide) (by decide) (by decide)).mono ?_
        rintro e x3 ⟨rfl, hb3, hD3, _⟩
        have hl3 : (refq s2 2 6 10 14).length = 16 := by rw [refq_len]; exact hl2
        obtain ⟨s3, e3⟩ : ∃ s', refq s2 2 6 10 14 = s' := ⟨_, rfl⟩
        rw [e3] at hb3 hl3
        have E3 := hid e3
        have hC3 := hC2.trans (hD3.mono hC2.size (fun _ _ h => h))
        clear e3 hD3 hb2 hl2 hC2
        go_wp2_with fail
        refine (refquarter_any x3 b10 s3 3 7 11 15 hb3 hl3 (by decide) (by decide) (by decide) (by decide)).mono ?_
        rintro e x4 ⟨rfl, hb4, hD4, _⟩
        have hl4 : (refq s3 3 7 11 15).length = 16 := by rw [refq_len]; exact hl3
        obtain ⟨s4, e4⟩ : ∃ s', refq s3 3 7 11 15 = s' := ⟨_, rfl⟩
        rw [e4] at hb4 hl4
        have E4 := hid e4
        have hC4 := hC3.trans (hD4.mono hC3.size (fun _ _ h => h))
        clear e4 hD4 hb3 hl3 hC3
        go_wp2_with fail
        refine (refquarter_any x4 b10 s4 0 5 10 15 hb4 hl4 (by decide) (by decide) (by decide) (by decide)).mono ?_
        rintro e x5 ⟨rfl, hb5, hD5, _⟩
        have hl5 : (refq s4 0 5 10 15).length = 16 := by rw [refq_len]; exact hl4
        obtain ⟨s5, e5⟩ : ∃ s', refq s4 0 5 10 15 = s' := ⟨_, rfl⟩
        rw [e5] at hb5 hl5
        have E5 := hid e5
        have hC5 := hC4.trans (hD5.mono hC4.size (fun _ _ h => h))
        clear e5 hD5 hb4 hl4 hC4
        go_wp2_with fail
        refine (refquarter_any x5 b10 s5 1 6 11 12 hb5 hl5 (by decide) (by decide) (by decide) (by decide)).mono ?_
        rintro e x6 ⟨rfl, hb6, hD6, _⟩
        have hl6 : (refq s5 1 6 11 12).length = 16 := by rw [refq_len]; exact hl5
        obtain ⟨s6, e6⟩ : ∃ s', refq s5 1 6 11 12 = s' := ⟨_, rfl⟩
        rw [e6] at hb6 hl6
        have E6 := hid e6
        have hC6 := hC5.trans (hD6.mono hC5.size (fun _ _ h => h))
        clear e6 hD6 hb5 hl5 hC5
        go_wp2_with fail
        refine (refquarter_any x6 b10 s6 2 7 8 13 hb6 hl6 (by decide) (by decide) (by decide) (by decide)).mono ?_
        rintro e x7 ⟨rfl, hb7, hD7, _⟩
        have hl7 : (refq s6 2 7 8 13).length = 16 := by rw [refq_len]; exact hl6
        obtain ⟨s7, e7⟩ : ∃ s', refq s6 2 7 8 13 = s' := ⟨_, rfl⟩
        rw [e7] at hb7 hl7
        have E7 := hid e7
        have hC7 := hC6.trans (hD7.mono hC6.size (fun _ _ h => h))
        clear e7 hD7 hb6 hl6 hC6
        go_wp2_with fail
        refine (refquarter_any x7 b10 s7 3 4 9 14 hb7 hl7 (by decide) (by decide) (by decide) (by decide)).mono ?_
        rintro e x8 ⟨rfl, hb8, hD8, _⟩
        have hl8 : (refq s7 3 4 9 14).length = 16 := by rw [refq_len]; exact hl7
        obtain ⟨s8, e8⟩ : ∃ s', refq s7 3 4 9 14 = s' := ⟨_, rfl⟩
        rw [e8] at hb8 hl8
        have E8 := hid e8
        have hC8 := hC7.trans (hD8.mono hC7.size (fun _ _ h => h))
        clear e8 hD8 hb7 hl7 hC7

        have hr8 : ref8 s = s8 := by unfold ref8; rw [E1.out, E2.out, E3.out, E4.out, E5.out, E6.out, E7.out, E8.out]
        rw [← hr8, ← Hnx.out] at hb8
        clear hr8 hl8
        go_wp2_with fail
        go_roundw
        case rel => exact ⟨k + 1, by omega, by go_num, hb8, hC8⟩
        case measure => (simp [intOf]; try omega)
       · obtain rfl : k = 10 := by omega
         have q1 : ¬ (((10 : Nat) : Int) < 10) := by omega
         rw [ref80_eq I Hil.out 10] at hb
         have hFl : (rounds20 I 10).length = 16 := by rw [rounds20_len]; exact Hil.out
         have Hbf2 := Hbf.out
         generalize rounds20 I 10 = F at hb hFl Hbf2
         have h8' := hb'.chg hC hb'.lt (by simp; omega)
         have hBr := hBr.trans (hC.below (M := w.heap.size) (by have := hBr.size; omega) (by intro k hk; simp at hk; omega))
         have HFl := hid hFl
         have Hbf3 := hid Hbf2
         clear hC hFl Hbf2 hb' hk hlt
         obtain ⟨w9, hw9⟩ : ∃ w9, w9 = wr := ⟨wr, rfl⟩
         subst hw9
         go_wp2_with fail
         go_loopw [12, 13] (fun v i wx => ∃ k : Nat, k ≤ 16 ∧ i = .int .i64 k ∧ OwnR w9.heap.size wx v (outTo F I k) ∧ Below w9.heap.size w9 wx) (fun _ i _ => 16 - (intOf i).toNat)
         case atStart => exact ⟨0, by omega, rfl, OwnR.nil _ _, Below.refl _ _⟩
         case round =>
           obtain ⟨k, hk, rfl, hown, hB⟩ := hrel
           by_cases hlt : k < 16
           · have q1 : (k : Int) < 16 := by omega
             have hF := hb.below hB hb.lt
             have hI' := h8'.below hB h8'.lt
             have hnx := outTo_succ F I k
             have hol := outTo_len F I k
             have Cs := hid (fun w' (h : Below wr.heap.size wr w') => ((hF.below h hF.lt).cell k).trans (rd_len HFl.out k hlt))
             have Cw := hid (fun w' (h : Below wr.heap.size wr w') => ((hI'.below h hI'.lt).cell k).trans (rd_len Hil.out k hlt))
             generalize F.getD k 0 = x at Cs hnx
             generalize I.getD k 0 = y at Cw hnx
             have hzw : IntKind.u64.wrap (wv (x + y)) = wv (x + y) := by have := wv_lo (x + y); have := wv_hi (x + y); rw [IntKind.wrap_u64]; omega
             have haw : IntKind.u32.wrap (wv x + wv y) = wv (x + y) := by rw [← w_add]; rfl
             have hxy := (x + y).toNat_lt
             obtain ⟨O, hO⟩ : ∃ O, outTo F I k = O := ⟨_, rfl⟩
             rw [hO] at hown hol hnx
             have Hnx := hid hnx
             have hown0 := hown
             have Hown := hid hown
             have Hol2 := hid (show O.length ≤ 64 by omega)
             clear hnx hol hF hI' hown hown0 hO
             go_upto_region 24 with fail
             have S0 : Below wr.heap.size wr wr.drew := (Below.refl _ _).drew
             try simp only [Act.put]
             refine tkR (fun w' => Below wr.heap.size wr w') [10] (by kernel_rfl) (fun c a d v w h => by cases d <;> exact h) (S0) (fun hPF hHeld => ?_)
             refine tkB 0 (.some 57) _ _ rfl rfl (by kernel_rfl) (by kernel_rfl) (by kernel_rfl) (by kernel_rfl) hPF rfl (fun w' => by (go_simp; try with_reducible rfl)) hHeld (fun hHeld => ?_)
             simp only [Act.put, List.setIfInBounds_toArray, List.set_cons_zero, List.set_cons_succ]
             refine tkB 1 (.some 58) _ _ rfl rfl (by kernel_rfl) (by kernel_rfl) (by kernel_rfl) (by kernel_rfl) hPF rfl (fun w' => by (go_simp; try with_reducible rfl)) hHeld (fun hHeld => ?_)
             simp only [Act.put, List.setIfInBounds_toArray, List.set_cons_zero, List.set_cons_succ]
             refine tkB 2 (.some 59) _ _ rfl rfl (by kernel_rfl) (by kernel_rfl) (by kernel_rfl) (by kernel_rfl) hPF rfl (fun w' => by (go_simp; try with_reducible rfl)) hHeld (fun hHeld => ?_)
             simp only [Act.put, List.setIfInBounds_toArray, List.set_cons_zero, List.set_cons_succ]
             refine tkA 3 (.some 60) _ _ rfl rfl (by kernel_rfl) (by kernel_rfl) (by kernel_rfl) (by kernel_rfl) (by kernel_rfl) hPF rfl (fun w' hw' => by (have h1 := Cs.out _ hw'; go_simp; try with_reducible rfl)) hHeld (fun hHeld => ?_)
             simp only [Act.put, List.setIfInBounds_toArray, List.set_cons_zero, List.set_cons_succ]
             refine tkB 4 (.some 61) _ _ rfl rfl (by kernel_rfl) (by kernel_rfl) (by kernel_rfl) (by kernel_rfl) hPF rfl (fun w' => by (go_simp; try with_reducible rfl)) hHeld (fun hHeld => ?_)
             simp only [Act.put, List.setIfInBounds_toArray, List.set_cons_zero, List.set_cons_succ]
             refine tkB 5 (.some 62) _ _ rfl rfl (by kernel_rfl) (by kernel_rfl) (by kernel_rfl) (by kernel_rfl) hPF rfl (fun w' => by (go_simp; try with_reducible rfl)) hHeld (fun hHeld => ?_)
             simp only [Act.put, List.setIfInBounds_toArray, List.set_cons_zero, List.set_cons_succ]
             refine tkA 6 (.some 63) _ _ rfl rfl (by kernel_rfl) (by kernel_rfl) (by kernel_rfl) (by kernel_rfl) (by kernel_rfl) hPF rfl (fun w' hw' => by (have h1 := Cw.out _ hw'; go_simp; try with_reducible rfl)) hHeld (fun hHeld => ?_)
             simp only [Act.put, List.setIfInBounds_toArray, List.set_cons_zero, List.set_cons_succ]
             refine tkB 7 (.some 64) _ _ rfl rfl (by kernel_rfl) (by kernel_rfl) (by kernel_rfl) (by kernel_rfl) hPF rfl (fun w' => by (go_simp; try with_reducible rfl)) hHeld (fun hHeld => ?_)
             simp only [Act.put, List.setIfInBounds_toArray, List.set_cons_zero, List.set_cons_succ]
             refine tkB 8 (.some 65) _ _ rfl rfl (by kernel_rfl) (by kernel_rfl) (by kernel_rfl) (by kernel_rfl) hPF rfl (fun w' => by (go_simp; try with_reducible rfl)) hHeld (fun hHeld => ?_)
             simp only [Act.put, List.setIfInBounds_toArray, List.set_cons_zero, List.set_cons_succ]
             have hS := hHeld (by kernel_rfl)
             refine tkW (rs := [9]) (by kernel_rfl) (by simp) (AllK.cons (o := _) rfl (fun KC hKC => ?_) AllK.nil)
             go_simp
             refine (rputlittle_any _ (x + y).toNat 4 (by omega) (by omega)).mono ?_
             rintro e w10 ⟨v10, rfl, hown10, hB10⟩
             have h9 := hS.trans (hB10.mono hS.size)
             obtain ⟨p10, c10, rfl, hc10, hr10⟩ := hown10.row
             rw [show (leF 4 (x + y).toNat).length = 4 from leF_len _ _] at hc10 ⊢
             clear hB10 hown10
             refine hKC.out _ _ (h9) (fun hHeld => ?_)
             clear hKC KC
             try simp only [Act.put, List.setIfInBounds_toArray, List.set_cons_zero, List.set_cons_succ]
             refine tkW (rs := [10]) (by kernel_rfl) (by simp) (AllK.close (o := _) rfl (by kernel_rfl) (fun KC hKC => ?_) AllK.nil)
             have hownA := Hown.out.below h9
             refine wantIt rfl (wp_add (.some 67) rfl (.tmp 57) (.tmp 66) rfl w9.heap.size u12 O rfl hownA p10 4 c10 (word4 (x + y)) rfl hr10 (word4_len _) (by have := Hol2.out; omega) (Nat.le_trans hB.size h9.size) ?_)
             intro v11 w11 hown11 hgrow11 _
             have hB11 := (hB.trans (h9.mono hB.size)).grown hgrow11 (Nat.le_trans hB.size h9.size) (fun j e => (hownA.lt j e).1)
             clear hgrow11 hownA
             refine hKC.out _ _ (fun hHeld => ?_)
             clear hKC KC
             try simp only [Act.put, List.setIfInBounds_toArray, List.set_cons_zero, List.set_cons_succ]
             refine tkB 11 (.some 12) _ _ rfl rfl (by kernel_rfl) (by kernel_rfl) (by kernel_rfl) (by kernel_rfl) hPF rfl (fun w' => by (go_simp; try with_reducible rfl)) hHeld (fun hHeld => ?_)
             simp only [Act.put, List.setIfInBounds_toArray, List.set_cons_zero, List.set_cons_succ]
             refine tkD (by kernel_rfl) ?_ _
             clear hB
             go_wp2_with fail
             go_roundw
             case rel => exact ⟨k + 1, by omega, by go_num, by rw [Hnx.out]; exact hown11, hB11⟩
             case measure => (simp [intOf]; try omega)
           · obtain rfl : k = 16 := by omega
             have q1 : ¬ (((16 : Nat) : Int) < 16) := by omega
             rw [← Hbf3.out] at hown
             have hBz := hBr.trans (hB.mono hBr.size)
             have hown := hown.mono hBr.size
             clear hB
             go_wp2_with fail
             go_ret
             exact ⟨_, rfl, hown, hBz⟩
end Go.Proofs.Ytgellbapbphnlaa

/- the reference's Crypt of ChaCha20 -/
namespace Go.Proofs.Ytgellbapbphnlaa
open Go.RowKit

def blkR (key nonce : List UInt8) (n : UInt32) (q : Nat) : List UInt8 := blockF key nonce (n + UInt32.ofNat q)
def ksR (key nonce : List UInt8) (n : UInt32) (i : Nat) : UInt8 := (blkR key nonce n (i / 64)).getD (i % 64) 0
theorem xf_succ (ks : Nat → UInt8) (b : List UInt8) (k : Nat) (h : k < b.length) : xf ks (b.take k) ++ [b.getD k 0 ^^^ ks k] = xf ks (b.take (k + 1)) := by
  apply ext_getD
  · simp [xf]; omega
  · intro j hj
    have hl : (xf ks (b.take k)).length = k := by rw [xf_len, List.length_take]; omega
    rw [List.length_append, hl, List.length_singleton] at hj
    rw [xf_get _ _ _ (by rw [List.length_take]; omega)]
    have e0 : (b.take (k + 1)).getD j 0 = b.getD j 0 := by simp only [List.getD, List.getElem?_take, if_pos hj]
    rw [e0]
    by_cases hjk : j < k
    · have e1 : (xf ks (b.take k) ++ [b.getD k 0 ^^^ ks k]).getD j 0 = (xf ks (b.take k)).getD j 0 := by simp only [List.getD, List.getElem?_append_left (show j < (xf ks (b.take k)).length by rw [hl]; exact hjk)]
      have e2 : (b.take k).getD j 0 = b.getD j 0 := by simp only [List.getD, List.getElem?_take, if_pos hjk]
      rw [e1, xf_get _ _ _ (by rw [List.length_take]; omega), e2]
    · obtain rfl : j = k := by omega
      have e1 : (xf ks (b.take j) ++ [b.getD j 0 ^^^ ks j]).getD j 0 = b.getD j 0 ^^^ ks j := by
        simp only [List.getD, List.getElem?_append_right (show (xf ks (b.take j)).length ≤ j by rw [hl]; exact Nat.le_refl _), hl, Nat.sub_self]; rfl
      rw [e1]

set_option maxRecDepth 100000 in
set_option maxHeartbeats 8000000 in
theorem refcrypt4_any (w : World) (pk pn pb : Option Addr) (kc nc n cap : Nat) (key nonce b : List UInt8) (x0 : UInt32) (hkr : RowAt w pk key) (hnr : RowAt w pn nonce) (hk : key.length = 32) (hn : nonce.length = 12) (hb : RowAt w pb b) (hl : b.length = n) (hp : n < 1000000) :
    Calls Try.prog 26 #[.slice pk 32 kc, .slice pn 12 nc, W32 x0, .slice pb n cap] w fun e w' => ∃ v, e = .returned v ∧ OwnR w.heap.size w' v (xf (ksR key nonce x0) b) ∧ Below w.heap.size w w' := by
  have Hk := hid hk
  have Hn := hid hn
  have Hl := hid hl
  clear hk hn hl
  go_enter Try.func26, Try.ntmps26
  go_wp2_with fail
  go_loopw [9, 10, 11] (fun v kv i wr => ∃ k : Nat, k ≤ n ∧ i = .int .i64 k ∧ OwnR w.heap.size wr v (xf (ksR key nonce x0) (b.take k)) ∧ (k % 64 = 0 ∨ (OwnR w.heap.size wr kv (blkR key nonce x0 (k / 64)) ∧ ∀ j, v.ownBlock = some j → kv.ownBlock ≠ some j)) ∧ Below w.heap.size w wr) (fun _ _ i _ => n - (intOf i).toNat)
  case atStart => exact ⟨0, by omega, rfl, OwnR.nil _ _, .inl rfl, Below.refl _ _⟩
  case round =>
    obtain ⟨k, hk, rfl, hO, hcase, hB⟩ := hrel
    have HO := hid hO
    clear hO
    by_cases hlt : k < n
    · obtain ⟨q, hq⟩ : ∃ q, k / 64 = q := ⟨_, rfl⟩
      obtain ⟨r, hr⟩ : ∃ r, k % 64 = r := ⟨_, rfl⟩
      have hqi : (k : Int) / 64 = (q : Int) := by omega
      have hqi2 : (k : Int).tdiv 64 = (q : Int) := by rw [Int.tdiv_eq_ediv_of_nonneg (by omega)]; exact hqi
      have hri : (k : Int) % 64 = (r : Int) := by omega
      have hri2 : (k : Int).tmod 64 = (r : Int) := by rw [Int.tmod_eq_emod_of_nonneg (by omega)]; exact hri
      have hr64 : r < 64 := by omega
      have hq9 : q < 1000000 := by omega
      rw [hq, hr] at hcase
      have Hq := hid hq
      have Hr := hid hr
      clear hq hr
      go_upto_if 20 with fail
      go_cut [9, 10] from 12 to 41 (fun s9 s10 wx => s9 = u9 ∧ OwnR w.heap.size wx u9 (xf (ksR key nonce x0) (b.take k)) ∧ OwnR w.heap.size wx s10 (blkR key nonce x0 q) ∧ (∀ j, u9.ownBlock = some j → s10.ownBlock ≠ some j) ∧ Below w.heap.size w wx)
      case first =>
        by_cases hr0 : r = 0
        · obtain rfl : r = 0 := hr0
          have hqw : IntKind.u32.wrap (q : Int) = wv (UInt32.ofNat q) := by rw [w_lit q (by omega), IntKind.wrap_u32]; omega
          have hqw2 : (q : Int) % 4294967296 = wv (UInt32.ofNat q) := by rw [w_lit q (by omega)]; omega
          have hblk : blkR key nonce x0 q = blockF key nonce (x0 + UInt32.ofNat q) := rfl
          generalize UInt32.ofNat q = uq at hqw hqw2 hblk
          have Hblk := hid hblk
          have hkr' := hkr.below hB
          have hnr' := hnr.below hB
          clear hcase hblk
          go_wp2_with fail
          refine (refblock_any wr pk pn kc nc key nonce (x0 + uq) hkr' hnr' Hk.out Hn.out).mono ?_
          rintro e w2 ⟨v2, rfl, hown2, hB2⟩
          rw [← Hblk.out] at hown2
          have hO2 := HO.out.below hB2
          have hap : ∀ j, u9.ownBlock = some j → v2.ownBlock ≠ some j := fun j e1 e2 => by
            have h1 := (HO.out.lt j e1).2
            have h2 := (hown2.lt j e2).1
            omega
          have hB3 := hB.trans (hB2.mono hB.size)
          have hown3 := hown2.mono hB.size
          clear hown2 hB2
          go_wp2_with fail
          go_meet
          exact ⟨rfl, hO2, hown3, hap, hB3⟩
        · have hbr : ((r : Int) == 0) = false := by rw [beq_eq_false_iff_ne]; omega
          obtain ⟨h1, h2⟩ := hcase.resolve_left hr0
          clear hcase
          go_wp2_with fail
          go_meet
          exact ⟨rfl, HO.out, h1, h2, hB⟩
      case rest =>
        obtain ⟨rfl, hO, hK, hap, hB⟩ := hcut
        have hpw := hb.below hB
        have hel : (blkR key nonce x0 q).length = 64 := blockF_len _ _ _
        have hxs := xf_succ (ksR key nonce x0) b k (by rw [Hl.out]; exact hlt)
        rw [show ksR key nonce x0 k = (blkR key nonce x0 q).getD r 0 by unfold ksR; rw [Hq.out, Hr.out]] at hxs
        have hxl : (xf (ksR key nonce x0) (b.take k)).length < 140737488355328 := by rw [xf_len, List.length_take]; omega
        obtain ⟨bp, bo, rfl, _, cb⟩ := hpw k (by rw [Hl.out]; exact hlt)
        obtain ⟨gk, ck, rk, rfl, hck, _, hbk⟩ := hK.blk (by rw [hel]; omega)
        have cy := hbk.headCell r (by rw [hel]; exact hr64)
        rw [hel] at hck ⊢
        obtain ⟨KB, hKB⟩ : ∃ KB, blkR key nonce x0 q = KB := ⟨_, rfl⟩
        have Hnx := hid (show (k + 1) % 64 = 0 ∨ KB = blkR key nonce x0 ((k + 1) / 64) by
          have h1 := Hq.out
          have h2 := Hr.out
          by_cases h : (k + 1) % 64 = 0
          · exact .inl h
          · exact .inr (by rw [show (k + 1) / 64 = q by omega]; exact hKB.symm))
        rw [hKB] at hxs cy hK hel
        obtain ⟨OB, hOB⟩ : ∃ OB, xf (ksR key nonce x0) (b.take k) = OB := ⟨_, rfl⟩
        rw [hOB] at hxs hxl hO
        generalize hx : b.getD k 0 = x at hxs cb
        generalize hy : KB.getD r 0 = y at hxs cy
        have Hxs := hid hxs
        have Hxl := hid hxl
        have hO1 := hO.drew
        have hK1 := hK.drew
        have hB1 := hB.drew
        have Hap := hid hap
        have q1 : (k : Int) < (n : Int) := by omega
        have q2 : 0 ≤ (k : Int) := by omega
        have q3 : 0 ≤ (r : Int) := by omega
        have q4 : (r : Int) < 64 := by omega
        have hwc : w.heap.size ≤ wc.drew.heap.size := hB.size
        have Hel := hid hel
        rw [hel] at hK1
        clear hx hy hxs hxl hel hKB hOB hO hK hB hap hbk hcase
        go_wp2_with fail
        try simp only [Act.put]
        refine tkR (fun w' => w'.cell? ⟨bp, bo + k, none⟩ = some (.int .u8 (bv x)) ∧ w'.cell? ⟨gk, r, none⟩ = some (.int .u8 (bv y))) [11] (by kernel_rfl) (fun c a d v w h => by cases d <;> exact h) (⟨cb, cy⟩) (fun hPF hHeld => ?_)
        refine tkB 0 (.some 29) _ _ rfl rfl (by kernel_rfl) (by kernel_rfl) (by kernel_rfl) (by kernel_rfl) hPF rfl (fun w' => by (go_simp; try with_reducible rfl)) hHeld (fun hHeld => ?_)
        simp only [Act.put, List.setIfInBounds_toArray, List.set_cons_zero, List.set_cons_succ]
        refine tkB 1 (.some 30) _ _ rfl rfl (by kernel_rfl) (by kernel_rfl) (by kernel_rfl) (by kernel_rfl) hPF rfl (fun w' => by (go_simp; try with_reducible rfl)) hHeld (fun hHeld => ?_)
        simp only [Act.put, List.setIfInBounds_toArray, List.set_cons_zero, List.set_cons_succ]
        refine tkB 2 (.some 31) _ _ rfl rfl (by kernel_rfl) (by kernel_rfl) (by kernel_rfl) (by kernel_rfl) hPF rfl (fun w' => by (go_simp; try with_reducible rfl)) hHeld (fun hHeld => ?_)
        simp only [Act.put, List.setIfInBounds_toArray, List.set_cons_zero, List.set_cons_succ]
        refine tkB 3 (.some 32) _ _ rfl rfl (by kernel_rfl) (by kernel_rfl) (by kernel_rfl) (by kernel_rfl) hPF rfl (fun w' => by (go_simp; try with_reducible rfl)) hHeld (fun hHeld => ?_)
        simp only [Act.put, List.setIfInBounds_toArray, List.set_cons_zero, List.set_cons_succ]
        refine tkA 4 (.some 33) _ _ rfl rfl (by kernel_rfl) (by kernel_rfl) (by kernel_rfl) (by kernel_rfl) (by kernel_rfl) hPF rfl (fun w' hw' => by (have h1 := hw'.1; go_simp; try with_reducible rfl)) hHeld (fun hHeld => ?_)
        simp only [Act.put, List.setIfInBounds_toArray, List.set_cons_zero, List.set_cons_succ]
        refine tkB 5 (.some 34) _ _ rfl rfl (by kernel_rfl) (by kernel_rfl) (by kernel_rfl) (by kernel_rfl) hPF rfl (fun w' => by (go_simp; try with_reducible rfl)) hHeld (fun hHeld => ?_)
        simp only [Act.put, List.setIfInBounds_toArray, List.set_cons_zero, List.set_cons_succ]
        refine tkB 6 (.some 35) _ _ rfl rfl (by kernel_rfl) (by kernel_rfl) (by kernel_rfl) (by kernel_rfl) hPF rfl (fun w' => by (go_simp; try with_reducible rfl)) hHeld (fun hHeld => ?_)
        simp only [Act.put, List.setIfInBounds_toArray, List.set_cons_zero, List.set_cons_succ]
        refine tkB 7 (.some 36) _ _ rfl rfl (by kernel_rfl) (by kernel_rfl) (by kernel_rfl) (by kernel_rfl) hPF rfl (fun w' => by (go_simp; try with_reducible rfl)) hHeld (fun hHeld => ?_)
        simp only [Act.put, List.setIfInBounds_toArray, List.set_cons_zero, List.set_cons_succ]
        refine tkB 8 (.some 37) _ _ rfl rfl (by kernel_rfl) (by kernel_rfl) (by kernel_rfl) (by kernel_rfl) hPF rfl (fun w' => by (go_simp; try with_reducible rfl)) hHeld (fun hHeld => ?_)
        simp only [Act.put, List.setIfInBounds_toArray, List.set_cons_zero, List.set_cons_succ]
        refine tkA 9 (.some 38) _ _ rfl rfl (by kernel_rfl) (by kernel_rfl) (by kernel_rfl) (by kernel_rfl) (by kernel_rfl) hPF rfl (fun w' hw' => by (have h1 := hw'.2; go_simp; try with_reducible rfl)) hHeld (fun hHeld => ?_)
        simp only [Act.put, List.setIfInBounds_toArray, List.set_cons_zero, List.set_cons_succ]
        refine tkB 10 (.some 39) _ _ rfl rfl (by kernel_rfl) (by kernel_rfl) (by kernel_rfl) (by kernel_rfl) hPF rfl (fun w' => by (go_simp; try with_reducible rfl)) hHeld (fun hHeld => ?_)
        simp only [Act.put, List.setIfInBounds_toArray, List.set_cons_zero, List.set_cons_succ]
        refine tkW (rs := [11]) (by kernel_rfl) (by simp) (AllK.close (o := _) rfl (by kernel_rfl) (fun KC hKC => ?_) AllK.nil)
        go_simp
        refine hKC.out _ _ (fun hHeld => ?_)
        clear hKC KC
        try simp only [Act.put, List.setIfInBounds_toArray, List.set_cons_zero, List.set_cons_succ]
        refine tkW (rs := [12]) (by kernel_rfl) (by simp) (AllK.close (o := _) rfl (by kernel_rfl) (fun KC hKC => ?_) AllK.nil)
        refine wantIt rfl (wp_push (.some 41) rfl (.tmp 29) (.tmp 40) rfl w.heap.size u9 _ rfl hO1 (x ^^^ y) rfl Hxl.out hwc ?_)
        intro v' w7 hO7 hg7 hwhich
        rw [Hxs.out] at hO7
        have hB7 := hB1.grown hg7 hB1.size (fun j e => (hO1.lt j e).1)
        have hK7 := hK1.kept hg7 (.inl (fun e => Hap.out gk e.symm rfl))
        have hap7 : ∀ j, v'.ownBlock = some j → (Value.slice (some ⟨gk, 0, none⟩) 64 ck).ownBlock ≠ some j := fun j e1 e2 => by
          rcases hwhich with h | h
          · exact Hap.out j (by rw [← h]; exact e1) e2
          · rw [h] at e1
            have h2 := (hK1.lt j e2).2
            have e1 : wc.drew.heap.size + 1 = j := Option.some.inj e1
            omega
        clear hg7 hwhich
        refine hKC.out _ _ (fun hHeld => ?_)
        clear hKC KC
        try simp only [Act.put, List.setIfInBounds_toArray, List.set_cons_zero, List.set_cons_succ]
        refine tkB 13 (.some 9) _ _ rfl rfl (by kernel_rfl) (by kernel_rfl) (by kernel_rfl) (by kernel_rfl) hPF rfl (fun w' => by (go_simp; try with_reducible rfl)) hHeld (fun hHeld => ?_)
        simp only [Act.put, List.setIfInBounds_toArray, List.set_cons_zero, List.set_cons_succ]
        refine tkD (by kernel_rfl) ?_ _
        go_wp2_with fail
        go_roundw
        case rel => exact ⟨k + 1, by omega, by go_num, hO7, Hnx.out.elim .inl (fun e => .inr ⟨e ▸ hK7, hap7⟩), hB7⟩
        case measure => (simp [intOf]; try omega)
    · obtain rfl : k = n := by omega
      have q1 : ¬ ((k : Int) < (k : Int)) := by omega
      have e : b.take k = b := List.take_of_length_le (by rw [Hl.out]; exact Nat.le_refl _)
      have hO := HO.out
      rw [e] at hO
      clear e hcase
      go_wp2_with fail
      go_ret
      exact ⟨_, rfl, hO, hB⟩
end Go.Proofs.Ytgellbapbphnlaa
