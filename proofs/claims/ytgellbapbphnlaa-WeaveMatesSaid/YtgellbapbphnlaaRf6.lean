/- the reference of aes: Keys -/
import Derived.Test.YtgellbapbphnlaaRf3
import Derived.Test.YtgellbapbphnlaaExp1
import Derived.Test.YtgellbapbphnlaaReg
import Derived.Great.BuildSlice
namespace Go.Proofs.Ytgellbapbphnlaa
open Go.RowKit

/-- Append to an own row, as one step of a region that draws its order. -/
theorem step_append_own {P : Program} {w : World} {ops : Array Oper} {o : Oper} {a : Act} {K : Act → World → Prop} {Q : Exit → Act → World → Prop} {E : Prop} (hgd : o.guard = none) (s x : Operand) (t : TypeId)
    (ho : o.op = .call { callee := .builtin .append, args := #[s, x], argTypes := #[t, t] })
    (base : Nat) (e : TypeId) (i : TypeInfo) (z : Value) (size bytes : Nat) (ht : P.underlying t = some (.slice e)) (hi : P.info? e = some i) (hz : i.zero = some z)
    (hsize : i.size = size) (hby : i.bytes = bytes) (hzs : z.cells.size = size) (hsz : 0 < size)
    (v : Value) (n : Nat) (xs : List Value) (hs : a.eval s = v) (hown : w.ownsRow base e size v n xs)
    (ad : Addr) (m c : Nat) (news : List Value) (hx : a.eval x = .slice (some ad) m c) (hl : news.length = m * size) (hnews : ∀ j u, news[j]? = some u → w.cell? (ad.add j) = some u) (h1 : ∀ u ∈ news, u.oneCell' = true)
    (h63 : n + m ≤ maxLen) (hbytes : (n + m) * bytes ≤ 140737488355328) (hbase : base ≤ w.heap.size)
    (h : ∀ v' w', w'.ownsRow base e size v' (n + m) (xs ++ news) → w.grownBy w' v.ownBlock → (v' = .slice none 0 0 ↔ v = .slice none 0 0 ∧ m = 0) → K (a.put o.dst v') w') :
    if Region.wanted o (yielded ops a.tmps) = true then Oper.wp P o a w K Q else E := by
  have hw : Region.wanted o (yielded ops a.tmps) = true := by simp [Region.wanted, hgd]
  rw [if_pos hw]
  exact wp_append_own w s x t ho base e i z size bytes ht hi hz hsize hby hzs hsz v n xs hs hown ad m c news hx hl hnews h1 h63 hbytes hbase h
theorem key_at {w : World} {b o : Nat} {key : List UInt8} (h : RowAt w (some ⟨b, o, none⟩) key) {j : Nat} (hj : j < key.length) : w.cell? ⟨b, o + j, none⟩ = some (.int .u8 (bv (key.getD j 0))) := by
  obtain ⟨b', o', e, _, hc⟩ := h j hj
  injection e with e; injection e with e1 e2; subst e1 e2
  exact hc
/-- What the walk of Keys holds: the table, the words so far. -/
structure KS (w wr : World) (T : List UInt8) (v : Value) (i : Nat) (W : List UInt8) : Prop where
  own : wr.ownsRow w.heap.size tA4 4 v i (bys W)
  hT : Blk wr w.heap.size (bys T) tA256
  hB : Below w.heap.size w wr
theorem KS.lt {w wr : World} {T : List UInt8} {v : Value} {i : Nat} {W : List UInt8} (h : KS w wr T v i W) : w.heap.size < wr.heap.size := h.hT.lt
theorem KS.alloc {w wr : World} {T : List UInt8} {v : Value} {i : Nat} {W : List UInt8} (h : KS w wr T v i W) (ob : Obj) : KS w (wr.alloc ob) T v i W := ⟨h.own.alloc ob, h.hT.alloc ob, h.hB.alloc h.hB.size ob⟩
theorem KS.drew {w wr : World} {T : List UInt8} {v : Value} {i : Nat} {W : List UInt8} (h : KS w wr T v i W) : KS w wr.drew T v i W :=
  ⟨h.own.kept (row := none) ⟨rfl, rfl, rfl, Nat.le_refl _, fun _ _ _ => rfl⟩ (by cases v.ownBlock <;> simp), h.hT.drew, h.hB.drew⟩
/-- A word more. -/
theorem KS.more {w wr w3 : World} {T : List UInt8} {v v' : Value} {i : Nat} {W W' : List UInt8} (h : KS w wr T v i W) (h1 : w3.ownsRow w.heap.size tA4 4 v' (i + 1) (bys W')) (hg : wr.grownBy w3 v.ownBlock) : KS w w3 T v' (i + 1) W' :=
  ⟨h1, h.hT.grown hg (own_ne h.own h.hT (by decide)), h.hB.trans ⟨hg.os, hg.tape, hg.output, hg.size, fun k hk => hg.block k (Nat.lt_of_lt_of_le hk h.hB.size) (fun e => by have := (h.own.lt k e.symm).1; omega)⟩⟩
theorem own4 {w : World} {base n : Nat} {v : Value} {xs : List Value} (h : w.ownsRow base tA4 4 v n xs) (hn : 0 < n) : ∃ g cap rest, v = .slice (some ⟨g, 0, none⟩) n cap ∧ base ≤ g ∧ n ≤ cap ∧ Blk w g (xs ++ rest) tA4 := by
  rcases h.2 with ⟨_, h0⟩ | ⟨g, cap, cur, hv, hb, hh, hc, _, hs, ht⟩
  · omega
  · refine ⟨g, cap, cur.toList.drop (n * 4), hv, hb, hc, ?_⟩
    unfold Blk
    rw [hh, ← ht, List.take_append_drop]
theorem KS.words {w wr : World} {T : List UInt8} {g i cap : Nat} {W : List UInt8} (h : KS w wr T (.slice (some ⟨g, 0, none⟩) i cap) i W) (hi : 0 < i) : ∃ rest, Blk wr g (bys W ++ rest) tA4 := by
  obtain ⟨g', cap', rest, e, _, _, hb⟩ := own4 h.own hi
  injection e with e1 e2 e3
  injection e1 with e1; injection e1 with e1
  subst e1
  exact ⟨rest, hb⟩
theorem KS.at {w wr : World} {T : List UInt8} {v : Value} {i : Nat} {W : List UInt8} (h : KS w wr T v i W) (hl : T.length = 256) (ha : ∀ x : UInt8, T.getD x.toNat 0 = sbox x) (y : UInt8) : wr.cell? ⟨w.heap.size, (bv y).toNat, none⟩ = some (.int .u8 (bv (sbox y))) := by
  have := h.hT.cellAt (bys_get T (bv y).toNat (by rw [hl]; have := bv_hi y; have := bv_lo y; omega))
  rw [show T.getD (bv y).toNat 0 = sbox y by rw [bv_toNat]; exact ha y] at this
  exact this
theorem own_apart {w : World} {base1 base2 size1 size2 n1 n2 : Nat} {e1 e2 : TypeId} {v1 v2 : Value} {xs1 xs2 : List Value} (h1 : w.ownsRow base1 e1 size1 v1 n1 xs1) (h2 : w.ownsRow base2 e2 size2 v2 n2 xs2) (he : e1 ≠ e2) : v1.ownBlock = none ∨ v1.ownBlock ≠ v2.ownBlock := by
  rcases h1.2 with ⟨rfl, _⟩ | ⟨g1, cap1, cur1, rfl, _, hh1, _⟩
  · exact .inl rfl
  · right
    rcases h2.2 with ⟨rfl, _⟩ | ⟨g2, cap2, cur2, rfl, _, hh2, _⟩
    · simp [Value.ownBlock]
    · intro e
      simp only [Value.ownBlock, Option.some.injEq] at e
      subst e
      rw [hh1] at hh2
      simp at hh2
      exact he hh2.2
/-- Another row grows. -/
theorem KS.other {w wr w' : World} {T : List UInt8} {v v2 : Value} {i n2 : Nat} {W : List UInt8} {xs : List Value} (h : KS w wr T v i W) (h2 : wr.ownsRow w.heap.size tA16 16 v2 n2 xs) (hg : wr.grownBy w' v2.ownBlock) : KS w w' T v i W :=
  ⟨h.own.kept hg (own_apart h.own h2 (by decide)), h.hT.grown hg (own_ne h2 h.hT (by decide)), h.hB.trans ⟨hg.os, hg.tape, hg.output, hg.size, fun k hk => hg.block k (Nat.lt_of_lt_of_le hk h.hB.size) (fun e => by have := (h2.lt k e.symm).1; omega)⟩⟩
theorem own16 {w : World} {base n : Nat} {v : Value} {xs : List Value} (h : w.ownsRow base tA16 16 v n xs) (hn : 0 < n) : ∃ g cap rest, v = .slice (some ⟨g, 0, none⟩) n cap ∧ Blk w g (xs ++ rest) tA16 := by
  rcases h.2 with ⟨_, h0⟩ | ⟨g, cap, cur, hv, hb, hh, hc, _, hs, ht⟩
  · omega
  · refine ⟨g, cap, cur.toList.drop (n * 16), hv, ?_⟩
    unfold Blk
    rw [hh, ← ht, List.take_append_drop]
theorem info54 : (Try.prog.info? 36).map (fun i => (i.zero, i.size, i.bytes)) = some (some (.agg (bys z16).toArray), 16, 16) := by kernel_rfl
theorem fill16 {X : List UInt8} (h : X.length = 16) : Instr.fill (fun i => some (i * 16, 16)) ((Array.range (1 * 16)).map ((Value.agg (bys z16).toArray).cells[· % (Value.agg (bys z16).toArray).cells.size]!)) [(0, Value.agg (bys X).toArray)] = some (bys X).toArray := by
  obtain ⟨a0, a1, a2, a3, a4, a5, a6, a7, a8, a9, a10, a11, a12, a13, a14, a15, rfl⟩ := len16 h
  kernel_rfl
theorem under62 : Try.prog.underlying 65 = some (.slice 36) := by kernel_rfl
/-- The first n bytes of the block at q, noughts behind. -/
def cpN (R : List UInt8) (q n : Nat) : List UInt8 := (R.drop (16 * q)).take n ++ List.replicate (16 - n) 0
theorem cpN_len {R : List UInt8} {q n : Nat} (h : 16 * q + 16 ≤ R.length) (hn : n ≤ 16) : (cpN R q n).length = 16 := by simp [cpN]; omega
theorem cpN_succ {R : List UInt8} {q n : Nat} (h : 16 * q + 16 ≤ R.length) (hn : n < 16) : (cpN R q n).set n (R.getD (16 * q + n) 0) = cpN R q (n + 1) := by
  unfold cpN
  have e : List.replicate (16 - n) (0 : UInt8) = 0 :: List.replicate (16 - (n + 1)) 0 := by
    rw [← List.replicate_succ]; congr 1; omega
  have hl : ((R.drop (16 * q)).take n).length = n := by simp; omega
  have ht : (R.drop (16 * q)).take (n + 1) = (R.drop (16 * q)).take n ++ [R.getD (16 * q + n) 0] := by
    rw [take_succ_getD 0 _ _ (by simp; omega)]
    congr 2
    simp [List.getD]
  rw [e, List.set_append_right _ _ (by omega), hl, Nat.sub_self, ht, List.append_assoc]
  rfl
theorem mul_c2 (x : UInt8) : mulF x 2 = dbl x := by revert x; apply all256; decide +kernel
/-- One of one's own blocks turns. -/
theorem KS.set {w wr : World} {T : List UInt8} {v : Value} {i : Nat} {W : List UInt8} (h : KS w wr T v i W) {xb : Nat} (hx : w.heap.size < xb) (hne : some xb ≠ v.ownBlock) {w' : World} (hc : Chg wr.heap.size [xb] wr w') : KS w w' T v i W := by
  refine ⟨?_, h.hT.chg hc h.hT.lt (by simp; omega), h.hB.trans (hc.below h.hB.size (fun k hk => by simp at hk; omega))⟩
  obtain ⟨h1, h2⟩ := h.own
  refine ⟨h1, ?_⟩
  rcases h2 with h2 | ⟨g, cap, cur, hv, hg, hh, r⟩
  · exact Or.inl h2
  · refine Or.inr ⟨g, cap, cur, hv, hg, ?_, r⟩
    have hgl : g < wr.heap.size := by
      rcases Nat.lt_or_ge g wr.heap.size with h | h
      · exact h
      · rw [Array.getElem?_eq_none h] at hh; cases hh
    rw [hc.block g hgl (by simp only [List.mem_singleton]; intro e; exact hne (by rw [hv]; simp [Value.ownBlock, e]))]; exact hh
theorem info89b : (Try.prog.info? 108).map (fun i => (i.zero, i.size, i.bytes)) = some (some (.agg #[.int .u8 0, .int .u8 0, .int .u8 0, .int .u8 0]), 4, 4) := info89

set_option maxRecDepth 100000 in
set_option maxHeartbeats 4000000 in
theorem refkeys_any (w : World) (b o n cap m : Nat) (key : List UInt8) (hk : RowAt w (some ⟨b, o, none⟩) key) (hkl : key.length = n) (hm : m = 4 ∨ m = 8) (hn : n = 4 * m) :
    Calls Try.prog 34 #[.agg (bys (tbl 256)).toArray, .slice (some ⟨b, o, none⟩) n cap] w fun e w' => ∃ g cap2 ex, e = .returned (.slice (some ⟨g, 0, none⟩) (m + 7) cap2) ∧ Blk w' g (bys (rkOf m key) ++ ex) tA16 ∧ Below w.heap.size w w' := by
  obtain ⟨T, hT⟩ : ∃ T, tbl 256 = T := ⟨_, rfl⟩
  have hTl : T.length = 256 := by rw [← hT]; exact tbl_len 256 (by omega)
  have hTa : ∀ x : UInt8, T.getD x.toNat 0 = sbox x := by rw [← hT]; exact tbl_at
  rw [hT]
  clear hT
  obtain ⟨i0, hi0, hz0, hs0, hb0⟩ := info_parts info89b
  have Hi0 := hid hi0
  have Hz0 := hid hz0
  have Hs0 := hid hs0
  have Hb0 := hid hb0
  have hK0 : KS w (w.alloc (.cells (bys T).toArray tA256)) T (.slice none 0 0) 0 [] := ⟨World.ownsRow_nil _ _ _ _, Blk.new w (bys T) tA256, (Below.refl _ _).alloc (Nat.le_refl _) _⟩
  have hq : (n : Int) / 4 = (m : Int) := by omega
  have hq' : (n : Int).tdiv 4 = (m : Int) := by rw [Int.tdiv_eq_ediv_of_nonneg (by omega)]; exact hq
  have hm8 : m ≤ 8 := by omega
  have hm4 : 4 ≤ m := by omega
  have Hkl := hid hkl
  have HTl := hid hTl
  have HTa := hid hTa
  have Hm := hid hm
  have Hn := hid hn
  have Hk := hid hk
  clear hi0 hz0 hs0 hb0 hkl hTl hTa hm hn hk
  go_enter Try.func34, Try.ntmps34
  go_upto_region 2 with fail
  change Code.wp _ _ _ _ (w.alloc (.cells (bys T).toArray tA256))
  generalize w.alloc (.cells (bys T).toArray tA256) = w2 at *
  go_wp2_with fail
  go_loopw [6, 7] (fun v i wr => ∃ k : Nat, k ≤ m ∧ i = .int .i64 k ∧ KS w wr T v k (key.take (4 * k))) (fun _ i _ => m - (intOf i).toNat)
  case atStart => exact ⟨0, by omega, rfl, by simpa using hK0⟩
  case round =>
    clear hK0
    obtain ⟨k, hkm, rfl, hK⟩ := hrel
    by_cases hkl : k < m
    · obtain ⟨x0, x1, x2, x3, hx, e0, e1, e2, e3⟩ := four_at2 (l := key) (k := 4 * k) (by have := Hkl.out; have := Hn.out; omega)
      obtain ⟨j0, hj0⟩ : ∃ j, 4 * k = j := ⟨_, rfl⟩
      obtain ⟨j1, hj1⟩ : ∃ j, j0 + 1 = j := ⟨_, rfl⟩
      obtain ⟨j2, hj2⟩ : ∃ j, j0 + 2 = j := ⟨_, rfl⟩
      obtain ⟨j3, hj3⟩ : ∃ j, j0 + 3 = j := ⟨_, rfl⟩
      have hj3n : j3 < n := by have := Hn.out; omega
      have a0 : 4 * (k : Int) = (j0 : Int) := by omega
      have a1 : (j0 : Int) + 1 = (j1 : Int) := by omega
      have a2 : (j0 : Int) + 2 = (j2 : Int) := by omega
      have a3 : (j0 : Int) + 3 = (j3 : Int) := by omega
      have b0 : j0 < n := by omega
      have b1 : j1 < n := by omega
      have b2 : j2 < n := by omega
      have wr0 : IntKind.i64.wrap (j0 : Int) = (j0 : Int) := IntWalk.i64_in _ (by have := Hn.out; omega)
      have wr1 : IntKind.i64.wrap (j1 : Int) = (j1 : Int) := IntWalk.i64_in _ (by have := Hn.out; omega)
      have wr2 : IntKind.i64.wrap (j2 : Int) = (j2 : Int) := IntWalk.i64_in _ (by have := Hn.out; omega)
      have wr3 : IntKind.i64.wrap (j3 : Int) = (j3 : Int) := IntWalk.i64_in _ (by have := Hn.out; omega)
      rw [hj0] at e0 e1 e2 e3
      rw [hj1] at e1
      rw [hj2] at e2
      rw [hj3] at e3
      have He0 := hid e0
      have He1 := hid e1
      have He2 := hid e2
      have He3 := hid e3
      have Hj0 := hid (show j0 < key.length by have := Hkl.out; omega)
      have Hj1 := hid (show j1 < key.length by have := Hkl.out; omega)
      have Hj2 := hid (show j2 < key.length by have := Hkl.out; omega)
      have Hj3 := hid (show j3 < key.length by have := Hkl.out; omega)
      have htk : bys (key.take (4 * (k + 1))) = bys (key.take (4 * k)) ++ bys [x0, x1, x2, x3] := by
        rw [← hx, show 4 * (k + 1) = 4 * k + 4 by omega, List.take_add]; simp [bys]
      have hnew := Blk.new wr.drew (bys [x0, x1, x2, x3]) tA4
      have hKA := hK.drew.alloc (.cells (bys [x0, x1, x2, x3]).toArray tA4)
      have hszk := hK.hB.size
      clear e0 e1 e2 e3 hx hj0 hj1 hj2 hj3
      go_wp2_with fail
      refine tk_region (fun w' => RowAt w' (some ⟨b, o, none⟩) key) (by kernel_rfl) (fun c a d v w h => by cases d <;> exact h) (Hk.out.below hK.drew.hB) (fun hPF hHeld => ?_)
      refine tk 0 (.some 25) _ _ rfl rfl (by kernel_rfl) (by kernel_rfl) (by kernel_rfl) hPF rfl (fun w' hw' => by (go_simp; try with_reducible rfl)) hHeld ?_
      simp only [Act.put, List.setIfInBounds_toArray, List.set_cons_zero, List.set_cons_succ]
      refine tk 1 (.some 26) _ _ rfl rfl (by kernel_rfl) (by kernel_rfl) (by kernel_rfl) hPF rfl (fun w' hw' => by (go_simp; try with_reducible rfl)) hHeld ?_
      simp only [Act.put, List.setIfInBounds_toArray, List.set_cons_zero, List.set_cons_succ]
      refine tk 2 (.some 27) _ _ rfl rfl (by kernel_rfl) (by kernel_rfl) (by kernel_rfl) hPF rfl (fun w' hw' => by (go_simp; try with_reducible rfl)) hHeld ?_
      simp only [Act.put, List.setIfInBounds_toArray, List.set_cons_zero, List.set_cons_succ]
      refine tk 3 (.some 28) _ _ rfl rfl (by kernel_rfl) (by kernel_rfl) (by kernel_rfl) hPF rfl (fun w' hw' => by (go_simp; try with_reducible rfl)) hHeld ?_
      simp only [Act.put, List.setIfInBounds_toArray, List.set_cons_zero, List.set_cons_succ]
      refine tk 4 (.some 29) _ _ rfl rfl (by kernel_rfl) (by kernel_rfl) (by kernel_rfl) hPF rfl (fun w' hw' => by (go_simp; try with_reducible rfl)) hHeld ?_
      simp only [Act.put, List.setIfInBounds_toArray, List.set_cons_zero, List.set_cons_succ]
      refine tk 5 (.some 30) _ _ rfl rfl (by kernel_rfl) (by kernel_rfl) (by kernel_rfl) hPF rfl (fun w' hw' => by (have cc := key_at hw' Hj0.out; rw [He0.out] at cc; go_simp; try with_reducible rfl)) hHeld ?_
      simp only [Act.put, List.setIfInBounds_toArray, List.set_cons_zero, List.set_cons_succ]
      refine tk 6 (.some 31) _ _ rfl rfl (by kernel_rfl) (by kernel_rfl) (by kernel_rfl) hPF rfl (fun w' hw' => by (go_simp; try with_reducible rfl)) hHeld ?_
      simp only [Act.put, List.setIfInBounds_toArray, List.set_cons_zero, List.set_cons_succ]
      refine tk 7 (.some 32) _ _ rfl rfl (by kernel_rfl) (by kernel_rfl) (by kernel_rfl) hPF rfl (fun w' hw' => by (go_simp; try with_reducible rfl)) hHeld ?_
      simp only [Act.put, List.setIfInBounds_toArray, List.set_cons_zero, List.set_cons_succ]
      refine tk 8 (.some 33) _ _ rfl rfl (by kernel_rfl) (by kernel_rfl) (by kernel_rfl) hPF rfl (fun w' hw' => by (go_simp; try with_reducible rfl)) hHeld ?_
      simp only [Act.put, List.setIfInBounds_toArray, List.set_cons_zero, List.set_cons_succ]
      refine tk 9 (.some 34) _ _ rfl rfl (by kernel_rfl) (by kernel_rfl) (by kernel_rfl) hPF rfl (fun w' hw' => by (go_simp; try with_reducible rfl)) hHeld ?_
      simp only [Act.put, List.setIfInBounds_toArray, List.set_cons_zero, List.set_cons_succ]
      refine tk 10 (.some 35) _ _ rfl rfl (by kernel_rfl) (by kernel_rfl) (by kernel_rfl) hPF rfl (fun w' hw' => by (go_simp; try with_reducible rfl)) hHeld ?_
      simp only [Act.put, List.setIfInBounds_toArray, List.set_cons_zero, List.set_cons_succ]
      refine tk 11 (.some 36) _ _ rfl rfl (by kernel_rfl) (by kernel_rfl) (by kernel_rfl) hPF rfl (fun w' hw' => by (have cc := key_at hw' Hj1.out; rw [He1.out] at cc; go_simp; try with_reducible rfl)) hHeld ?_
      simp only [Act.put, List.setIfInBounds_toArray, List.set_cons_zero, List.set_cons_succ]
      refine tk 12 (.some 37) _ _ rfl rfl (by kernel_rfl) (by kernel_rfl) (by kernel_rfl) hPF rfl (fun w' hw' => by (go_simp; try with_reducible rfl)) hHeld ?_
      simp only [Act.put, List.setIfInBounds_toArray, List.set_cons_zero, List.set_cons_succ]
      refine tk 13 (.some 38) _ _ rfl rfl (by kernel_rfl) (by kernel_rfl) (by kernel_rfl) hPF rfl (fun w' hw' => by (go_simp; try with_reducible rfl)) hHeld ?_
      simp only [Act.put, List.setIfInBounds_toArray, List.set_cons_zero, List.set_cons_succ]
      refine tk 14 (.some 39) _ _ rfl rfl (by kernel_rfl) (by kernel_rfl) (by kernel_rfl) hPF rfl (fun w' hw' => by (go_simp; try with_reducible rfl)) hHeld ?_
      simp only [Act.put, List.setIfInBounds_toArray, List.set_cons_zero, List.set_cons_succ]
      refine tk 15 (.some 40) _ _ rfl rfl (by kernel_rfl) (by kernel_rfl) (by kernel_rfl) hPF rfl (fun w' hw' => by (go_simp; try with_reducible rfl)) hHeld ?_
      simp only [Act.put, List.setIfInBounds_toArray, List.set_cons_zero, List.set_cons_succ]
      refine tk 16 (.some 41) _ _ rfl rfl (by kernel_rfl) (by kernel_rfl) (by kernel_rfl) hPF rfl (fun w' hw' => by (go_simp; try with_reducible rfl)) hHeld ?_
      simp only [Act.put, List.setIfInBounds_toArray, List.set_cons_zero, List.set_cons_succ]
      refine tk 17 (.some 42) _ _ rfl rfl (by kernel_rfl) (by kernel_rfl) (by kernel_rfl) hPF rfl (fun w' hw' => by (have cc := key_at hw' Hj2.out; rw [He2.out] at cc; go_simp; try with_reducible rfl)) hHeld ?_
      simp only [Act.put, List.setIfInBounds_toArray, List.set_cons_zero, List.set_cons_succ]
      refine tk 18 (.some 43) _ _ rfl rfl (by kernel_rfl) (by kernel_rfl) (by kernel_rfl) hPF rfl (fun w' hw' => by (go_simp; try with_reducible rfl)) hHeld ?_
      simp only [Act.put, List.setIfInBounds_toArray, List.set_cons_zero, List.set_cons_succ]
      refine tk 19 (.some 44) _ _ rfl rfl (by kernel_rfl) (by kernel_rfl) (by kernel_rfl) hPF rfl (fun w' hw' => by (go_simp; try with_reducible rfl)) hHeld ?_
      simp only [Act.put, List.setIfInBounds_toArray, List.set_cons_zero, List.set_cons_succ]
      refine tk 20 (.some 45) _ _ rfl rfl (by kernel_rfl) (by kernel_rfl) (by kernel_rfl) hPF rfl (fun w' hw' => by (go_simp; try with_reducible rfl)) hHeld ?_
      simp only [Act.put, List.setIfInBounds_toArray, List.set_cons_zero, List.set_cons_succ]
      refine tk 21 (.some 46) _ _ rfl rfl (by kernel_rfl) (by kernel_rfl) (by kernel_rfl) hPF rfl (fun w' hw' => by (go_simp; try with_reducible rfl)) hHeld ?_
      simp only [Act.put, List.setIfInBounds_toArray, List.set_cons_zero, List.set_cons_succ]
      refine tk 22 (.some 47) _ _ rfl rfl (by kernel_rfl) (by kernel_rfl) (by kernel_rfl) hPF rfl (fun w' hw' => by (go_simp; try with_reducible rfl)) hHeld ?_
      simp only [Act.put, List.setIfInBounds_toArray, List.set_cons_zero, List.set_cons_succ]
      refine tk 23 (.some 48) _ _ rfl rfl (by kernel_rfl) (by kernel_rfl) (by kernel_rfl) hPF rfl (fun w' hw' => by (have cc := key_at hw' Hj3.out; rw [He3.out] at cc; go_simp; try with_reducible rfl)) hHeld ?_
      simp only [Act.put, List.setIfInBounds_toArray, List.set_cons_zero, List.set_cons_succ]
      refine tk 24 (.some 49) _ _ rfl rfl (by kernel_rfl) (by kernel_rfl) (by kernel_rfl) hPF rfl (fun w' hw' => by (go_simp; try with_reducible rfl)) hHeld ?_
      simp only [Act.put, List.setIfInBounds_toArray, List.set_cons_zero, List.set_cons_succ]
      refine wpAnyH_ready (rs := [25]) (by kernel_rfl) (by simp) (AllReadyH.cons (o := _) rfl (fun K hK => ?_) AllReadyH.nil)
      go_simp
      have hHeld : RowAt _ _ _ := Hk.out.below hKA.hB
      refine hK.out _ _ hHeld (fun hHeld => ?_)
      clear hK K
      try simp only [Act.put, List.setIfInBounds_toArray, List.set_cons_zero, List.set_cons_succ]
      refine wpAnyH_ready (rs := [26]) (by kernel_rfl) (by simp) (AllReadyH.cons (o := _) rfl (fun K hK => ?_) AllReadyH.nil)
      refine step_append_own rfl (.tmp 25) (.tmp 50) 107 rfl w.heap.size 108 i0 _ 4 4 under86 Hi0.out Hz0.out Hs0.out Hb0.out rfl (by decide) _ k _ rfl hKA.own ⟨wr.heap.size, 0, none⟩ 1 1 (bys [x0, x1, x2, x3]) rfl rfl (fun a u hu => by rw [Addr.add_mid]; exact hnew.whole a u hu) (bys_one _) (by unfold maxLen; omega) (by omega) (by simp; omega) ?_
      intro v' w3 hown3 hgrow3 _
      have hK3 : KS w w3 T v' (k + 1) (key.take (4 * (k + 1))) := KS.more hKA (by rw [htk]; exact hown3) hgrow3
      have hHeld : RowAt _ _ _ := Hk.out.below hK3.hB
      refine hK.out _ _ hHeld (fun hHeld => ?_)
      clear hK K
      try simp only [Act.put, List.setIfInBounds_toArray]
      refine tk 27 (.some 6) _ _ rfl rfl (by kernel_rfl) (by kernel_rfl) (by kernel_rfl) hPF rfl (fun w' hw' => by (go_simp; try with_reducible rfl)) hHeld ?_
      simp only [Act.put]
      refine wpAnyH_done (by kernel_rfl) ?_ _
      go_wp2_with fail
      go_roundw
      case rel => exact ⟨k + 1, by omega, by go_num, hK3⟩
      case measure => simp [intOf]; omega
    · have hkm : k = m := by omega
      have hkt : key.take (4 * k) = key := by rw [List.take_of_length_le (by have := Hkl.out; have := Hn.out; omega)]
      rw [hkt, hkm] at hK
      rw [hkm]
      have hm1 : ¬ ((m : Int) = 0) := by omega
      have hm1b : ((m : Int) == 0) = false := by rw [beq_eq_false_iff_ne]; exact hm1
      obtain ⟨N, hN⟩ : ∃ N, m + (28 + 3 * m) = N := ⟨_, rfl⟩
      have hN1 : 4 * ((m : Int) + 7) = (N : Int) := by omega
      have hN2 : N ≤ 60 := by omega
      clear hkt hkl hkm
      go_wp2_with fail
      go_loopw [6, 8, 9, 10, 11] (fun v st i _ _ wr => ∃ q i' : Nat, m + q = i' ∧ i' ≤ N ∧ i = .int .i64 i' ∧ st = B (exTo m key q).2 ∧ KS w wr T v i' (exTo m key q).1) (fun _ _ i _ _ _ => 100 - (intOf i).toNat)
      case atStart => exact ⟨0, m, rfl, by omega, rfl, rfl, hK⟩
      case round =>
        clear hK
        obtain ⟨q, i, hqi, hiN, rfl, rfl, hK⟩ := hrel
        have hXl := exTo_len m key (by have := Hkl.out; have := Hn.out; omega) (by omega) q
        rw [hqi] at hXl
        by_cases hlt : i < N
        · have hX : exTo m key (q + 1) = exStep m i (exTo m key q) := by rw [← hqi]; rfl
          obtain ⟨st, hst⟩ : ∃ st, (exTo m key q).2 = st := ⟨_, rfl⟩
          obtain ⟨W, hW⟩ : ∃ W, (exTo m key q).1 = W := ⟨_, rfl⟩
          have hX : exTo m key (q + 1) = (W ++ List.zipWith (· ^^^ ·) (exZ m i st ((W.drop (4 * (i - 1))).take 4)).1 ((W.drop (4 * (i - m))).take 4), (exZ m i st ((W.drop (4 * (i - 1))).take 4)).2) := by
            rw [hX]; unfold exStep; rw [hst, hW]
          rw [hW] at hXl hK
          rw [hst]
          obtain ⟨g, cap', rest, rfl, hgb, hic, hWb⟩ := own4 hK.own (by omega)
          obtain ⟨p, hp⟩ : ∃ p, i - 1 = p := ⟨_, rfl⟩
          have hpi : p < i := by omega
          have hp1 : (i : Int) - 1 = (p : Int) := by omega
          have hqi2 : i - m = q := by omega
          have hqi3 : (i : Int) - (m : Int) = (q : Int) := by omega
          have hq_i : q < i := by omega
          rw [hp, hqi2] at hX
          obtain ⟨x0, x1, x2, x3, hx, e0, e1, e2, e3⟩ := four_at2 (l := W) (k := 4 * p) (by omega)
          obtain ⟨y0, y1, y2, y3, hy, f0, f1, f2, f3⟩ := four_at2 (l := W) (k := 4 * q) (by omega)
          rw [hx, hy] at hX
          have c0 := hWb.cellAt (bys_get_pre2 W rest (p * 4) (by omega))
          have c1 := hWb.cellAt (bys_get_pre2 W rest (p * 4 + 1) (by omega))
          have c2 := hWb.cellAt (bys_get_pre2 W rest (p * 4 + 2) (by omega))
          have c3 := hWb.cellAt (bys_get_pre2 W rest (p * 4 + 3) (by omega))
          rw [show p * 4 = 4 * p by omega] at c0 c1 c2 c3
          rw [e0] at c0; rw [e1] at c1; rw [e2] at c2; rw [e3] at c3
          rw [show 4 * p = p * 4 by omega] at c0 c1 c2 c3
          obtain ⟨e, he⟩ : ∃ e, i % m = e := ⟨_, rfl⟩
          have hr1 : (i : Int) % (m : Int) = (e : Int) := by rw [← he]; exact (Int.natCast_emod i m).symm
          have hr2 : (i : Int).tmod (m : Int) = (e : Int) := by rw [Int.tmod_eq_emod_of_nonneg (by omega)]; exact hr1
          have hxb := Blk.new wr (bys [x0, x1, x2, x3]) tA4
          have hKx := hK.alloc (.cells (bys [x0, x1, x2, x3]).toArray tA4)
          have hgl := hWb.lt
          have hxs := hK.lt
          have hiN2 : (i : Int) < (N : Int) := by omega
          have HX := hid hX
          have Hst := hid hst
          have HWe := hid hW
          have He := hid he
          have Hqi := hid hqi
          have hne : some wr.heap.size ≠ (Value.slice (some ⟨g, 0, none⟩) i cap').ownBlock := by simp [Value.ownBlock]; omega
          have HXl := hid hXl
          clear e0 e1 e2 e3 hx hX hst hW he hqi hp hqi2 hXl hWb hK
          obtain ⟨xb, hxbe⟩ : ∃ xb, wr.heap.size = xb := ⟨_, rfl⟩
          rw [hxbe] at hxb hne hxs
          go_upto_if 68 with fail
          change Code.wp _ _ _ _ (wr.alloc (.cells (bys [x0, x1, x2, x3]).toArray tA4))
          generalize wr.alloc (.cells (bys [x0, x1, x2, x3]).toArray tA4) = w1 at *
          go_cut [8] (fun s8 wx => ∃ z st', z.length = 4 ∧ s8 = B st' ∧ exZ m i st [x0, x1, x2, x3] = (z, st') ∧ Blk wx xb (bys z) tA4 ∧ KS w wx T (.slice (some ⟨g, 0, none⟩) i cap') i W)
          case first =>
            by_cases hA : e = 0
            · have b1 : ((e : Int) == 0) = true := by rw [hA]; rfl
              have HA := hid hA
              clear hA
              have d0 := hxb.cell 0
              have d1 := hxb.cell 1
              have d2 := hxb.cell 2
              have d3 := hxb.cell 3
              have g0 := hxb.frozen 0
              have g1 := hxb.frozen 1
              have g2 := hxb.frozen 2
              have g3 := hxb.frozen 3
              simp only [bys, List.map_cons, List.map_nil, List.getElem?_cons_zero, List.getElem?_cons_succ] at d0 d1 d2 d3
              have s0 := hKx.at HTl.out HTa.out x0
              have s1 := hKx.at HTl.out HTa.out x1
              have s2 := hKx.at HTl.out HTa.out x2
              have s3 := hKx.at HTl.out HTa.out x3
              have l0 := bv_lo x0
              have l1 := bv_lo x1
              have l2 := bv_lo x2
              have l3 := bv_lo x3
              have u0 := bv_hi x0
              have u1 := bv_hi x1
              have u2 := bv_hi x2
              have u3 := bv_hi x3
              go_wp2_with fail
              refine still_tail' 19 (by kernel_rfl) (by kernel_rfl) ?_
              simp only [List.take_succ_cons, List.take_zero]
              repeat (refine wpStill_step (fun K hK => ?_); go_simp; (try go_bits); refine hK _ ?_; clear hK K)
              refine wpStill_nil ?_
              go_wp2_with fail
              refine (mul_any _ st 2).mono ?_
              rintro e5 w5 ⟨rfl, rfl⟩
              rw [mul_c2]
              go_wp2_with fail
              go_meet
              have hfin := ((((hxb.set 0 (.int .u8 (bv (sbox x1 ^^^ st)))).set 1 (.int .u8 (bv (sbox x2)))).set 2 (.int .u8 (bv (sbox x3)))).set 3 (.int .u8 (bv (sbox x0)))).drew
              have hcc := (((((Chg.refl w1.heap.size [xb] w1).setCell (p := ⟨xb, 0, none⟩) (.inl (by simp)) (.int .u8 (bv (sbox x1 ^^^ st)))).setCell (p := ⟨xb, 1, none⟩) (.inl (by simp)) (.int .u8 (bv (sbox x2)))).setCell (p := ⟨xb, 2, none⟩) (.inl (by simp)) (.int .u8 (bv (sbox x3)))).setCell (p := ⟨xb, 3, none⟩) (.inl (by simp)) (.int .u8 (bv (sbox x0)))).drew
              refine ⟨[sbox x1 ^^^ st, sbox x2, sbox x3, sbox x0], dbl st, rfl, rfl, by unfold exZ; rw [if_pos (by rw [He.out]; exact HA.out)], ?_, hKx.set hxs hne hcc⟩
              simpa [bys] using hfin
            · have b1 : ((e : Int) == 0) = false := by rw [beq_eq_false_iff_ne]; omega
              by_cases hC : m = 8
              · have b2 : ((m : Int) == 8) = true := by rw [hC]; rfl
                have HC := hid hC
                clear hC
                by_cases hC4 : e = 4
                · have b3 : ((e : Int) == 4) = true := by rw [hC4]; rfl
                  have HC4 := hid hC4
                  clear hC4
                  have d0 := hxb.cell 0
                  have d1 := hxb.cell 1
                  have d2 := hxb.cell 2
                  have d3 := hxb.cell 3
                  have g0 := hxb.frozen 0
                  have g1 := hxb.frozen 1
                  have g2 := hxb.frozen 2
                  have g3 := hxb.frozen 3
                  simp only [bys, List.map_cons, List.map_nil, List.getElem?_cons_zero, List.getElem?_cons_succ] at d0 d1 d2 d3
                  have s0 := hKx.at HTl.out HTa.out x0
                  have s1 := hKx.at HTl.out HTa.out x1
                  have s2 := hKx.at HTl.out HTa.out x2
                  have s3 := hKx.at HTl.out HTa.out x3
                  have l0 := bv_lo x0
                  have l1 := bv_lo x1
                  have l2 := bv_lo x2
                  have l3 := bv_lo x3
                  have u0 := bv_hi x0
                  have u1 := bv_hi x1
                  have u2 := bv_hi x2
                  have u3 := bv_hi x3
                  go_wp2_with fail
                  refine still_tail' 17 (by kernel_rfl) (by kernel_rfl) ?_
                  simp only [List.take_succ_cons, List.take_zero]
                  repeat (refine wpStill_step (fun K hK => ?_); go_simp; (try go_bits); refine hK _ ?_; clear hK K)
                  refine wpStill_nil ?_
                  go_wp2_with fail
                  go_meet
                  have hfin := ((((hxb.set 0 (.int .u8 (bv (sbox x0)))).set 1 (.int .u8 (bv (sbox x1)))).set 2 (.int .u8 (bv (sbox x2)))).set 3 (.int .u8 (bv (sbox x3)))).drew
                  have hcc := (((((Chg.refl w1.heap.size [xb] w1).setCell (p := ⟨xb, 0, none⟩) (.inl (by simp)) (.int .u8 (bv (sbox x0)))).setCell (p := ⟨xb, 1, none⟩) (.inl (by simp)) (.int .u8 (bv (sbox x1)))).setCell (p := ⟨xb, 2, none⟩) (.inl (by simp)) (.int .u8 (bv (sbox x2)))).setCell (p := ⟨xb, 3, none⟩) (.inl (by simp)) (.int .u8 (bv (sbox x3)))).drew
                  refine ⟨[sbox x0, sbox x1, sbox x2, sbox x3], st, rfl, rfl, by unfold exZ; rw [if_neg (by rw [He.out]; exact hA), if_pos (by rw [He.out, HC.out, HC4.out]; omega)]; rfl, ?_, hKx.set hxs hne hcc⟩
                  simpa [bys] using hfin
                · have b3 : ((e : Int) == 4) = false := by rw [beq_eq_false_iff_ne]; omega
                  go_wp2_with fail
                  go_meet
                  exact ⟨[x0, x1, x2, x3], st, rfl, rfl, by unfold exZ; rw [if_neg (by rw [He.out]; exact hA), if_neg (by rw [He.out]; omega)], hxb, hKx⟩
              · have b2 : ((m : Int) == 8) = false := by rw [beq_eq_false_iff_ne]; omega
                have HM4 := hid (show m = 4 by have := Hm.out; omega)
                go_wp2_with fail
                go_meet
                exact ⟨[x0, x1, x2, x3], st, rfl, rfl, by unfold exZ; rw [if_neg (by rw [He.out]; exact hA), if_neg (by rw [HM4.out]; omega)], hxb, hKx⟩
          case rest =>
            obtain ⟨z, st', hz4, rfl, hz, hzb, hKc⟩ := hcut
            obtain ⟨z0, z1, z2, z3, rfl⟩ := len4' hz4
            obtain ⟨rest2, hWc⟩ := hKc.words (by omega)
            have hX := HX.out
            rw [hz] at hX
            have HX := hid hX
            have k0 := hWc.cellAt (bys_get_pre2 W rest2 (q * 4) (by have := HXl.out; omega))
            have k1 := hWc.cellAt (bys_get_pre2 W rest2 (q * 4 + 1) (by have := HXl.out; omega))
            have k2 := hWc.cellAt (bys_get_pre2 W rest2 (q * 4 + 2) (by have := HXl.out; omega))
            have k3 := hWc.cellAt (bys_get_pre2 W rest2 (q * 4 + 3) (by have := HXl.out; omega))
            rw [show q * 4 = 4 * q by omega] at k0 k1 k2 k3
            rw [f0] at k0; rw [f1] at k1; rw [f2] at k2; rw [f3] at k3
            rw [show 4 * q = q * 4 by omega] at k0 k1 k2 k3
            have hyb := Blk.new wc (bys [y0, y1, y2, y3]) tA4
            have hKy := hKc.alloc (.cells (bys [y0, y1, y2, y3]).toArray tA4)
            have hzy := hzb.alloc (.cells (bys [y0, y1, y2, y3]).toArray tA4)
            have hszc := hKc.hB.size
            obtain ⟨yb, hyb1⟩ : ∃ yb, wc.heap.size = yb := ⟨_, rfl⟩
            rw [hyb1] at hyb
            have hsy : (wc.alloc (.cells (bys [y0, y1, y2, y3]).toArray tA4)).heap.size = yb + 1 := by simp [hyb1]
            clear f0 f1 f2 f3 hy hX hz hz4 hxb hKx hxbe hWc hKc hzb
            go_upto_region 18 with fail
            change Code.wp _ _ _ _ (wc.alloc (.cells (bys [y0, y1, y2, y3]).toArray tA4))
            generalize wc.alloc (.cells (bys [y0, y1, y2, y3]).toArray tA4) = w2 at *
            have d0 := hzy.cell 0
            have d1 := hzy.cell 1
            have d2 := hzy.cell 2
            have d3 := hzy.cell 3
            have g0 := hyb.cell 0
            have g1 := hyb.cell 1
            have g2 := hyb.cell 2
            have g3 := hyb.cell 3
            simp only [bys, List.map_cons, List.map_nil, List.getElem?_cons_zero, List.getElem?_cons_succ] at d0 d1 d2 d3 g0 g1 g2 g3
            clear k0 k1 k2 k3 c0 c1 c2 c3
            have hnew := Blk.new w2 (bys [z0 ^^^ y0, z1 ^^^ y1, z2 ^^^ y2, z3 ^^^ y3]) tA4
            have hKA := hKy.alloc (.cells (bys [z0 ^^^ y0, z1 ^^^ y1, z2 ^^^ y2, z3 ^^^ y3]).toArray tA4)
            have hnr := hid hsy
            clear hzy hyb hyb1 hsy
            go_wp2_with (refine wpList_append_own _ rfl (.tmp 121) (.tmp 143) 107 rfl w.heap.size 108 i0 _ 4 4 under86 Hi0.out Hz0.out Hs0.out Hb0.out rfl (by decide) _ i _ rfl hKA.own ⟨w2.heap.size, 0, none⟩ 1 1 (bys [z0 ^^^ y0, z1 ^^^ y1, z2 ^^^ y2, z3 ^^^ y3]) rfl rfl (fun a u hu => by rw [Addr.add_mid]; exact hnew.whole a u hu) (bys_one _) (by unfold maxLen; omega) (by omega) (by have := hKA.hB.size; simpa using this) ?_; intro v' w5 hown5 hgrow5 _)
            have hK5 : KS w w5 T v' (i + 1) (exTo m key (q + 1)).1 := KS.more hKA (by rw [HX.out]; simpa [bys] using hown5) hgrow5
            go_roundw
            case rel => exact ⟨q + 1, i + 1, by have := Hqi.out; omega, by omega, by go_num, by rw [HX.out], hK5⟩
            case measure => simp [intOf]; omega
        · obtain rfl : i = N := by omega
          have hqe : q = 28 + 3 * m := by omega
          rw [show (exTo m key q).1 = rkOf m key by rw [hqe]; rfl] at hK hXl
          generalize hRKe : rkOf m key = RK at *
          have HRK := hid hRKe
          clear hRKe
          obtain ⟨g, capW, rest, rfl, hgb, hic, hWb⟩ := own4 hK.own (by omega)
          obtain ⟨i1, hi1, hz1, hs1, hb1⟩ := info_parts info54
          have Hi1 := hid hi1
          have Hz1 := hid hz1
          have Hs1 := hid hs1
          have Hb1 := hid hb1
          have HiN4 := hid (show i = 4 * (m + 7) by omega)
          have hii : ¬ ((i : Int) < (i : Int)) := by omega
          clear hi1 hz1 hs1 hb1 hqi hqe hWb hN hlt hiN rest hic
          go_wp2_with fail
          go_loopw [12, 13, 14, 15, 16] (fun v2 j _ _ _ wr => ∃ q j' : Nat, q ≤ m + 7 ∧ 4 * q = j' ∧ j = .int .i64 j' ∧ KS w wr T (.slice (some ⟨g, 0, none⟩) i capW) i RK ∧ wr.ownsRow w.heap.size tA16 16 v2 q (bys (RK.take (16 * q)))) (fun _ j _ _ _ _ => 100 - (intOf j).toNat)
          case atStart => exact ⟨0, 0, by omega, rfl, rfl, hK, by simpa [bys] using World.ownsRow_nil wr w.heap.size tA16 16⟩
          case round =>
            clear hK
            obtain ⟨q, j, hq, hqj, rfl, hK, hO⟩ := hrel
            by_cases hlt : q < m + 7
            · have hji : j < i := by have := HiN4.out; omega
              have hdm : decide ((j : Int) < (i : Int)) = true := decide_eq_true (by omega)
              have hRl : 16 * q + 16 ≤ RK.length := by have := HiN4.out; omega
              have hgl := (hK.own.lt g rfl).2
              have hOl := hO.lt
              obtain ⟨kb, hkb⟩ : ∃ kb, wr.heap.size = kb := ⟨_, rfl⟩
              have hS0 := Blk.new wr (bys z16) tA16
              have hK0 := hK.alloc (.cells (bys z16).toArray tA16)
              have hO0 := hO.alloc (.cells (bys z16).toArray tA16)
              have hkw := hK.lt
              rw [hkb] at hS0 hOl hgl hkw
              have hv2 : some kb ≠ u12.ownBlock := fun e => by have := (hOl kb e.symm).2; omega
              have hvg : some kb ≠ (Value.slice (some ⟨g, 0, none⟩) i capW).ownBlock := by simp [Value.ownBlock]; omega
              have Hqj := hid hqj
              clear hK hO hOl
              go_wp2_with fail
              go_loopw [15, 16] (fun c' _ wr => ∃ c : Nat, c ≤ 4 ∧ c' = .int .i64 c ∧ KS w wr T (.slice (some ⟨g, 0, none⟩) i capW) i RK ∧ wr.ownsRow w.heap.size tA16 16 u12 q (bys (RK.take (16 * q))) ∧ Blk wr kb (bys (cpN RK q (4 * c))) tA16) (fun c _ _ => 4 - (intOf c).toNat)
              case atStart => exact ⟨0, by omega, rfl, hK0, hO0, by rw [show cpN RK q (4 * 0) = z16 by simp [cpN, z16]]; exact hS0⟩
              case round =>
                clear hK0 hO0 hS0
                obtain ⟨c, hc, rfl, hK, hO, hS⟩ := hrel
                by_cases hcl : c < 4
                · have hdc : decide ((c : Int) < 4) = true := decide_eq_true (by omega)
                  go_wp2_with fail
                  go_loopw [16] (fun d' wr => ∃ d : Nat, d ≤ 4 ∧ d' = .int .i64 d ∧ KS w wr T (.slice (some ⟨g, 0, none⟩) i capW) i RK ∧ wr.ownsRow w.heap.size tA16 16 u12 q (bys (RK.take (16 * q))) ∧ Blk wr kb (bys (cpN RK q (4 * c + d))) tA16) (fun d _ => 4 - (intOf d).toNat)
                  case atStart => exact ⟨0, by omega, rfl, hK, hO, hS⟩
                  case round =>
                    clear hK hO hS
                    obtain ⟨d, hd, rfl, hK, hO, hS⟩ := hrel
                    by_cases hdl : d < 4
                    · obtain ⟨n', hn'⟩ : ∃ n', 4 * c + d = n' := ⟨_, rfl⟩
                      obtain ⟨a', ha'⟩ : ∃ a', j + c = a' := ⟨_, rfl⟩
                      have q1 : 4 * (c : Int) + (d : Int) = (n' : Int) := by omega
                      have q2 : (j : Int) + (c : Int) = (a' : Int) := by omega
                      have q3 : a' < i := by have := HiN4.out; omega
                      have q4 : n' < 16 := by omega
                      have q5 : (n' : Int) < 16 := by omega
                      obtain ⟨rest3, hWb⟩ := hK.words (by omega)
                      have hcw := hWb.cellAt (bys_get_pre2 RK rest3 (a' * 4 + d) (by omega))
                      rw [show a' * 4 + d = 16 * q + n' by omega] at hcw
                      have hss := hid (cpN_succ (R := RK) (q := q) (n := n') hRl q4)
                      rw [hn'] at hS
                      have hcs := hS.cellAt (bys_get _ n' (by rw [cpN_len hRl (by omega)]; exact q4))
                      have hfs := hS.frozen n'
                      have HS := hid hS
                      have Hn' := hid hn'
                      generalize RK.getD (16 * q + n') 0 = y at *
                      rw [show 16 * q + n' = a' * 4 + d by omega] at hcw
                      clear hS hn' hWb
                      have HK := hid hK
                      have HO := hid hO
                      clear hK hO ha'
                      go_wp2_with fail
                      go_roundw
                      case rel =>
                        have hfin := HS.out.set n' (.int .u8 (bv y))
                        rw [bys_set, hss.out] at hfin
                        have hcc := (Chg.refl wr.heap.size [kb] wr).setCell (p := ⟨kb, n', none⟩) (.inl (by simp)) (.int .u8 (bv y))
                        exact ⟨d + 1, by omega, by go_num, HK.out.set (by omega) hvg hcc, own_setCell HO.out hv2 _, by rw [show 4 * c + (d + 1) = n' + 1 by have := Hn'.out; omega]; exact hfin⟩
                      case measure => simp [intOf]; omega
                    · obtain rfl : d = 4 := by omega
                      go_wp2_with fail
                      go_roundw
                      case rel => exact ⟨c + 1, by omega, by go_num, hK, hO, by rw [show 4 * (c + 1) = 4 * c + 4 by omega]; exact hS⟩
                      case measure => simp [intOf]; omega
                · obtain rfl : c = 4 := by omega
                  have e16 : cpN RK q (4 * 4) = (RK.drop (16 * q)).take 16 := by simp [cpN]
                  rw [e16] at hS
                  have hk16 : ((RK.drop (16 * q)).take 16).length = 16 := by simp; omega
                  have htk : RK.take (16 * (q + 1)) = RK.take (16 * q) ++ (RK.drop (16 * q)).take 16 := by rw [show 16 * (q + 1) = 16 * q + 16 by omega, List.take_add]
                  generalize (RK.drop (16 * q)).take 16 = X at *
                  have hnew := Blk.new wr (bys X) tA16
                  have hKA := hK.alloc (.cells (bys X).toArray tA16)
                  have hOA := hO.alloc (.cells (bys X).toArray tA16)
                  obtain ⟨a0, a1, a2, a3, a4, a5, a6, a7, a8, a9, a10, a11, a12, a13, a14, a15, rfl⟩ := len16 hk16
                  have c0 := hS.cell 0
                  have c1 := hS.cell 1
                  have c2 := hS.cell 2
                  have c3 := hS.cell 3
                  have c4 := hS.cell 4
                  have c5 := hS.cell 5
                  have c6 := hS.cell 6
                  have c7 := hS.cell 7
                  have c8 := hS.cell 8
                  have c9 := hS.cell 9
                  have c10 := hS.cell 10
                  have c11 := hS.cell 11
                  have c12 := hS.cell 12
                  have c13 := hS.cell 13
                  have c14 := hS.cell 14
                  have c15 := hS.cell 15
                  simp only [bys, List.map_cons, List.map_nil, List.getElem?_cons_zero, List.getElem?_cons_succ] at c0 c1 c2 c3 c4 c5 c6 c7 c8 c9 c10 c11 c12 c13 c14 c15
                  go_wp2_with (refine wpList_append_own _ rfl (.tmp 172) (.tmp 174) 65 rfl w.heap.size 36 i1 _ 16 16 under62 Hi1.out Hz1.out Hs1.out Hb1.out rfl (by decide) _ q _ rfl hOA ⟨wr.heap.size, 0, none⟩ 1 1 (bys [a0, a1, a2, a3, a4, a5, a6, a7, a8, a9, a10, a11, a12, a13, a14, a15]) rfl rfl (fun a u hu => by rw [Addr.add_mid]; exact hnew.whole a u hu) (bys_one _) (by unfold maxLen; omega) (by omega) (by have := hKA.hB.size; simpa using this) ?_; intro v' w5 hown5 hgrow5 _)
                  go_roundw
                  case rel => exact ⟨q + 1, j + 4, by omega, by omega, by go_num, hKA.other hOA hgrow5, by rw [htk]; simpa [bys] using hown5⟩
                  case measure => simp [intOf]; omega
            · obtain rfl : q = m + 7 := by omega
              have hdm : decide ((j : Int) < (i : Int)) = false := decide_eq_false (by have := HiN4.out; omega)
              rw [List.take_of_length_le (by have := HiN4.out; omega)] at hO
              go_wp2_with fail
              go_ret
              obtain ⟨g2, cap2, rest2, rfl, hb2⟩ := own16 hO (by omega)
              exact ⟨g2, cap2, rest2, rfl, by rw [HRK.out]; exact hb2, hK.hB⟩
end Go.Proofs.Ytgellbapbphnlaa
