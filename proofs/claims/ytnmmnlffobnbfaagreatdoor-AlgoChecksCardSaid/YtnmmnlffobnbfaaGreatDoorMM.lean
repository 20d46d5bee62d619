/- Aes7 · Op4 (joined by merge4.py) -/
import Derived.Test.YtnmmnlffobnbfaaGreatDoorMC
import Derived.Test.YtnmmnlffobnbfaaGreatDoorML
/- aes: a block, deciphered -/
namespace Go.Proofs.YtnmmnlffobnbfaaGreatDoor
open Go.RowKit

theorem index16 (l : List UInt8) (hl : l.length = 16) (k : Nat) (hk : k < 16) (w : World) : (Instr.index 100 (.agg (bys l).toArray) (.int .i64 k)).run Tryz.prog w = .ok (.int .u8 (bv (l.getD k 0))) w := by
  have h := bys_get l k (by omega)
  simp [Instr.index, run_underlying under54, asIntOf, go_sem, hk]
  rw [h]; simp

def invTo (k : Nat) (l : List UInt8) : List UInt8 := (l.take k).map sinv ++ l.drop k
theorem invTo_len (k : Nat) (l : List UInt8) : (invTo k l).length = l.length := by simp [invTo]; omega
theorem invTo_succ (k : Nat) (l : List UInt8) (h : k < l.length) : (invTo k l).set k (sinv (l.getD k 0)) = invTo (k + 1) l := by
  unfold invTo
  rw [app_set 0 _ _ l k (by simp; omega) h, take_succ_getD 0 l k h, List.map_append]; rfl

def decStep (rk : List UInt8) (R d : Nat) (x : List UInt8) : List UInt8 :=
  (hs16 (if 0 < d then mixTo 3 4 (addK rk (R - d) x) else addK rk (R - d) x)).map sinv
def decTo (rk : List UInt8) (R : Nat) (s : List UInt8) : Nat → List UInt8
  | 0 => s
  | d + 1 => decStep rk R d (decTo rk R s d)
def dec (rk s : List UInt8) : List UInt8 := addK rk 0 (decTo rk (roundsOf rk) s (roundsOf rk))
theorem decTo_len (rk : List UInt8) (R : Nat) (s : List UInt8) (d : Nat) (h : 16 * R + 16 ≤ rk.length) (hs : s.length = 16) : (decTo rk R s d).length = 16 := by
  induction d with
  | zero => exact hs
  | succ d ih =>
    have ha := addK_len rk (R - d) _ (by omega) ih
    unfold decTo decStep
    rw [List.length_map]
    refine hs16_len ?_
    split
    · exact mixTo_len _ _ _ (by omega) ha
    · exact ha

set_option maxRecDepth 100000 in
set_option maxHeartbeats 4000000 in
theorem dec_any (w : World) (kb : Nat) (rk s : List UInt8) (hk : KeysAt w kb rk) (hs : s.length = 16) :
    Calls Tryz.prog 129 #[.pointer (some ⟨kb, 0, none⟩), .agg (bys s).toArray] w fun e w' => e = .returned (.agg (bys (dec rk s)).toArray) ∧ Below w.heap.size w w' := by
  obtain ⟨tb, wb, n, cap, ex, hk, ht, hw, hrk, hn⟩ := hk
  have hR : roundsOf rk = n / 4 - 1 := by unfold roundsOf; omega
  have hkl := hk.lt
  have htl := ht.lt
  have hwl := hw.lt
  have Hs := hid hs; clear hs
  have Hrk := hid hrk; clear hrk
  have Hn := hid hn; clear hn
  have HR := hid hR; clear hR
  go_enter Tryz.func129, Tryz.ntmps129
  go_wp2_with fail
  refine (rounds_some _ kb tb n cap _ ((hk.alloc _).alloc _) (by have := Hn.out; omega) (by have := Hn.out; omega)).mono ?_
  rintro e w1 ⟨rfl, rfl⟩
  have hRn : ((n / 4 - 1 : Nat) : Int) = (roundsOf rk : Int) := by rw [HR.out]
  rw [hRn]
  clear hRn
  have hR0 : ((roundsOf rk : Int) == 0) = false := by rw [beq_eq_false_iff_ne]; have := HR.out; have := Hn.out; omega
  have hR1 : 1 ≤ roundsOf rk := by have := HR.out; have := Hn.out; omega
  have hR2 : roundsOf rk ≤ 14 := by have := HR.out; have := Hn.out; omega
  have hN : Blk ((w.alloc (.cells (bys s).toArray tA16)).alloc (.cells (bys z16).toArray tA16)) w.heap.size (bys s) tA16 := (Blk.new w (bys s) tA16).alloc _
  have hM : Blk ((w.alloc (.cells (bys s).toArray tA16)).alloc (.cells (bys z16).toArray tA16)) (w.heap.size + 1) (bys z16) tA16 := by
    have := Blk.new (w.alloc (.cells (bys s).toArray tA16)) (bys z16) tA16
    simpa using this
  have hB : Below w.heap.size w ((w.alloc (.cells (bys s).toArray tA16)).alloc (.cells (bys z16).toArray tA16)) := ((Below.refl _ _).alloc (Nat.le_refl _) _).alloc (by simp) _
  go_wp2_with fail
  change Code.wp _ _ _ _ ((w.alloc (.cells (bys s).toArray tA16)).alloc (.cells (bys z16).toArray tA16))
  generalize ((w.alloc (.cells (bys s).toArray tA16)).alloc (.cells (bys z16).toArray tA16)) = w2 at *
  go_loopw [6] (fun i wr => ∃ d : Nat, d ≤ roundsOf rk ∧ i = .int .i64 ((roundsOf rk : Int) - d) ∧ Blk wr w.heap.size (bys (decTo rk (roundsOf rk) s d)) tA16 ∧ Blk wr (w.heap.size + 1) (bys z16) tA16 ∧ Below w.heap.size w wr) (fun i _ => (intOf i).toNat)
  case atStart => exact ⟨0, by omega, by simp, hN, hM, hB⟩
  case round =>
    obtain ⟨d, hd, rfl, hN3, hM3, hB3⟩ := hrel
    clear hN hM hB
    have hl := decTo_len rk (roundsOf rk) s d (by have := Hrk.out; have := Hn.out; have := HR.out; omega) Hs.out
    have HX : Hid (decTo rk (roundsOf rk) s (d + 1) = decStep rk (roundsOf rk) d (decTo rk (roundsOf rk) s d)) := hid rfl
    by_cases hlt : d < roundsOf rk
    · generalize decTo rk (roundsOf rk) s d = x at hN3 hl HX
      have Hl := hid hl; clear hl
      obtain ⟨r, hr⟩ : ∃ r, r = roundsOf rk - d := ⟨_, rfl⟩
      have hri : (roundsOf rk : Int) - d = (r : Int) := by omega
      rw [hri]
      have hr1 : 1 ≤ r := by omega
      have hrR : r ≤ roundsOf rk := by omega
      have Hr := hid hr
      have Hri := hid hri
      clear hr hri
      go_wp2_with fail
      refine (add_any wr kb tb wb w.heap.size n cap r _ rk ex tA16 (hk.below hB3 hkl) (hw.below hB3 hwl) hN3 Hl.out (by have := Hrk.out; have := Hn.out; have := HR.out; simp; omega) (by have := Hn.out; have := HR.out; omega) (by omega) (by omega) (by have := Hn.out; omega)).mono ?_
      rintro e w4 ⟨rfl, hN4, hc4⟩
      rw [addTo_ext _ rk r (by have := Hrk.out; have := Hn.out; have := HR.out; omega) Hl.out] at hN4
      have hM4 := hM3.chg hc4 hM3.lt (by simp)
      have hB4 := hB3.trans (hc4.below (M := w.heap.size) hB3.size (by simp))
      have ha := addK_len rk r x (by have := Hrk.out; have := Hn.out; have := HR.out; omega) Hl.out
      have Ha := hid ha
      clear hN3 hM3 hB3 hc4 ha
      by_cases hm : r < roundsOf rk
      focus (
        go_wp2_with fail
        refine (mix_any w4 w.heap.size 3 _ tA16 hN4 Ha.out (by omega)).mono ?_
        rintro e w5 ⟨rfl, hN5, hc5⟩
        have hM5 := hM4.chg hc5 hM4.lt (by simp)
        have hB5 := hB4.trans (hc5.below (M := w.heap.size) hB4.size (by simp))
        have hx1 : decTo rk (roundsOf rk) s (d + 1) = (hs16 (mixTo 3 4 (addK rk r x))).map sinv := by
          rw [HX.out]; unfold decStep; rw [← Hr.out, if_pos (by have := Hr.out; omega)]
        have hl1 : (mixTo 3 4 (addK rk r x)).length = 16 := mixTo_len _ _ _ (by omega) Ha.out
        clear hN4 hM4 hB4 hc5 HX Ha
        have HX := hid hx1
        have Hl1 := hid hl1
        clear hx1 hl1
        generalize mixTo 3 4 (addK rk r x) = y at hN5 HX Hl1)
      rotate_left
      focus (
        have hx1 : decTo rk (roundsOf rk) s (d + 1) = (hs16 (addK rk r x)).map sinv := by
          rw [HX.out]; unfold decStep; rw [← Hr.out, if_neg (by have := Hr.out; omega)]
        clear HX
        have HX := hid hx1
        clear hx1
        have Hl1 := Ha
        clear Ha
        have hN5 := hN4
        have hM5 := hM4
        have hB5 := hB4
        clear hN4 hM4 hB4
        generalize addK rk r x = y at hN5 HX Hl1
        generalize w4 = w5 at *)
      all_goals
        go_wp2_with (refine wpList_load_mid rfl 100 (.tmp 3) rfl w.heap.size 0 rfl (bys y) _ hN5.whole under54 rfl (by rw [size54, bys_length, Hl1.out]) ?_)
        refine (shiftb_any y Hl1.out w5).mono ?_
        rintro e w6 ⟨rfl, hB6⟩
        have hN6 := hN5.below hB6 hN5.lt
        have hM6 := hM5.below hB6 hM5.lt
        have hB7 := hB5.trans (hB6.mono hB5.size)
        have hsl := hs16_len Hl1.out
        clear hN5 hM5 hB5 hB6
        go_wp2_with (first | (refine wpList_store_mid rfl 100 (.tmp 3) (.tmp 27) rfl w.heap.size 0 (bys (hs16 y)).toArray rfl rfl (hN6.there 0 _ (by rw [List.size_toArray, bys_length, bys_length, hsl, Hl1.out]; omega)) (by rw [size54, List.size_toArray, bys_length, hsl]) (all_oneCell_toArray (bys_one _)) ?_; have hN7 := hN6.setCells (bys (hs16 y)) 0 (by rw [bys_length, bys_length, hsl, Hl1.out]; omega); rw [splice_whole _ _ (by rw [bys_length, bys_length, hsl, Hl1.out])] at hN7; have hc7 := (Chg.refl w6.heap.size [w.heap.size] w6).setCells (b := w.heap.size) (.inl (by simp)) (bys (hs16 y)) 0; have hM7 := hM6.chg hc7 hM6.lt (by simp); have hB8 := hB7.trans (hc7.below (M := w.heap.size) hB7.size (by simp)); clear hN6 hM6 hB7 hc7; generalize w6.setCells w.heap.size 0 (bys (hs16 y)) = w7 at *) | (refine wpList_load_mid rfl 100 (.tmp 3) rfl w.heap.size 0 rfl (bys (hs16 y)) _ hN7.whole under54 rfl (by rw [size54, bys_length, hsl]) ?_))
        have hzl : (hs16 y).length = 16 := hsl
        generalize hs16 y = Z at *
        have HZ := hid hzl
        clear hsl hzl
        go_loopw [29] (fun i w8 => ∃ k : Nat, k ≤ 16 ∧ i = .int .i64 k ∧ Blk w8 w.heap.size (bys (invTo k Z)) tA16 ∧ Blk w8 (w.heap.size + 1) (bys z16) tA16 ∧ Below w.heap.size w w8) (fun i _ => 16 - (intOf i).toNat)
        case atStart => exact ⟨0, by omega, rfl, by simpa [invTo] using hN7, hM7, hB8⟩
        case round =>
          obtain ⟨k, hk16, rfl, hN9, hM9, hB9⟩ := hrel
          clear hN7 hM7 hB8
          by_cases hk2 : k < 16
          · have hlen := (invTo_len k Z).trans HZ.out
            have hc := hN9.cellAt (bys_get _ k (by omega))
            have hf := hN9.frozen k
            have hs2 := invTo_succ k Z (by rw [HZ.out]; exact hk2)
            have hidx := index16 Z HZ.out k hk2
            have Hs2 := hid hs2; clear hs2 hlen
            generalize Z.getD k 0 = x at hidx Hs2
            have hk1 := (hk.below hB9 hkl).cell 0
            have ht1 := (ht.below hB9 htl).cellAt (bys_get _ (256 + (bv x).toNat) (by rw [TAB_len]; have := bv_hi x; have := bv_lo x; omega))
            have x0 := bv_lo x
            have x1 := bv_hi x
            simp only [List.getElem?_cons_zero] at hk1
            have hsx : TAB.getD (256 + (bv x).toNat) 0 = sinv x := by unfold sinv; rw [bv_toNat]
            rw [hsx] at ht1
            clear hsx
            go_wp2_with fail
            go_roundw
            case rel =>
              refine ⟨k + 1, by omega, by go_num, ?_, hM9.setNe (by simp) _, hB9.setCell (Nat.le_refl _) _⟩
              rw [← Hs2.out, ← bys_set]; exact hN9.set _ _
            case measure => simp [intOf]; omega
          · have e : invTo k Z = Z.map sinv := by
              have := HZ.out
              obtain rfl : k = Z.length := by omega
              simp [invTo]
            rw [e, ← HX.out] at hN9
            clear e
            go_wp2_with fail
            go_roundw
            case rel => exact ⟨d + 1, by omega, by have := Hr.out; go_num, hN9, hM9, hB9⟩
            case measure => simp [intOf]; omega
    · have hre : d = roundsOf rk := by omega
      rw [hre] at hN3 hl
      have Hl := hid hl
      have Hre := hid hre
      have hri : (roundsOf rk : Int) - d = 0 := by omega
      rw [hri]
      clear hl hre HX hri
      go_wp2_with fail
      refine (add_any wr kb tb wb w.heap.size n cap 0 _ rk ex tA16 (hk.below hB3 hkl) (hw.below hB3 hwl) hN3 Hl.out (by have := Hrk.out; have := Hn.out; simp; omega) (by have := Hn.out; omega) (by omega) (by omega) (by have := Hn.out; omega)).mono ?_
      rintro e w4 ⟨rfl, hN4, hc4⟩
      rw [addTo_ext _ rk 0 (by have := Hrk.out; have := Hn.out; omega) Hl.out] at hN4
      have hM4 := hM3.chg hc4 hM3.lt (by simp)
      have hB4 := hB3.trans (hc4.below (M := w.heap.size) hB3.size (by simp))
      have hdl : (dec rk s).length = 16 := addK_len rk 0 _ (by have := Hrk.out; have := Hn.out; omega) Hl.out
      change Blk w4 w.heap.size (bys (dec rk s)) tA16 at hN4
      have Hdl := hid hdl
      clear hN3 hM3 hB3 hc4 hdl
      go_wp2_with (first | (refine wpList_load_mid rfl 100 (.tmp 3) rfl w.heap.size 0 rfl (bys (dec rk s)) _ hN4.whole under54 rfl (by rw [size54, bys_length, Hdl.out]) ?_) | (refine wpList_store_mid rfl 100 (.tmp 4) (.tmp 47) rfl (w.heap.size + 1) 0 (bys (dec rk s)).toArray rfl rfl (hM4.there 0 _ (by rw [List.size_toArray, bys_length, bys_length, Hdl.out]; decide)) (by rw [size54, List.size_toArray, bys_length, Hdl.out]) (all_oneCell_toArray (bys_one _)) ?_))
      have hMs := hM4.setCells (bys (dec rk s)) 0 (by rw [bys_length, bys_length, Hdl.out]; decide)
      rw [splice_whole _ _ (by rw [bys_length, bys_length, Hdl.out]; decide)] at hMs
      refine bodyPost_ret (v := .agg (bys (dec rk s)).toArray) (results_cell_row (P := Tryz.prog) (p := 4) (ty := 100) rfl _ _ (w.heap.size + 1) tA16 _ (0, 0) _ rfl hMs under54 rfl (by rw [size54, List.size_toArray, bys_length, Hdl.out])) rfl ⟨rfl, ?_⟩
      exact hB4.trans (((Chg.refl (w.heap.size) [] w4).setCells (.inr (by omega)) _ _).below (Nat.le_refl _) (by simp))
#print axioms dec_any
end Go.Proofs.YtnmmnlffobnbfaaGreatDoor

/- cbc: Open -/
namespace Go.Proofs.YtnmmnlffobnbfaaGreatDoor
open Go.RowKit Go.Shelf

theorem RowAt.rangeC {w : World} {b o : Nat} {l : List UInt8} (h : RowAt w (some ⟨b, o, none⟩) l) : w.rangeAt b o (bys l) := fun j v hv => by
  have hj : j < l.length := by rw [← bys_length]; exact (List.getElem?_eq_some_iff.1 hv).1
  obtain ⟨b', o', e, _, hc⟩ := h j hj
  injection e with e; injection e with e1 e2; subst e1 e2
  rw [bys_get l j hj] at hv
  cases hv
  exact hc
theorem unpadF_le {l : List UInt8} {m : Nat} (h : unpadF l = some m) : m ≤ l.length := by
  unfold unpadF at h
  split at h
  · cases h
  · split at h
    · cases h
    · split at h
      · injection h with h; omega
      · cases h
theorem dec_l16 (rk s : List UInt8) (h : 16 * roundsOf rk + 16 ≤ rk.length) (hs : s.length = 16) : (dec rk s).length = 16 := by
  unfold dec
  have := decTo_len rk (roundsOf rk) s (roundsOf rk) h hs
  rw [addK_len _ _ _ (by omega)]; exact this
/-- A block of b. -/
def blkAt (b : List UInt8) (q : Nat) : List UInt8 := (b.drop (16 * q)).take 16
/-- A round of Open: what is out, the block ahead. -/
def stepO (D : List UInt8 → List UInt8) (b : List UInt8) (k : Nat) (s : List UInt8 × List UInt8) (x : Nat) : List UInt8 × List UInt8 :=
  (s.1 ++ List.zipWith (· ^^^ ·) (D (blkAt b (clampI k x))) s.2, blkAt b (clampI k x))
def prevO (iv b : List UInt8) : Nat → List UInt8
  | 0 => iv
  | j + 1 => blkAt b j
/-- j blocks, deciphered. -/
def openO (D : List UInt8 → List UInt8) (iv b : List UInt8) : Nat → List UInt8
  | 0 => []
  | j + 1 => openO D iv b j ++ List.zipWith (· ^^^ ·) (D (blkAt b j)) (prevO iv b j)
theorem foldl_open (D : List UInt8 → List UInt8) (iv b : List UInt8) (k : Nat) : ∀ j, j ≤ k → (List.range j).foldl (stepO D b k) ([], iv) = (openO D iv b j, prevO iv b j)
  | 0, _ => rfl
  | j + 1, h => by
    rw [List.range_succ, List.foldl_append, foldl_open D iv b k j (by omega)]
    simp only [List.foldl_cons, List.foldl_nil, stepO, clampI_lt (show j < k by omega), openO, prevO]
/-- What Open answers. -/
def openF (D : List UInt8 → List UInt8) (iv b : List UInt8) : Option (List UInt8) :=
  if b.length % 16 ≠ 0 then none else (unpadF (openO D iv b (b.length / 16))).map fun m => (openO D iv b (b.length / 16)).take m
/-- How Open's answer lies. -/
def OpenAns (w : World) (v : Value) : Option (List UInt8) → Prop
  | some l => ∃ pa c, v = .tuple #[.slice pa l.length c, .int .i64 0] ∧ RowAt w pa l
  | none => v = .tuple #[.slice none 0 0, .int .i64 16]
/-- Open's loop. -/
structure OI (N : Nat) (W0 W : World) (ob lb : Nat) (s : List UInt8 × List UInt8) (j : Nat) (v : Value) (pl : Option Addr) : Prop where
  ho : Blk W ob [v] tBytes
  hl : Blk W lb [.slice pl 16 16] tBytes
  hp : RowAt W0 pl s.2
  hpo : ∀ a, pl = some a → a.block < N ∧ a.block ≠ ob ∧ a.block ≠ lb
  hv : OwnR N W v s.1
  hc : Chg N [ob, lb] W0 W
  l1 : s.2.length = 16
  l2 : s.1.length = 16 * j
theorem OI.own {N : Nat} {W0 W W' : World} {ob lb : Nat} {s : List UInt8 × List UInt8} {j : Nat} {v : Value} {pl : Option Addr} {row : Option Nat} (h : OI N W0 W ob lb s j v pl) (hN : N ≤ W.heap.size) (hg : W.grownBy W' row)
    (hr : ∀ r, row = some r → N ≤ r ∧ ∃ o : Obj, W.heap[r]? = some o ∧ o.isCells = false) : OI N W0 W' ob lb s j v pl :=
  ⟨h.ho.kept hg (noncells_ne h.ho (fun r e => (hr r e).2)), h.hl.kept hg (noncells_ne h.hl (fun r e => (hr r e).2)), h.hp, h.hpo,
    h.hv.kept hg (by
      cases hv : v.ownBlock with
      | none => exact .inr rfl
      | some k =>
        obtain ⟨cs, hb⟩ := h.hv.typ k hv
        exact .inl (fun e => noncells_ne hb (fun r e => (hr r e).2) e.symm)),
    h.hc.grown hg hN (fun k e => .inr (hr k e).1), h.l1, h.l2⟩

attribute [local go_sem] Oper.semAt_some
set_option maxRecDepth 100000 in
set_option maxHeartbeats 4000000 in
theorem open_any (w : World) (kb : Nat) (rk iv : List UInt8) (hk : KeysAt w kb rk) (hrl : 16 * roundsOf rk + 16 ≤ rk.length) (hiv : iv.length = 16) (pb : Option Addr) (n cap : Nat) (b : List UInt8) (hb : RowAt w pb b) (hn : b.length = n) (hc : n ≤ cap) (h9 : n < 1000000) :
    Calls Tryz.prog 87 #[.pointer (some ⟨kb, 0, none⟩), .agg (bys iv).toArray, .slice pb n cap] w fun e w' => ∃ v, e = .returned v ∧ Below w.heap.size w w' ∧
      OpenAns w' v (openF (dec rk) iv b) := by
  obtain ⟨r, hr⟩ : ∃ r : Int, ((n % 16 : Nat) : Int) = r := ⟨_, rfl⟩
  have hmod : ((n : Int)).tmod 16 = r := by rw [Int.tmod_eq_emod_of_nonneg (by omega), ← hr]; omega
  have hmod' : ((n : Int)) % 16 = r := by omega
  refine (callsIn_wide (n := 5)).1 ?_
  refine callsIn_of_wp_marks Tryz.func87 rfl trivial ?_ rfl
  simp only [Tryz.ntmps87, List.size_toArray, List.length_cons, List.length_nil, Nat.reduceAdd, Nat.reduceSub, Array.replicate_succ, Array.replicate_zero, List.push_toArray, List.append_toArray, List.nil_append, List.cons_append]
  refine wpIn_wide.2 ?_
  by_cases h16 : n % 16 = 0
  · obtain rfl : r = 0 := by omega
    clear hr
    have h1 : Blk ((w.alloc (.cells #[.pointer (some ⟨kb, 0, none⟩)] 134)).alloc (.cells (bys iv).toArray tA16)) (w.heap.size + 1) (bys iv) tA16 := by
      have := Blk.new (w.alloc (.cells #[.pointer (some ⟨kb, 0, none⟩)] 134)) (bys iv) tA16
      simpa using this
    have h0 : Blk (w.alloc (.cells #[.pointer (some ⟨kb, 0, none⟩)] 134)) w.heap.size [.pointer (some ⟨kb, 0, none⟩)] 134 := Blk.new _ _ _
    have Hn := hid hn
    have Hb := hid hb
    clear hn hb
    go_wp2_with fail
    change Calls _ _ _ ((((w.alloc (.cells #[.pointer (some ⟨kb, 0, none⟩)] 134)).alloc (.cells (bys iv).toArray tA16)).alloc (.cells #[.slice none 0 0] tBytes)).alloc (.cells #[.slice (some ⟨w.heap.size + 1, 0, none⟩) 16 16] tBytes)) _
    have h2 : Blk (((w.alloc (.cells #[.pointer (some ⟨kb, 0, none⟩)] 134)).alloc (.cells (bys iv).toArray tA16)).alloc (.cells #[.slice none 0 0] tBytes)) (w.heap.size + 1 + 1) [.slice none 0 0] tBytes := by
      have := Blk.new ((w.alloc (.cells #[.pointer (some ⟨kb, 0, none⟩)] 134)).alloc (.cells (bys iv).toArray tA16)) [.slice none 0 0] tBytes
      simpa using this
    have h3 : Blk ((((w.alloc (.cells #[.pointer (some ⟨kb, 0, none⟩)] 134)).alloc (.cells (bys iv).toArray tA16)).alloc (.cells #[.slice none 0 0] tBytes)).alloc (.cells #[.slice (some ⟨w.heap.size + 1, 0, none⟩) 16 16] tBytes)) (w.heap.size + 1 + 1 + 1) [.slice (some ⟨w.heap.size + 1, 0, none⟩) 16 16] tBytes := by
      have := Blk.new (((w.alloc (.cells #[.pointer (some ⟨kb, 0, none⟩)] 134)).alloc (.cells (bys iv).toArray tA16)).alloc (.cells #[.slice none 0 0] tBytes)) [.slice (some ⟨w.heap.size + 1, 0, none⟩) 16 16] tBytes
      simpa using this
    have h2 := h2.alloc (.cells #[.slice (some ⟨w.heap.size + 1, 0, none⟩) 16 16] tBytes)
    have h1 := (h1.alloc (.cells #[.slice none 0 0] tBytes)).alloc (.cells #[.slice (some ⟨w.heap.size + 1, 0, none⟩) 16 16] tBytes)
    have h0 := ((h0.alloc (.cells (bys iv).toArray tA16)).alloc (.cells #[.slice none 0 0] tBytes)).alloc (.cells #[.slice (some ⟨w.heap.size + 1, 0, none⟩) 16 16] tBytes)
    have hB : Below w.heap.size w ((((w.alloc (.cells #[.pointer (some ⟨kb, 0, none⟩)] 134)).alloc (.cells (bys iv).toArray tA16)).alloc (.cells #[.slice none 0 0] tBytes)).alloc (.cells #[.slice (some ⟨w.heap.size + 1, 0, none⟩) 16 16] tBytes)) :=
      ((((Below.refl _ _).alloc (Nat.le_refl _) _).alloc (by simp) _).alloc (by simp; omega) _).alloc (by simp; omega) _
    generalize (((w.alloc (.cells #[.pointer (some ⟨kb, 0, none⟩)] 134)).alloc (.cells (bys iv).toArray tA16)).alloc (.cells #[.slice none 0 0] tBytes)).alloc (.cells #[.slice (some ⟨w.heap.size + 1, 0, none⟩) 16 16] tBytes) = W3 at *
    refine (chunk_any W3 pb n cap).mono ?_
    rintro e W4 ⟨rfl, h4⟩
    have hs3 := h3.lt
    have H0 := hid h0
    have H1 := hid h1
    have H2 := hid h2
    have H3 := hid h3
    have HB := hid hB
    clear h0 h1 h2 h3 hB
    go_wp2_with fail
    have hB43 : Below W3.heap.size W3 W4 := by rw [← h4]; exact ((Below.refl _ W3).alloc (Nat.le_refl _) _).alloc (by simp) _
    have hN : W3.heap.size + 2 = W4.heap.size := by rw [← h4]; simp
    obtain ⟨k, hk16⟩ : ∃ k, n = 16 * k := ⟨n / 16, by omega⟩
    have hk9 : k < 1000000 := by omega
    have hkc : 16 * k ≤ cap := by omega
    have hBs : W4.cell? ⟨W3.heap.size, 0, none⟩ = some (.slice pb (16 * k) cap) := by
      rw [← h4, ← hk16]
      exact ((Blk.new W3 [.slice pb n cap] tBytes).alloc (.cells #[.int .i64 16] tInt)).cell 0
    have hBn : W4.cell? ⟨W3.heap.size + 1, 0, none⟩ = some (.int .i64 16) := by
      rw [← h4]
      have hb5 := Blk.new (W3.alloc (.cells #[.slice pb n cap] tBytes)) [.int .i64 16] tInt
      rw [World.size_alloc] at hb5
      exact hb5.cell 0
    have f0 := H0.out.below hB43 H0.out.lt
    have f1 := H1.out.below hB43 H1.out.lt
    have f2 := H2.out.below hB43 H2.out.lt
    have f3 := H3.out.below hB43 H3.out.lt
    have hB5 := HB.out.trans (hB43.mono HB.out.size)
    have hrow := Hb.out.below hB5
    obtain ⟨bb, bo, hpb⟩ : ∃ bb bo, (0 < k → pb = some ⟨bb, bo, none⟩ ∧ bb < w.heap.size) := by
      by_cases h : 0 < k
      · obtain ⟨bb, bo, e, hl, _⟩ := Hb.out 0 (by rw [Hn.out]; omega)
        exact ⟨bb, bo, fun _ => ⟨e, hl⟩⟩
      · exact ⟨0, 0, fun h' => absurd h' h⟩
    have Hk16 := hid hk16
    clear h4 hB43 hk16
    refine (wpIn_wide (n := 5)).1 ?_
    refine wpIn_rangeFunc_ownG rfl (by omega) (gf := 171) (lb := #[.pointer (some ⟨W3.heap.size, 0, none⟩), .pointer (some ⟨W3.heap.size + 1, 0, none⟩)]) rfl trivial (enters_of Tryz.func171 (by kernel_rfl) rfl)
      (chunk_stops _ W3.heap.size (W3.heap.size + 1) W4.heap.size bb bo k cap pb (fun h => (hpb h).1) [w.heap.size + 1 + 1, w.heap.size + 1 + 1 + 1] W4 hkc hk9 (by omega) (by omega) (by simp; omega) (by simp; omega) (Nat.le_refl _) hBs hBn)
      Chg.trans (chg_keepsB (Nat.le_refl _)) (Below.refl _ _) (fun _ => rfl)
      (fun pre W => ∃ v pl, OI W4.heap.size W4 W (w.heap.size + 1 + 1) (w.heap.size + 1 + 1 + 1) (pre.foldl (stepO (dec rk) b k) ([], iv)) pre.length v pl)
      (fun _ _ _ => False) (fun pre W W' row hs hg hr => by obtain ⟨v, pl, hs⟩ := hs; exact ⟨v, pl, hs.own hs.hc.size hg hr⟩) (fun _ _ _ _ _ hs _ _ => hs)
      ⟨_, _, f2, f3, f1.rowAt0, fun a e => by cases e; exact ⟨by show w.heap.size + 1 < _; omega, by simp, by simp⟩, OwnR.nil _ _, Chg.refl _ _ _, hiv, rfl⟩
      (fun x => { tmps := #[.pointer (some ⟨kb, 0, none⟩), .agg (bys iv).toArray, .slice pb n cap, .pointer (some ⟨w.heap.size, 0, none⟩), .pointer (some ⟨w.heap.size + 1, 0, none⟩), undef, .slice none 0 0, .int .i64 0, .pointer (some ⟨w.heap.size + 1 + 1, 0, none⟩), .pointer (some ⟨w.heap.size + 1 + 1 + 1, 0, none⟩), chunkV bb bo (clampI k x), undef, undef, undef, .slice pb n cap, .int .i64 n, .int .i64 0, .bool false, .slice (some ⟨w.heap.size + 1, 0, none⟩) 16 16, .slice pb n cap, .func (.func 171) #[] #[.pointer (some ⟨W3.heap.size, 0, none⟩), .pointer (some ⟨W3.heap.size + 1, 0, none⟩)], chunkV bb bo (clampI k x), undef, undef, undef, undef, undef, undef, undef, undef, undef, undef, undef, undef, undef, undef, undef, undef, undef, undef, undef, undef, undef, undef, undef], defers := [] }) ?assign ?body ?done ?stop
    case assign =>
      intro l x W K hK
      gi_wp2
      exact hK
    case body =>
      rintro l pre x W ⟨v, pl, hSI⟩ hlen
      obtain ⟨s, hs⟩ : ∃ s, pre.foldl (stepO (dec rk) b k) ([], iv) = s := ⟨_, rfl⟩
      rw [hs] at hSI
      obtain ⟨q, hq⟩ : ∃ q, clampI k x = q := ⟨_, rfl⟩
      have hqk : q < k := by rw [← hq]; exact clampI_le x (by omega)
      have hstep : stepO (dec rk) b k s x = (s.1 ++ List.zipWith (· ^^^ ·) (dec rk (blkAt b q)) s.2, blkAt b q) := by rw [← hq]; rfl
      simp only [hq]
      obtain ⟨ck, hck⟩ : ∃ ck, blkAt b q = ck := ⟨_, rfl⟩
      rw [hck] at hstep
      have hckl : ck.length = 16 := by rw [← hck]; unfold blkAt; rw [List.length_take, List.length_drop, Hn.out]; have := Hk16.out; omega
      obtain ⟨z, hz⟩ : ∃ z, dec rk ck = z := ⟨_, rfl⟩
      rw [hz] at hstep
      obtain ⟨y, hy⟩ : ∃ y, List.zipWith (· ^^^ ·) z s.2 = y := ⟨_, rfl⟩
      rw [hy] at hstep
      have hzl : z.length = 16 := by rw [← hz]; exact dec_l16 rk ck hrl hckl
      have hyl : y.length = 16 := by rw [← hy, List.length_zipWith, hzl, hSI.l1]; rfl
      have hfin : ∀ W' v' pl', OI W4.heap.size W4 W' (w.heap.size + 1 + 1) (w.heap.size + 1 + 1 + 1) (s.1 ++ y, ck) (pre.length + 1) v' pl' → ∃ v pl, OI W4.heap.size W4 W' (w.heap.size + 1 + 1) (w.heap.size + 1 + 1 + 1) ((pre ++ [x]).foldl (stepO (dec rk) b k) ([], iv)) (pre ++ [x]).length v pl := fun W' v' pl' h => ⟨v', pl', by
        rw [List.foldl_append, List.length_append, hs]
        simp only [List.foldl_cons, List.foldl_nil, List.length_cons, List.length_nil, hstep]
        exact h⟩
      have Hfin := hid hfin
      have hBW : Below w.heap.size w W := hB5.trans (hSI.hc.below (by omega) (by simp; omega))
      have hkW := hk.below hBW
      have hrW4 : RowAt W4 (some ⟨bb, bo + 16 * q, none⟩) ck := by
        rw [← hck]
        rw [(hpb (by omega)).1] at hrow
        exact (hrow.drop (16 * q)).take 16
      have hbbw := (hpb (by omega)).2
      have hrW := hrW4.chgL hSI.hc (fun a e => by cases e; show bb < _; omega) (fun a e => by cases e; simp; omega)
      have hpW := hSI.hp.chgL hSI.hc (fun a e => (hSI.hpo a e).1) (fun a e => by have := hSI.hpo a e; simp; exact this.2)
      have g0 := f0.chg hSI.hc (by omega) (by simp; omega)
      have hszk : (Tryz.prog.info? 100).map (·.size) = some (bys ck).length := by rw [size54, bys_length, hckl]
      have hBd : Below W.heap.size W W.drew := (Below.refl _ _).drew
      have Hz := hid hz
      have Hy := hid hy
      have Hzl := hid hzl
      have Hyl := hid hyl
      have Hckl := hid hckl
      have HrW := hid hrW
      have HrW4 := hid hrW4
      have HpW := hid hpW
      have hSz := hSI.hc.size
      have HSI := hid hSI
      have hpk := hlen
      have G0 := hid g0
      have hg0 := g0.lt
      have hg1 := hSI.hl.lt
      clear hfin hq hz hy hstep hck hzl hyl hckl hrW hrW4 hpW hs hlen hrow f0 f1 f2 f3 hBs hBn hB5 hSI g0
      unfold chunkV
      gi_wp2
      try simp only [Act.put]
      refine rtkR (fun w' => Below W.heap.size W w') [8] (by kernel_rfl) (fun c a d v w h => by cases d <;> exact h) (hBd) (fun hPF hHeld => ?_)
      refine rtkA 0 (.some 22) _ _ rfl rfl (by kernel_rfl) (by kernel_rfl) (by kernel_rfl) (by kernel_rfl) (by kernel_rfl) (by kernel_rfl) hPF rfl (fun w' hw' => by (have h1 := (G0.out.below hw' G0.out.lt).cell 0; simp only [List.getElem?_cons_zero] at h1; go_simp; try with_reducible rfl)) hHeld (fun hHeld => ?_)
      simp only [Act.put, List.setIfInBounds_toArray, List.set_cons_zero, List.set_cons_succ]
      refine rtkB 1 (.some 23) _ _ rfl rfl (by kernel_rfl) (by kernel_rfl) (by kernel_rfl) (by kernel_rfl) (by kernel_rfl) hPF rfl (fun w' => by (go_simp; try with_reducible rfl)) hHeld (fun hHeld => ?_)
      simp only [Act.put, List.setIfInBounds_toArray, List.set_cons_zero, List.set_cons_succ]
      refine rtkA 2 (.some 24) _ _ rfl rfl (by kernel_rfl) (by kernel_rfl) (by kernel_rfl) (by kernel_rfl) (by kernel_rfl) (by kernel_rfl) hPF rfl (fun w' hw' => by (have h1 := arrayAt16c w' (some ⟨bb, bo + 16 * q, none⟩) 16 16 (Nat.le_refl _); go_simp; try with_reducible rfl)) hHeld (fun hHeld => ?_)
      simp only [Act.put, List.setIfInBounds_toArray, List.set_cons_zero, List.set_cons_succ]
      refine rtkL 3 (.some 25) _ rfl rfl 100 (.tmp 24) rfl bb (bo + 16 * q) (bys ck) _ (by kernel_rfl) (by kernel_rfl) (by kernel_rfl) (by kernel_rfl) (by kernel_rfl) (by kernel_rfl) hPF rfl rfl (fun w' hw' => (HrW.out.below hw').rangeC) under54 rfl hszk hHeld (fun hHeld => ?_)
      simp only [Act.put, List.setIfInBounds_toArray, List.set_cons_zero, List.set_cons_succ]
      refine rtkA 5 (.some 27) _ _ rfl rfl (by kernel_rfl) (by kernel_rfl) (by kernel_rfl) (by kernel_rfl) (by kernel_rfl) (by kernel_rfl) hPF rfl (fun w' hw' => by (have h1 := (HSI.out.hl.below hw' HSI.out.hl.lt).cell 0; simp only [List.getElem?_cons_zero] at h1; go_simp; try with_reducible rfl)) hHeld (fun hHeld => ?_)
      simp only [Act.put, List.setIfInBounds_toArray, List.set_cons_zero, List.set_cons_succ]
      have hS := hHeld (by kernel_rfl)
      refine rtkW (rs := [4, 7]) (by kernel_rfl) (by simp) (AllKr.cons (o := _) rfl (fun KC hKC => ?_) (AllKr.cons (o := _) rfl (fun KC hKC => ?_) AllKr.nil))
      ·
        go_simp
        refine ⟨trivial, CallsIn.mono (CallsIn.inRound l (callsIn_wide.2 (dec_any _ kb rk ck (hkW.below hS) Hckl.out))) ?_⟩
        rintro e w2 ⟨rfl, hB2⟩
        rw [Hz.out]
        have h4 : Below W.heap.size W w2 := hS.trans (hB2.mono hS.size)
        clear hB2
        refine hKC.out _ _ (h4) (fun hHeld => ?_)
        clear hKC KC
        try simp only [Act.put, List.setIfInBounds_toArray, List.set_cons_zero, List.set_cons_succ]
        have hS := hHeld (by kernel_rfl)
        refine rtkW (rs := [6, 7]) (by kernel_rfl) (by simp) (AllKr.cons (o := _) rfl (fun KC hKC => ?_) (AllKr.cons (o := _) rfl (fun KC hKC => ?_) AllKr.nil))
        ·
          go_simp
          refine ⟨trivial, CallsIn.mono (CallsIn.inRound l (callsIn_wide.2 (cmixed_any _ z s.2 pl 16 Hzl.out (HpW.out.below hS) HSI.out.l1))) ?_⟩
          rintro e w3 ⟨rfl, hB3⟩
          rw [Hy.out]
          have h6 : Below W.heap.size W w3 := hS.trans (hB3.mono hS.size)
          clear hB3
          refine hKC.out _ _ (h6) (fun hHeld => ?_)
          clear hKC KC
          try simp only [Act.put, List.setIfInBounds_toArray, List.set_cons_zero, List.set_cons_succ]
          have hS := hHeld (by kernel_rfl)
          refine rtkW (rs := [7]) (by kernel_rfl) (by simp) (AllKr.cons (o := _) rfl (fun KC hKC => ?_) AllKr.nil)
          go_simp
          change KC _ (World.alloc w3 (.cells (bys z16).toArray tA16))
          have hX : Blk (World.alloc w3 (.cells (bys z16).toArray tA16)) w3.heap.size (bys z16) tA16 := Blk.new _ _ _
          have h7 := hS.alloc hS.size (.cells (bys z16).toArray tA16)
          have hxW : W.heap.size ≤ w3.heap.size := hS.size
          obtain ⟨w4, hw4⟩ : ∃ w4, World.alloc w3 (.cells (bys z16).toArray tA16) = w4 := ⟨_, rfl⟩
          rw [hw4] at hX h7 ⊢
          obtain ⟨xb, hxb⟩ : ∃ xb, w3.heap.size = xb := ⟨_, rfl⟩
          rw [hxb] at hX hxW
          try rw [hxb]
          clear hw4 hxb
          refine hKC.out _ _ (h7) (fun hHeld => ?_)
          clear hKC KC
          try simp only [Act.put, List.setIfInBounds_toArray, List.set_cons_zero, List.set_cons_succ]
          refine rtkW (rs := [8]) (by kernel_rfl) (by simp) (AllKr.close (o := _) rfl (by kernel_rfl) (fun KC hKC => ?_) AllKr.nil)
          refine wpIn_storeD none rfl 100 (.tmp 11) (.tmp 28) rfl xb 0 (bys y).toArray rfl rfl (hX.there 0 _ (by rw [List.size_toArray, bys_length, bys_length, Hyl.out]; decide)) (by rw [size54, List.size_toArray, bys_length, Hyl.out]) (all_oneCell_toArray (bys_one _)) ?_
          refine hKC.out _ _ (fun hHeld => ?_)
          clear hKC KC
          try simp only [Act.put]
          refine rtkD (by kernel_rfl) ?_ _
          have hC5 : Chg W.heap.size [xb] W (w4.setCells xb 0 (bys y)) := (Chg.ofBelow h7).setCells (.inl (by simp)) _ _
          have hK5 : KeepsOthers W (w4.setCells xb 0 (bys y)) := (KeepsOthers.ofBelow h7).trans (KeepsOthers.setCells _ _ _ _)
          have x5 := hX.setCells (bys y) 0 (by rw [bys_length, bys_length, Hyl.out]; decide)
          rw [splice_whole _ _ (by rw [bys_length, bys_length, Hyl.out]; rfl)] at x5
          gi_wp2
          change Code.wpIn _ _ _ _ _ _ (w4.setCells xb 0 (bys y))
          generalize w4.setCells xb 0 (bys y) = W5 at *
          have o5 := HSI.out.ho.chg hC5 HSI.out.ho.lt (by have := HSI.out.ho.lt; simp; omega)
          have l5 := HSI.out.hl.chg hC5 HSI.out.hl.lt (by simp; omega)
          have v5 := HSI.out.hv.chg hC5 (Nat.le_refl _) (fun j e => by have := (HSI.out.hv.lt j e).2; simp; omega)
          have hs5 := hC5.size
          have hBd5 : Below W5.heap.size W5 W5.drew := (Below.refl _ _).drew
          have O5 := hid o5
          have L5 := hid l5
          have V5 := hid v5
          have X5 := hid x5
          clear o5 l5 v5 x5
          try simp only [Act.put]
          refine rtkR (fun w' => Below W5.heap.size W5 w') [2, 4, 5] (by kernel_rfl) (fun c a d v w h => by cases d <;> exact h) (hBd5) (fun hPF hHeld => ?_)
          refine rtkA 0 (.some 29) _ _ rfl rfl (by kernel_rfl) (by kernel_rfl) (by kernel_rfl) (by kernel_rfl) (by kernel_rfl) (by kernel_rfl) hPF rfl (fun w' hw' => by (have h1 := (O5.out.below hw' O5.out.lt).cell 0; simp only [List.getElem?_cons_zero] at h1; go_simp; try with_reducible rfl)) hHeld (fun hHeld => ?_)
          simp only [Act.put, List.setIfInBounds_toArray, List.set_cons_zero, List.set_cons_succ]
          refine rtkB 1 (.some 30) _ _ rfl rfl (by kernel_rfl) (by kernel_rfl) (by kernel_rfl) (by kernel_rfl) (by kernel_rfl) hPF rfl (fun w' => by (go_simp; try with_reducible rfl)) hHeld (fun hHeld => ?_)
          simp only [Act.put, List.setIfInBounds_toArray, List.set_cons_zero, List.set_cons_succ]
          refine rtkB 3 (.some 32) _ _ rfl rfl (by kernel_rfl) (by kernel_rfl) (by kernel_rfl) (by kernel_rfl) (by kernel_rfl) hPF rfl (fun w' => by (go_simp; try with_reducible rfl)) hHeld (fun hHeld => ?_)
          simp only [Act.put, List.setIfInBounds_toArray, List.set_cons_zero, List.set_cons_succ]
          refine rtkW (rs := [2]) (by kernel_rfl) (by simp) (AllKr.close (o := _) rfl (by kernel_rfl) (fun KC hKC => ?_) AllKr.nil)
          refine wpIn_addD V5.out.drew (.some 31) rfl (.tmp 29) (.tmp 30) rfl rfl (some ⟨xb, 0, none⟩) 16 16 y rfl X5.out.drew.rowAt0 Hyl.out (by rw [HSI.out.l2]; omega) (Nat.le_trans hSz hs5) ?_
          intro v2 w6 hown6 hgrow6 hblk6
          have o6 := O5.out.drew.kept hgrow6 (fun e => by have := (V5.out.lt _ e).1; omega)
          have l6 := L5.out.drew.kept hgrow6 (fun e => by have := (V5.out.lt _ e).1; omega)
          have hK6 := hK5.trans ((KeepsOthers.drew W5).trans (KeepsOthers.of_grownBy hgrow6 fun j o ej hj => by
            obtain ⟨cs, hb⟩ := V5.out.typ j ej
            have hb' : W5.heap[j]? = some (.cells cs.toArray tU8) := hb
            have hj' : W5.heap[j]? = some o := hj
            rw [hb'] at hj'; cases hj'; rfl))
          have hC6 : Chg W4.heap.size [w.heap.size + 1 + 1, w.heap.size + 1 + 1 + 1] W w6 := ((hC5.mono hSz (fun j hj e => by simp at e; omega)).drew).grown hgrow6 (Nat.le_trans hSz hs5) (fun j e => .inr (V5.out.lt j e).1)
          obtain ⟨pa2, c2, e2, hc2, _⟩ := hown6.row
          obtain ⟨ln, hln⟩ : ∃ ln, (s.1 ++ y).length = ln := ⟨_, rfl⟩
          rw [hln] at e2
          subst e2
          have hv6 : ∀ j, (Value.slice pa2 ln c2).ownBlock = some j → W4.heap.size ≤ j := fun j e => (hown6.lt _ e).1
          have hoc6 := o6.cell 0
          have hlc6 := l6.cell 0
          simp only [List.getElem?_cons_zero] at hoc6 hlc6
          have hfr6 := o6.frozen 0
          have hfl6 := l6.frozen 0
          have Hown6 := hid hown6
          have O6 := hid o6
          have L6 := hid l6
          have HK6 := hid hK6
          have HC6 := hid hC6
          clear hown6 o6 l6 hK6 hC6 hgrow6 hblk6 hC5 hK5
          refine hKC.out _ _ (fun hHeld => ?_)
          clear hKC KC
          try simp only [Act.put, List.setIfInBounds_toArray, List.set_cons_zero, List.set_cons_succ]
          refine rtkW (rs := [4]) (by kernel_rfl) (by simp) (AllKr.close (o := _) rfl (by kernel_rfl) (fun KC hKC => ?_) AllKr.nil)
          go_simp
          refine hKC.out _ _ (fun hHeld => ?_)
          clear hKC KC
          try simp only [Act.put]
          refine rtkW (rs := [5]) (by kernel_rfl) (by simp) (AllKr.close (o := _) rfl (by kernel_rfl) (fun KC hKC => ?_) AllKr.nil)
          go_simp
          refine hKC.out _ _ (fun hHeld => ?_)
          clear hKC KC
          try simp only [Act.put]
          refine rtkD (by kernel_rfl) ?_ _
          gi_wp2
          have o7 := (O6.out.set 0 (.slice pa2 ln c2)).setNe (a := ⟨w.heap.size + 1 + 1 + 1, 0, none⟩) (by simp) (.slice (some ⟨bb, bo + 16 * q, none⟩) 16 16)
          have l7 := (L6.out.setNe (a := ⟨w.heap.size + 1 + 1, 0, none⟩) (by simp) (.slice pa2 ln c2)).set 0 (.slice (some ⟨bb, bo + 16 * q, none⟩) 16 16)
          have hC7 := fun M => ((Chg.refl M [w.heap.size + 1 + 1, w.heap.size + 1 + 1 + 1] w6).setCell (p := ⟨w.heap.size + 1 + 1, 0, none⟩) (.inl (by simp)) (.slice pa2 ln c2)).setCell (p := ⟨w.heap.size + 1 + 1 + 1, 0, none⟩) (.inl (by simp)) (.slice (some ⟨bb, bo + 16 * q, none⟩) 16 16)
          refine ⟨(HK6.out.trans ((KeepsOthers.setCell _ _ _).trans (KeepsOthers.setCell _ _ _))).from _, HC6.out.trans (hC7 _), Hfin.out _ _ _ ⟨o7, l7, HrW4.out, ?_, ?_, HSI.out.hc.trans (HC6.out.trans (hC7 _)), Hckl.out, ?_⟩⟩
          · intro a e
            cases e
            exact ⟨by show bb < _; omega, by show bb ≠ _; omega, by show bb ≠ _; omega⟩
          · exact Hown6.out.chg (hC7 _) (Nat.le_refl _) (fun j e h => by have := hv6 j e; simp at h; omega)
          · show (s.1 ++ y).length = _
            rw [List.length_append, HSI.out.l2, Hyl.out]; omega
        ·
          go_simp
          change KC _ (World.alloc w2 (.cells (bys z16).toArray tA16))
          have hX : Blk (World.alloc w2 (.cells (bys z16).toArray tA16)) w2.heap.size (bys z16) tA16 := Blk.new _ _ _
          have h7 := hS.alloc hS.size (.cells (bys z16).toArray tA16)
          have hxW : W.heap.size ≤ w2.heap.size := hS.size
          obtain ⟨w4, hw4⟩ : ∃ w4, World.alloc w2 (.cells (bys z16).toArray tA16) = w4 := ⟨_, rfl⟩
          rw [hw4] at hX h7 ⊢
          obtain ⟨xb, hxb⟩ : ∃ xb, w2.heap.size = xb := ⟨_, rfl⟩
          rw [hxb] at hX hxW
          try rw [hxb]
          clear hw4 hxb
          refine hKC.out _ _ (h7) (fun hHeld => ?_)
          clear hKC KC
          try simp only [Act.put, List.setIfInBounds_toArray, List.set_cons_zero, List.set_cons_succ]
          have hS := hHeld (by kernel_rfl)
          refine rtkW (rs := [6]) (by kernel_rfl) (by simp) (AllKr.cons (o := _) rfl (fun KC hKC => ?_) AllKr.nil)
          go_simp
          refine ⟨trivial, CallsIn.mono (CallsIn.inRound l (callsIn_wide.2 (cmixed_any _ z s.2 pl 16 Hzl.out (HpW.out.below hS) HSI.out.l1))) ?_⟩
          rintro e w3 ⟨rfl, hB3⟩
          rw [Hy.out]
          have h6 : Below W.heap.size W w3 := hS.trans (hB3.mono hS.size)
          have hX := hX.below hB3 hX.lt
          clear hB3
          refine hKC.out _ _ (h6) (fun hHeld => ?_)
          clear hKC KC
          try simp only [Act.put, List.setIfInBounds_toArray, List.set_cons_zero, List.set_cons_succ]
          refine rtkW (rs := [8]) (by kernel_rfl) (by simp) (AllKr.close (o := _) rfl (by kernel_rfl) (fun KC hKC => ?_) AllKr.nil)
          refine wpIn_storeD none rfl 100 (.tmp 11) (.tmp 28) rfl xb 0 (bys y).toArray rfl rfl (hX.there 0 _ (by rw [List.size_toArray, bys_length, bys_length, Hyl.out]; decide)) (by rw [size54, List.size_toArray, bys_length, Hyl.out]) (all_oneCell_toArray (bys_one _)) ?_
          refine hKC.out _ _ (fun hHeld => ?_)
          clear hKC KC
          try simp only [Act.put]
          refine rtkD (by kernel_rfl) ?_ _
          have hC5 : Chg W.heap.size [xb] W (w3.setCells xb 0 (bys y)) := (Chg.ofBelow h6).setCells (.inl (by simp)) _ _
          have hK5 : KeepsOthers W (w3.setCells xb 0 (bys y)) := (KeepsOthers.ofBelow h6).trans (KeepsOthers.setCells _ _ _ _)
          have x5 := hX.setCells (bys y) 0 (by rw [bys_length, bys_length, Hyl.out]; decide)
          rw [splice_whole _ _ (by rw [bys_length, bys_length, Hyl.out]; rfl)] at x5
          gi_wp2
          change Code.wpIn _ _ _ _ _ _ (w3.setCells xb 0 (bys y))
          generalize w3.setCells xb 0 (bys y) = W5 at *
          have o5 := HSI.out.ho.chg hC5 HSI.out.ho.lt (by have := HSI.out.ho.lt; simp; omega)
          have l5 := HSI.out.hl.chg hC5 HSI.out.hl.lt (by simp; omega)
          have v5 := HSI.out.hv.chg hC5 (Nat.le_refl _) (fun j e => by have := (HSI.out.hv.lt j e).2; simp; omega)
          have hs5 := hC5.size
          have hBd5 : Below W5.heap.size W5 W5.drew := (Below.refl _ _).drew
          have O5 := hid o5
          have L5 := hid l5
          have V5 := hid v5
          have X5 := hid x5
          clear o5 l5 v5 x5
          try simp only [Act.put]
          refine rtkR (fun w' => Below W5.heap.size W5 w') [2, 4, 5] (by kernel_rfl) (fun c a d v w h => by cases d <;> exact h) (hBd5) (fun hPF hHeld => ?_)
          refine rtkA 0 (.some 29) _ _ rfl rfl (by kernel_rfl) (by kernel_rfl) (by kernel_rfl) (by kernel_rfl) (by kernel_rfl) (by kernel_rfl) hPF rfl (fun w' hw' => by (have h1 := (O5.out.below hw' O5.out.lt).cell 0; simp only [List.getElem?_cons_zero] at h1; go_simp; try with_reducible rfl)) hHeld (fun hHeld => ?_)
          simp only [Act.put, List.setIfInBounds_toArray, List.set_cons_zero, List.set_cons_succ]
          refine rtkB 1 (.some 30) _ _ rfl rfl (by kernel_rfl) (by kernel_rfl) (by kernel_rfl) (by kernel_rfl) (by kernel_rfl) hPF rfl (fun w' => by (go_simp; try with_reducible rfl)) hHeld (fun hHeld => ?_)
          simp only [Act.put, List.setIfInBounds_toArray, List.set_cons_zero, List.set_cons_succ]
          refine rtkB 3 (.some 32) _ _ rfl rfl (by kernel_rfl) (by kernel_rfl) (by kernel_rfl) (by kernel_rfl) (by kernel_rfl) hPF rfl (fun w' => by (go_simp; try with_reducible rfl)) hHeld (fun hHeld => ?_)
          simp only [Act.put, List.setIfInBounds_toArray, List.set_cons_zero, List.set_cons_succ]
          refine rtkW (rs := [2]) (by kernel_rfl) (by simp) (AllKr.close (o := _) rfl (by kernel_rfl) (fun KC hKC => ?_) AllKr.nil)
          refine wpIn_addD V5.out.drew (.some 31) rfl (.tmp 29) (.tmp 30) rfl rfl (some ⟨xb, 0, none⟩) 16 16 y rfl X5.out.drew.rowAt0 Hyl.out (by rw [HSI.out.l2]; omega) (Nat.le_trans hSz hs5) ?_
          intro v2 w6 hown6 hgrow6 hblk6
          have o6 := O5.out.drew.kept hgrow6 (fun e => by have := (V5.out.lt _ e).1; omega)
          have l6 := L5.out.drew.kept hgrow6 (fun e => by have := (V5.out.lt _ e).1; omega)
          have hK6 := hK5.trans ((KeepsOthers.drew W5).trans (KeepsOthers.of_grownBy hgrow6 fun j o ej hj => by
            obtain ⟨cs, hb⟩ := V5.out.typ j ej
            have hb' : W5.heap[j]? = some (.cells cs.toArray tU8) := hb
            have hj' : W5.heap[j]? = some o := hj
            rw [hb'] at hj'; cases hj'; rfl))
          have hC6 : Chg W4.heap.size [w.heap.size + 1 + 1, w.heap.size + 1 + 1 + 1] W w6 := ((hC5.mono hSz (fun j hj e => by simp at e; omega)).drew).grown hgrow6 (Nat.le_trans hSz hs5) (fun j e => .inr (V5.out.lt j e).1)
          obtain ⟨pa2, c2, e2, hc2, _⟩ := hown6.row
          obtain ⟨ln, hln⟩ : ∃ ln, (s.1 ++ y).length = ln := ⟨_, rfl⟩
          rw [hln] at e2
          subst e2
          have hv6 : ∀ j, (Value.slice pa2 ln c2).ownBlock = some j → W4.heap.size ≤ j := fun j e => (hown6.lt _ e).1
          have hoc6 := o6.cell 0
          have hlc6 := l6.cell 0
          simp only [List.getElem?_cons_zero] at hoc6 hlc6
          have hfr6 := o6.frozen 0
          have hfl6 := l6.frozen 0
          have Hown6 := hid hown6
          have O6 := hid o6
          have L6 := hid l6
          have HK6 := hid hK6
          have HC6 := hid hC6
          clear hown6 o6 l6 hK6 hC6 hgrow6 hblk6 hC5 hK5
          refine hKC.out _ _ (fun hHeld => ?_)
          clear hKC KC
          try simp only [Act.put, List.setIfInBounds_toArray, List.set_cons_zero, List.set_cons_succ]
          refine rtkW (rs := [4]) (by kernel_rfl) (by simp) (AllKr.close (o := _) rfl (by kernel_rfl) (fun KC hKC => ?_) AllKr.nil)
          go_simp
          refine hKC.out _ _ (fun hHeld => ?_)
          clear hKC KC
          try simp only [Act.put]
          refine rtkW (rs := [5]) (by kernel_rfl) (by simp) (AllKr.close (o := _) rfl (by kernel_rfl) (fun KC hKC => ?_) AllKr.nil)
          go_simp
          refine hKC.out _ _ (fun hHeld => ?_)
          clear hKC KC
          try simp only [Act.put]
          refine rtkD (by kernel_rfl) ?_ _
          gi_wp2
          have o7 := (O6.out.set 0 (.slice pa2 ln c2)).setNe (a := ⟨w.heap.size + 1 + 1 + 1, 0, none⟩) (by simp) (.slice (some ⟨bb, bo + 16 * q, none⟩) 16 16)
          have l7 := (L6.out.setNe (a := ⟨w.heap.size + 1 + 1, 0, none⟩) (by simp) (.slice pa2 ln c2)).set 0 (.slice (some ⟨bb, bo + 16 * q, none⟩) 16 16)
          have hC7 := fun M => ((Chg.refl M [w.heap.size + 1 + 1, w.heap.size + 1 + 1 + 1] w6).setCell (p := ⟨w.heap.size + 1 + 1, 0, none⟩) (.inl (by simp)) (.slice pa2 ln c2)).setCell (p := ⟨w.heap.size + 1 + 1 + 1, 0, none⟩) (.inl (by simp)) (.slice (some ⟨bb, bo + 16 * q, none⟩) 16 16)
          refine ⟨(HK6.out.trans ((KeepsOthers.setCell _ _ _).trans (KeepsOthers.setCell _ _ _))).from _, HC6.out.trans (hC7 _), Hfin.out _ _ _ ⟨o7, l7, HrW4.out, ?_, ?_, HSI.out.hc.trans (HC6.out.trans (hC7 _)), Hckl.out, ?_⟩⟩
          · intro a e
            cases e
            exact ⟨by show bb < _; omega, by show bb ≠ _; omega, by show bb ≠ _; omega⟩
          · exact Hown6.out.chg (hC7 _) (Nat.le_refl _) (fun j e h => by have := hv6 j e; simp at h; omega)
          · show (s.1 ++ y).length = _
            rw [List.length_append, HSI.out.l2, Hyl.out]; omega
      ·
        go_simp
        change KC _ (World.alloc W.drew (.cells (bys z16).toArray tA16))
        have hX : Blk (World.alloc W.drew (.cells (bys z16).toArray tA16)) W.drew.heap.size (bys z16) tA16 := Blk.new _ _ _
        have h7 := hS.alloc hS.size (.cells (bys z16).toArray tA16)
        have hxW : W.heap.size ≤ W.drew.heap.size := hS.size
        obtain ⟨w4, hw4⟩ : ∃ w4, World.alloc W.drew (.cells (bys z16).toArray tA16) = w4 := ⟨_, rfl⟩
        rw [hw4] at hX h7 ⊢
        obtain ⟨xb, hxb⟩ : ∃ xb, W.heap.size = xb := ⟨_, rfl⟩
        have hX : Blk w4 W.heap.size (bys z16) tA16 := hX
        rw [hxb] at hX
        rw [hxb]
        have hxW : W.heap.size ≤ xb := by omega
        clear hw4 hxb
        refine hKC.out _ _ (h7) (fun hHeld => ?_)
        clear hKC KC
        try simp only [Act.put, List.setIfInBounds_toArray, List.set_cons_zero, List.set_cons_succ]
        have hS := hHeld (by kernel_rfl)
        refine rtkW (rs := [4]) (by kernel_rfl) (by simp) (AllKr.cons (o := _) rfl (fun KC hKC => ?_) AllKr.nil)
        go_simp
        refine ⟨trivial, CallsIn.mono (CallsIn.inRound l (callsIn_wide.2 (dec_any _ kb rk ck (hkW.below hS) Hckl.out))) ?_⟩
        rintro e w2 ⟨rfl, hB2⟩
        rw [Hz.out]
        have h4 : Below W.heap.size W w2 := hS.trans (hB2.mono hS.size)
        have hX := hX.below hB2 hX.lt
        clear hB2
        refine hKC.out _ _ (h4) (fun hHeld => ?_)
        clear hKC KC
        try simp only [Act.put, List.setIfInBounds_toArray, List.set_cons_zero, List.set_cons_succ]
        have hS := hHeld (by kernel_rfl)
        refine rtkW (rs := [6]) (by kernel_rfl) (by simp) (AllKr.cons (o := _) rfl (fun KC hKC => ?_) AllKr.nil)
        go_simp
        refine ⟨trivial, CallsIn.mono (CallsIn.inRound l (callsIn_wide.2 (cmixed_any _ z s.2 pl 16 Hzl.out (HpW.out.below hS) HSI.out.l1))) ?_⟩
        rintro e w3 ⟨rfl, hB3⟩
        rw [Hy.out]
        have h6 : Below W.heap.size W w3 := hS.trans (hB3.mono hS.size)
        have hX := hX.below hB3 hX.lt
        clear hB3
        refine hKC.out _ _ (h6) (fun hHeld => ?_)
        clear hKC KC
        try simp only [Act.put, List.setIfInBounds_toArray, List.set_cons_zero, List.set_cons_succ]
        refine rtkW (rs := [8]) (by kernel_rfl) (by simp) (AllKr.close (o := _) rfl (by kernel_rfl) (fun KC hKC => ?_) AllKr.nil)
        refine wpIn_storeD none rfl 100 (.tmp 11) (.tmp 28) rfl xb 0 (bys y).toArray rfl rfl (hX.there 0 _ (by rw [List.size_toArray, bys_length, bys_length, Hyl.out]; decide)) (by rw [size54, List.size_toArray, bys_length, Hyl.out]) (all_oneCell_toArray (bys_one _)) ?_
        refine hKC.out _ _ (fun hHeld => ?_)
        clear hKC KC
        try simp only [Act.put]
        refine rtkD (by kernel_rfl) ?_ _
        have hC5 : Chg W.heap.size [xb] W (w3.setCells xb 0 (bys y)) := (Chg.ofBelow h6).setCells (.inl (by simp)) _ _
        have hK5 : KeepsOthers W (w3.setCells xb 0 (bys y)) := (KeepsOthers.ofBelow h6).trans (KeepsOthers.setCells _ _ _ _)
        have x5 := hX.setCells (bys y) 0 (by rw [bys_length, bys_length, Hyl.out]; decide)
        rw [splice_whole _ _ (by rw [bys_length, bys_length, Hyl.out]; rfl)] at x5
        gi_wp2
        change Code.wpIn _ _ _ _ _ _ (w3.setCells xb 0 (bys y))
        generalize w3.setCells xb 0 (bys y) = W5 at *
        have o5 := HSI.out.ho.chg hC5 HSI.out.ho.lt (by have := HSI.out.ho.lt; simp; omega)
        have l5 := HSI.out.hl.chg hC5 HSI.out.hl.lt (by simp; omega)
        have v5 := HSI.out.hv.chg hC5 (Nat.le_refl _) (fun j e => by have := (HSI.out.hv.lt j e).2; simp; omega)
        have hs5 := hC5.size
        have hBd5 : Below W5.heap.size W5 W5.drew := (Below.refl _ _).drew
        have O5 := hid o5
        have L5 := hid l5
        have V5 := hid v5
        have X5 := hid x5
        clear o5 l5 v5 x5
        try simp only [Act.put]
        refine rtkR (fun w' => Below W5.heap.size W5 w') [2, 4, 5] (by kernel_rfl) (fun c a d v w h => by cases d <;> exact h) (hBd5) (fun hPF hHeld => ?_)
        refine rtkA 0 (.some 29) _ _ rfl rfl (by kernel_rfl) (by kernel_rfl) (by kernel_rfl) (by kernel_rfl) (by kernel_rfl) (by kernel_rfl) hPF rfl (fun w' hw' => by (have h1 := (O5.out.below hw' O5.out.lt).cell 0; simp only [List.getElem?_cons_zero] at h1; go_simp; try with_reducible rfl)) hHeld (fun hHeld => ?_)
        simp only [Act.put, List.setIfInBounds_toArray, List.set_cons_zero, List.set_cons_succ]
        refine rtkB 1 (.some 30) _ _ rfl rfl (by kernel_rfl) (by kernel_rfl) (by kernel_rfl) (by kernel_rfl) (by kernel_rfl) hPF rfl (fun w' => by (go_simp; try with_reducible rfl)) hHeld (fun hHeld => ?_)
        simp only [Act.put, List.setIfInBounds_toArray, List.set_cons_zero, List.set_cons_succ]
        refine rtkB 3 (.some 32) _ _ rfl rfl (by kernel_rfl) (by kernel_rfl) (by kernel_rfl) (by kernel_rfl) (by kernel_rfl) hPF rfl (fun w' => by (go_simp; try with_reducible rfl)) hHeld (fun hHeld => ?_)
        simp only [Act.put, List.setIfInBounds_toArray, List.set_cons_zero, List.set_cons_succ]
        refine rtkW (rs := [2]) (by kernel_rfl) (by simp) (AllKr.close (o := _) rfl (by kernel_rfl) (fun KC hKC => ?_) AllKr.nil)
        refine wpIn_addD V5.out.drew (.some 31) rfl (.tmp 29) (.tmp 30) rfl rfl (some ⟨xb, 0, none⟩) 16 16 y rfl X5.out.drew.rowAt0 Hyl.out (by rw [HSI.out.l2]; omega) (Nat.le_trans hSz hs5) ?_
        intro v2 w6 hown6 hgrow6 hblk6
        have o6 := O5.out.drew.kept hgrow6 (fun e => by have := (V5.out.lt _ e).1; omega)
        have l6 := L5.out.drew.kept hgrow6 (fun e => by have := (V5.out.lt _ e).1; omega)
        have hK6 := hK5.trans ((KeepsOthers.drew W5).trans (KeepsOthers.of_grownBy hgrow6 fun j o ej hj => by
          obtain ⟨cs, hb⟩ := V5.out.typ j ej
          have hb' : W5.heap[j]? = some (.cells cs.toArray tU8) := hb
          have hj' : W5.heap[j]? = some o := hj
          rw [hb'] at hj'; cases hj'; rfl))
        have hC6 : Chg W4.heap.size [w.heap.size + 1 + 1, w.heap.size + 1 + 1 + 1] W w6 := ((hC5.mono hSz (fun j hj e => by simp at e; omega)).drew).grown hgrow6 (Nat.le_trans hSz hs5) (fun j e => .inr (V5.out.lt j e).1)
        obtain ⟨pa2, c2, e2, hc2, _⟩ := hown6.row
        obtain ⟨ln, hln⟩ : ∃ ln, (s.1 ++ y).length = ln := ⟨_, rfl⟩
        rw [hln] at e2
        subst e2
        have hv6 : ∀ j, (Value.slice pa2 ln c2).ownBlock = some j → W4.heap.size ≤ j := fun j e => (hown6.lt _ e).1
        have hoc6 := o6.cell 0
        have hlc6 := l6.cell 0
        simp only [List.getElem?_cons_zero] at hoc6 hlc6
        have hfr6 := o6.frozen 0
        have hfl6 := l6.frozen 0
        have Hown6 := hid hown6
        have O6 := hid o6
        have L6 := hid l6
        have HK6 := hid hK6
        have HC6 := hid hC6
        clear hown6 o6 l6 hK6 hC6 hgrow6 hblk6 hC5 hK5
        refine hKC.out _ _ (fun hHeld => ?_)
        clear hKC KC
        try simp only [Act.put, List.setIfInBounds_toArray, List.set_cons_zero, List.set_cons_succ]
        refine rtkW (rs := [4]) (by kernel_rfl) (by simp) (AllKr.close (o := _) rfl (by kernel_rfl) (fun KC hKC => ?_) AllKr.nil)
        go_simp
        refine hKC.out _ _ (fun hHeld => ?_)
        clear hKC KC
        try simp only [Act.put]
        refine rtkW (rs := [5]) (by kernel_rfl) (by simp) (AllKr.close (o := _) rfl (by kernel_rfl) (fun KC hKC => ?_) AllKr.nil)
        go_simp
        refine hKC.out _ _ (fun hHeld => ?_)
        clear hKC KC
        try simp only [Act.put]
        refine rtkD (by kernel_rfl) ?_ _
        gi_wp2
        have o7 := (O6.out.set 0 (.slice pa2 ln c2)).setNe (a := ⟨w.heap.size + 1 + 1 + 1, 0, none⟩) (by simp) (.slice (some ⟨bb, bo + 16 * q, none⟩) 16 16)
        have l7 := (L6.out.setNe (a := ⟨w.heap.size + 1 + 1, 0, none⟩) (by simp) (.slice pa2 ln c2)).set 0 (.slice (some ⟨bb, bo + 16 * q, none⟩) 16 16)
        have hC7 := fun M => ((Chg.refl M [w.heap.size + 1 + 1, w.heap.size + 1 + 1 + 1] w6).setCell (p := ⟨w.heap.size + 1 + 1, 0, none⟩) (.inl (by simp)) (.slice pa2 ln c2)).setCell (p := ⟨w.heap.size + 1 + 1 + 1, 0, none⟩) (.inl (by simp)) (.slice (some ⟨bb, bo + 16 * q, none⟩) 16 16)
        refine ⟨(HK6.out.trans ((KeepsOthers.setCell _ _ _).trans (KeepsOthers.setCell _ _ _))).from _, HC6.out.trans (hC7 _), Hfin.out _ _ _ ⟨o7, l7, HrW4.out, ?_, ?_, HSI.out.hc.trans (HC6.out.trans (hC7 _)), Hckl.out, ?_⟩⟩
        · intro a e
          cases e
          exact ⟨by show bb < _; omega, by show bb ≠ _; omega, by show bb ≠ _; omega⟩
        · exact Hown6.out.chg (hC7 _) (Nat.le_refl _) (fun j e h => by have := hv6 j e; simp at h; omega)
        · show (s.1 ++ y).length = _
          rw [List.length_append, HSI.out.l2, Hyl.out]; omega
    case done =>
      rintro D ys W hD rfl ⟨v, pl, hSI⟩ hK
      rw [foldl_open (dec rk) iv b k k (Nat.le_refl _)] at hSI
      have hkq : n / 16 = k := by have := Hk16.out; omega
      have hout : openF (dec rk) iv b = (unpadF (openO (dec rk) iv b k)).map fun m => (openO (dec rk) iv b k).take m := by
        unfold openF
        rw [if_neg (by rw [Hn.out]; omega), Hn.out, hkq]
      obtain ⟨o, ho⟩ : ∃ o, openO (dec rk) iv b k = o := ⟨_, rfl⟩
      rw [ho] at hSI hout
      obtain ⟨po, co, rfl, hco, hro⟩ := hSI.hv.row
      have hol : o.length = 16 * k := by have := hSI.l2; simpa using this
      have hoc := hSI.ho.cell 0
      simp only [List.getElem?_cons_zero] at hoc
      obtain ⟨L, hL⟩ : ∃ L, o.length = L := ⟨_, rfl⟩
      rw [hL] at hoc hco hol
      have hL9 : L ≤ 140737488355328 := by omega
      have HSI := hid hSI
      have Hout := hid hout
      have Hro := hid hro
      have HL := hid hL
      clear hSI hout hro ho hL hol hkq hBs hBn f0 f1 f2 f3
      go_wp2_with fail
      refine (unpad_any W po L co o Hro.out HL.out hL9 hco).mono ?_
      rintro e w2 ⟨rfl, hB2⟩
      have hDl : D < W.heap.size := (Array.getElem?_eq_some_iff.1 hK).1
      have hK2 : w2.heap[D]? = some (.deferred (some [])) := (hB2.block D hDl).trans hK
      have hBf : Below w.heap.size w (w2.putObj D (.deferred none)) := by
        have h1 := hB5.trans (HSI.out.hc.below (M := w.heap.size) (by omega) (by simp; omega))
        have h2 := h1.trans (hB2.mono h1.size)
        have hg := grownBy_putObj' w2 D (.deferred none)
        exact h2.grown hg h2.size (fun j e => by cases e; omega)
      have hrf := (Hro.out.below hB2)
      cases hu : unpadF o with
      | none =>
        have hV : unpadV o = .tuple #[.int .i64 0, .int .i64 16] := by unfold unpadV; rw [hu]
        rw [hV]
        have hN0 : openF (dec rk) iv b = none := by rw [Hout.out, hu]; rfl
        have HN0 := hid hN0
        clear hN0 hu hV
        go_wp2_with fail
        refine ⟨by simp, .inl ⟨_, _, rfl, run_takeDeferred hK2, ?_⟩⟩
        refine ⟨_, results_tmp2 rfl _ _ _, _, rfl, hBf, ?_⟩
        rw [HN0.out]
        rfl
      | some m =>
        have hV : unpadV o = .tuple #[.int .i64 m, .int .i64 0] := by unfold unpadV; rw [hu]
        rw [hV]
        have hmL : m ≤ L := by rw [← HL.out]; exact unpadF_le hu
        have hN0 : openF (dec rk) iv b = some (o.take m) := by rw [Hout.out, hu]; rfl
        have HN0 := hid hN0
        have q1 : (m : Int) ≤ (co : Int) := by omega
        have q2 : 0 ≤ (m : Int) := by omega
        have o2 := (HSI.out.ho.below hB2 HSI.out.ho.lt).cell 0
        simp only [List.getElem?_cons_zero] at o2
        clear hN0 hu hV
        go_wp2_with fail
        refine ⟨by simp, .inl ⟨_, _, rfl, run_takeDeferred hK2, ?_⟩⟩
        refine ⟨_, results_tmp2 rfl _ _ _, _, rfl, hBf, ?_⟩
        rw [HN0.out]
        have htl : (o.take m).length = m := by rw [List.length_take, HL.out]; omega
        refine ⟨po, m, ?_, ?_⟩
        · rw [htl]; rfl
        · intro t ht
          obtain ⟨b1, o1, e1, h1, h2⟩ := (hrf.take m) t ht
          refine ⟨b1, o1, e1, ?_, ?_⟩
          · simpa using h1
          · have hne : b1 ≠ D := fun e => by
              subst e
              simp [World.cell?, hK2] at h2
            have hbk := (grownBy_putObj' w2 D (.deferred none)).block b1 h1 (fun e => by cases e; exact hne rfl)
            have e : (w2.putObj D (.deferred none)).cell? ⟨b1, o1 + t, none⟩ = w2.cell? ⟨b1, o1 + t, none⟩ := by simp [World.cell?, hbk]
            rw [e]; exact h2
    case stop =>
      rintro D c pre W _ _ h _
      exact h.elim
  · have h16' : ¬ r = 0 := by omega
    have hF : openF (dec rk) iv b = none := by unfold openF; rw [if_pos (by rw [hn]; exact h16)]
    rw [hF]
    clear hF hb hn hr
    go_wp2_with fail
    have hBe : Below w.heap.size w ((w.alloc (.cells #[.pointer (some ⟨kb, 0, none⟩)] 134)).alloc (.cells (bys iv).toArray tA16)) := ((Below.refl _ w).alloc (Nat.le_refl _) _).alloc (by simp) _
    refine ⟨_, results_tmp2 rfl _ _ _, ?_⟩
    first | exact ⟨_, rfl, hBe, rfl⟩ | exact ⟨rfl, hBe, rfl⟩ | exact ⟨hBe, rfl⟩
end Go.Proofs.YtnmmnlffobnbfaaGreatDoor
