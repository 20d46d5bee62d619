/- aes: a block, deciphered -/
import Derived.Test.YtlgeebnmonmdaaaAes6
namespace Go.Proofs.Ytlgeebnmonmdaaa
open Go.RowKit

theorem index16 (l : List UInt8) (hl : l.length = 16) (k : Nat) (hk : k < 16) (w : World) : (Instr.index 23 (.agg (bys l).toArray) (.int .i64 k)).run Try.prog w = .ok (.int .u8 (bv (l.getD k 0))) w := by
  have h := bys_get l k (by omega)
  simp [Instr.index, run_underlying under54, asIntOf, go_sem, hk]
  rw [h]; simp

def invTo (k : Nat) (l : List UInt8) : List UInt8 := (l.take k).map sinv ++ l.drop k
theorem invTo_len (k : Nat) (l : List UInt8) : (invTo k l).length = l.length := by simp [invTo]; omega
theorem invTo_succ (k : Nat) (l : List UInt8) (h : k < l.length) : (invTo k l).set k (sinv (l.getD k 0)) = invTo (k + 1) l := by
  unfold invTo
  rw [app_set 0 _ _ l k (by simp; omega) h, take_succ_getD 0 l k h, List.map_append]; rfl

def decStep (rk : List UInt8) (R d : Nat) (x : List UInt8) : List UInt8 :=
  (hs16 (if 0 < d then mixTo 3 4 (addK rk (R - d) x) else addK rk (R - d) x)).map sinv
def decTo (rk : List UInt8) (R : Nat) (s : List UInt8) : Nat → List UInt8
  | 0 => s
  | d + 1 => decStep rk R d (decTo rk R s d)
def dec (rk s : List UInt8) : List UInt8 := addK rk 0 (decTo rk (roundsOf rk) s (roundsOf rk))
theorem decTo_len (rk : List UInt8) (R : Nat) (s : List UInt8) (d : Nat) (h : 16 * R + 16 ≤ rk.length) (hs : s.length = 16) : (decTo rk R s d).length = 16 := by
  induction d with
  | zero => exact hs
  | succ d ih =>
    have ha := addK_len rk (R - d) _ (by omega) ih
    unfold decTo decStep
    rw [List.length_map]
    refine hs16_len ?_
    split
    · exact mixTo_len _ _ _ (by omega) ha
    · exact ha

set_option maxRecDepth 100000 in
set_option maxHeartbeats 4000000 in
theorem dec_any (w : World) (kb : Nat) (rk s : List UInt8) (hk : KeysAt w kb rk) (hs : s.length = 16) :
    Calls Try.prog 43 #[.pointer (some ⟨kb, 0, none⟩), .agg (bys s).toArray] w fun e w' => e = .returned (.agg (bys (dec rk s)).toArray) ∧ Below w.heap.size w w' := by
  obtain ⟨tb, wb, n, cap, ex, hk, ht, hw, hrk, hn⟩ := hk
  have hR : roundsOf rk = n / 4 - 1 := by unfold roundsOf; omega
  have hkl := hk.lt
  have htl := ht.lt
  have hwl := hw.lt
  have Hs := hid hs; clear hs
  have Hrk := hid hrk; clear hrk
  have Hn := hid hn; clear hn
  have HR := hid hR; clear hR
  go_enter Try.func43, Try.ntmps43
  go_wp2_with fail
  refine (rounds_some _ kb tb n cap _ ((hk.alloc _).alloc _) (by have := Hn.out; omega) (by have := Hn.out; omega)).mono ?_
  rintro e w1 ⟨rfl, rfl⟩
  have hRn : ((n / 4 - 1 : Nat) : Int) = (roundsOf rk : Int) := by rw [HR.out]
  rw [hRn]
  clear hRn
  have hR0 : ((roundsOf rk : Int) == 0) = false := by rw [beq_eq_false_iff_ne]; have := HR.out; have := Hn.out; omega
  have hR1 : 1 ≤ roundsOf rk := by have := HR.out; have := Hn.out; omega
  have hR2 : roundsOf rk ≤ 14 := by have := HR.out; have := Hn.out; omega
  have hN : Blk ((w.alloc (.cells (bys s).toArray tA16)).alloc (.cells (bys z16).toArray tA16)) w.heap.size (bys s) tA16 := (Blk.new w (bys s) tA16).alloc _
  have hM : Blk ((w.alloc (.cells (bys s).toArray tA16)).alloc (.cells (bys z16).toArray tA16)) (w.heap.size + 1) (bys z16) tA16 := by
    have := Blk.new (w.alloc (.cells (bys s).toArray tA16)) (bys z16) tA16
    simpa using this
  have hB : Below w.heap.size w ((w.alloc (.cells (bys s).toArray tA16)).alloc (.cells (bys z16).toArray tA16)) := ((Below.refl _ _).alloc (Nat.le_refl _) _).alloc (by simp) _
  go_wp2_with fail
  change Code.wp _ _ _ _ ((w.alloc (.cells (bys s).toArray tA16)).alloc (.cells (bys z16).toArray tA16))
  generalize ((w.alloc (.cells (bys s).toArray tA16)).alloc (.cells (bys z16).toArray tA16)) = w2 at *
  go_loopw [6] (fun i wr => ∃ d : Nat, d ≤ roundsOf rk ∧ i = .int .i64 ((roundsOf rk : Int) - d) ∧ Blk wr w.heap.size (bys (decTo rk (roundsOf rk) s d)) tA16 ∧ Blk wr (w.heap.size + 1) (bys z16) tA16 ∧ Below w.heap.size w wr) (fun i _ => (intOf i).toNat)
  case atStart => exact ⟨0, by omega, by simp, hN, hM, hB⟩
  case round =>
    obtain ⟨d, hd, rfl, hN3, hM3, hB3⟩ := hrel
    clear hN hM hB
    have hl := decTo_len rk (roundsOf rk) s d (by have := Hrk.out; have := Hn.out; have := HR.out; omega) Hs.out
    have HX : Hid (decTo rk (roundsOf rk) s (d + 1) = decStep rk (roundsOf rk) d (decTo rk (roundsOf rk) s d)) := hid rfl
    by_cases hlt : d < roundsOf rk
    · generalize decTo rk (roundsOf rk) s d = x at hN3 hl HX
      have Hl := hid hl; clear hl
      obtain ⟨r, hr⟩ : ∃ r, r = roundsOf rk - d := ⟨_, rfl⟩
      have hri : (roundsOf rk : Int) - d = (r : Int) := by omega
      rw [hri]
      have hr1 : 1 ≤ r := by omega
      have hrR : r ≤ roundsOf rk := by omega
      have Hr := hid hr
      have Hri := hid hri
      clear hr hri
      go_wp2_with fail
      refine (add_any wr kb tb wb w.heap.size n cap r _ rk ex tA16 (hk.below hB3 hkl) (hw.below hB3 hwl) hN3 Hl.out (by have := Hrk.out; have := Hn.out; have := HR.out; simp; omega) (by have := Hn.out; have := HR.out; omega) (by omega) (by omega) (by have := Hn.out; omega)).mono ?_
      rintro e w4 ⟨rfl, hN4, hc4⟩
      rw [addTo_ext _ rk r (by have := Hrk.out; have := Hn.out; have := HR.out; omega) Hl.out] at hN4
      have hM4 := hM3.chg hc4 hM3.lt (by simp)
      have hB4 := hB3.trans (hc4.below (M := w.heap.size) hB3.size (by simp))
      have ha := addK_len rk r x (by have := Hrk.out; have := Hn.out; have := HR.out; omega) Hl.out
      have Ha := hid ha
      clear hN3 hM3 hB3 hc4 ha
      by_cases hm : r < roundsOf rk
      focus (
        go_wp2_with fail
        refine (mix_any w4 w.heap.size 3 _ tA16 hN4 Ha.out (by omega)).mono ?_
        rintro e w5 ⟨rfl, hN5, hc5⟩
        have hM5 := hM4.chg hc5 hM4.lt (by simp)
        have hB5 := hB4.trans (hc5.below (M := w.heap.size) hB4.size (by simp))
        have hx1 : decTo rk (roundsOf rk) s (d + 1) = (hs16 (mixTo 3 4 (addK rk r x))).map sinv := by
          rw [HX.out]; unfold decStep; rw [← Hr.out, if_pos (by have := Hr.out; omega)]
        have hl1 : (mixTo 3 4 (addK rk r x)).length = 16 := mixTo_len _ _ _ (by omega) Ha.out
        clear hN4 hM4 hB4 hc5 HX Ha
        have HX := hid hx1
        have Hl1 := hid hl1
        clear hx1 hl1
        generalize mixTo 3 4 (addK rk r x) = y at hN5 HX Hl1)
      rotate_left
      focus (
        have hx1 : decTo rk (roundsOf rk) s (d + 1) = (hs16 (addK rk r x)).map sinv := by
          rw [HX.out]; unfold decStep; rw [← Hr.out, if_neg (by have := Hr.out; omega)]
        clear HX
        have HX := hid hx1
        clear hx1
        have Hl1 := Ha
        clear Ha
        have hN5 := hN4
        have hM5 := hM4
        have hB5 := hB4
        clear hN4 hM4 hB4
        generalize addK rk r x = y at hN5 HX Hl1
        generalize w4 = w5 at *)
      all_goals
        go_wp2_with (refine wpList_load_mid rfl 23 (.tmp 3) rfl w.heap.size 0 rfl (bys y) _ hN5.whole under54 rfl (by rw [size54, bys_length, Hl1.out]) ?_)
        refine (shiftb_any y Hl1.out w5).mono ?_
        rintro e w6 ⟨rfl, hB6⟩
        have hN6 := hN5.below hB6 hN5.lt
        have hM6 := hM5.below hB6 hM5.lt
        have hB7 := hB5.trans (hB6.mono hB5.size)
        have hsl := hs16_len Hl1.out
        clear hN5 hM5 hB5 hB6
        go_wp2_with (first | (refine wpList_store_mid rfl 23 (.tmp 3) (.tmp 27) rfl w.heap.size 0 (bys (hs16 y)).toArray rfl rfl (hN6.there 0 _ (by rw [List.size_toArray, bys_length, bys_length, hsl, Hl1.out]; omega)) (by rw [size54, List.size_toArray, bys_length, hsl]) (all_oneCell_toArray (bys_one _)) ?_; have hN7 := hN6.setCells (bys (hs16 y)) 0 (by rw [bys_length, bys_length, hsl, Hl1.out]; omega); rw [splice_whole _ _ (by rw [bys_length, bys_length, hsl, Hl1.out])] at hN7; have hc7 := (Chg.refl w6.heap.size [w.heap.size] w6).setCells (b := w.heap.size) (.inl (by simp)) (bys (hs16 y)) 0; have hM7 := hM6.chg hc7 hM6.lt (by simp); have hB8 := hB7.trans (hc7.below (M := w.heap.size) hB7.size (by simp)); clear hN6 hM6 hB7 hc7; generalize w6.setCells w.heap.size 0 (bys (hs16 y)) = w7 at *) | (refine wpList_load_mid rfl 23 (.tmp 3) rfl w.heap.size 0 rfl (bys (hs16 y)) _ hN7.whole under54 rfl (by rw [size54, bys_length, hsl]) ?_))
        have hzl : (hs16 y).length = 16 := hsl
        generalize hs16 y = Z at *
        have HZ := hid hzl
        clear hsl hzl
        go_loopw [29] (fun i w8 => ∃ k : Nat, k ≤ 16 ∧ i = .int .i64 k ∧ Blk w8 w.heap.size (bys (invTo k Z)) tA16 ∧ Blk w8 (w.heap.size + 1) (bys z16) tA16 ∧ Below w.heap.size w w8) (fun i _ => 16 - (intOf i).toNat)
        case atStart => exact ⟨0, by omega, rfl, by simpa [invTo] using hN7, hM7, hB8⟩
        case round =>
          obtain ⟨k, hk16, rfl, hN9, hM9, hB9⟩ := hrel
          clear hN7 hM7 hB8
          by_cases hk2 : k < 16
          · have hlen := (invTo_len k Z).trans HZ.out
            have hc := hN9.cellAt (bys_get _ k (by omega))
            have hf := hN9.frozen k
            have hs2 := invTo_succ k Z (by rw [HZ.out]; exact hk2)
            have hidx := index16 Z HZ.out k hk2
            have Hs2 := hid hs2; clear hs2 hlen
            generalize Z.getD k 0 = x at hidx Hs2
            have hk1 := (hk.below hB9 hkl).cell 0
            have ht1 := (ht.below hB9 htl).cellAt (bys_get _ (256 + (bv x).toNat) (by rw [TAB_len]; have := bv_hi x; have := bv_lo x; omega))
            have x0 := bv_lo x
            have x1 := bv_hi x
            simp only [List.getElem?_cons_zero] at hk1
            have hsx : TAB.getD (256 + (bv x).toNat) 0 = sinv x := by unfold sinv; rw [bv_toNat]
            rw [hsx] at ht1
            clear hsx
            go_wp2_with fail
            go_roundw
            case rel =>
              refine ⟨k + 1, by omega, by go_num, ?_, hM9.setNe (by simp) _, hB9.setCell (Nat.le_refl _) _⟩
              rw [← Hs2.out, ← bys_set]; exact hN9.set _ _
            case measure => simp [intOf]; omega
          · have e : invTo k Z = Z.map sinv := by
              have := HZ.out
              obtain rfl : k = Z.length := by omega
              simp [invTo]
            rw [e, ← HX.out] at hN9
            clear e
            go_wp2_with fail
            go_roundw
            case rel => exact ⟨d + 1, by omega, by have := Hr.out; go_num, hN9, hM9, hB9⟩
            case measure => simp [intOf]; omega
    · have hre : d = roundsOf rk := by omega
      rw [hre] at hN3 hl
      have Hl := hid hl
      have Hre := hid hre
      have hri : (roundsOf rk : Int) - d = 0 := by omega
      rw [hri]
      clear hl hre HX hri
      go_wp2_with fail
      refine (add_any wr kb tb wb w.heap.size n cap 0 _ rk ex tA16 (hk.below hB3 hkl) (hw.below hB3 hwl) hN3 Hl.out (by have := Hrk.out; have := Hn.out; simp; omega) (by have := Hn.out; omega) (by omega) (by omega) (by have := Hn.out; omega)).mono ?_
      rintro e w4 ⟨rfl, hN4, hc4⟩
      rw [addTo_ext _ rk 0 (by have := Hrk.out; have := Hn.out; omega) Hl.out] at hN4
      have hM4 := hM3.chg hc4 hM3.lt (by simp)
      have hB4 := hB3.trans (hc4.below (M := w.heap.size) hB3.size (by simp))
      have hdl : (dec rk s).length = 16 := addK_len rk 0 _ (by have := Hrk.out; have := Hn.out; omega) Hl.out
      change Blk w4 w.heap.size (bys (dec rk s)) tA16 at hN4
      have Hdl := hid hdl
      clear hN3 hM3 hB3 hc4 hdl
      go_wp2_with (first | (refine wpList_load_mid rfl 23 (.tmp 3) rfl w.heap.size 0 rfl (bys (dec rk s)) _ hN4.whole under54 rfl (by rw [size54, bys_length, Hdl.out]) ?_) | (refine wpList_store_mid rfl 23 (.tmp 4) (.tmp 47) rfl (w.heap.size + 1) 0 (bys (dec rk s)).toArray rfl rfl (hM4.there 0 _ (by rw [List.size_toArray, bys_length, bys_length, Hdl.out]; decide)) (by rw [size54, List.size_toArray, bys_length, Hdl.out]) (all_oneCell_toArray (bys_one _)) ?_))
      have hMs := hM4.setCells (bys (dec rk s)) 0 (by rw [bys_length, bys_length, Hdl.out]; decide)
      rw [splice_whole _ _ (by rw [bys_length, bys_length, Hdl.out]; decide)] at hMs
      refine bodyPost_ret (v := .agg (bys (dec rk s)).toArray) (results_cell_row (P := Try.prog) (p := 4) (ty := 23) rfl _ _ (w.heap.size + 1) tA16 _ (0, 0) _ rfl hMs under54 rfl (by rw [size54, List.size_toArray, bys_length, Hdl.out])) rfl ⟨rfl, ?_⟩
      exact hB4.trans (((Chg.refl (w.heap.size) [] w4).setCells (.inr (by omega)) _ _).below (Nat.le_refl _) (by simp))
#print axioms dec_any
end Go.Proofs.Ytlgeebnmonmdaaa
