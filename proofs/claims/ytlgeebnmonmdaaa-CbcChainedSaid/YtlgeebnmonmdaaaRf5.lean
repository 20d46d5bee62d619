/- the reference of aes: Decrypt -/
import Derived.Test.YtlgeebnmonmdaaaRf4
import Derived.Test.YtlgeebnmonmdaaaAes7
import Derived.Test.YtlgeebnmonmdaaaPure
namespace Go.Proofs.Ytlgeebnmonmdaaa
open Go.RowKit

/-- The way back through the box, as the reference fills it. -/
def bkN : Nat → List UInt8
  | 0 => List.replicate 256 0
  | k + 1 => (bkN k).set (sbox (UInt8.ofNat k)).toNat (UInt8.ofNat k)
theorem bkN_len (k : Nat) : (bkN k).length = 256 := by
  induction k with
  | zero => exact List.length_replicate
  | succ k ih => unfold bkN; rw [List.length_set, ih]
theorem bkN_at (k : Nat) (hk : k ≤ 256) : ∀ j, j < k → (bkN k).getD (sbox (UInt8.ofNat j)).toNat 0 = UInt8.ofNat j := by
  induction k with
  | zero => intro j hj; omega
  | succ k ih =>
    intro j hj
    unfold bkN
    have hl := bkN_len k
    have h1 := (sbox (UInt8.ofNat k)).toNat_lt
    by_cases e : j = k
    · subst e
      simp [List.getD, hl, h1]
    · have hne : (sbox (UInt8.ofNat k)).toNat ≠ (sbox (UInt8.ofNat j)).toNat := fun h => by
        have h2 := sbox_inj (UInt8.toNat_inj.1 h)
        have h3 : (UInt8.ofNat k).toNat = (UInt8.ofNat j).toNat := by rw [h2]
        simp at h3
        omega
      rw [List.getD, List.getElem?_set_ne hne]
      exact ih (by omega) j (by omega)
theorem bk_all (x : UInt8) : (bkN 256).getD x.toNat 0 = sinv x := by
  have h := bkN_at 256 (by omega) (sinv x).toNat (sinv x).toNat_lt
  rw [UInt8.ofNat_toNat, (box_at x).2] at h
  exact h
/-- Rows shifted back, through the box's way back: the first n cells taken. -/
def hsN (x : List UInt8) : Nat → List UInt8
  | 0 => z16
  | n + 1 => (hsN x n).set (4 * ((n / 4 + n % 4) % 4) + n % 4) (sinv (x.getD n 0))
theorem hsN_len (x : List UInt8) (n : Nat) : (hsN x n).length = 16 := by
  induction n with
  | zero => rfl
  | succ n ih => unfold hsN; rw [List.length_set, ih]
theorem hsN_all {x : List UInt8} (h : x.length = 16) : hsN x 16 = (hs16 x).map sinv := by
  obtain ⟨a0, a1, a2, a3, a4, a5, a6, a7, a8, a9, a10, a11, a12, a13, a14, a15, rfl⟩ := len16 h
  rfl
/-- The block at the head of the reference's round, d rounds done. -/
def bAt (rk : List UInt8) (R : Nat) (s : List UInt8) (d : Nat) : List UInt8 :=
  if 0 < d ∧ d < R then mixTo 3 4 (addK rk (R - d) (decTo rk R s d)) else addK rk (R - d) (decTo rk R s d)
theorem bAt_len (rk : List UInt8) (R : Nat) (s : List UInt8) (d : Nat) (h : 16 * R + 16 ≤ rk.length) (hs : s.length = 16) : (bAt rk R s d).length = 16 := by
  have ha := addK_len rk (R - d) _ (by omega) (decTo_len rk R s d h hs)
  unfold bAt
  split
  · exact mixTo_len _ _ _ (by omega) ha
  · exact ha
theorem bAt_next (rk : List UInt8) (R : Nat) (s : List UInt8) (d : Nat) (hd : d < R) : (hs16 (bAt rk R s d)).map sinv = decTo rk R s (d + 1) := by
  show _ = decStep rk R d (decTo rk R s d)
  unfold bAt decStep
  by_cases h : 0 < d
  · rw [if_pos ⟨h, hd⟩, if_pos h]
  · rw [if_neg (fun hh => h hh.1), if_neg h]
/-- What the walk of Decrypt holds. -/
structure ED (w wr : World) (g : Nat) (T rk x K : List UInt8) (ex : List Value) : Prop where
  hE : ES w wr g T rk x ex
  hK : Blk wr (w.heap.size + 3) (bys K) tA256
  h4 : w.heap.size + 4 ≤ wr.heap.size
theorem ED.below {w wr w' : World} {g : Nat} {T rk x K : List UInt8} {ex : List Value} (h : ED w wr g T rk x K ex) (hB : Below wr.heap.size wr w') : ED w w' g T rk x K ex :=
  ⟨h.hE.below hB, h.hK.below hB h.hK.lt, Nat.le_trans h.h4 hB.size⟩
theorem ED.drew {w wr : World} {g : Nat} {T rk x K : List UInt8} {ex : List Value} (h : ED w wr g T rk x K ex) : ED w wr.drew g T rk x K ex := h.below ((Below.refl _ _).drew)
theorem ED.chg {w wr w' : World} {g b : Nat} {T rk x K : List UInt8} {ex : List Value} (h : ED w wr g T rk x K ex) (hc : Chg wr.heap.size [b] wr w') (hb : w.heap.size + 4 ≤ b) : ED w w' g T rk x K ex :=
  ⟨h.hE.chg hc (by omega), h.hK.chg hc h.hK.lt (by simp; omega), Nat.le_trans h.h4 hc.size⟩
theorem ED.put {w wr : World} {g : Nat} {T rk x y K : List UInt8} {ex : List Value} (h : ED w wr g T rk x K ex) (hy : y.length = x.length) : ED w (wr.setCells (w.heap.size + 1) 0 (bys y)) g T rk y K ex := by
  obtain ⟨_, hc⟩ := store16 h.hE.h1 hy
  exact ⟨h.hE.put hy, h.hK.chg hc h.hK.lt (by simp), Nat.le_trans h.h4 hc.size⟩

set_option maxRecDepth 100000 in
set_option maxHeartbeats 4000000 in
theorem refdec_any (w : World) (g nr cap R : Nat) (rk s : List UInt8) (ex : List Value) (hk : Blk w g (bys rk ++ ex) tA16) (hrk : rk.length = 16 * nr) (hnr : nr = R + 1) (hR1 : 1 ≤ R) (hR14 : R ≤ 14) (hs : s.length = 16) :
    Calls Try.prog 45 #[.agg (bys (tbl 256)).toArray, .slice (some ⟨g, 0, none⟩) nr cap, .agg (bys s).toArray] w fun e w' => e = .returned (.agg (bys (dec rk s)).toArray) ∧ Below w.heap.size w w' := by
  obtain ⟨T, hT⟩ : ∃ T, tbl 256 = T := ⟨_, rfl⟩
  have hTl : T.length = 256 := by rw [← hT]; exact tbl_len 256 (by omega)
  have hTa : ∀ x : UInt8, T.getD x.toNat 0 = sbox x := by rw [← hT]; exact tbl_at
  rw [hT]
  clear hT
  have hdec : dec rk s = bAt rk R s R := by
    have hR : roundsOf rk = R := by unfold roundsOf; omega
    unfold dec bAt; rw [hR, if_neg (by omega), Nat.sub_self]
  have hgl := hk.lt
  obtain ⟨w2, hw2⟩ : ∃ w2, (((w.alloc (.cells (bys T).toArray tA256)).alloc (.cells (bys s).toArray tA16)).alloc (.cells (bys z16).toArray tA16)).alloc (.cells (bys (bkN 0)).toArray tA256) = w2 := ⟨_, rfl⟩
  have h0 : Blk w2 w.heap.size (bys T) tA256 := by rw [← hw2]; exact (((Blk.new w (bys T) tA256).alloc _).alloc _).alloc _
  have h1 : Blk w2 (w.heap.size + 1) (bys s) tA16 := by
    rw [← hw2]
    have := ((Blk.new (w.alloc (.cells (bys T).toArray tA256)) (bys s) tA16).alloc (.cells (bys z16).toArray tA16)).alloc (.cells (bys (bkN 0)).toArray tA256)
    simpa using this
  have h2 : Blk w2 (w.heap.size + 2) (bys z16) tA16 := by
    rw [← hw2]
    have := (Blk.new ((w.alloc (.cells (bys T).toArray tA256)).alloc (.cells (bys s).toArray tA16)) (bys z16) tA16).alloc (.cells (bys (bkN 0)).toArray tA256)
    simpa using this
  have h3 : Blk w2 (w.heap.size + 3) (bys (bkN 0)) tA256 := by
    rw [← hw2]
    have := Blk.new (((w.alloc (.cells (bys T).toArray tA256)).alloc (.cells (bys s).toArray tA16)).alloc (.cells (bys z16).toArray tA16)) (bys (bkN 0)) tA256
    simpa using this
  have hB : Below w.heap.size w w2 := by rw [← hw2]; exact ((((Below.refl _ _).alloc (Nat.le_refl _) _).alloc (by simp) _).alloc (by simp; omega) _).alloc (by simp; omega) _
  have hE : ED w w2 g T rk s (bkN 0) ex := ⟨⟨h0, h1, h2, hk.below hB hgl, hB, hgl, by rw [← hw2]; simp⟩, h3, by rw [← hw2]; simp⟩
  have Hs := hid hs
  have Hrk := hid hrk
  have HTl := hid hTl
  have HTa := hid hTa
  have Hdec := hid hdec
  have Hnr := hid hnr
  have zc : Try.zeroCells61 = (bys (bkN 0)).toArray := by kernel_rfl
  have Zc := hid zc
  clear hs hrk hTl hTa hdec h0 h1 h2 h3 hB zc hk hgl
  go_enter Try.func45, Try.ntmps45
  go_upto_region 2 with fail
  rw [Zc.out]
  change Code.wp _ _ _ _ ((((w.alloc (.cells (bys T).toArray tA256)).alloc (.cells (bys s).toArray tA16)).alloc (.cells (bys z16).toArray tA16)).alloc (.cells (bys (bkN 0)).toArray tA256))
  rw [hw2]
  clear hw2 hnr
  go_wp2_with fail
  go_loopw [8] (fun i wr => ∃ k : Nat, k ≤ 256 ∧ i = .int .i64 k ∧ ED w wr g T rk s (bkN k) ex) (fun i _ => 256 - (intOf i).toNat)
  case atStart => exact ⟨0, by omega, rfl, hE⟩
  case round =>
    clear hE
    obtain ⟨k, hk, rfl, hE⟩ := hrel
    by_cases hkl : k < 256
    · have hct := hE.hE.h0.cellAt (bys_get T k (by rw [HTl.out]; exact hkl))
      have hTk := HTa.out (UInt8.ofNat k)
      have hkk : (UInt8.ofNat k).toNat = k := by simp; omega
      rw [hkk] at hTk
      rw [hTk] at hct
      have hbk := hid (show bkN (k + 1) = (bkN k).set (sbox (UInt8.ofNat k)).toNat (UInt8.ofNat k) from rfl)
      have hkb : bv (UInt8.ofNat k) = (k : Int) := bv_lit k hkl
      have hkb := hid hkb
      clear hTk hkk
      generalize sbox (UInt8.ofNat k) = y at *
      have hbl := bkN_len k
      have y0 := bv_lo y
      have y1 := bv_hi y
      have hcb := hE.hK.cellAt (bys_get (bkN k) (bv y).toNat (by rw [hbl]; omega))
      have hfb := hE.hK.frozen (bv y).toNat
      have HE := hid hE
      clear hE hbl
      go_wp2_with fail
      go_roundw
      case rel =>
        refine ⟨k + 1, by omega, by go_num, ?_⟩
        have hE := HE.out
        have hc := (Chg.refl wr.heap.size [w.heap.size + 3] wr).setCell (p := ⟨w.heap.size + 3, (bv y).toNat, none⟩) (.inl (by simp)) (.int .u8 (k : Int))
        have hK := hE.hK.set (bv y).toNat (.int .u8 (bv (UInt8.ofNat k)))
        rw [bys_set, bv_toNat, ← hbk.out, hkb.out] at hK
        rw [← bv_toNat] at hK
        exact ⟨hE.hE.chg hc (Nat.le_refl _), hK, Nat.le_trans hE.h4 hc.size⟩
      case measure => simp [intOf]; omega
    · obtain rfl : k = 256 := by omega
      have hKl := bkN_len 256
      have hKa : ∀ x : UInt8, (bkN 256).getD x.toNat 0 = sinv x := bk_all
      generalize bkN 256 = K at *
      have HKl := hid hKl
      have HKa := hid hKa
      have hnr1 : (nr : Int) - 1 = (R : Int) := by have := Hnr.out; omega
      have hnr2 : (nr : Int) - 2 = (R : Int) - 1 := by have := Hnr.out; omega
      have hRn : R < nr := by have := Hnr.out; omega
      have hwR : IntKind.i64.wrap (R : Int) = (R : Int) := by rw [IntKind.wrap_i64]; omega
      clear hKl hKa hk hkl
      obtain ⟨q, hq⟩ : ∃ q, List.zipWith (· ^^^ ·) s ((rk.drop (R * 16)).take 16) = q := ⟨_, rfl⟩
      have hkl := hid (show ((rk.drop (R * 16)).take 16).length = 16 by simp; have := Hrk.out; have := Hnr.out; omega)
      have hqk : bAt rk R s 0 = q := by
        unfold bAt; rw [if_neg (by omega), Nat.sub_zero, show decTo rk R s 0 = s from rfl, addK_zip rk _ R Hs.out, Nat.mul_comm 16 R]; exact hq
      have hql : q.length = 16 := by rw [← hqk]; exact bAt_len rk R s 0 (by have := Hrk.out; have := Hnr.out; omega) Hs.out
      have hrm := hE.hE.hk.range16 (R * 16) (by have := Hrk.out; have := Hnr.out; omega)
      have Hq := hid hq
      have Hqk := hid hqk
      clear hq hqk
      go_wp2_with fail
      refine still_tail' 7 (by kernel_rfl) (by kernel_rfl) ?_
      simp only [List.take_succ_cons, List.take_zero]
      refine still_load_mid rfl 23 (.tmp 5) rfl (w.heap.size + 1) 0 rfl (bys s) _ hE.hE.h1.drew.whole under54 rfl (by rw [size54, bys_length, Hs.out]) ?_
      repeat (refine wpStill_step (fun K hK => ?_); go_simp; refine hK _ ?_; clear hK K)
      refine still_load_mid rfl 23 (.tmp 28) rfl g (R * 16) rfl (bys ((rk.drop (R * 16)).take 16)) _ hrm under54 rfl (by rw [size54, bys_length, hkl.out]) ?_
      refine wpStill_nil ?_
      go_wp2_with fail
      refine (plus_any _ s _ Hs.out hkl.out).mono ?_
      rintro e w3 ⟨rfl, hB3⟩
      rw [Hq.out]
      have hE3 := hE.drew.below hB3
      clear hB3 hE hrm
      have hsl := Hs.out
      go_wp2_with (refine wpList_store_mid rfl 23 (.tmp 5) (.tmp 30) rfl (w.heap.size + 1) 0 (bys q).toArray rfl rfl (hE3.hE.h1.there 0 _ (by rw [List.size_toArray, bys_length, bys_length, hql, hsl]; decide)) (by rw [size54, List.size_toArray, bys_length, hql]) (all_oneCell_toArray (bys_one _)) ?_)
      have hE4 := hE3.put (y := q) (by rw [hql, hsl])
      generalize w3.setCells (w.heap.size + 1) 0 (bys q) = w4 at *
      rw [← Hqk.out] at hE4
      clear hE3 hsl Hqk hql Hq hkl
      go_loopw [9, 10, 11, 12] (fun i _ _ _ wr => ∃ d e : Nat, d + e = R ∧ i = .int .i64 ((e : Int) - 1) ∧ ED w wr g T rk (bAt rk R s d) K ex) (fun i _ _ _ _ => ((intOf i) + 1).toNat)
      case atStart => exact ⟨0, R, by omega, rfl, hE4⟩
      case round =>
        clear hE4
        obtain ⟨d, e, hde, rfl, hE⟩ := hrel
        have hl := bAt_len rk R s d (by have := Hrk.out; have := Hnr.out; omega) Hs.out
        cases e with
        | zero =>
          obtain rfl : d = R := by omega
          rw [← Hdec.out] at hE hl
          have HR2 := hid hE.hE.hB
          have hsz := hE.hE.hs
          have hN := hE.hE.h1
          have hM := hE.hE.h2
          have Hl := hid hl
          clear hl hE hde
          go_wp2_with (first | (refine wpList_load_mid rfl 23 (.tmp 5) rfl (w.heap.size + 1) 0 rfl (bys (dec rk s)) _ hN.whole under54 rfl (by rw [size54, bys_length, Hl.out]) ?_) | (refine wpList_store_mid rfl 23 (.tmp 6) (.tmp 73) rfl (w.heap.size + 2) 0 (bys (dec rk s)).toArray rfl rfl (hM.there 0 _ (by rw [List.size_toArray, bys_length, bys_length, Hl.out]; decide)) (by rw [size54, List.size_toArray, bys_length, Hl.out]) (all_oneCell_toArray (bys_one _)) ?_))
          obtain ⟨hMs, _⟩ := store16 hM (new := dec rk s) (by rw [Hl.out]; rfl)
          refine bodyPost_ret (v := .agg (bys (dec rk s)).toArray) (results_cell_row (P := Try.prog) (p := 6) (ty := 23) rfl _ _ (w.heap.size + 2) tA16 _ (0, 0) _ rfl hMs under54 rfl (by rw [size54, List.size_toArray, bys_length, Hl.out])) rfl ⟨rfl, ?_⟩
          exact HR2.out.trans (((Chg.refl (w.heap.size) [] wr).setCells (.inr (by omega)) _ _).below (Nat.le_refl _) (by simp))
        | succ m =>
          have hdR : d < R := by omega
          have hnx := bAt_next rk R s d hdR
          have HXa := hid (show 0 < m → bAt rk R s (d + 1) = mixTo 3 4 (addK rk m ((hs16 (bAt rk R s d)).map sinv)) from fun h => by
            rw [hnx]
            show (if 0 < d + 1 ∧ d + 1 < R then mixTo 3 4 (addK rk (R - (d + 1)) (decTo rk R s (d + 1))) else addK rk (R - (d + 1)) (decTo rk R s (d + 1))) = _
            rw [if_pos ⟨by omega, by omega⟩, show R - (d + 1) = m by omega])
          have HXb := hid (show ¬ 0 < m → bAt rk R s (d + 1) = addK rk m ((hs16 (bAt rk R s d)).map sinv) from fun h => by
            rw [hnx]
            show (if 0 < d + 1 ∧ d + 1 < R then mixTo 3 4 (addK rk (R - (d + 1)) (decTo rk R s (d + 1))) else addK rk (R - (d + 1)) (decTo rk R s (d + 1))) = _
            rw [if_neg (by omega), show R - (d + 1) = m by omega])
          have hmm : ((m + 1 : Nat) : Int) - 1 = (m : Int) := by omega
          rw [hmm]
          have hm0 : 0 ≤ (m : Int) := by omega
          have hmn : m < nr := by omega
          have Hde := hid (show (d + 1) + m = R by omega)
          clear hnx hmm hde hdR
          generalize bAt rk R s d = x at hE hl HXa HXb
          have hE0 := hE.below ((Below.refl _ _).alloc (Nat.le_refl _) (.cells (bys z16).toArray tA16))
          have hS0 := Blk.new wr (bys z16) tA16
          have hsb := hE.h4
          obtain ⟨sb, hsbe⟩ : ∃ sb, wr.heap.size = sb := ⟨_, rfl⟩
          rw [hsbe] at hS0 hsb
          go_wp2_with fail
          go_loopw [11, 12] (fun i _ wr => ∃ c : Nat, c ≤ 4 ∧ i = .int .i64 c ∧ ED w wr g T rk x K ex ∧ Blk wr sb (bys (hsN x (4 * c))) tA16) (fun i _ _ => 4 - (intOf i).toNat)
          case atStart => exact ⟨0, by omega, rfl, hE0, hS0⟩
          case round =>
            clear hE hE0 hS0
            obtain ⟨c, hc, rfl, hE, hS⟩ := hrel
            by_cases hcl : c < 4
            · have hdc : decide ((c : Int) < 4) = true := decide_eq_true (by omega)
              go_wp2_with fail
              go_loopw [12] (fun i wr => ∃ d : Nat, d ≤ 4 ∧ i = .int .i64 d ∧ ED w wr g T rk x K ex ∧ Blk wr sb (bys (hsN x (4 * c + d))) tA16) (fun i _ => 4 - (intOf i).toNat)
              case atStart => exact ⟨0, by omega, rfl, hE, hS⟩
              case round =>
                clear hE hS
                obtain ⟨d, hd, rfl, hE, hS⟩ := hrel
                by_cases hdl : d < 4
                · obtain ⟨n, hn⟩ : ∃ n, 4 * c + d = n := ⟨_, rfl⟩
                  obtain ⟨u, hu⟩ : ∃ u, c + d = u := ⟨_, rfl⟩
                  obtain ⟨e, he⟩ : ∃ e, u % 4 = e := ⟨_, rfl⟩
                  obtain ⟨j, hj⟩ : ∃ j, 4 * e + d = j := ⟨_, rfl⟩
                  have q1 : (c : Int) + (d : Int) = (u : Int) := by omega
                  have q2 : (u : Int).tmod 4 = (e : Int) := by rw [Int.tmod_eq_emod_of_nonneg (by omega)]; omega
                  have q2' : (u : Int) % 4 = (e : Int) := by omega
                  have q3 : e < 4 := by omega
                  have q4 : 4 * (e : Int) + (d : Int) = (j : Int) := by omega
                  have q5 : 4 * (c : Int) + (d : Int) = (n : Int) := by omega
                  have q6 : n < 16 := by omega
                  have q7 : j < 16 := by omega
                  have q8 : (n : Int) < 16 := by omega
                  have q9 : (j : Int) < 16 := by omega
                  have hss := hid (show hsN x (n + 1) = (hsN x n).set j (sinv (x.getD n 0)) by
                    have h1 : n / 4 = c := by omega
                    have h2 : n % 4 = d := by omega
                    show (hsN x n).set (4 * ((n / 4 + n % 4) % 4) + n % 4) (sinv (x.getD n 0)) = _
                    rw [h1, h2, hu, he, hj])
                  rw [hn] at hS
                  have hlen := hsN_len x n
                  have hcs := hS.cellAt (bys_get _ j (by rw [hlen]; exact q7))
                  have hfs := hS.frozen j
                  have hcb := hE.hE.h1.cellAt (bys_get x n (by rw [hl]; exact q6))
                  have HS := hid hS
                  have Hn := hid hn
                  clear hS hlen hu he hj hn
                  generalize x.getD n 0 = y at *
                  have hct := hE.hK.cellAt (bys_get K (bv y).toNat (by rw [HKl.out]; have := bv_hi y; have := bv_lo y; omega))
                  rw [show K.getD (bv y).toNat 0 = sinv y by rw [bv_toNat]; exact HKa.out y] at hct
                  have y0 := bv_lo y
                  have y1 := bv_hi y
                  go_wp2_with fail
                  go_roundw
                  case rel =>
                    refine ⟨d + 1, by omega, by go_num, hE.chg ((Chg.refl wr.heap.size [sb] wr).setCell (.inl (by simp)) _) hsb, ?_⟩
                    have := HS.out.set j (.int .u8 (bv (sinv y)))
                    rw [bys_set, ← hss.out] at this
                    rw [show 4 * c + (d + 1) = n + 1 by have := Hn.out; omega]
                    exact this
                  case measure => simp [intOf]; omega
                · obtain rfl : d = 4 := by omega
                  go_wp2_with fail
                  go_roundw
                  case rel => exact ⟨c + 1, by omega, by go_num, hE, by rw [show 4 * (c + 1) = 4 * c + 4 by omega]; exact hS⟩
                  case measure => simp [intOf]; omega
            · obtain rfl : c = 4 := by omega
              rw [show 4 * 4 = 16 from rfl, hsN_all hl] at hS
              generalize hy : (hs16 x).map sinv = y at *
              have hyl : y.length = 16 := by rw [← hy, List.length_map]; exact hs16_len hl
              clear hy
              obtain ⟨q, hq⟩ : ∃ q, List.zipWith (· ^^^ ·) y ((rk.drop (m * 16)).take 16) = q := ⟨_, rfl⟩
              have hkl := hid (show ((rk.drop (m * 16)).take 16).length = 16 by simp; have := Hrk.out; omega)
              have hqk : addK rk m y = q := by rw [addK_zip rk _ m hyl, Nat.mul_comm 16 m]; exact hq
              have hql : q.length = 16 := by rw [← hqk]; exact addK_len rk m y (by have := Hrk.out; omega) hyl
              rw [hqk] at HXa HXb
              have hrm := hE.hE.hk.range16 (m * 16) (by have := Hrk.out; omega)
              have Hq := hid hq
              clear hq hqk
              go_wp2_with fail
              refine still_tail' 5 (by kernel_rfl) (by kernel_rfl) ?_
              simp only [List.take_succ_cons, List.take_zero]
              refine still_load_mid rfl 23 (.tmp 10) rfl sb 0 rfl (bys y) _ hS.drew.whole under54 rfl (by rw [size54, bys_length, hyl]) ?_
              repeat (refine wpStill_step (fun K hK => ?_); go_simp; refine hK _ ?_; clear hK K)
              refine still_load_mid rfl 23 (.tmp 65) rfl g (m * 16) rfl (bys ((rk.drop (m * 16)).take 16)) _ hrm under54 rfl (by rw [size54, bys_length, hkl.out]) ?_
              refine wpStill_nil ?_
              go_wp2_with fail
              refine (plus_any _ y _ hyl hkl.out).mono ?_
              rintro e w6 ⟨rfl, hB6⟩
              rw [Hq.out]
              have hE6 := hE.drew.below hB6
              clear hB6 hE hrm hS
              have hE7 := hE6.put (y := q) (by rw [hql, hl])
              have hxx : (mixTo 3 4 q).length = 16 := mixTo_len _ _ _ (by omega) hql
              by_cases hm1 : 0 < m
              · have HX := hid (HXa.out hm1)
                clear HXa HXb
                have hm2 : (0 : Int) < (m : Int) := by omega
                go_wp2_with (first | (refine wpList_store_mid rfl 23 (.tmp 5) (.tmp 67) rfl (w.heap.size + 1) 0 (bys q).toArray rfl rfl (hE6.hE.h1.there 0 _ (by rw [List.size_toArray, bys_length, bys_length, hql, hl]; decide)) (by rw [size54, List.size_toArray, bys_length, hql]) (all_oneCell_toArray (bys_one _)) ?_) | (refine wpList_load_mid rfl 23 (.tmp 5) rfl (w.heap.size + 1) 0 rfl (bys q) _ hE7.hE.h1.whole under54 rfl (by rw [size54, bys_length, hql]) ?_))
                refine (columns_any _ q [14, 11, 13, 9] hql rfl).mono ?_
                rintro e w8 ⟨rfl, hB8⟩
                rw [col_14 hql]
                have hE8 := hE7.below hB8
                clear hB8 hE7 hE6
                go_wp2_with (refine wpList_store_mid rfl 23 (.tmp 5) (.tmp 72) rfl (w.heap.size + 1) 0 (bys (mixTo 3 4 q)).toArray rfl rfl (hE8.hE.h1.there 0 _ (by rw [List.size_toArray, bys_length, bys_length, hxx, hql]; decide)) (by rw [size54, List.size_toArray, bys_length, hxx]) (all_oneCell_toArray (bys_one _)) ?_)
                have hE9 := hE8.put (y := mixTo 3 4 q) (by rw [hxx, hql])
                go_roundw
                case rel => exact ⟨d + 1, m, Hde.out, by go_num, by rw [HX.out]; exact hE9⟩
                case measure => simp [intOf]
              · have HX := hid (HXb.out hm1)
                clear HXa HXb
                have hm2 : ¬ ((0 : Int) < (m : Int)) := by omega
                go_wp2_with (refine wpList_store_mid rfl 23 (.tmp 5) (.tmp 67) rfl (w.heap.size + 1) 0 (bys q).toArray rfl rfl (hE6.hE.h1.there 0 _ (by rw [List.size_toArray, bys_length, bys_length, hql, hl]; decide)) (by rw [size54, List.size_toArray, bys_length, hql]) (all_oneCell_toArray (bys_one _)) ?_)
                go_roundw
                case rel => exact ⟨d + 1, m, Hde.out, by go_num, by rw [HX.out]; exact hE7⟩
                case measure => simp [intOf]
end Go.Proofs.Ytlgeebnmonmdaaa
