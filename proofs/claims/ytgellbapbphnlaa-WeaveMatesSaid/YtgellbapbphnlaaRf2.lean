/- the reference of aes: columns -/
import Derived.Test.YtgellbapbphnlaaRf1
namespace Go.Proofs.Ytgellbapbphnlaa
open Go.RowKit

/-- The first k terms of a cell's sum. -/
def colA (m b : List UInt8) (c r : Nat) : Nat → UInt8
  | 0 => 0
  | k + 1 => colA m b c r k ^^^ mulF (m.getD ((k + 4 - r) % 4) 0) (b.getD (4 * c + k) 0)
/-- The first n cells. -/
def colN (m b : List UInt8) (n : Nat) : List UInt8 := (List.range n).map (fun i => colA m b (i / 4) (i % 4) 4) ++ List.replicate (16 - n) 0
def colF (m b : List UInt8) : List UInt8 := (List.range 16).map (fun i => colA m b (i / 4) (i % 4) 4)
theorem colN_len (m b : List UInt8) (n : Nat) (h : n ≤ 16) : (colN m b n).length = 16 := by simp [colN]; omega
theorem colN_all (m b : List UInt8) : colN m b 16 = colF m b := by simp [colN, colF]
theorem colN_at (m b : List UInt8) (n : Nat) (h : n < 16) : (colN m b n).getD n 0 = 0 := by
  unfold colN
  rw [List.getD, List.getElem?_append_right (by simp)]
  simp [show 0 < 16 - n by omega]
theorem colN_set0 (m b : List UInt8) (n : Nat) (h : n < 16) : (colN m b n).set n 0 = colN m b n := by
  refine List.ext_getElem? fun k => ?_
  rw [List.getElem?_set]
  split
  · rename_i e; subst e
    rw [if_pos (by rw [colN_len _ _ _ (by omega)]; exact h)]
    have := colN_at m b n h
    rw [List.getD, List.getElem?_eq_getElem (by rw [colN_len _ _ _ (by omega)]; exact h)] at this
    rw [List.getElem?_eq_getElem (by rw [colN_len _ _ _ (by omega)]; exact h)]
    simpa using this.symm
  · rfl
theorem colN_succ (m b : List UInt8) (c r : Nat) (hc : c < 4) (hr : r < 4) : (colN m b (4 * c + r)).set (4 * c + r) (colA m b c r 4) = colN m b (4 * c + r + 1) := by
  unfold colN
  have e : List.replicate (16 - (4 * c + r)) (0 : UInt8) = 0 :: List.replicate (16 - (4 * c + r + 1)) 0 := by
    rw [← List.replicate_succ]; congr 1; omega
  rw [e, List.set_append_right _ _ (by simp)]
  have h1 : (4 * c + r) / 4 = c := by omega
  have h2 : (4 * c + r) % 4 = r := by omega
  simp [List.range_succ, h1, h2]

set_option maxRecDepth 100000 in
set_option maxHeartbeats 2000000 in
theorem columns_any (w : World) (b m : List UInt8) (hb : b.length = 16) (hm : m.length = 4) :
    Calls Try.prog 82 #[.agg (bys b).toArray, .agg (bys m).toArray] w fun e w' => e = .returned (.agg (bys (colF m b)).toArray) ∧ Below w.heap.size w w' := by
  obtain ⟨w2, hw2⟩ : ∃ w2, (((w.alloc (.cells (bys b).toArray tA16)).alloc (.cells (bys m).toArray tA4)).alloc (.cells (bys z16).toArray tA16)).alloc (.cells (bys z16).toArray tA16) = w2 := ⟨_, rfl⟩
  have h0 : Blk w2 w.heap.size (bys b) tA16 := by rw [← hw2]; exact (((Blk.new w (bys b) tA16).alloc _).alloc _).alloc _
  have h1 : Blk w2 (w.heap.size + 1) (bys m) tA4 := by
    rw [← hw2]
    have := ((Blk.new (w.alloc (.cells (bys b).toArray tA16)) (bys m) tA4).alloc (.cells (bys z16).toArray tA16)).alloc (.cells (bys z16).toArray tA16)
    simpa using this
  have h2 : Blk w2 (w.heap.size + 2) (bys z16) tA16 := by
    rw [← hw2]
    have := (Blk.new ((w.alloc (.cells (bys b).toArray tA16)).alloc (.cells (bys m).toArray tA4)) (bys z16) tA16).alloc (.cells (bys z16).toArray tA16)
    simpa using this
  have h3 : Blk w2 (w.heap.size + 3) (bys (colN m b 0)) tA16 := by
    rw [← hw2]
    have := Blk.new (((w.alloc (.cells (bys b).toArray tA16)).alloc (.cells (bys m).toArray tA4)).alloc (.cells (bys z16).toArray tA16)) (bys z16) tA16
    have e : colN m b 0 = z16 := by simp [colN, z16]
    rw [e]; simpa using this
  have hB : Below w.heap.size w w2 := by rw [← hw2]; exact ((((Below.refl _ _).alloc (Nat.le_refl _) _).alloc (by simp) _).alloc (by simp; omega) _).alloc (by simp; omega) _
  have Hb := hid hb
  have Hm := hid hm
  clear hb hm
  go_enter Try.func82, Try.ntmps82
  go_upto_region 2 with fail
  change Code.wp _ _ _ _ ((((w.alloc (.cells (bys b).toArray tA16)).alloc (.cells (bys m).toArray tA4)).alloc (.cells (bys z16).toArray tA16)).alloc (.cells (bys z16).toArray tA16))
  rw [hw2]
  clear hw2
  go_wp2_with fail
  go_loopw [6, 7, 8] (fun i _ _ wr => ∃ c : Nat, c ≤ 4 ∧ i = .int .i64 c ∧ Blk wr w.heap.size (bys b) tA16 ∧ Blk wr (w.heap.size + 1) (bys m) tA4 ∧ Blk wr (w.heap.size + 2) (bys z16) tA16 ∧ Blk wr (w.heap.size + 3) (bys (colN m b (4 * c))) tA16 ∧ Below w.heap.size w wr) (fun i _ _ _ => 4 - (intOf i).toNat)
  case atStart => exact ⟨0, by omega, rfl, h0, h1, h2, h3, hB⟩
  case round =>
    obtain ⟨c, hc, rfl, h0, h1, h2, h3, hB⟩ := hrel
    by_cases hlt : c < 4
    · have hdc : decide ((c : Int) < 4) = true := decide_eq_true (by omega)
      go_wp2_with fail
      go_loopw [7, 8] (fun i _ wr => ∃ r : Nat, r ≤ 4 ∧ i = .int .i64 r ∧ Blk wr w.heap.size (bys b) tA16 ∧ Blk wr (w.heap.size + 1) (bys m) tA4 ∧ Blk wr (w.heap.size + 2) (bys z16) tA16 ∧ Blk wr (w.heap.size + 3) (bys (colN m b (4 * c + r))) tA16 ∧ Below w.heap.size w wr) (fun i _ _ => 4 - (intOf i).toNat)
      case atStart => exact ⟨0, by omega, rfl, h0, h1, h2, h3, hB⟩
      case round =>
        clear h0 h1 h2 h3 hB
        obtain ⟨r, hr, rfl, h0, h1, h2, h3, hB⟩ := hrel
        by_cases hrl : r < 4
        · have hdr : decide ((r : Int) < 4) = true := decide_eq_true (by omega)
          go_wp2_with fail
          go_loopw [8] (fun i wr => ∃ k : Nat, k ≤ 4 ∧ i = .int .i64 k ∧ Blk wr w.heap.size (bys b) tA16 ∧ Blk wr (w.heap.size + 1) (bys m) tA4 ∧ Blk wr (w.heap.size + 2) (bys z16) tA16 ∧ Blk wr (w.heap.size + 3) (bys ((colN m b (4 * c + r)).set (4 * c + r) (colA m b c r k))) tA16 ∧ Below w.heap.size w wr) (fun i _ => 4 - (intOf i).toNat)
          case atStart => exact ⟨0, by omega, rfl, h0, h1, h2, by rw [show colA m b c r 0 = 0 from rfl, colN_set0 m b _ (by omega)]; exact h3, hB⟩
          case round =>
            clear h0 h1 h2 h3 hB
            obtain ⟨k, hk, rfl, h0, h1, h2, h3, hB⟩ := hrel
            by_cases hkl : k < 4
            · obtain ⟨n, hn⟩ : ∃ n, 4 * c + r = n := ⟨_, rfl⟩
              obtain ⟨j, hj⟩ : ∃ j, 4 * c + k = j := ⟨_, rfl⟩
              obtain ⟨s, hs⟩ : ∃ s, k + 4 - r = s := ⟨_, rfl⟩
              obtain ⟨e, he⟩ : ∃ e, s % 4 = e := ⟨_, rfl⟩
              have q1 : (k : Int) - (r : Int) + 4 = (s : Int) := by omega
              have q2 : (s : Int).tmod 4 = (e : Int) := by rw [Int.tmod_eq_emod_of_nonneg (by omega)]; omega
              have q2' : (s : Int) % 4 = (e : Int) := by omega
              have q3 : e < 4 := by omega
              have q4 : 4 * (c : Int) + (r : Int) = (n : Int) := by omega
              have q5 : 4 * (c : Int) + (k : Int) = (j : Int) := by omega
              have q6 : n < 16 := by omega
              have q7 : j < 16 := by omega
              have q8 : (n : Int) < 16 := by omega
              have q9 : (j : Int) < 16 := by omega
              have q10 : (e : Int) < 4 := by omega
              have HA := hid (show colA m b c r (k + 1) = colA m b c r k ^^^ mulF (m.getD e 0) (b.getD j 0) by rw [← he, ← hs, ← hj]; rfl)
              rw [hn] at h3
              have hlen := colN_len m b n (by omega)
              have hc3 := h3.cellAt (bys_get _ n (by rw [List.length_set, hlen]; exact q6))
              have hf3 := h3.frozen n
              have hget : ((colN m b n).set n (colA m b c r k)).getD n 0 = colA m b c r k := by simp [List.getD, hlen, q6]
              rw [hget] at hc3
              have hcm := h1.cellAt (bys_get m e (by rw [Hm.out]; exact q3))
              have hcb := h0.cellAt (bys_get b j (by rw [Hb.out]; exact q7))
              have Hn := hid hn
              have H3 := hid h3
              clear hget hlen he hs hj hn h3
              generalize m.getD e 0 = x at *
              generalize b.getD j 0 = y at *
              generalize colA m b c r k = a at *
              go_wp2_with fail
              refine still_tail' 26 (by kernel_rfl) (by kernel_rfl) ?_
              simp only [List.take_succ_cons, List.take_zero]
              repeat (refine wpStill_step (fun K hK => ?_); go_simp; (try go_bits); refine hK _ ?_; clear hK K)
              refine wpStill_step (fun K hK => ?_)
              go_simp
              refine ⟨_, still_of (mul_any _ x y), hK _ ?_⟩
              clear hK K
              repeat (refine wpStill_step (fun K hK => ?_); go_simp; (try go_bits); refine hK _ ?_; clear hK K)
              refine wpStill_nil ?_
              go_wp2_with fail
              go_roundw
              case rel =>
                have hfin : Blk (wr.setCell ⟨w.heap.size + 3, n, none⟩ (.int .u8 (bv (a ^^^ mulF x y)))).drew (w.heap.size + 3) (bys ((colN m b (4 * c + r)).set (4 * c + r) (colA m b c r (k + 1)))) tA16 := by
                  rw [HA.out, Hn.out]
                  have := (H3.out.set n (.int .u8 (bv (a ^^^ mulF x y)))).drew
                  rw [bys_set, List.set_set] at this
                  exact this
                exact ⟨k + 1, by omega, by go_num, (h0.setNe (by dsimp only; omega) _).drew, (h1.setNe (by dsimp only; omega) _).drew, (h2.setNe (by dsimp only; omega) _).drew, hfin, (hB.setCell (by dsimp only; omega) _).drew⟩
              case measure => simp [intOf]; omega
            · obtain rfl : k = 4 := by omega
              rw [colN_succ m b c r hlt hrl] at h3
              go_wp2_with fail
              go_roundw
              case rel => exact ⟨r + 1, by omega, by go_num, h0, h1, h2, h3, hB⟩
              case measure => simp [intOf]; omega
        · obtain rfl : r = 4 := by omega
          go_wp2_with fail
          go_roundw
          case rel => exact ⟨c + 1, by omega, by go_num, h0, h1, h2, by rw [show 4 * (c + 1) = 4 * c + 4 by omega]; exact h3, hB⟩
          case measure => simp [intOf]; omega
    · obtain rfl : c = 4 := by omega
      rw [show 4 * 4 = 16 from rfl, colN_all] at h3
      have hl16 := hid (show (colF m b).length = 16 by simp [colF])
      generalize hTe : colF m b = T at *
      have HTe := hid hTe
      clear hTe
      have HR := hid hB
      go_wp2_with (first | (refine wpList_load_mid rfl 36 (.tmp 5) rfl (w.heap.size + 3) 0 rfl (bys T) _ h3.whole under54 rfl (by rw [size54, bys_length, hl16.out]) ?_) | (refine wpList_store_mid rfl 36 (.tmp 4) (.tmp 47) rfl (w.heap.size + 2) 0 (bys T).toArray rfl rfl (h2.there 0 _ (by rw [List.size_toArray, bys_length, bys_length, hl16.out]; decide)) (by rw [size54, List.size_toArray, bys_length, hl16.out]) (all_oneCell_toArray (bys_one _)) ?_))
      have hMs := h2.setCells (bys T) 0 (by rw [bys_length, bys_length, hl16.out]; decide)
      rw [splice_whole _ _ (by rw [bys_length, bys_length, hl16.out]; decide)] at hMs
      refine bodyPost_ret (v := .agg (bys T).toArray) (results_cell_row (P := Try.prog) (p := 4) (ty := 36) rfl _ _ (w.heap.size + 2) tA16 _ (0, 0) _ rfl hMs under54 rfl (by rw [size54, List.size_toArray, bys_length, hl16.out])) rfl ⟨by rw [HTe.out], ?_⟩
      exact HR.out.trans (((Chg.refl (w.heap.size) [] wr).setCells (.inr (by omega)) _ _).below (Nat.le_refl _) (by simp))
end Go.Proofs.Ytgellbapbphnlaa
