/- the reference of aes: Table, plus -/
import Derived.Test.YtgellbapbphnlaaSq
import Derived.Test.YtgellbapbphnlaaAes6
import Derived.Deep.DeepCutAuto
namespace Go.Proofs.Ytgellbapbphnlaa
open Go.RowKit

abbrev tA256 : TypeId := 62
/-- The S-box at the first k bytes, noughts behind. -/
def tbl (k : Nat) : List UInt8 := (List.range k).map (fun i => sbox (UInt8.ofNat i)) ++ List.replicate (256 - k) 0
theorem tbl_len (k : Nat) (h : k ≤ 256) : (tbl k).length = 256 := by simp [tbl]; omega
theorem tbl_succ (k : Nat) (h : k < 256) : (tbl k).set k (sbox (UInt8.ofNat k)) = tbl (k + 1) := by
  unfold tbl
  have e : List.replicate (256 - k) (0 : UInt8) = 0 :: List.replicate (256 - (k + 1)) 0 := by
    rw [← List.replicate_succ]; congr 1; omega
  rw [e, List.set_append_right _ _ (by simp)]
  simp [List.range_succ]
theorem tbl_at (x : UInt8) : (tbl 256).getD x.toNat 0 = sbox x := by
  have := x.toNat_lt
  unfold tbl
  simp [List.getD, this]

theorem under60 : Try.prog.underlying 62 = some (.array 256 5) := by kernel_rfl
theorem size60 : (Try.prog.info? 62).map (·.size) = some 256 := by kernel_rfl
theorem zc60 : Try.zeroCells62 = (bys (tbl 0)).toArray := by kernel_rfl

set_option maxRecDepth 100000 in
set_option maxHeartbeats 1000000 in
theorem table_any (w : World) : Calls Try.prog 32 #[] w fun e w' => e = .returned (.agg (bys (tbl 256)).toArray) ∧ Below w.heap.size w w' := by
  go_enter Try.func32, Try.ntmps32
  go_upto_region 2 with fail
  have h0 : Blk ((w.alloc (.cells (bys (tbl 0)).toArray tA256)).alloc (.cells (bys (tbl 0)).toArray tA256)) w.heap.size (bys (tbl 0)) tA256 := (Blk.new w (bys (tbl 0)) tA256).alloc _
  have h1 : Blk ((w.alloc (.cells (bys (tbl 0)).toArray tA256)).alloc (.cells (bys (tbl 0)).toArray tA256)) (w.heap.size + 1) (bys (tbl 0)) tA256 := by
    have := Blk.new (w.alloc (.cells (bys (tbl 0)).toArray tA256)) (bys (tbl 0)) tA256
    simpa using this
  have hB : Below w.heap.size w ((w.alloc (.cells (bys (tbl 0)).toArray tA256)).alloc (.cells (bys (tbl 0)).toArray tA256)) := ((Below.refl _ _).alloc (Nat.le_refl _) _).alloc (by simp) _
  rw [zc60]
  generalize ((w.alloc (.cells (bys (tbl 0)).toArray tA256)).alloc (.cells (bys (tbl 0)).toArray tA256)) = w2 at *
  go_wp2_with fail
  go_loopw [2] (fun i wr => ∃ k : Nat, k ≤ 256 ∧ i = .int .i64 k ∧ Blk wr w.heap.size (bys (tbl 0)) tA256 ∧ Blk wr (w.heap.size + 1) (bys (tbl k)) tA256 ∧ Below w.heap.size w wr) (fun i _ => 256 - (intOf i).toNat)
  case atStart => exact ⟨0, by omega, rfl, h0, h1, hB⟩
  case round =>
    obtain ⟨k, hk, rfl, hz, hb, hBr⟩ := hrel
    clear h0 h1 hB
    by_cases hlt : k < 256
    · have hs := hid (tbl_succ k hlt)
      have hs2 := hid (sub_eq (UInt8.ofNat k))
      have hkb : bv (UInt8.ofNat k) = (k : Int) := bv_lit k hlt
      have hrs := refsub_any wr (UInt8.ofNat k)
      have hB8 : B (UInt8.ofNat k) = .int .u8 (k : Int) := by show Value.int _ _ = _; rw [hkb]
      rw [hB8] at hrs
      clear hB8
      have hc := hb.cellAt (bys_get (tbl k) k (by rw [tbl_len k hk]; exact hlt))
      have hf := hb.frozen k
      clear hkb
      go_wp2_with fail
      refine hrs.mono ?_
      rintro e w3 ⟨rfl, rfl⟩
      rw [hs2.out]
      go_wp2_with fail
      go_roundw
      case rel =>
        refine ⟨k + 1, by omega, by go_num, hz.setNe (by simp) _, ?_, hBr.setCell (by simp) _⟩
        rw [← hs.out, ← bys_set]; exact hb.set _ _
      case measure => simp [intOf]; omega
    · obtain rfl : k = 256 := by omega
      have hl := hid (tbl_len 256 (by omega))
      have hl0 := hid (tbl_len 0 (by omega))
      generalize hT : tbl 256 = T at *
      generalize tbl 0 = Z at *
      have HT := hid hT
      clear hT
      have HR := hid hBr
      have hsz := hb.lt
      go_wp2_with (first | (refine wpList_load_mid rfl 62 (.tmp 1) rfl (w.heap.size + 1) 0 rfl (bys T) _ hb.whole under60 rfl (by rw [size60, bys_length, hl.out]) ?_) | (refine wpList_store_mid rfl 62 (.tmp 0) (.tmp 12) rfl w.heap.size 0 (bys T).toArray rfl rfl (hz.there 0 _ (by rw [List.size_toArray, bys_length, bys_length, hl.out, hl0.out]; decide)) (by rw [size60, List.size_toArray, bys_length, hl.out]) (all_oneCell_toArray (bys_one _)) ?_))
      have hMs := hz.setCells (bys T) 0 (by rw [bys_length, bys_length, hl.out, hl0.out]; decide)
      rw [splice_whole _ _ (by rw [bys_length, bys_length, hl.out, hl0.out])] at hMs
      refine bodyPost_ret (v := .agg (bys T).toArray) (results_cell_row (P := Try.prog) (p := 0) (ty := 62) rfl _ _ w.heap.size tA256 _ (0, 0) _ rfl hMs under60 rfl (by rw [size60, List.size_toArray, bys_length, hl.out])) rfl ⟨by rw [HT.out], ?_⟩
      exact HR.out.trans (((Chg.refl (w.heap.size) [] wr).setCells (.inr (by omega)) _ _).below (Nat.le_refl _) (by simp))

theorem addTo_all (a k : List UInt8) (ha : a.length = 16) : addTo 16 a k = List.zipWith (· ^^^ ·) a k := by
  unfold addTo
  rw [List.take_of_length_le (by omega), List.drop_of_length_le (by omega), List.append_nil]
set_option maxRecDepth 100000 in
set_option maxHeartbeats 1000000 in
theorem plus_any (w : World) (a k : List UInt8) (ha : a.length = 16) (hk : k.length = 16) :
    Calls Try.prog 81 #[.agg (bys a).toArray, .agg (bys k).toArray] w fun e w' => e = .returned (.agg (bys (List.zipWith (· ^^^ ·) a k)).toArray) ∧ Below w.heap.size w w' := by
  have h0 : Blk (((w.alloc (.cells (bys a).toArray tA16)).alloc (.cells (bys k).toArray tA16)).alloc (.cells (bys z16).toArray tA16)) w.heap.size (bys a) tA16 := ((Blk.new w (bys a) tA16).alloc _).alloc _
  have h1 : Blk (((w.alloc (.cells (bys a).toArray tA16)).alloc (.cells (bys k).toArray tA16)).alloc (.cells (bys z16).toArray tA16)) (w.heap.size + 1) (bys k) tA16 := by
    have := (Blk.new (w.alloc (.cells (bys a).toArray tA16)) (bys k) tA16).alloc (.cells (bys z16).toArray tA16)
    simpa using this
  have h2 : Blk (((w.alloc (.cells (bys a).toArray tA16)).alloc (.cells (bys k).toArray tA16)).alloc (.cells (bys z16).toArray tA16)) (w.heap.size + 2) (bys z16) tA16 := by
    have := Blk.new ((w.alloc (.cells (bys a).toArray tA16)).alloc (.cells (bys k).toArray tA16)) (bys z16) tA16
    simpa using this
  have hB : Below w.heap.size w (((w.alloc (.cells (bys a).toArray tA16)).alloc (.cells (bys k).toArray tA16)).alloc (.cells (bys z16).toArray tA16)) := (((Below.refl _ _).alloc (Nat.le_refl _) _).alloc (by simp) _).alloc (by simp; omega) _
  have Ha := hid ha
  have Hk := hid hk
  clear ha hk
  go_enter Try.func81, Try.ntmps81
  go_upto_region 1 with fail
  change Code.wp _ _ _ _ (((w.alloc (.cells (bys a).toArray tA16)).alloc (.cells (bys k).toArray tA16)).alloc (.cells (bys z16).toArray tA16))
  generalize (((w.alloc (.cells (bys a).toArray tA16)).alloc (.cells (bys k).toArray tA16)).alloc (.cells (bys z16).toArray tA16)) = w2 at *
  go_wp2_with fail
  go_loopw [5] (fun i wr => ∃ m : Nat, m ≤ 16 ∧ i = .int .i64 m ∧ Blk wr w.heap.size (bys (addTo m a k)) tA16 ∧ Blk wr (w.heap.size + 1) (bys k) tA16 ∧ Blk wr (w.heap.size + 2) (bys z16) tA16 ∧ Below w.heap.size w wr) (fun i _ => 16 - (intOf i).toNat)
  case atStart => exact ⟨0, by omega, rfl, by simpa [addTo] using h0, h1, h2, hB⟩
  case round =>
    obtain ⟨m, hm, rfl, hA, hK, hZ, hBr⟩ := hrel
    clear h0 h1 h2 hB
    by_cases hlt : m < 16
    · have hla := addTo_len m a k (by rw [Ha.out, Hk.out]; omega)
      have hc := hA.cellAt (bys_get _ m (by rw [hla, Ha.out]; exact hlt))
      have hf := hA.frozen m
      rw [addTo_at m a k (by rw [Ha.out]; exact hlt) (by rw [Hk.out]; exact hlt)] at hc
      have hck := hK.cellAt (bys_get k m (by rw [Hk.out]; exact hlt))
      have hs := addTo_succ m a k (by rw [Ha.out]; exact hlt) (by rw [Hk.out]; exact hlt)
      have Hs := hid hs
      clear hs hla
      generalize k.getD m 0 = y at *
      generalize a.getD m 0 = x at *
      go_wp2_with fail
      refine still_tail' 9 (by kernel_rfl) (by kernel_rfl) ?_
      simp only [List.take_succ_cons, List.take_zero]
      repeat (refine wpStill_step (fun K hK => ?_); go_simp; (try go_bits); refine hK _ ?_; clear hK K)
      refine wpStill_nil ?_
      go_wp2_with fail
      go_roundw
      case rel =>
        refine ⟨m + 1, by omega, by go_num, ?_, (hK.setNe (by simp) _).drew, (hZ.setNe (by simp) _).drew, (hBr.setCell (by simp) _).drew⟩
        rw [← Hs.out, ← bys_set]; exact (hA.set _ _).drew
      case measure => simp [intOf]; omega
    · obtain rfl : m = 16 := by omega
      have hl := hid (addTo_len 16 a k (by rw [Ha.out, Hk.out]; omega))
      have hT := addTo_all a k Ha.out
      rw [hT] at hA hl
      have hl16 := hid (hl.out.trans Ha.out)
      clear hl hT
      generalize hTe : List.zipWith (· ^^^ ·) a k = T at *
      have HTe := hid hTe
      clear hTe
      have HR := hid hBr
      go_wp2_with (first | (refine wpList_load_mid rfl 36 (.tmp 2) rfl w.heap.size 0 rfl (bys T) _ hA.whole under54 rfl (by rw [size54, bys_length, hl16.out]) ?_) | (refine wpList_store_mid rfl 36 (.tmp 4) (.tmp 19) rfl (w.heap.size + 2) 0 (bys T).toArray rfl rfl (hZ.there 0 _ (by rw [List.size_toArray, bys_length, bys_length, hl16.out]; decide)) (by rw [size54, List.size_toArray, bys_length, hl16.out]) (all_oneCell_toArray (bys_one _)) ?_))
      have hMs := hZ.setCells (bys T) 0 (by rw [bys_length, bys_length, hl16.out]; decide)
      rw [splice_whole _ _ (by rw [bys_length, bys_length, hl16.out]; decide)] at hMs
      refine bodyPost_ret (v := .agg (bys T).toArray) (results_cell_row (P := Try.prog) (p := 4) (ty := 36) rfl _ _ (w.heap.size + 2) tA16 _ (0, 0) _ rfl hMs under54 rfl (by rw [size54, List.size_toArray, bys_length, hl16.out])) rfl ⟨by rw [HTe.out], ?_⟩
      exact HR.out.trans (((Chg.refl (w.heap.size) [] wr).setCells (.inr (by omega)) _ _).below (Nat.le_refl _) (by simp))
end Go.Proofs.Ytgellbapbphnlaa
