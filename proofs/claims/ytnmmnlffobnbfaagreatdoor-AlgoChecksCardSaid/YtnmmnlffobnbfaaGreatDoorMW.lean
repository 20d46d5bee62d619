/- Sb (joined by merge4.py) -/
import Derived.Test.YtnmmnlffobnbfaaGreatDoorMV
import Derived.Test.YtnmmnlffobnbfaaGreatDoorMQ
/- sha: Block, walked (printed by gen_sb.py) -/
namespace Go.Proofs.YtnmmnlffobnbfaaGreatDoor
open Go.RowKit

theorem idx64 (S : List UInt32) (hS : S.length = 64) (k : Nat) (hk : k < 64) (W : World) : (Instr.index tW64 (.agg (ws S).toArray) (.int .i64 (k : Int))).run Tryz.prog W = .ok (W32 (S.getD k 0)) W := by
  have h1 : (k : Int) < 64 := by omega
  have h2 : 0 ≤ (k : Int) := by omega
  have h3 := ws_get S k (by omega)
  generalize S.getD k 0 = x at *
  simp [Instr.index, asIntOf, run_underlying Tryz.underlying128, part, go_sem]
  rw [if_pos hk, h3]; rfl
theorem idx8 (S : List UInt32) (hS : S.length = 8) (k : Nat) (hk : k < 8) (W : World) : (Instr.index tH8 (.agg (ws S).toArray) (.int .i64 (k : Int))).run Tryz.prog W = .ok (W32 (S.getD k 0)) W := by
  have h1 : (k : Int) < 8 := by omega
  have h2 : 0 ≤ (k : Int) := by omega
  have h3 := ws_get S k (by omega)
  generalize S.getD k 0 = x at *
  simp [Instr.index, asIntOf, run_underlying Tryz.underlying77, part, go_sem]
  rw [if_pos hk, h3]; rfl
@[go_sem] theorem w_not (x : UInt32) : bits BinOp.xor IntKind.u32 (if IntKind.u32.signed = true then -1 else IntKind.u32.max) (wv x) = wv (~~~x) := by
  have h := w_xor 4294967295 x
  rw [show (4294967295 : UInt32) ^^^ x = ~~~x from UInt32.eq_of_toBitVec_eq (BitVec.allOnes_xor (x := x.toBitVec))] at h
  exact h
def TabW (w : World) : Prop := 0 < w.heap.size ∧ ∀ r, r < 64 → w.cell? ⟨0, r, none⟩ = some (.int .u32 (wv (shaK.getD r 0)))
theorem TabW.below {w w' : World} {N : Nat} (h : TabW w) (hB : Below N w w') (hN : 0 < N) : TabW w' := ⟨Nat.lt_of_lt_of_le h.1 hB.size, fun r hr => by rw [hB.cell (p := ⟨0, r, none⟩) hN]; exact h.2 r hr⟩
theorem TabW.drew {w : World} (h : TabW w) : TabW w.drew := h
theorem Chg.cell {N : Nat} {F : List Nat} {a b : World} (h : Chg N F a b) {p : Addr} (hp : p.block < N) (hF : p.block ∉ F) : b.cell? p = a.cell? p := by
  unfold World.cell?
  rw [h.block p.block hp hF]
theorem rndF_eq (v0 v1 v2 v3 v4 v5 v6 v7 k w : UInt32) : rndF [v0, v1, v2, v3, v4, v5, v6, v7] k w = [v7 + turnF v4 6 11 25 + (v4 &&& v5 ^^^ ~~~v4 &&& v6) + k + w + (turnF v0 2 13 22 + (v0 &&& v1 ^^^ v0 &&& v2 ^^^ v1 &&& v2)), v0, v1, v2, v3 + (v7 + turnF v4 6 11 25 + (v4 &&& v5 ^^^ ~~~v4 &&& v6) + k + w), v4, v5, v6] := rfl
theorem len8 {l : List UInt32} (h : l.length = 8) : ∃ v0 v1 v2 v3 v4 v5 v6 v7, l = [v0, v1, v2, v3, v4, v5, v6, v7] := by
  match l, h with
  | [v0, v1, v2, v3, v4, v5, v6, v7], _ => exact ⟨v0, v1, v2, v3, v4, v5, v6, v7, rfl⟩
def z8 : List UInt32 := List.replicate 8 0
theorem sumTo_zero (h v : List UInt32) (hh : h.length = 8) : sumTo h v 0 = h := by
  obtain ⟨v0, v1, v2, v3, v4, v5, v6, v7, rfl⟩ := len8 hh
  rfl
theorem sumTo_getE (h v : List UInt32) (k i : Nat) (hi : i < 8) : (sumTo h v k)[i]? = some (if i < k then h.getD i 0 + v.getD i 0 else h.getD i 0) := by
  unfold sumTo
  rw [List.getElem?_map, List.getElem?_range hi]; rfl
theorem sumTo_get (h v : List UInt32) (k : Nat) (hk : k < 8) : (sumTo h v k).getD k 0 = h.getD k 0 := by
  rw [List.getD_eq_getElem?_getD, sumTo_getE _ _ _ _ hk, if_neg (Nat.lt_irrefl _)]; rfl
theorem sumTo_set (h v : List UInt32) (k : Nat) (_ : k < 8) : (sumTo h v k).set k (h.getD k 0 + v.getD k 0) = sumTo h v (k + 1) := by
  apply List.ext_getElem?
  intro i
  by_cases hi : i < 8
  · rw [List.getElem?_set, sumTo_getE _ _ _ _ hi, sumTo_len]
    by_cases e : k = i
    · subst e; rw [if_pos rfl, if_pos hi, sumTo_getE _ _ _ _ hi, if_pos (by omega)]
    · rw [if_neg e, sumTo_getE _ _ _ _ hi]
      by_cases h2 : i < k
      · rw [if_pos h2, if_pos (by omega)]
      · rw [if_neg h2, if_neg (by omega)]
  · rw [List.getElem?_eq_none (by simp [sumTo_len]; omega), List.getElem?_eq_none (by simp [sumTo_len]; omega)]

set_option maxRecDepth 100000 in
set_option maxHeartbeats 8000000 in
theorem hblock_any (w : World) (hT : TabW w) (h : List UInt32) (b : List UInt8) (hh : h.length = 8) (hb : b.length = 64) :
    Calls Tryz.prog 41 #[.agg (ws h).toArray, .agg (bys b).toArray] w fun e w' => e = .returned (.agg (ws (shaBlk h b)).toArray) ∧ Below w.heap.size w w' := by
  obtain ⟨wb, hwb⟩ : ∃ wb, ((w.alloc (.cells (ws h).toArray tH8)).alloc (.cells (bys b).toArray tB64)).alloc (.cells (ws z8).toArray tH8) = wb := ⟨_, rfl⟩
  have h0 : Blk wb w.heap.size (ws h) tH8 := by rw [← hwb]; exact ((Blk.new w (ws h) tH8).alloc _).alloc _
  have h1 : Blk wb (w.heap.size + 1) (bys b) tB64 := by
    rw [← hwb]
    have := (Blk.new (w.alloc (.cells (ws h).toArray tH8)) (bys b) tB64).alloc (.cells (ws z8).toArray tH8)
    simp only [World.size_alloc] at this; exact this
  have h2 : Blk wb (w.heap.size + 1 + 1) (ws z8) tH8 := by
    rw [← hwb]
    have := Blk.new ((w.alloc (.cells (ws h).toArray tH8)).alloc (.cells (bys b).toArray tB64)) (ws z8) tH8
    simp only [World.size_alloc] at this; exact this
  have hB0 : Below w.heap.size w wb := by rw [← hwb]; exact (((Below.refl _ _).alloc (Nat.le_refl _) _).alloc (by simp) _).alloc (by simp; omega) _
  have hsz : wb.heap.size = w.heap.size + 1 + 1 + 1 := by rw [← hwb]; simp
  have hT0 := hT.below hB0 hT.1
  have hlh : (ws h).length = 8 := by rw [ws_length, hh]
  have hsh : (Tryz.prog.info? tH8).map (·.size) = some (ws h).length := by rw [sizeH8, hlh]
  have hsb : (Tryz.prog.info? tB64).map (·.size) = some (bys b).length := by rw [size64, bys_length, hb]
  have hpos := hT.1
  have Hwb := hid hwb
  -- v
  have hz := Blk.new wb (ws z8) tH8
  rw [hsz] at hz
  obtain ⟨hv2, hC2⟩ := setAll2 hz (new := ws h) (by rw [hlh]; rfl)
  have hst := hid (hz.there 0 (ws h).toArray.size (by rw [List.size_toArray, hlh]; decide))
  have hszh : (Tryz.prog.info? tH8).map (·.size) = some (ws h).toArray.size := by rw [sizeH8, List.size_toArray, hlh]
  have hBn : Below wb.heap.size wb (wb.alloc (.cells (ws z8).toArray tH8)) := (Below.refl _ _).alloc (Nat.le_refl _) _
  have hBm : Below wb.heap.size wb ((wb.alloc (.cells (ws z8).toArray tH8)).setCells (w.heap.size + 1 + 1 + 1) 0 (ws h)) := hBn.trans (hC2.below (M := wb.heap.size) (by simp) (fun k hk => by simp at hk; omega))
  obtain ⟨wc, hwc⟩ : ∃ wc, (wb.alloc (.cells (ws z8).toArray tH8)).setCells (w.heap.size + 1 + 1 + 1) 0 (ws h) = wc := ⟨_, rfl⟩
  rw [hwc] at hv2 hBm
  have Hwc := hid hwc
  have hwh := hid h0.whole
  have h0c := h0.below hBm h0.lt
  have h1c := h1.below hBm h1.lt
  have h2c := h2.below hBm h2.lt
  have hTc := hT0.below hBm hT0.1
  have hBc := hB0.trans (hBm.mono hB0.size)
  have hpo := hid (all_oneCell_toArray (ws_one h))
  have hwb1 := hid h1c.whole
  clear hwb hwc h0 h1 h2 hT0 hBn hBm hC2 hz hT
  go_enter Tryz.func41, Tryz.ntmps41
  go_upto_region 1 with fail
  change Code.wp _ _ _ _ (((w.alloc (.cells (ws h).toArray tH8)).alloc (.cells (bys b).toArray tB64)).alloc (.cells (ws z8).toArray tH8))
  rw [Hwb.out]
  go_upto_region 2 with (first | (refine wpList_load_mid rfl tH8 (.tmp 2) rfl w.heap.size 0 rfl (ws h) _ hwh.out Tryz.underlying77 rfl hsh ?_) | (refine wpList_store_mid rfl tH8 (.tmp 5) (.tmp 13) rfl (w.heap.size + 1 + 1 + 1) 0 (ws h).toArray rfl (by rw [← hsz]; rfl) hst.out hszh hpo.out ?_))
  try rw [hsz]
  change Code.wp _ _ _ _ ((wb.alloc (.cells (ws z8).toArray tH8)).setCells (w.heap.size + 1 + 1 + 1) 0 (ws h))
  rw [Hwc.out]
  obtain ⟨vb, hvb⟩ : ∃ v, w.heap.size + 1 + 1 + 1 = v := ⟨_, rfl⟩
  rw [hvb] at hv2 ⊢
  have Hvb := hid hvb
  have hvb0 : vb ≠ 0 := by omega
  clear hst hszh hpo Hwc hvb Hwb hwh
  go_wp2_with (refine wpList_load_mid rfl tB64 (.tmp 3) rfl (w.heap.size + 1) 0 rfl (bys b) _ hwb1.out Tryz.underlying81 rfl hsb ?_)
  refine (spread_any wc b hb).mono ?_
  rintro e wd ⟨rfl, hBd⟩
  have h0d := h0c.below hBd h0c.lt
  have h2d := h2c.below hBd h2c.lt
  have hvd := hv2.below hBd hv2.lt
  have hTd := hTc.below hBd hTc.1
  have hBD := hBc.trans (hBd.mono hBc.size)
  have hspl := sprTo_len b 64
  have hstep := fun k => hid (show hrndTo h b (k + 1) = rndF (hrndTo h b k) (shaK.getD k 0) ((sprTo b 64).getD k 0) from rfl)
  have hfin := hid (show shaBlk h b = sumTo h (hrndTo h b 64) 8 from rfl)
  generalize sprTo b 64 = S at *
  have hix := fun k hk W => idx64 S hspl k hk W
  clear h0c h1c h2c hv2 hTc hBc hBd hwb1
  go_wp2_with fail
  go_loopw [16] (fun i wr => ∃ k : Nat, k ≤ 64 ∧ i = .int .i64 k ∧ Blk wr vb (ws (hrndTo h b k)) tH8 ∧ Chg wd.heap.size [vb] wd wr) (fun i _ => 64 - (intOf i).toNat)
  case atStart => exact ⟨0, by omega, rfl, hvd, Chg.refl _ _ _⟩
  case round =>
    obtain ⟨k, hk, rfl, hb, hC⟩ := hrel
    have hl := hrndTo_len h b hh k
    by_cases hlt : k < 64
    · have q1 : (k : Int) < 64 := by omega
      have hixk := fun W => hix k hlt W
      have hTk := hTd.2 k hlt
      rw [← hC.cell (p := ⟨0, k, none⟩) hTd.1 (by simpa using Ne.symm hvb0)] at hTk
      have hst := hstep k
      generalize S.getD k 0 = sk at *
      generalize shaK.getD k 0 = kk at *
      obtain ⟨v0, v1, v2, v3, v4, v5, v6, v7, hv⟩ := len8 hl
      rw [hv] at hb
      have hst := hid (hst.out.trans (by rw [hv, rndF_eq]))
      have c0 : wr.cell? ⟨vb, 0, none⟩ = some (.int .u32 (wv v0)) := hb.cell 0
      have c1 : wr.cell? ⟨vb, 1, none⟩ = some (.int .u32 (wv v1)) := hb.cell 1
      have c2 : wr.cell? ⟨vb, 2, none⟩ = some (.int .u32 (wv v2)) := hb.cell 2
      have c3 : wr.cell? ⟨vb, 3, none⟩ = some (.int .u32 (wv v3)) := hb.cell 3
      have c4 : wr.cell? ⟨vb, 4, none⟩ = some (.int .u32 (wv v4)) := hb.cell 4
      have c5 : wr.cell? ⟨vb, 5, none⟩ = some (.int .u32 (wv v5)) := hb.cell 5
      have c6 : wr.cell? ⟨vb, 6, none⟩ = some (.int .u32 (wv v6)) := hb.cell 6
      have c7 : wr.cell? ⟨vb, 7, none⟩ = some (.int .u32 (wv v7)) := hb.cell 7
      have t1 := fun W => turned_a W v4
      have t2 := fun W => turned_b W v0
      have hb' := hid hb
      have hC' := hid hC
      generalize turnF v4 6 11 25 = y4 at *
      generalize turnF v0 2 13 22 = y0 at *
      clear hb hC hv hl hix
      have hT7 := hid hTd
      go_wp2_with fail
      try simp only [Act.put]
      refine tkR (fun w' => w'.cell? ⟨vb, 7, none⟩ = some (.int .u32 (wv v7)) ∧ w'.cell? ⟨vb, 4, none⟩ = some (.int .u32 (wv v4)) ∧ w'.cell? ⟨0, k, none⟩ = some (.int .u32 (wv kk))) [] (by kernel_rfl) (fun c a d v w h => by cases d <;> exact h) (⟨c7, c4, hTk⟩) (fun hPF hHeld => ?_)
      refine tkB 0 (.some 49) _ _ rfl rfl (by kernel_rfl) (by kernel_rfl) (by kernel_rfl) (by kernel_rfl) hPF rfl (fun w' => by (go_simp; try with_reducible rfl)) hHeld (fun hHeld => ?_)
      simp only [Act.put, List.setIfInBounds_toArray, List.set_cons_zero, List.set_cons_succ]
      refine tkA 1 (.some 50) _ _ rfl rfl (by kernel_rfl) (by kernel_rfl) (by kernel_rfl) (by kernel_rfl) (by kernel_rfl) hPF rfl (fun w' hw' => by (have h1 := hw'.1; go_simp; try with_reducible rfl)) hHeld (fun hHeld => ?_)
      simp only [Act.put, List.setIfInBounds_toArray, List.set_cons_zero, List.set_cons_succ]
      refine tkB 2 (.some 51) _ _ rfl rfl (by kernel_rfl) (by kernel_rfl) (by kernel_rfl) (by kernel_rfl) hPF rfl (fun w' => by (go_simp; try with_reducible rfl)) hHeld (fun hHeld => ?_)
      simp only [Act.put, List.setIfInBounds_toArray, List.set_cons_zero, List.set_cons_succ]
      refine tkA 3 (.some 52) _ _ rfl rfl (by kernel_rfl) (by kernel_rfl) (by kernel_rfl) (by kernel_rfl) (by kernel_rfl) hPF rfl (fun w' hw' => by (have h1 := hw'.2.1; go_simp; try with_reducible rfl)) hHeld (fun hHeld => ?_)
      simp only [Act.put, List.setIfInBounds_toArray, List.set_cons_zero, List.set_cons_succ]
      refine tkB 6 (.some 55) _ _ rfl rfl (by kernel_rfl) (by kernel_rfl) (by kernel_rfl) (by kernel_rfl) hPF rfl (fun w' => by (go_simp; try with_reducible rfl)) hHeld (fun hHeld => ?_)
      simp only [Act.put, List.setIfInBounds_toArray, List.set_cons_zero, List.set_cons_succ]
      refine tkB 8 (.some 57) _ _ rfl rfl (by kernel_rfl) (by kernel_rfl) (by kernel_rfl) (by kernel_rfl) hPF rfl (fun w' => by (go_simp; try with_reducible rfl)) hHeld (fun hHeld => ?_)
      simp only [Act.put, List.setIfInBounds_toArray, List.set_cons_zero, List.set_cons_succ]
      refine tkB 9 (.some 58) _ _ rfl rfl (by kernel_rfl) (by kernel_rfl) (by kernel_rfl) (by kernel_rfl) hPF rfl (fun w' => by (go_simp; try with_reducible rfl)) hHeld (fun hHeld => ?_)
      simp only [Act.put, List.setIfInBounds_toArray, List.set_cons_zero, List.set_cons_succ]
      refine tkA 10 (.some 59) _ _ rfl rfl (by kernel_rfl) (by kernel_rfl) (by kernel_rfl) (by kernel_rfl) (by kernel_rfl) hPF rfl (fun w' hw' => by (have h1 := hw'.2.2; go_simp; try with_reducible rfl)) hHeld (fun hHeld => ?_)
      simp only [Act.put, List.setIfInBounds_toArray, List.set_cons_zero, List.set_cons_succ]
      refine tkB 12 (.some 61) _ _ rfl rfl (by kernel_rfl) (by kernel_rfl) (by kernel_rfl) (by kernel_rfl) hPF rfl (fun w' => by (go_simp; try with_reducible rfl)) hHeld (fun hHeld => ?_)
      simp only [Act.put, List.setIfInBounds_toArray, List.set_cons_zero, List.set_cons_succ]
      have hS := hHeld (by kernel_rfl)
      refine tkW (rs := [4]) (by kernel_rfl) (by simp) (AllK.cons (o := _) rfl (fun KC hKC => ?_) AllK.nil)
      go_simp
      refine (t1 _).mono ?_
      rintro e w2 ⟨rfl, rfl⟩
      refine hKC.out _ _ (hS) (fun hHeld => ?_)
      clear hKC KC
      try simp only [Act.put, List.setIfInBounds_toArray, List.set_cons_zero, List.set_cons_succ]
      refine tkB 5 (.some 54) _ _ rfl rfl (by kernel_rfl) (by kernel_rfl) (by kernel_rfl) (by kernel_rfl) hPF rfl (fun w' => by (go_simp; try with_reducible rfl)) hHeld (fun hHeld => ?_)
      simp only [Act.put, List.setIfInBounds_toArray, List.set_cons_zero, List.set_cons_succ]
      refine tkB 7 (.some 56) _ _ rfl rfl (by kernel_rfl) (by kernel_rfl) (by kernel_rfl) (by kernel_rfl) hPF rfl (fun w' => by (go_simp; try with_reducible rfl)) hHeld (fun hHeld => ?_)
      simp only [Act.put, List.setIfInBounds_toArray, List.set_cons_zero, List.set_cons_succ]
      refine tkB 11 (.some 60) _ _ rfl rfl (by kernel_rfl) (by kernel_rfl) (by kernel_rfl) (by kernel_rfl) hPF rfl (fun w' => by (go_simp; try with_reducible rfl)) hHeld (fun hHeld => ?_)
      simp only [Act.put, List.setIfInBounds_toArray, List.set_cons_zero, List.set_cons_succ]
      refine tkB 13 (.some 62) _ _ rfl rfl (by kernel_rfl) (by kernel_rfl) (by kernel_rfl) (by kernel_rfl) hPF rfl (fun w' => by (go_simp; try with_reducible rfl)) hHeld (fun hHeld => ?_)
      simp only [Act.put, List.setIfInBounds_toArray, List.set_cons_zero, List.set_cons_succ]
      refine tkB 14 (.some 10) _ _ rfl rfl (by kernel_rfl) (by kernel_rfl) (by kernel_rfl) (by kernel_rfl) hPF rfl (fun w' => by (go_simp; try with_reducible rfl)) hHeld (fun hHeld => ?_)
      simp only [Act.put, List.setIfInBounds_toArray, List.set_cons_zero, List.set_cons_succ]
      refine tkD (by kernel_rfl) ?_ _
      simp only [w_addw]
      generalize hch : v4 &&& v5 ^^^ ~~~v4 &&& v6 = ch at *
      generalize htt : v7 + y4 + ch + kk + sk = tt at *
      generalize hmo : v0 &&& v1 ^^^ v0 &&& v2 ^^^ v1 &&& v2 = mo at *
      have hbq : Blk wr.drew vb (ws [v0, v1, v2, v3, v4, v5, v6, v7]) tH8 := hb'.out
      have hCq : Chg wd.heap.size [vb] wd wr.drew := hC'.out.drew
      clear c0 c1 c2 c3 c4 c5 c6 c7 hTk hb' hC' hS hHeld hPF htt hch hmo t1 hixk
      generalize wr.drew = wq at *
      have c0 : wq.cell? ⟨vb, 0, none⟩ = some (.int .u32 (wv v0)) := hbq.cell 0
      have c1 : wq.cell? ⟨vb, 1, none⟩ = some (.int .u32 (wv v1)) := hbq.cell 1
      have c2 : wq.cell? ⟨vb, 2, none⟩ = some (.int .u32 (wv v2)) := hbq.cell 2
      have c3 : wq.cell? ⟨vb, 3, none⟩ = some (.int .u32 (wv v3)) := hbq.cell 3
      have c4 : wq.cell? ⟨vb, 4, none⟩ = some (.int .u32 (wv v4)) := hbq.cell 4
      have c5 : wq.cell? ⟨vb, 5, none⟩ = some (.int .u32 (wv v5)) := hbq.cell 5
      have c6 : wq.cell? ⟨vb, 6, none⟩ = some (.int .u32 (wv v6)) := hbq.cell 6
      obtain ⟨hbn, hCn⟩ := setAll2 hbq (new := ws [tt + (y0 + mo), v0, v1, v2, v3 + tt, v4, v5, v6]) rfl
      have hbn : Blk (wq.setCells vb 0 (ws [tt + (y0 + mo), v0, v1, v2, v3 + tt, v4, v5, v6])) vb (ws (hrndTo h b (k + 1))) tH8 := by rw [hst.out]; exact hbn
      have hCf := hCq.trans (hCn.mono hCq.size (fun _ _ h => h))
      have hth := hid (hbq.there 0 8 (Nat.le_refl _))
      have hpo := hid (all_oneCell_toArray (ws_one [tt + (y0 + mo), v0, v1, v2, v3 + tt, v4, v5, v6]))
      have hHH := hid (And.intro hbn hCf)
      clear hbn hCf hCn hCq hbq
      go_wp2_with fail
      refine (t2 _).mono ?_
      rintro e w2 ⟨rfl, rfl⟩
      go_upto_region 10 with (refine wpList_store_mid rfl tH8 (.tmp 5) (.tmp 87) rfl vb 0 (ws [tt + (y0 + mo), v0, v1, v2, v3 + tt, v4, v5, v6]).toArray rfl rfl hth.out sizeH8 hpo.out ?_)
      change Code.wp _ _ _ _ (wq.setCells vb 0 (ws [tt + (y0 + mo), v0, v1, v2, v3 + tt, v4, v5, v6]))
      obtain ⟨hbn, hCf⟩ := hHH.out
      generalize wq.setCells vb 0 (ws [tt + (y0 + mo), v0, v1, v2, v3 + tt, v4, v5, v6]) = wn at *
      clear hHH hpo hth hst c0 c1 c2 c3 c4 c5 c6 t2
      go_wp2_with fail
      go_roundw
      case rel => exact ⟨k + 1, by omega, by go_num, hbn, hCf⟩
      case measure => (simp [intOf]; try omega)
    · obtain rfl : k = 64 := by omega
      have q1 : ¬ (((64 : Nat) : Int) < 64) := by omega
      have h0r := h0d.chg hC h0d.lt (by simp; have := Hvb.out; omega)
      have h2r := h2d.chg hC h2d.lt (by simp; have := Hvb.out; omega)
      have hBr : Below w.heap.size w wr := hBD.trans (hC.below hBD.size (by intro k hk; simp at hk; have := Hvb.out; omega))
      rw [← sumTo_zero h (hrndTo h b 64) hh] at h0r
      generalize hrndTo h b 64 = V at *
      obtain ⟨H, hH⟩ : ∃ H, h = H := ⟨_, rfl⟩
      rw [hH] at h0r hfin hh
      have HH := hid hH
      have hlt2 := h2r.lt
      generalize wr = wo at *
      clear hC hk hlt hstep hix hTd h0d h2d hvd hH
      go_wp2_with fail
      go_loopw [89] (fun i wx => ∃ k : Nat, k ≤ 8 ∧ i = .int .i64 k ∧ Blk wx w.heap.size (ws (sumTo H V k)) tH8 ∧ Chg wo.heap.size [w.heap.size] wo wx) (fun i _ => 8 - (intOf i).toNat)
      case atStart => exact ⟨0, by omega, rfl, h0r, Chg.refl _ _ _⟩
      case round =>
        clear h0r
        obtain ⟨k, hk, rfl, h0x, hCx⟩ := hrel
        have hvx := hb.chg hCx hb.lt (by simp; have := Hvb.out; omega)
        by_cases hlt : k < 8
        · have q1 : (k : Int) < 8 := by omega
          have ca := h0x.cell k
          have fk := h0x.frozen k
          have cb := hvx.cell k
          rw [ws_get _ _ (by rw [sumTo_len]; exact hlt), sumTo_get _ _ _ hlt] at ca
          rw [ws_get _ _ (by rw [hl]; exact hlt)] at cb
          have hset := hid (sumTo_set H V k hlt)
          generalize H.getD k 0 = x at *
          generalize V.getD k 0 = y at *
          have hHX := hid (And.intro h0x hCx)
          clear h0x hCx hvx
          go_wp2_with fail
          try simp only [Act.put]
          refine tkR (fun w' => w'.cell? ⟨w.heap.size, k, none⟩ = some (.int .u32 (wv x)) ∧ w'.cell? ⟨vb, k, none⟩ = some (.int .u32 (wv y))) [8] (by kernel_rfl) (fun c a d v w h => by cases d <;> exact h) (⟨ca, cb⟩) (fun hPF hHeld => ?_)
          refine tkB 0 (.some 92) _ _ rfl rfl (by kernel_rfl) (by kernel_rfl) (by kernel_rfl) (by kernel_rfl) hPF rfl (fun w' => by (go_simp; try with_reducible rfl)) hHeld (fun hHeld => ?_)
          simp only [Act.put, List.setIfInBounds_toArray, List.set_cons_zero, List.set_cons_succ]
          refine tkB 1 (.some 93) _ _ rfl rfl (by kernel_rfl) (by kernel_rfl) (by kernel_rfl) (by kernel_rfl) hPF rfl (fun w' => by (go_simp; try with_reducible rfl)) hHeld (fun hHeld => ?_)
          simp only [Act.put, List.setIfInBounds_toArray, List.set_cons_zero, List.set_cons_succ]
          refine tkA 2 (.some 94) _ _ rfl rfl (by kernel_rfl) (by kernel_rfl) (by kernel_rfl) (by kernel_rfl) (by kernel_rfl) hPF rfl (fun w' hw' => by (have h1 := hw'.1; go_simp; try with_reducible rfl)) hHeld (fun hHeld => ?_)
          simp only [Act.put, List.setIfInBounds_toArray, List.set_cons_zero, List.set_cons_succ]
          refine tkB 3 (.some 95) _ _ rfl rfl (by kernel_rfl) (by kernel_rfl) (by kernel_rfl) (by kernel_rfl) hPF rfl (fun w' => by (go_simp; try with_reducible rfl)) hHeld (fun hHeld => ?_)
          simp only [Act.put, List.setIfInBounds_toArray, List.set_cons_zero, List.set_cons_succ]
          refine tkB 4 (.some 96) _ _ rfl rfl (by kernel_rfl) (by kernel_rfl) (by kernel_rfl) (by kernel_rfl) hPF rfl (fun w' => by (go_simp; try with_reducible rfl)) hHeld (fun hHeld => ?_)
          simp only [Act.put, List.setIfInBounds_toArray, List.set_cons_zero, List.set_cons_succ]
          refine tkA 5 (.some 97) _ _ rfl rfl (by kernel_rfl) (by kernel_rfl) (by kernel_rfl) (by kernel_rfl) (by kernel_rfl) hPF rfl (fun w' hw' => by (have h1 := hw'.2; go_simp; try with_reducible rfl)) hHeld (fun hHeld => ?_)
          simp only [Act.put, List.setIfInBounds_toArray, List.set_cons_zero, List.set_cons_succ]
          refine tkB 6 (.some 98) _ _ rfl rfl (by kernel_rfl) (by kernel_rfl) (by kernel_rfl) (by kernel_rfl) hPF rfl (fun w' => by (go_simp; try with_reducible rfl)) hHeld (fun hHeld => ?_)
          simp only [Act.put, List.setIfInBounds_toArray, List.set_cons_zero, List.set_cons_succ]
          refine tkB 7 (.some 99) _ _ rfl rfl (by kernel_rfl) (by kernel_rfl) (by kernel_rfl) (by kernel_rfl) hPF rfl (fun w' => by (go_simp; try with_reducible rfl)) hHeld (fun hHeld => ?_)
          simp only [Act.put, List.setIfInBounds_toArray, List.set_cons_zero, List.set_cons_succ]
          refine tkW (rs := [8]) (by kernel_rfl) (by simp) (AllK.close (o := _) rfl (by kernel_rfl) (fun KC hKC => ?_) AllK.nil)
          go_simp
          refine hKC.out _ _ (fun hHeld => ?_)
          clear hKC KC
          try simp only [Act.put]
          refine tkD (by kernel_rfl) ?_ _
          simp only [w_addw]
          obtain ⟨h0x, hCx⟩ := hHX.out
          have hb3 := h0x.set k (.int .u32 (wv (x + y)))
          have hC3 := hCx.setCell (p := ⟨w.heap.size, k, none⟩) (.inl (by simp)) (.int .u32 (wv (x + y)))
          rw [ws_set, hset.out] at hb3
          generalize wr.setCell ⟨w.heap.size, k, none⟩ (.int .u32 (wv (x + y))) = wy at *
          have hb4 := hb3.drew
          have hC4 := hC3.drew
          clear hb3 hC3 h0x hCx hHX hPF hHeld
          go_wp2_with fail
          go_roundw
          case rel => exact ⟨k + 1, by omega, by go_num, hb4, hC4⟩
          case measure => (simp [intOf]; try omega)
        · obtain rfl : k = 8 := by omega
          have q1 : ¬ (((8 : Nat) : Int) < 8) := by omega
          have h2x := h2r.chg hCx h2r.lt (by simp; omega)
          have hil := sumTo_len H V 8
          have hsR : (Tryz.prog.info? tH8).map (·.size) = some (ws (sumTo H V 8)).length := by rw [sizeH8, ws_length, hil]
          have hBx : Below w.heap.size wo wr := hCx.below (Nat.le_of_lt (by have := hBr.size; omega)) (by intro k hk; simp at hk; omega)
          obtain ⟨R, hR⟩ : ∃ R, sumTo H V 8 = R := ⟨_, rfl⟩
          rw [hR] at h0x hsR hil
          have HR := hid hR
          have hlR := ws_length R
          have hl3 : (ws z8).length = 8 := rfl
          have Hil := hid hil
          clear hR hil hk hlt
          go_wp2_with (first | (refine wpList_load_mid rfl tH8 (.tmp 2) rfl w.heap.size 0 rfl (ws R) _ h0x.whole Tryz.underlying77 rfl hsR ?_) | (refine wpList_store_mid rfl tH8 (.tmp 4) (.tmp 101) rfl (w.heap.size + 1 + 1) 0 (ws R).toArray rfl rfl (h2x.there 0 _ (by rw [List.size_toArray, hlR, Hil.out, hl3]; decide)) (by rw [sizeH8, List.size_toArray, hlR, Hil.out]) (all_oneCell_toArray (ws_one _)) ?_))
          have g1 := h2x.setCells (ws R) 0 (by rw [hlR, Hil.out, hl3]; decide)
          rw [splice_whole _ _ (by rw [hlR, Hil.out, hl3])] at g1
          refine bodyPost_ret (v := .agg (ws R).toArray) (results_cell_row (P := Tryz.prog) (p := 4) (ty := tH8) rfl _ _ (w.heap.size + 1 + 1) tH8 _ (0, 0) _ rfl g1 Tryz.underlying77 rfl hsR) rfl ⟨by rw [← HR.out, ← hfin.out, HH.out], ?_⟩
          exact hBr.trans (hBx.trans (((Chg.refl w.heap.size [] wr).setCells (b := w.heap.size + 1 + 1) (.inr (by omega)) (ws R) 0).below (Nat.le_refl _) (by simp)))
end Go.Proofs.YtnmmnlffobnbfaaGreatDoor
