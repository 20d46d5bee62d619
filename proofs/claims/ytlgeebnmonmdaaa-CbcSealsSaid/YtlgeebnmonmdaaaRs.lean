/- the reference's cbc Seal -/
import Derived.Test.YtlgeebnmonmdaaaRt
import Derived.Test.YtlgeebnmonmdaaaMx
import Derived.Test.YtlgeebnmonmdaaaPd4
namespace Go.Proofs.Ytlgeebnmonmdaaa
open Go.RowKit

set_option maxRecDepth 100000 in
set_option maxHeartbeats 4000000 in
theorem refseal_any (w : World) (pk : Option Addr) (kn kc m : Nat) (key iv : List UInt8) (pb : Option Addr) (n cap : Nat) (b : List UInt8) (hkr : RowAt w pk key) (hkl : key.length = kn) (hm : m = 4 ∨ m = 8) (hkm : kn = 4 * m) (hiv : iv.length = 16)
    (hb : RowAt w pb b) (hn : b.length = n) (hp : n < 1000000) :
    Calls Try.prog 28 #[.slice pk kn kc, .agg (bys iv).toArray, .slice pb n cap] w fun e w' => ∃ v, e = .returned v ∧ OwnR w.heap.size w' v (sealF (enc (rkOf m key)) iv (b ++ padF n) (n / 16 + 1)) ∧ Below w.heap.size w w' := by
  have h0 := Blk.new w (bys iv) tA16
  have hB0 : Below w.heap.size w (w.alloc (.cells (bys iv).toArray tA16)) := (Below.refl _ _).alloc (Nat.le_refl _) _
  have hszi : (Try.prog.info? 23).map (·.size) = some (bys iv).length := by rw [size54, bys_length, hiv]
  have hb0 := hb.below hB0
  have hkr0 := hkr.below hB0
  obtain ⟨kb, ko, rfl, _, _⟩ := hkr 0 (by omega)
  obtain ⟨T, hTe⟩ : ∃ T, tbl 256 = T := ⟨_, rfl⟩
  obtain ⟨Z, hZe⟩ : ∃ Z, tbl 0 = Z := ⟨_, rfl⟩
  have hl0 := tbl_len 0 (by omega)
  have hl1 := tbl_len 256 (by omega)
  have zz := zc60
  rw [hZe] at hl0 zz
  rw [hTe] at hl1
  have HTe := hid hTe
  have Zz := hid zz
  have Hl1 := hid hl1
  have Hl0 := hid hl0
  have Hn := hid hn
  have Hkl := hid hkl
  have Hkm := hid hkm
  clear hTe hZe zz hl0 hl1 hb hkr hn hkl hkm
  go_enter Try.func28, Try.ntmps28
  go_wp2_with fail
  change Calls _ _ _ (w.alloc (.cells (bys iv).toArray tA16)) _
  generalize w.alloc (.cells (bys iv).toArray tA16) = w1 at *
  refine (table_T HTe.out w1).mono ?_
  rintro e w3 ⟨rfl, hB3⟩
  have h0 := h0.below hB3 h0.lt
  have hb0 := hb0.below hB3
  have hkr0 := hkr0.below hB3
  have hBw := hB0.trans (hB3.mono hB0.size)
  clear hB3 hB0
  obtain ⟨tb, htb⟩ : ∃ tb, w3.heap.size = tb := ⟨_, rfl⟩
  have hT0 : Blk (w3.alloc (.cells Try.zeroCells61 61)) tb (bys Z) tA256 := by rw [Zz.out, ← htb]; exact Blk.new w3 (bys Z) tA256
  have hBt : Below w3.heap.size w3 (w3.alloc (.cells Try.zeroCells61 61)) := (Below.refl _ _).alloc (Nat.le_refl _) _
  obtain ⟨hTT, hcc⟩ := store16 (new := T) hT0 (by rw [Hl0.out, Hl1.out])
  have hBs := hBt.trans (hcc.below (M := w3.heap.size) hBt.size (fun k hk => by simp at hk; omega))
  have h0 := h0.below hBs h0.lt
  have hb0 := hb0.below hBs
  have hkr0 := hkr0.below hBs
  have hBw := hBw.trans (hBs.mono hBw.size)
  clear hBt hcc hBs
  have hsT : (Try.prog.info? 61).map (·.size) = some (bys T).length := by rw [size60, bys_length, Hl1.out]
  go_wp2_with (first | (refine wpList_store_mid rfl 61 (.tmp 7) (.tmp 14) rfl tb 0 (bys T).toArray rfl rfl (hT0.there 0 _ (by rw [List.size_toArray, bys_length, bys_length, Hl0.out, Hl1.out]; decide)) (by rw [size60, List.size_toArray, bys_length, Hl1.out]) (all_oneCell_toArray (bys_one _)) ?_) | (refine wpList_load_mid rfl 61 (.tmp 7) rfl tb 0 rfl (bys T) _ hTT.whole under60 rfl hsT ?_))
  clear hT0
  generalize (w3.alloc (.cells Try.zeroCells61 61)).setCells tb 0 (bys T) = w4 at *
  refine (refkeys_T HTe.out w4 kb ko kn kc m key hkr0 Hkl.out hm Hkm.out).mono ?_
  rintro e w5 ⟨g, cap2, ex, rfl, hG, hBn⟩
  have h0 := h0.below hBn h0.lt
  have hb0 := hb0.below hBn
  have hT := hTT.below hBn hTT.lt
  have hBw := hBw.trans (hBn.mono hBw.size)
  clear hBn hTT hkr0
  go_wp2_with fail
  refine (padded_any w5 pb n cap b hb0 Hn.out (by omega)).mono ?_
  rintro e W ⟨v0, rfl, hown, hBp⟩
  have hown : OwnR w5.heap.size W v0 (b ++ padF n) := hown
  obtain ⟨k, hk⟩ : ∃ k, n / 16 + 1 = k := ⟨_, rfl⟩
  have hk1 : 0 < k := by omega
  have hk9 : k < 1000000 := by omega
  have hpl : (b ++ padF n).length = 16 * k := by rw [List.length_append, padF_len, Hn.out]; omega
  have Hk := hid hk
  clear hk
  obtain ⟨pg, pcap, prest, rfl, hpc, hpg, hP⟩ := hown.blk (by omega)
  obtain ⟨p, hpe⟩ : ∃ p, b ++ padF n = p := ⟨_, rfl⟩
  rw [hpe] at hpl hpc hP ⊢
  rw [hpl] at hpc ⊢
  have h0 := h0.below hBp h0.lt
  have hT := hT.below hBp hT.lt
  have hG := hG.below hBp hG.lt
  have hBw := hBw.trans (hBp.mono hBw.size)
  have Hpe := hid hpe
  have Hpl := hid hpl
  obtain ⟨rk, hrk⟩ : ∃ rk, rkOf m key = rk := ⟨_, rfl⟩
  have hrl := rkOf_len m key (by rw [Hkl.out, Hkm.out]) hm
  have hel := fun s hs => enc_l16 m key s (by rw [Hkl.out, Hkm.out]) hm hs
  rw [hrk] at hrl hG
  rw [hrk] at hel
  have Hrl := hid hrl
  have Hel := hid hel
  have Hrk := hid hrk
  have Hl := fun j hj => hid (lastF_len (enc rk) iv p k hel hiv (by omega) j hj)
  have Hsl := fun j hj => hid (sealF_len (enc rk) iv p k hel hiv (by omega) j hj)
  obtain ⟨ib, hib⟩ : ∃ ib, w.heap.size = ib := ⟨_, rfl⟩
  have l0 := h0.lt
  have lT := hT.lt
  have lG := hG.lt
  have lP := hP.lt
  have l5 := hBw.size
  have Hib := hid hib
  rw [hib] at h0 l0 ⊢
  have nT : tb ≠ ib := h0.ne hT (by decide) |>.symm
  have nG : g ≠ ib := fun e => by
    subst e
    have := hG.shape.symm.trans h0.shape
    simp [bys_length] at this
    have := Hrl.out.1
    omega
  have nP : pg ≠ ib := hP.ne h0 (by decide)
  have HsT := hid hsT
  clear hown hrk hrl hel hBp hib hpl hpe l5 hsT hszi hb0
  go_wp2_with fail
  go_loopw [10, 11, 12, 13] (fun v i _ _ wr => ∃ j : Nat, j ≤ k ∧ i = .int .i64 ((16 * j : Nat) : Int) ∧ Blk wr ib (bys (lastF (enc rk) iv p j)) tA16 ∧ OwnR W.heap.size wr v (sealF (enc rk) iv p j) ∧ Chg W.heap.size [ib] W wr) (fun _ i _ _ _ => 16 * k - (intOf i).toNat)
  case atStart => exact ⟨0, by omega, rfl, h0, OwnR.nil _ _, Chg.refl _ _ _⟩
  case round =>
    clear h0
    obtain ⟨j, hj, rfl, hB, hO, hC⟩ := hrel
    obtain ⟨c0, hc0⟩ : ∃ c0, lastF (enc rk) iv p j = c0 := ⟨_, rfl⟩
    obtain ⟨o0, ho0⟩ : ∃ o0, sealF (enc rk) iv p j = o0 := ⟨_, rfl⟩
    have hcl := (Hl j hj).out
    have hol := (Hsl j hj).out
    rw [hc0] at hB hcl
    rw [ho0] at hO hol
    have Hc0 := hid hc0
    have Ho0 := hid ho0
    have Hcl := hid hcl
    have Hol := hid hol
    obtain ⟨t, ht⟩ : ∃ t, 16 * j = t := ⟨_, rfl⟩
    rw [ht]
    obtain ⟨u, hu⟩ : ∃ u, 16 * k = u := ⟨_, rfl⟩
    have Hu := hid hu
    have Ht := hid ht
    have Hpl := Hpl
    rw [hu] at Hpl hpc ⊢
    by_cases hlt : j < k
    · have q1 : (t : Int) < (u : Int) := by omega
      have q2 : 0 ≤ (t : Int) := by omega
      have HT := fun wx (h : Chg W.heap.size [ib] W wx) => hid (hT.chg h lT (by simp; exact nT))
      have HG := fun wx (h : Chg W.heap.size [ib] W wx) => hid (hG.chg h lG (by simp; exact nG))
      have HP := fun wx (h : Chg W.heap.size [ib] W wx) => hid (hP.chg h lP (by simp; exact nP))
      obtain ⟨ck, hck⟩ : ∃ ck, (p.drop t).take 16 = ck := ⟨_, rfl⟩
      have hckl : ck.length = 16 := by rw [← hck, List.length_take, List.length_drop, Hpl.out]; omega
      have Hck := hid hck
      have Hckl := hid hckl
      have hcs := hC.size
      clear hc0 ho0 hcl hol hck hckl hT hG hP ht hu
      go_wp2_with fail
      go_loopw [12] (fun i wx => ∃ m : Nat, m ≤ 16 ∧ i = .int .i64 m ∧ Blk wx ib (bys (addTo m c0 ck)) tA16 ∧ OwnR W.heap.size wx u10 o0 ∧ Chg W.heap.size [ib] W wx) (fun i _ => 16 - (intOf i).toNat)
      case atStart => exact ⟨0, by omega, rfl, by simpa [addTo] using hB, hO, hC⟩
      case round =>
        clear hB hO hC hcs
        obtain ⟨r, hr, rfl, hA, hO, hC⟩ := hrel
        have HO := hid hO
        have HA := hid hA
        have HC := hid hC
        clear hO
        by_cases hrl : r < 16
        · have hla := addTo_len r c0 ck (by rw [Hcl.out, Hckl.out]; omega)
          have hc := hA.drew.cellAt (bys_get _ r (by rw [hla, Hcl.out]; exact hrl))
          have hf := hA.drew.frozen r
          rw [addTo_at r c0 ck (by rw [Hcl.out]; exact hrl) (by rw [Hckl.out]; exact hrl)] at hc
          obtain ⟨e, he⟩ : ∃ e, t + r = e := ⟨_, rfl⟩
          have heu : e < u := by have := Ht.out; have := Hu.out; omega
          have hcp := ((HP wr hC).out.drew.headCell e (by rw [Hpl.out]; exact heu))
          have hck : p.getD e 0 = ck.getD r 0 := by
            rw [← Hck.out, List.getD, List.getD, List.getElem?_take_of_lt hrl, List.getElem?_drop, he]
          rw [hck] at hcp
          have hs := addTo_succ r c0 ck (by rw [Hcl.out]; exact hrl) (by rw [Hckl.out]; exact hrl)
          have Hs := hid hs
          have q3 : (t : Int) + (r : Int) = (e : Int) := by omega
          have q4 : (e : Int) < (u : Int) := by omega
          have q5 : 0 ≤ (e : Int) := by omega
          have q6 : (r : Int) < 16 := by omega
          have q7 : 0 ≤ (r : Int) := by omega
          have q8 : (e : Int) ≤ 1000000000 := by have := Hu.out; omega
          have q9 : IntKind.i64.wrap (e : Int) = (e : Int) := by rw [IntKind.wrap_i64]; omega
          clear hs hla hck hA hC
          generalize ck.getD r 0 = y at *
          generalize c0.getD r 0 = x at *
          go_wp2_with fail
          try simp only [Act.put]
          refine tkR (fun w' => w'.cell? ⟨ib, r, none⟩ = some (.int .u8 (bv x)) ∧ w'.cell? ⟨pg, e, none⟩ = some (.int .u8 (bv y))) [12] (by kernel_rfl) (fun c a d v w h => by cases d <;> exact h) (⟨hc, hcp⟩) (fun hPF hHeld => ?_)
          refine tkB 0 (.some 30) _ _ rfl rfl (by kernel_rfl) (by kernel_rfl) (by kernel_rfl) (by kernel_rfl) hPF rfl (fun w' => by (go_simp; try with_reducible rfl)) hHeld (fun hHeld => ?_)
          simp only [Act.put, List.setIfInBounds_toArray, List.set_cons_zero, List.set_cons_succ]
          refine tkB 1 (.some 31) _ _ rfl rfl (by kernel_rfl) (by kernel_rfl) (by kernel_rfl) (by kernel_rfl) hPF rfl (fun w' => by (go_simp; try with_reducible rfl)) hHeld (fun hHeld => ?_)
          simp only [Act.put, List.setIfInBounds_toArray, List.set_cons_zero, List.set_cons_succ]
          refine tkB 2 (.some 32) _ _ rfl rfl (by kernel_rfl) (by kernel_rfl) (by kernel_rfl) (by kernel_rfl) hPF rfl (fun w' => by (go_simp; try with_reducible rfl)) hHeld (fun hHeld => ?_)
          simp only [Act.put, List.setIfInBounds_toArray, List.set_cons_zero, List.set_cons_succ]
          refine tkA 3 (.some 33) _ _ rfl rfl (by kernel_rfl) (by kernel_rfl) (by kernel_rfl) (by kernel_rfl) (by kernel_rfl) hPF rfl (fun w' hw' => by (have h1 := hw'.1; go_simp; try with_reducible rfl)) hHeld (fun hHeld => ?_)
          simp only [Act.put, List.setIfInBounds_toArray, List.set_cons_zero, List.set_cons_succ]
          refine tkB 4 (.some 34) _ _ rfl rfl (by kernel_rfl) (by kernel_rfl) (by kernel_rfl) (by kernel_rfl) hPF rfl (fun w' => by (go_simp; try with_reducible rfl)) hHeld (fun hHeld => ?_)
          simp only [Act.put, List.setIfInBounds_toArray, List.set_cons_zero, List.set_cons_succ]
          refine tkB 5 (.some 35) _ _ rfl rfl (by kernel_rfl) (by kernel_rfl) (by kernel_rfl) (by kernel_rfl) hPF rfl (fun w' => by (go_simp; try with_reducible rfl)) hHeld (fun hHeld => ?_)
          simp only [Act.put, List.setIfInBounds_toArray, List.set_cons_zero, List.set_cons_succ]
          refine tkB 6 (.some 36) _ _ rfl rfl (by kernel_rfl) (by kernel_rfl) (by kernel_rfl) (by kernel_rfl) hPF rfl (fun w' => by (go_simp; try with_reducible rfl)) hHeld (fun hHeld => ?_)
          simp only [Act.put, List.setIfInBounds_toArray, List.set_cons_zero, List.set_cons_succ]
          refine tkB 7 (.some 37) _ _ rfl rfl (by kernel_rfl) (by kernel_rfl) (by kernel_rfl) (by kernel_rfl) hPF rfl (fun w' => by (go_simp; try with_reducible rfl)) hHeld (fun hHeld => ?_)
          simp only [Act.put, List.setIfInBounds_toArray, List.set_cons_zero, List.set_cons_succ]
          refine tkB 8 (.some 38) _ _ rfl rfl (by kernel_rfl) (by kernel_rfl) (by kernel_rfl) (by kernel_rfl) hPF rfl (fun w' => by (go_simp; try with_reducible rfl)) hHeld (fun hHeld => ?_)
          simp only [Act.put, List.setIfInBounds_toArray, List.set_cons_zero, List.set_cons_succ]
          refine tkA 9 (.some 39) _ _ rfl rfl (by kernel_rfl) (by kernel_rfl) (by kernel_rfl) (by kernel_rfl) (by kernel_rfl) hPF rfl (fun w' hw' => by (have h1 := hw'.2; go_simp; try with_reducible rfl)) hHeld (fun hHeld => ?_)
          simp only [Act.put, List.setIfInBounds_toArray, List.set_cons_zero, List.set_cons_succ]
          refine tkB 10 (.some 40) _ _ rfl rfl (by kernel_rfl) (by kernel_rfl) (by kernel_rfl) (by kernel_rfl) hPF rfl (fun w' => by (go_simp; try with_reducible rfl)) hHeld (fun hHeld => ?_)
          simp only [Act.put, List.setIfInBounds_toArray, List.set_cons_zero, List.set_cons_succ]
          refine tkB 11 (.some 41) _ _ rfl rfl (by kernel_rfl) (by kernel_rfl) (by kernel_rfl) (by kernel_rfl) hPF rfl (fun w' => by (go_simp; try with_reducible rfl)) hHeld (fun hHeld => ?_)
          simp only [Act.put, List.setIfInBounds_toArray, List.set_cons_zero, List.set_cons_succ]
          refine tkW (rs := [12]) (by kernel_rfl) (by simp) (AllK.close (o := _) rfl (by kernel_rfl) (fun KC hKC => ?_) AllK.nil)
          go_simp
          refine hKC.out _ _ (fun hHeld => ?_)
          clear hKC KC
          try simp only [Act.put]
          refine tkD (by kernel_rfl) ?_ _
          have hA' : Blk (wr.drew.setCell ⟨ib, r, none⟩ (.int .u8 (bv (x ^^^ y)))) ib (bys (addTo (r + 1) c0 ck)) tA16 := by
            have := HA.out.drew.set r (.int .u8 (bv (x ^^^ y)))
            rw [bys_set, Hs.out] at this
            exact this
          have hC1 : Chg W.heap.size [ib] wr (wr.drew.setCell ⟨ib, r, none⟩ (.int .u8 (bv (x ^^^ y)))) := ((Chg.refl _ _ wr).drew).setCell (.inl (by simp)) _
          have hC2 : Chg wr.heap.size [ib] wr (wr.drew.setCell ⟨ib, r, none⟩ (.int .u8 (bv (x ^^^ y)))) := ((Chg.refl _ _ wr).drew).setCell (.inl (by simp)) _
          have hO' := HO.out.chg hC2 (Nat.le_refl _) (fun j e => by have := (HO.out.lt j e).1; simp; omega)
          have hC' := HC.out.trans hC1
          clear hC1 hC2
          go_wp2_with fail
          go_roundw
          case rel => exact ⟨r + 1, by omega, by go_num, hA', hO', hC'⟩
          case measure => (simp [intOf]; try omega)
        · obtain rfl : r = 16 := by omega
          have hz := addTo_all c0 ck Hcl.out
          obtain ⟨z, hze⟩ : ∃ z, List.zipWith (· ^^^ ·) c0 ck = z := ⟨_, rfl⟩
          rw [hz, hze] at HA
          have hzl : z.length = 16 := by rw [← hze, List.length_zipWith, Hcl.out, Hckl.out]; rfl
          have hel := Hel.out z hzl
          obtain ⟨c1, hc1⟩ : ∃ c1, enc rk z = c1 := ⟨_, rfl⟩
          rw [hc1] at hel
          have hnx : lastF (enc rk) iv p (j + 1) = c1 := by
            rw [lastF, Hc0.out, Ht.out, Hck.out, hze, hc1]
          have Hze := hid hze
          have Hzl := hid hzl
          have Hc1 := hid hc1
          have Hel1 := hid hel
          have Hnx := hid hnx
          have hTw := (HT wr hC).out
          have hGw := (HG wr hC).out
          have hAw := HA.out
          have hsz := hC.size
          have hszz : (Try.prog.info? 23).map (·.size) = some (bys z).length := by rw [size54, bys_length, hzl]
          have hsT := HsT.out
          clear hz hze hzl hc1 hel hnx hA hC
          go_wp2_with (first | (refine wpList_load_mid rfl 61 (.tmp 7) rfl tb 0 rfl (bys T) _ hTw.whole under60 rfl hsT ?_) | (refine wpList_load_mid rfl 23 (.tmp 4) rfl ib 0 rfl (bys z) _ hAw.whole under54 rfl hszz ?_))
          (with_reducible refine (refenc_T HTe.out wr g (m + 7) cap2 rk z ex hGw Hrl.out.1 (by omega) (by omega) Hzl.out).mono ?_)
          rintro e w6 ⟨rfl, hB6⟩
          rw [Hc1.out]
          have hA6 := hAw.below hB6 hAw.lt
          have hO6 := HO.out.below hB6
          have hC6 := HC.out.trans (Chg.ofBelow (hB6.mono hsz))
          clear hTw hGw hAw hsT hszz
          go_wp2_with (refine wpList_store_mid rfl 23 (.tmp 4) (.tmp 45) rfl ib 0 (bys c1).toArray rfl rfl (hA6.there 0 _ (by rw [List.size_toArray, bys_length, bys_length, Hzl.out, Hel1.out]; decide)) (by rw [size54, List.size_toArray, bys_length, Hel1.out]) (all_oneCell_toArray (bys_one _)) ?_)
          have hA7 := hA6.setCells (bys c1) 0 (by rw [bys_length, bys_length, Hel1.out, Hzl.out]; decide)
          rw [splice_whole _ _ (by rw [bys_length, bys_length, Hel1.out, Hzl.out])] at hA7
          have hC7 := hC6.setCells (b := ib) (.inl (by simp)) (bys c1) 0
          have hO7 := hO6.chg ((Chg.refl w6.heap.size [ib] w6).setCells (b := ib) (.inl (by simp)) (bys c1) 0) (Nat.le_refl _) (fun j e => by have := (hO6.lt j e).1; simp; omega)
          change Code.wp _ _ _ _ (w6.setCells ib 0 (bys c1))
          generalize w6.setCells ib 0 (bys c1) = w7 at *
          clear hA6 hO6 hC6 hB6
          go_loopw [10, 13] (fun v i wx => ∃ m : Nat, m ≤ 16 ∧ i = .int .i64 m ∧ Blk wx ib (bys c1) tA16 ∧ OwnR W.heap.size wx v (o0 ++ c1.take m) ∧ Chg W.heap.size [ib] W wx) (fun _ i _ => 16 - (intOf i).toNat)
          case atStart => exact ⟨0, by omega, rfl, hA7, by simpa using hO7, hC7⟩
          case round =>
            clear hA7 hO7 hC7 HA HO HC
            obtain ⟨r, hr, rfl, hA, hO, hC⟩ := hrel
            have HO := hid hO
            have HA := hid hA
            have HC := hid hC
            have hsz := hC.size
            clear hO
            by_cases hrl : r < 16
            · have hc := hA.cellAt (bys_get _ r (by rw [Hel1.out]; exact hrl))
              have hs : o0 ++ c1.take r ++ [c1.getD r 0] = o0 ++ c1.take (r + 1) := by rw [take_succ_getD 0 c1 r (by rw [Hel1.out]; exact hrl), List.append_assoc]
              have hxl : (o0 ++ c1.take r).length < 140737488355328 := by rw [List.length_append, Hol.out, List.length_take]; omega
              have Hs := hid hs
              have Hxl := hid hxl
              have q6 : (r : Int) < 16 := by omega
              have q7 : 0 ≤ (r : Int) := by omega
              clear hs hA hC hxl
              generalize c1.getD r 0 = y at *
              go_wp2_with (refine wpList_push rfl (.tmp 50) (.tmp 54) rfl W.heap.size _ _ rfl HO.out y rfl Hxl.out hsz ?_; intro v' w8 hO8 hg8 _; have hA8 := HA.out.kept hg8 (fun e => by have := (HO.out.lt _ e).1; omega); have hC8 := HC.out.grown hg8 hsz (fun j e => .inr (HO.out.lt j e).1); rw [Hs.out] at hO8; have HO8 := hid hO8; have HA8 := hid hA8; have HC8 := hid hC8; clear hO8 hg8 hA8 hC8)
              go_roundw
              case rel => exact ⟨r + 1, by omega, by go_num, HA8.out, HO8.out, HC8.out⟩
              case measure => (simp [intOf]; try omega)
            · obtain rfl : r = 16 := by omega
              have e : c1.take 16 = c1 := List.take_of_length_le (by rw [Hel1.out]; exact Nat.le_refl _)
              rw [e] at HO
              clear e hA hC
              have ht16 := Ht.out
              have hu16 := Hu.out
              obtain ⟨t2, ht2⟩ : ∃ t2, t + 16 = t2 := ⟨_, rfl⟩
              have q9 : (t : Int) + 16 = (t2 : Int) := by omega
              have q10 : (t2 : Int) ≤ 1000000000 := by omega
              have q11 : 0 ≤ (t2 : Int) := by omega
              have Q12 := hid (show ((16 * (j + 1) : Nat) : Int) = (t2 : Int) by omega)
              have Q13 := hid (show u - t2 < u - t by omega)
              clear ht16 hu16 ht2
              go_wp2_with fail
              go_roundw
              case rel => exact ⟨j + 1, by omega, by rw [Q12.out], by rw [Hnx.out]; exact HA.out, by rw [sealF, Ho0.out, Hnx.out]; exact HO.out, HC.out⟩
              case measure => (simp only [intOf, Int.toNat_natCast]; exact Q13.out)
    · obtain rfl : j = k := by omega
      obtain rfl : t = u := by have := Ht.out; have := Hu.out; omega
      clear ht hu hB hc0 ho0 hcl hol
      have HO := hid hO
      clear hO
      go_wp2_with fail
      go_ret
      rw [Hrk.out, Hpe.out, Hk.out, Ho0.out]
      exact ⟨_, rfl, HO.out.mono hBw.size, hBw.trans (hC.below hBw.size (fun j hj => by simp at hj; rw [hj, Hib.out]; exact Nat.le_refl _))⟩
end Go.Proofs.Ytlgeebnmonmdaaa
