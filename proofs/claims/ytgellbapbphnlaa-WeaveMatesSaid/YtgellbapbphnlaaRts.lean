/- the reference's Crypt -/
import Derived.Test.YtgellbapbphnlaaXk
import Derived.Test.YtgellbapbphnlaaRc
import Derived.Test.YtgellbapbphnlaaRf4
import Derived.Test.YtgellbapbphnlaaRf6
namespace Go.Proofs.Ytgellbapbphnlaa
open Go.RowKit

theorem refkeys_T {T : List UInt8} (hT : tbl 256 = T) (w : World) (b o n cap m : Nat) (key : List UInt8) (hk : RowAt w (some ⟨b, o, none⟩) key) (hkl : key.length = n) (hm : m = 4 ∨ m = 8) (hn : n = 4 * m) :
    Calls Try.prog 34 #[.agg (bys T).toArray, .slice (some ⟨b, o, none⟩) n cap] w fun e w' => ∃ g cap2 ex, e = .returned (.slice (some ⟨g, 0, none⟩) (m + 7) cap2) ∧ Blk w' g (bys (rkOf m key) ++ ex) tA16 ∧ Below w.heap.size w w' := by
  subst hT; exact refkeys_any w b o n cap m key hk hkl hm hn
theorem refenc_T {T : List UInt8} (hT : tbl 256 = T) (w : World) (g nr cap : Nat) (rk s : List UInt8) (ex : List Value) (hk : Blk w g (bys rk ++ ex) tA16) (hrk : rk.length = 16 * nr) (hn2 : 2 ≤ nr) (hn15 : nr ≤ 15) (hs : s.length = 16) :
    Calls Try.prog 45 #[.agg (bys T).toArray, .slice (some ⟨g, 0, none⟩) nr cap, .agg (bys s).toArray] w fun e w' => e = .returned (.agg (bys (enc rk s)).toArray) ∧ Below w.heap.size w w' := by
  subst hT; exact refenc_any w g nr cap rk s ex hk hrk hn2 hn15 hs
theorem table_T {T : List UInt8} (hT : tbl 256 = T) (w : World) : Calls Try.prog 32 #[] w fun e w' => e = .returned (.agg (bys T).toArray) ∧ Below w.heap.size w w' := by
  subst hT; exact table_any w
theorem rkOf_len (m : Nat) (key : List UInt8) (hk : key.length = 4 * m) (hm : m = 4 ∨ m = 8) : (rkOf m key).length = 16 * (m + 7) ∧ 16 * roundsOf (rkOf m key) + 16 ≤ (rkOf m key).length := by
  have := exTo_len m key hk (by omega) (28 + 3 * m)
  have h : (rkOf m key).length = 16 * (m + 7) := by unfold rkOf; omega
  refine ⟨h, ?_⟩
  unfold roundsOf; omega
theorem enc_l16 (m : Nat) (key s : List UInt8) (hk : key.length = 4 * m) (hm : m = 4 ∨ m = 8) (hs : s.length = 16) : (enc (rkOf m key) s).length = 16 := by
  unfold enc; exact encTo_len _ _ _ _ (rkOf_len m key hk hm).2 hs

set_option maxRecDepth 100000 in
set_option maxHeartbeats 4000000 in
theorem refcrypt_any (w : World) (pk : Option Addr) (kn kc m : Nat) (key iv : List UInt8) (pb : Option Addr) (n cap : Nat) (b : List UInt8) (hkr : RowAt w pk key) (hkl : key.length = kn) (hm : m = 4 ∨ m = 8) (hkm : kn = 4 * m) (hiv : iv.length = 16)
    (hb : RowAt w pb b) (hn : b.length = n) (hp : n < 1000000000) :
    Calls Try.prog 20 #[.slice pk kn kc, .agg (bys iv).toArray, .slice pb n cap] w fun e w' => ∃ v, e = .returned v ∧ OwnR w.heap.size w' v (xk (enc (rkOf m key)) iv 0 b) ∧ Below w.heap.size w w' := by
  have h0 := Blk.new w (bys iv) tA16
  have hB0 : Below w.heap.size w (w.alloc (.cells (bys iv).toArray tA16)) := (Below.refl _ _).alloc (Nat.le_refl _) _
  have hszi : (Try.prog.info? 36).map (·.size) = some (bys iv).length := by rw [size54, bys_length, hiv]
  have hb0 := hb.below hB0
  have hkr0 := hkr.below hB0
  obtain ⟨kb, ko, rfl, _, _⟩ := hkr 0 (by omega)
  obtain ⟨T, hTe⟩ : ∃ T, tbl 256 = T := ⟨_, rfl⟩
  obtain ⟨Z, hZe⟩ : ∃ Z, tbl 0 = Z := ⟨_, rfl⟩
  have hl0 := tbl_len 0 (by omega)
  have hl1 := tbl_len 256 (by omega)
  have zz := zc60
  rw [hZe] at hl0 zz
  rw [hTe] at hl1
  have HTe := hid hTe
  have Zz := hid zz
  have Hl1 := hid hl1
  have Hl0 := hid hl0
  have Hn := hid hn
  have Hkl := hid hkl
  have Hkm := hid hkm
  clear hTe hZe zz hl0 hl1 hb hkr hn hkl hkm
  go_enter Try.func20, Try.ntmps20
  go_wp2_with fail
  change Calls _ _ _ (w.alloc (.cells (bys iv).toArray tA16)) _
  generalize w.alloc (.cells (bys iv).toArray tA16) = w1 at *
  refine (table_T HTe.out w1).mono ?_
  rintro e w3 ⟨rfl, hB3⟩
  have h0 := h0.below hB3 h0.lt
  have hb0 := hb0.below hB3
  have hkr0 := hkr0.below hB3
  have hBw := hB0.trans (hB3.mono hB0.size)
  clear hB3 hB0
  obtain ⟨tb, htb⟩ : ∃ tb, w3.heap.size = tb := ⟨_, rfl⟩
  have hT0 : Blk (w3.alloc (.cells Try.zeroCells62 62)) tb (bys Z) tA256 := by rw [Zz.out, ← htb]; exact Blk.new w3 (bys Z) tA256
  have hBt : Below w3.heap.size w3 (w3.alloc (.cells Try.zeroCells62 62)) := (Below.refl _ _).alloc (Nat.le_refl _) _
  obtain ⟨hTT, hcc⟩ := store16 (new := T) hT0 (by rw [Hl0.out, Hl1.out])
  have hBs := hBt.trans (hcc.below (M := w3.heap.size) hBt.size (fun k hk => by simp at hk; omega))
  have h0 := h0.below hBs h0.lt
  have hb0 := hb0.below hBs
  have hkr0 := hkr0.below hBs
  have hBw := hBw.trans (hBs.mono hBw.size)
  clear hBt hcc hBs
  have hsT : (Try.prog.info? 62).map (·.size) = some (bys T).length := by rw [size60, bys_length, Hl1.out]
  go_wp2_with (first | (refine wpList_store_mid rfl 62 (.tmp 7) (.tmp 12) rfl tb 0 (bys T).toArray rfl rfl (hT0.there 0 _ (by rw [List.size_toArray, bys_length, bys_length, Hl0.out, Hl1.out]; decide)) (by rw [size60, List.size_toArray, bys_length, Hl1.out]) (all_oneCell_toArray (bys_one _)) ?_) | (refine wpList_load_mid rfl 62 (.tmp 7) rfl tb 0 rfl (bys T) _ hTT.whole under60 rfl hsT ?_))
  clear hT0
  generalize (w3.alloc (.cells Try.zeroCells62 62)).setCells tb 0 (bys T) = w4 at *
  refine (refkeys_T HTe.out w4 kb ko kn kc m key hkr0 Hkl.out hm Hkm.out).mono ?_
  rintro e w5 ⟨g, cap2, ex, rfl, hG, hBn⟩
  have h0 := h0.below hBn h0.lt
  have hb0 := hb0.below hBn
  have hT := hTT.below hBn hTT.lt
  have hBw := hBw.trans (hBn.mono hBw.size)
  clear hBn hTT hkr0
  obtain ⟨bb, hbbe⟩ : ∃ bb, w5.heap.size = bb := ⟨_, rfl⟩
  have hbb : Blk (w5.alloc (.cells (bys z16).toArray tA16)) bb (bys z16) tA16 := by rw [← hbbe]; exact Blk.new w5 (bys z16) tA16
  have hBz : Below w5.heap.size w5 (w5.alloc (.cells (bys z16).toArray tA16)) := (Below.refl _ _).alloc (Nat.le_refl _) _
  have hszb : (w5.alloc (.cells (bys z16).toArray tA16)).heap.size = bb + 1 := by simp [hbbe]
  have l0 := h0.lt
  have lT := hT.lt
  have lG := hG.lt
  have lb := hb0.pos
  rw [hbbe] at l0 lT lG lb
  have h0 := h0.below hBz h0.lt
  have hb0 := hb0.below hBz
  have hT := hT.below hBz hT.lt
  have hG := hG.below hBz hG.lt
  have hBw := hBw.trans (hBz.mono hBw.size)
  clear hBz
  go_wp2_with fail
  change Code.wp _ _ _ _ (w5.alloc (.cells (bys z16).toArray tA16))
  generalize w5.alloc (.cells (bys z16).toArray tA16) = W at *
  obtain ⟨rk, hrk⟩ : ∃ rk, rkOf m key = rk := ⟨_, rfl⟩
  have hrl := rkOf_len m key (by rw [Hkl.out, Hkm.out]) hm
  have hel := fun s hs => enc_l16 m key s (by rw [Hkl.out, Hkm.out]) hm hs
  rw [hrk] at hrl hG
  rw [hrk] at hel
  have Hrl := hid hrl
  have Hel := hid hel
  have Hwz := hid hszb
  have Hrk := hid hrk
  clear hrk hrl hel htb hbbe hszb
  go_loopw [9, 11] (fun v i wr => ∃ (k : Nat) (blk : List UInt8), k ≤ n ∧ i = .int .i64 k ∧ blk.length = 16 ∧ (k % 16 = 0 ∨ blk = enc rk (cnt iv (k / 16))) ∧ Blk wr bb (bys blk) tA16 ∧ OwnR (bb + 1) wr v (xk (enc rk) iv 0 (b.take k)) ∧ Chg (bb + 1) [bb] W wr) (fun _ i _ => n - (intOf i).toNat)
  case atStart => exact ⟨0, z16, by omega, rfl, rfl, .inl rfl, hbb, OwnR.nil _ _, Chg.refl _ _ _⟩
  case round =>
    obtain ⟨k, blk, hk, rfl, hbl, hcase, hB, hO, hC⟩ := hrel
    clear hbb
    have hwz := Hwz.out
    have HO := hid hO
    have Hbl := hid hbl
    have Hwz' := hid hwz
    have hcs := hC.size
    clear hO hbl hwz
    by_cases hlt : k < n
    · obtain ⟨q, hq⟩ : ∃ q, k / 16 = q := ⟨_, rfl⟩
      obtain ⟨r, hr⟩ : ∃ r, k % 16 = r := ⟨_, rfl⟩
      have hqi : (k : Int) / 16 = (q : Int) := by omega
      have hqi2 : (k : Int).tdiv 16 = (q : Int) := by rw [Int.tdiv_eq_ediv_of_nonneg (by omega)]; exact hqi
      have hri : (k : Int) % 16 = (r : Int) := by omega
      have hri2 : (k : Int).tmod 16 = (r : Int) := by rw [Int.tmod_eq_emod_of_nonneg (by omega)]; exact hri
      have hr16 : r < 16 := by omega
      have hq9 : q < 1000000000 := by omega
      rw [hq, hr] at hcase
      have Hq := hid hq
      have Hr := hid hr
      clear hq hr
      go_upto_if 24 with fail
      go_cut [9] from 16 to 44 (fun s9 wx => s9 = u9 ∧ Blk wx bb (bys (enc rk (cnt iv q))) tA16 ∧ OwnR (bb + 1) wx u9 (xk (enc rk) iv 0 (b.take k)) ∧ Chg (bb + 1) [bb] W wx)
      case first =>
        by_cases hr0 : r = 0
        · obtain rfl : r = 0 := hr0
          have hb1 := hB.drew
          have hO1 := HO.out.drew
          have hC1 := hC.drew
          have hT1 := (hT.chg hC (by omega) (by simp; omega)).drew
          have hi1 := (h0.chg hC (by omega) (by simp; omega)).drew
          have hG1 := (hG.chg hC (by omega) (by simp; omega)).drew
          have hqw : IntKind.u64.wrap (q : Int) = (q : Int) := by rw [IntKind.wrap_u64]; omega
          have hqw0 : IntKind.i64.wrap (q : Int) = (q : Int) := by rw [IntKind.wrap_i64]; omega
          have hq64 : q < 18446744073709551616 := by omega
          obtain ⟨cq, hcq⟩ : ∃ cq, cnt iv q = cq := ⟨_, rfl⟩
          have hcl := cnt_len iv q
          rw [hcq] at hcl
          have Hcl := hid hcl
          have HC := fun W' => hid (rcount_any W' iv q hiv hq64)
          have Hcq := hid hcq
          rw [hcq] at HC
          clear hcq hcl hcase
          go_wp2_with fail
          try simp only [Act.put]
          refine tkR (fun w' => Below wr.drew.heap.size wr.drew w') [8] (by kernel_rfl) (fun c a d v w h => by cases d <;> exact h) (Below.refl _ _) (fun hPF hHeld => ?_)
          refine tkL 0 (.some 25) _ rfl rfl 62 (.tmp 7) rfl tb 0 (bys T) _ (by kernel_rfl) (by kernel_rfl) (by kernel_rfl) (by kernel_rfl) (by kernel_rfl) hPF rfl rfl (fun w' hw' => (hT1.below hw' hT1.lt).whole) under60 rfl hsT hHeld (fun hHeld => ?_)
          simp only [Act.put, List.setIfInBounds_toArray, List.set_cons_zero, List.set_cons_succ]
          refine tkB 1 (.some 26) _ _ rfl rfl (by kernel_rfl) (by kernel_rfl) (by kernel_rfl) (by kernel_rfl) hPF rfl (fun w' => by (go_simp; try with_reducible rfl)) hHeld (fun hHeld => ?_)
          simp only [Act.put, List.setIfInBounds_toArray, List.set_cons_zero, List.set_cons_succ]
          refine tkL 2 (.some 27) _ rfl rfl 36 (.tmp 4) rfl w.heap.size 0 (bys iv) _ (by kernel_rfl) (by kernel_rfl) (by kernel_rfl) (by kernel_rfl) (by kernel_rfl) hPF rfl rfl (fun w' hw' => (hi1.below hw' hi1.lt).whole) under54 rfl hszi hHeld (fun hHeld => ?_)
          simp only [Act.put, List.setIfInBounds_toArray, List.set_cons_zero, List.set_cons_succ]
          refine tkB 3 (.some 28) _ _ rfl rfl (by kernel_rfl) (by kernel_rfl) (by kernel_rfl) (by kernel_rfl) hPF rfl (fun w' => by (go_simp; try with_reducible rfl)) hHeld (fun hHeld => ?_)
          simp only [Act.put, List.setIfInBounds_toArray, List.set_cons_zero, List.set_cons_succ]
          refine tkB 4 (.some 29) _ _ rfl rfl (by kernel_rfl) (by kernel_rfl) (by kernel_rfl) (by kernel_rfl) hPF rfl (fun w' => by (go_simp; try with_reducible rfl)) hHeld (fun hHeld => ?_)
          simp only [Act.put, List.setIfInBounds_toArray, List.set_cons_zero, List.set_cons_succ]
          refine tkB 5 (.some 30) _ _ rfl rfl (by kernel_rfl) (by kernel_rfl) (by kernel_rfl) (by kernel_rfl) hPF rfl (fun w' => by (go_simp; try with_reducible rfl)) hHeld (fun hHeld => ?_)
          simp only [Act.put, List.setIfInBounds_toArray, List.set_cons_zero, List.set_cons_succ]
          have hS := hHeld (by kernel_rfl)
          refine tkW (rs := [6]) (by kernel_rfl) (by simp) (AllK.cons (o := _) rfl (fun KC hKC => ?_) AllK.nil)
          go_simp
          (with_reducible refine (HC _).out.mono ?_)
          rintro e wa ⟨rfl, hBa⟩
          have hS2 := hS.trans (hBa.mono hS.size)
          refine hKC.out _ _ (hS2) (fun hHeld => ?_)
          clear hKC KC
          try simp only [Act.put, List.setIfInBounds_toArray, List.set_cons_zero, List.set_cons_succ]
          have hS := hHeld (by kernel_rfl)
          refine tkW (rs := [7]) (by kernel_rfl) (by simp) (AllK.cons (o := _) rfl (fun KC hKC => ?_) AllK.nil)
          go_simp
          (with_reducible refine (refenc_T HTe.out _ g (m + 7) cap2 rk cq ex (hG1.below hS2 hG1.lt) Hrl.out.1 (by omega) (by omega) Hcl.out).mono ?_)
          rintro e wc ⟨rfl, hBc⟩
          have hS3 := hS2.trans (hBc.mono hS2.size)
          have hb3 := hb1.below hS3 hb1.lt
          have hO3 := hO1.below hS3
          have hsz3 := hS3.size
          have hC3 : Chg (bb + 1) [bb] W wc := hC1.trans (Chg.ofBelow (hS3.mono (by have := Hwz'.out; have : wr.drew.heap.size = wr.heap.size := rfl; omega)))
          refine hKC.out _ _ (hS3) (fun hHeld => ?_)
          clear hKC KC
          try simp only [Act.put, List.setIfInBounds_toArray, List.set_cons_zero, List.set_cons_succ]
          refine tkW (rs := [8]) (by kernel_rfl) (by simp) (AllK.close (o := _) rfl (by kernel_rfl) (fun KC hKC => ?_) AllK.nil)
          refine wantIt rfl (wp_storeD .none rfl 36 (.tmp 10) (.tmp 32) rfl bb 0 (bys (enc rk cq)).toArray rfl rfl (hb3.there 0 _ (by rw [List.size_toArray, bys_length, bys_length, Hel.out _ Hcl.out, Hbl.out]; decide)) (by rw [size54, List.size_toArray, bys_length, Hel.out _ Hcl.out]) (all_oneCell_toArray (bys_one _)) ?_)
          have hb4 := hb3.setCells (bys (enc rk cq)) 0 (by rw [bys_length, bys_length, Hel.out _ Hcl.out, Hbl.out]; decide)
          rw [splice_whole _ _ (by rw [bys_length, bys_length, Hel.out _ Hcl.out, Hbl.out])] at hb4
          have hC4 := (Chg.refl wc.heap.size [bb] wc).setCells (b := bb) (.inl (by simp)) (bys (enc rk cq)) 0
          have hO4 := hO3.chg hC4 (Nat.le_refl _) (fun j e => by have := (hO3.lt j e).1; simp; omega)
          refine hKC.out _ _ (fun hHeld => ?_)
          clear hKC KC
          try simp only [Act.put]
          refine tkD (by kernel_rfl) ?_ _
          go_wp2_with fail
          go_meet
          refine ⟨rfl, by rw [Hcq.out]; exact hb4, hO4, hC3.trans (hC4.mono (by have := Hwz'.out; have : wr.drew.heap.size = wr.heap.size := rfl; omega) (fun _ _ h => h))⟩
        · have hbr : ((r : Int) == 0) = false := by rw [beq_eq_false_iff_ne]; omega
          have hblk := hcase.resolve_left hr0
          rw [hblk] at hB
          clear hblk hcase
          go_wp2_with fail
          go_meet
          exact ⟨rfl, hB, HO.out, hC⟩
      case rest =>
        obtain ⟨rfl, hB, hO, hC⟩ := hcut
        have hcs := hC.size
        have hwz := Hwz.out
        have hlb : 0 < b.length := by rw [Hn.out]; omega
        have hpw : RowAt wc pb b := hb0.chgL hC (fun a e => by have := lb hlb a e; omega) (fun a e => by have := lb hlb a e; simp; omega)
        have hxs : xk (enc rk) iv 0 (b.take k) ++ [b.getD k 0 ^^^ (enc rk (cnt iv q)).getD r 0] = xk (enc rk) iv 0 (b.take (k + 1)) := by
          rw [take_succ_getD 0 b k (by rw [Hn.out]; exact hlt), xk_append]
          congr 1
          have : (b.take k).length = k := by rw [List.length_take, Hn.out]; omega
          rw [this]
          simp [xk, ksb, Hq.out, Hr.out]
        have hxl : (xk (enc rk) iv 0 (b.take k)).length < 140737488355328 := by rw [xk_len, List.length_take]; omega
        obtain ⟨bp, bo, rfl, _, cb⟩ := hpw k (by rw [Hn.out]; exact hlt)
        have hel := Hel.out _ (cnt_len iv q)
        have cy := hB.cellAt (bys_get _ r (by omega))
        generalize hx : b.getD k 0 = x at *
        generalize hy : (enc rk (cnt iv q)).getD r 0 = y at *
        have Hxs := hid hxs
        have Hxl := hid hxl
        have Hel2 := hid hel
        have hO1 := hO.drew
        have hC1 := hC.drew
        have hB1 := hB.drew
        have q1 : (k : Int) < (n : Int) := by omega
        have q2 : 0 ≤ (k : Int) := by omega
        have q3 : 0 ≤ (r : Int) := by omega
        have q4 : (r : Int) < 16 := by omega
        have hwc : bb + 1 ≤ wc.drew.heap.size := by show bb + 1 ≤ wc.heap.size; omega
        have hnx : (k + 1) % 16 = 0 ∨ enc rk (cnt iv q) = enc rk (cnt iv ((k + 1) / 16)) := by
          have := Hq.out
          have := Hr.out
          by_cases h : (k + 1) % 16 = 0
          · exact .inl h
          · exact .inr (by rw [show (k + 1) / 16 = q by omega])
        have Hnx := hid hnx
        clear hx hy hxs hxl hel hcase hwz hcs hnx
        go_wp2_with fail
        try simp only [Act.put]
        refine tkR (fun w' => w'.cell? ⟨bp, bo + k, none⟩ = some (.int .u8 (bv x)) ∧ w'.cell? ⟨bb, r, none⟩ = some (.int .u8 (bv y))) [10] (by kernel_rfl) (fun c a d v w h => by cases d <;> exact h) (⟨cb, cy⟩) (fun hPF hHeld => ?_)
        refine tkB 0 (.some 33) _ _ rfl rfl (by kernel_rfl) (by kernel_rfl) (by kernel_rfl) (by kernel_rfl) hPF rfl (fun w' => by (go_simp; try with_reducible rfl)) hHeld (fun hHeld => ?_)
        simp only [Act.put, List.setIfInBounds_toArray, List.set_cons_zero, List.set_cons_succ]
        refine tkB 1 (.some 34) _ _ rfl rfl (by kernel_rfl) (by kernel_rfl) (by kernel_rfl) (by kernel_rfl) hPF rfl (fun w' => by (go_simp; try with_reducible rfl)) hHeld (fun hHeld => ?_)
        simp only [Act.put, List.setIfInBounds_toArray, List.set_cons_zero, List.set_cons_succ]
        refine tkB 2 (.some 35) _ _ rfl rfl (by kernel_rfl) (by kernel_rfl) (by kernel_rfl) (by kernel_rfl) hPF rfl (fun w' => by (go_simp; try with_reducible rfl)) hHeld (fun hHeld => ?_)
        simp only [Act.put, List.setIfInBounds_toArray, List.set_cons_zero, List.set_cons_succ]
        refine tkB 3 (.some 36) _ _ rfl rfl (by kernel_rfl) (by kernel_rfl) (by kernel_rfl) (by kernel_rfl) hPF rfl (fun w' => by (go_simp; try with_reducible rfl)) hHeld (fun hHeld => ?_)
        simp only [Act.put, List.setIfInBounds_toArray, List.set_cons_zero, List.set_cons_succ]
        refine tkA 4 (.some 37) _ _ rfl rfl (by kernel_rfl) (by kernel_rfl) (by kernel_rfl) (by kernel_rfl) (by kernel_rfl) hPF rfl (fun w' hw' => by (have h1 := hw'.1; go_simp; try with_reducible rfl)) hHeld (fun hHeld => ?_)
        simp only [Act.put, List.setIfInBounds_toArray, List.set_cons_zero, List.set_cons_succ]
        refine tkB 5 (.some 38) _ _ rfl rfl (by kernel_rfl) (by kernel_rfl) (by kernel_rfl) (by kernel_rfl) hPF rfl (fun w' => by (go_simp; try with_reducible rfl)) hHeld (fun hHeld => ?_)
        simp only [Act.put, List.setIfInBounds_toArray, List.set_cons_zero, List.set_cons_succ]
        refine tkB 6 (.some 39) _ _ rfl rfl (by kernel_rfl) (by kernel_rfl) (by kernel_rfl) (by kernel_rfl) hPF rfl (fun w' => by (go_simp; try with_reducible rfl)) hHeld (fun hHeld => ?_)
        simp only [Act.put, List.setIfInBounds_toArray, List.set_cons_zero, List.set_cons_succ]
        refine tkB 7 (.some 40) _ _ rfl rfl (by kernel_rfl) (by kernel_rfl) (by kernel_rfl) (by kernel_rfl) hPF rfl (fun w' => by (go_simp; try with_reducible rfl)) hHeld (fun hHeld => ?_)
        simp only [Act.put, List.setIfInBounds_toArray, List.set_cons_zero, List.set_cons_succ]
        refine tkA 8 (.some 41) _ _ rfl rfl (by kernel_rfl) (by kernel_rfl) (by kernel_rfl) (by kernel_rfl) (by kernel_rfl) hPF rfl (fun w' hw' => by (have h1 := hw'.2; go_simp; try with_reducible rfl)) hHeld (fun hHeld => ?_)
        simp only [Act.put, List.setIfInBounds_toArray, List.set_cons_zero, List.set_cons_succ]
        refine tkB 9 (.some 42) _ _ rfl rfl (by kernel_rfl) (by kernel_rfl) (by kernel_rfl) (by kernel_rfl) hPF rfl (fun w' => by (go_simp; try with_reducible rfl)) hHeld (fun hHeld => ?_)
        simp only [Act.put, List.setIfInBounds_toArray, List.set_cons_zero, List.set_cons_succ]
        refine tkW (rs := [10]) (by kernel_rfl) (by simp) (AllK.close (o := _) rfl (by kernel_rfl) (fun KC hKC => ?_) AllK.nil)
        go_simp
        refine hKC.out _ _ (fun hHeld => ?_)
        clear hKC KC
        try simp only [Act.put, List.setIfInBounds_toArray, List.set_cons_zero, List.set_cons_succ]
        refine tkW (rs := [11]) (by kernel_rfl) (by simp) (AllK.close (o := _) rfl (by kernel_rfl) (fun KC hKC => ?_) AllK.nil)
        refine wantIt rfl (wp_push (.some 44) rfl (.tmp 33) (.tmp 43) rfl (bb + 1) u9 _ rfl hO1 (x ^^^ y) rfl Hxl.out hwc ?_)
        intro v' w7 hO7 hg7 _
        rw [Hxs.out] at hO7
        have hC7 := hC1.grown hg7 (by rw [← Hwz.out]; exact hC1.size) (fun j e => .inr (hO1.lt j e).1)
        have hB7 := hB1.kept hg7 (fun e => by have := (hO1.lt bb e).1; omega)
        refine hKC.out _ _ (fun hHeld => ?_)
        clear hKC KC
        try simp only [Act.put, List.setIfInBounds_toArray, List.set_cons_zero, List.set_cons_succ]
        refine tkB 12 (.some 9) _ _ rfl rfl (by kernel_rfl) (by kernel_rfl) (by kernel_rfl) (by kernel_rfl) hPF rfl (fun w' => by (go_simp; try with_reducible rfl)) hHeld (fun hHeld => ?_)
        simp only [Act.put, List.setIfInBounds_toArray, List.set_cons_zero, List.set_cons_succ]
        refine tkD (by kernel_rfl) ?_ _
        go_wp2_with fail
        go_roundw
        case rel => exact ⟨k + 1, enc rk (cnt iv q), by omega, by go_num, Hel2.out, Hnx.out, hB7, hO7, hC7⟩
        case measure => (simp [intOf]; try omega)
    · obtain rfl : k = n := by omega
      have e : b.take k = b := List.take_of_length_le (by rw [Hn.out]; exact Nat.le_refl _)
      have hO := HO.out
      rw [e] at hO
      clear e
      go_wp2_with fail
      go_ret
      rw [Hrk.out]
      exact ⟨_, rfl, hO.mono (by omega), hBw.trans (hC.below (by omega) (fun j hj => by simp at hj; omega))⟩
end Go.Proofs.Ytgellbapbphnlaa
