import Derived.Test.YtgellbapbphnlaaRu
import Derived.Test.YtgellbapbphnlaaGo
/- the reference's First, Seal, Open of GCM -/
namespace Go.Proofs.Ytgellbapbphnlaa
open Go.RowKit

set_option maxRecDepth 100000 in
set_option maxHeartbeats 4000000 in
theorem reffirst_any {T : List UInt8} (hT : tbl 256 = T) (w : World) (g nr kc : Nat) (rk : List UInt8) (hk : RK w g nr rk) (pi : Option Addr) (l ci : Nat) (iv : List UInt8) (hi : RowAt w pi iv) (hl : iv.length = l) (h0 : l ≠ 0) (h9 : l < 10000) :
    Calls Try.prog 33 #[.agg (bys T).toArray, .slice (some ⟨g, 0, none⟩) nr kc, .slice pi l ci] w fun e w' => e = .returned (.agg (bys (firstF (enc rk) iv)).toArray) ∧ Below w.heap.size w w' := by
  have hTl : T.length = 256 := by rw [← hT]; exact tbl_len 256 (by omega)
  have hsT : (Try.prog.info? 62).map (·.size) = some (bys T).length := by rw [size60, bys_length, hTl]
  have t0 : Blk ((w.alloc (.cells (bys T).toArray tA256)).alloc (.cells (bys z16).toArray tA16)) w.heap.size (bys T) tA256 := (Blk.new w (bys T) tA256).alloc _
  have t1 : Blk ((w.alloc (.cells (bys T).toArray tA256)).alloc (.cells (bys z16).toArray tA16)) (w.heap.size + 1) (bys z16) tA16 := by
    have := Blk.new (w.alloc (.cells (bys T).toArray tA256)) (bys z16) tA16
    simp only [World.size_alloc] at this; exact this
  have hB0 : Below w.heap.size w ((w.alloc (.cells (bys T).toArray tA256)).alloc (.cells (bys z16).toArray tA16)) := ((Below.refl _ _).alloc (Nat.le_refl _) _).alloc (by simp) _
  have hk1 := hk.below hB0
  have hi1 := hi.below hB0
  have hql := firstF_len (enc rk) iv
  have hff : firstF (enc rk) iv = firstF (enc rk) iv := rfl
  conv at hff => rhs; unfold firstF
  rw [hl, if_neg h0] at hff
  obtain ⟨q, hq⟩ : ∃ q, firstF (enc rk) iv = q := ⟨_, rfl⟩
  rw [hq] at hff hql
  have Hl := hid hl
  have Hq := hid hq
  have Hff := hid hff
  have HT := hid hT
  have hsq : (Try.prog.info? 36).map (·.size) = some (bys q).length := by rw [size54, bys_length, hql]
  have hend : ∀ wx, Blk wx (w.heap.size + 1) (bys z16) tA16 → Below w.heap.size w wx → Blk (wx.setCells (w.heap.size + 1) 0 (bys q)) (w.heap.size + 1) (bys q) tA16 ∧ Below w.heap.size w (wx.setCells (w.heap.size + 1) 0 (bys q)) := fun wx h1 h2 => by
    have h1d := h1.setCells (bys q) 0 (by rw [bys_length, bys_length, hql]; decide)
    rw [splice_whole _ _ (by rw [bys_length, bys_length, hql]; rfl)] at h1d
    exact ⟨h1d, h2.trans (((Chg.refl (w.heap.size) [] wx).setCells (b := w.heap.size + 1) (.inr (Nat.le_succ _)) (bys q) 0).below (Nat.le_refl _) (by simp))⟩
  have Hend := hid hend
  clear hk hi hl hff hq hT hTl hend
  go_enter Try.func33, Try.ntmps33
  by_cases h12 : l = 12
  · have q1 : ((l : Int) == 12) = true := by rw [beq_iff_eq]; omega
    have hff := Hff.out
    rw [if_pos h12] at hff
    have Hf2 := hid hff
    have hl9 : l + 4 = 16 := by omega
    have hiw := hi1.below ((Below.refl ((w.alloc (.cells (bys T).toArray tA256)).alloc (.cells (bys z16).toArray tA16)).heap.size ((w.alloc (.cells (bys T).toArray tA256)).alloc (.cells (bys z16).toArray tA16))).alloc (Nat.le_refl _) (.cells #[] 5))
    clear hff h12 hi1
    go_upto_region 1 with fail
    change Code.wp _ _ _ _ ((w.alloc (.cells (bys T).toArray tA256)).alloc (.cells (bys z16).toArray tA16))
    generalize (w.alloc (.cells (bys T).toArray tA256)).alloc (.cells (bys z16).toArray tA16) = w1 at *
    go_wp2_with (first
      | (refine wpList_addO (OwnR.made w1) rfl (.tmp 11) (.tmp 12) rfl rfl pi l ci iv rfl hiw Hl.out (by simp; omega) (by simp) ?_; intro v3 w3 hown3 hgrow3 _; have hS3 : Below w1.heap.size w1 w3 := ((Below.refl _ _).alloc (Nat.le_refl _) _).grown hgrow3 (by simp) (fun j e => ((OwnR.made w1).lt j e).1); have hone : RowAt (w3.alloc (.cells #[.int .u8 0, .int .u8 0, .int .u8 0, .int .u8 1] 5)) (some ⟨w3.heap.size, 0, none⟩) one4 := (Blk.new w3 (bys one4) tU8).rowAt0; rw [List.nil_append] at hown3; have hown4 := hown3.below ((Below.refl w3.heap.size w3).alloc (Nat.le_refl _) (.cells #[.int .u8 0, .int .u8 0, .int .u8 0, .int .u8 1] 5)); have hS4 := hS3.alloc hS3.size (.cells #[.int .u8 0, .int .u8 0, .int .u8 0, .int .u8 1] 5))
      | (refine wpList_addO hown4 rfl (.tmp 13) (.tmp 14) rfl rfl (some ⟨w3.heap.size, 0, none⟩) 4 4 one4 rfl hone rfl (by rw [Hl.out]; omega) hS4.size ?_; intro v5 w5 hown5 hgrow5 _; have hS5 := hS4.grown hgrow5 hS4.size (fun j e => (hown4.lt j e).1)))
    rw [← Hf2.out] at hown5
    have t1 := t1.below hS5 t1.lt
    have hB := hB0.trans (hS5.mono hB0.size)
    obtain ⟨pv, cv, rfl, hcv, hrv⟩ := hown5.row
    rw [hql]
    clear hown5 hgrow5 hS4 hown4 hone hS3 hown3 hgrow3 hiw hS5 hB0 t0 hk1
    refine (refblock_any w5 pv cv q hrv hql).mono ?_
    rintro e w6 ⟨rfl, hB6⟩
    have t1 := t1.below hB6 t1.lt
    have hB := hB.trans (hB6.mono hB.size)
    go_wp2_with (refine wpList_store_mid rfl 36 (.tmp 6) (.tmp 16) rfl (w.heap.size + 1) 0 (bys q).toArray rfl rfl (t1.there 0 _ (by rw [List.size_toArray, bys_length, bys_length, hql]; decide)) (by rw [size54, List.size_toArray, bys_length, hql]) (all_oneCell_toArray (bys_one _)) ?_)
    obtain ⟨g1, g2⟩ := Hend.out _ t1 hB
    refine bodyPost_ret (v := .agg (bys q).toArray) (results_cell_row (P := Try.prog) (p := 6) (ty := 36) rfl _ _ (w.heap.size + 1) tA16 _ (0, 0) _ rfl g1 under54 rfl hsq) rfl ⟨by rw [Hq.out], g2⟩
  · have q1 : ((l : Int) == 12) = false := by rw [beq_eq_false_iff_ne]; omega
    have hff := Hff.out
    rw [if_neg h12] at hff
    have hEl := hk1.E z16 rfl
    obtain ⟨HH, hHH⟩ : ∃ HH, enc rk z16 = HH := ⟨_, rfl⟩
    rw [hHH] at hEl hff
    have Hf2 := hid hff
    have HHH := hid hHH
    have HHl := hid hEl
    clear hff h12 hHH hEl
    go_wp2_with (refine wpList_load_mid rfl 62 (.tmp 3) rfl w.heap.size 0 rfl (bys T) _ t0.whole under60 rfl hsT ?_)
    change Calls _ _ #[_, _, .agg (bys z16).toArray] ((w.alloc (.cells (bys T).toArray tA256)).alloc (.cells (bys z16).toArray tA16)) _
    generalize (w.alloc (.cells (bys T).toArray tA256)).alloc (.cells (bys z16).toArray tA16) = w1 at *
    refine (refenc_K HT.out w1 g nr kc rk z16 hk1 rfl).mono ?_
    rintro e w1' ⟨rfl, hB1⟩
    rw [HHH.out]
    have hl0 : Blk (w1'.alloc (.cells (bys z16).toArray tA16)) w1'.heap.size (bys z16) tA16 := Blk.new _ _ _
    have hl1 := hl0.setCells (bys HH) 0 (by rw [bys_length, bys_length, HHl.out]; decide)
    rw [splice_whole _ _ (by rw [bys_length, bys_length, HHl.out]; rfl)] at hl1
    have hBa : Below w1'.heap.size w1' ((w1'.alloc (.cells (bys z16).toArray tA16)).setCells w1'.heap.size 0 (bys HH)) := ((Below.refl _ _).alloc (Nat.le_refl _) _).trans (((Chg.refl (w1'.alloc (.cells (bys z16).toArray tA16)).heap.size [w1'.heap.size] (w1'.alloc (.cells (bys z16).toArray tA16))).setCells (b := w1'.heap.size) (.inl (by simp)) (bys HH) 0).below (M := w1'.heap.size) (by simp) (fun k hk => by simp at hk; omega))
    have hBb := hB1.trans (hBa.mono hB1.size)
    have t1 := t1.below hBb t1.lt
    have hi1 := hi1.below hBb
    have hB := hB0.trans (hBb.mono hB0.size)
    clear hB0 hB1 hBa hBb t0 hk1
    go_upto_region 4 with (refine wpList_store_mid rfl 36 (.tmp 7) (.tmp 20) rfl w1'.heap.size 0 (bys HH).toArray rfl rfl (hl0.there 0 _ (by rw [List.size_toArray, bys_length, bys_length, HHl.out]; decide)) (by rw [size54, List.size_toArray, bys_length, HHl.out]) (all_oneCell_toArray (bys_one _)) ?_)
    change Code.wp _ _ _ _ ((w1'.alloc (.cells (bys z16).toArray tA16)).setCells w1'.heap.size 0 (bys HH))
    generalize (w1'.alloc (.cells (bys z16).toArray tA16)).setCells w1'.heap.size 0 (bys HH) = w2 at *
    generalize w1'.heap.size = hb at *
    clear hl0
    have hsH : (Try.prog.info? 36).map (·.size) = some (bys HH).length := by rw [size54, bys_length, HHl.out]
    have hPl := padZ_le iv
    have hPn := padZ_len iv
    obtain ⟨P, hP⟩ : ∃ P, padZ iv = P := ⟨_, rfl⟩
    have hff := Hf2.out
    rw [hP] at hPl hPn hff
    rw [Hl.out] at hPl
    have HP := hid hP
    have Hf3 := hid hff
    have hP16 : P.length % 16 = 0 := by rw [hPn]; omega
    clear hP hff hPn
    have hS : Below w2.heap.size w2 w2.drew := (Below.refl _ _).drew
    try simp only [Act.put]
    refine tkR (fun w' => Below w2.heap.size w2 w') [8] (by kernel_rfl) (fun c a d v w h => by cases d <;> exact h) (hS) (fun hPF hHeld => ?_)
    refine tkL 0 (.some 21) _ rfl rfl 36 (.tmp 7) rfl hb 0 (bys HH) _ (by kernel_rfl) (by kernel_rfl) (by kernel_rfl) (by kernel_rfl) (by kernel_rfl) hPF rfl rfl (fun w' hw' => (hl1.below hw' hl1.lt).whole) under54 rfl hsH hHeld (fun hHeld => ?_)
    simp only [Act.put, List.setIfInBounds_toArray, List.set_cons_zero, List.set_cons_succ]
    refine tkB 1 (.some 22) _ _ rfl rfl (by kernel_rfl) (by kernel_rfl) (by kernel_rfl) (by kernel_rfl) hPF rfl (fun w' => by (go_simp; try with_reducible rfl)) hHeld (fun hHeld => ?_)
    simp only [Act.put, List.setIfInBounds_toArray, List.set_cons_zero, List.set_cons_succ]
    refine tkB 3 (.some 24) _ _ rfl rfl (by kernel_rfl) (by kernel_rfl) (by kernel_rfl) (by kernel_rfl) hPF rfl (fun w' => by (go_simp; try with_reducible rfl)) hHeld (fun hHeld => ?_)
    simp only [Act.put, List.setIfInBounds_toArray, List.set_cons_zero, List.set_cons_succ]
    refine tkB 4 (.some 25) _ _ rfl rfl (by kernel_rfl) (by kernel_rfl) (by kernel_rfl) (by kernel_rfl) hPF rfl (fun w' => by (go_simp; try with_reducible rfl)) hHeld (fun hHeld => ?_)
    simp only [Act.put, List.setIfInBounds_toArray, List.set_cons_zero, List.set_cons_succ]
    have hS := hHeld (by kernel_rfl)
    refine tkW (rs := [2]) (by kernel_rfl) (by simp) (AllK.cons (o := _) rfl (fun KC hKC => ?_) AllK.nil)
    go_simp
    (with_reducible refine (refpadded_any _ pi l ci iv hi1.drew Hl.out (by omega)).mono ?_)
    rintro e w3 ⟨v3, rfl, hown, hB3⟩
    rw [HP.out] at hown
    have hS := hS.trans (hB3.mono hS.size)
    have hown := hown.mono (show w2.heap.size ≤ w2.drew.heap.size from Nat.le_refl _)
    refine hKC.out _ _ (hS) (fun hHeld => ?_)
    clear hKC KC
    try simp only [Act.put, List.setIfInBounds_toArray, List.set_cons_zero, List.set_cons_succ]
    have hS := hHeld (by kernel_rfl)
    refine tkW (rs := [5]) (by kernel_rfl) (by simp) (AllK.cons (o := _) rfl (fun KC hKC => ?_) AllK.nil)
    go_simp
    change Calls _ _ #[.int .i64 ((0 : Nat) : Int), _] _ _
    (with_reducible refine (reflengths_any _ 0 l (by omega) (by omega)).mono ?_)
    rintro e w6 ⟨vL, rfl, hownL, hB6⟩
    have hS := hS.trans (hB6.mono hS.size)
    have hown := hown.below hB6
    obtain ⟨pL, cL, rfl, _, hrL⟩ := hownL.row
    rw [lenF_len]
    clear hownL hB6
    refine hKC.out _ _ (hS) (fun hHeld => ?_)
    clear hKC KC
    try simp only [Act.put, List.setIfInBounds_toArray, List.set_cons_zero, List.set_cons_succ]
    have hS := hHeld (by kernel_rfl)
    refine tkW (rs := [6]) (by kernel_rfl) (by simp) (AllK.cons (o := _) rfl (fun KC hKC => ?_) AllK.nil)
    refine wantIt rfl (wp_add (.some 27) rfl (.tmp 23) (.tmp 26) rfl w2.heap.size _ P rfl hown pL 16 cL (lenF 0 l) rfl hrL (lenF_len _ _) (by omega) hS.size ?_)
    intro v7 w7 hown7 hg7 _
    have hS := hS.grown hg7 hS.size (fun j e => (hown.lt j e).1)
    obtain ⟨p7, c7, rfl, hc7, hr7⟩ := hown7.row
    clear hown hg7 hrL hown7
    refine hKC.out _ _ (hS) (fun hHeld => ?_)
    clear hKC KC
    try simp only [Act.put, List.setIfInBounds_toArray, List.set_cons_zero, List.set_cons_succ]
    have hS := hHeld (by kernel_rfl)
    refine tkW (rs := [7]) (by kernel_rfl) (by simp) (AllK.cons (o := _) rfl (fun KC hKC => ?_) AllK.nil)
    go_simp
    refine (refsum_any _ HH HHl.out p7 (P.length + 16) c7 (P ++ lenF 0 l) hr7 (by rw [List.length_append, lenF_len]) (by omega) (by omega)).mono ?_
    rintro e w8 ⟨rfl, hB8⟩
    rw [← Hf3.out]
    have hS := hS.trans (hB8.mono hS.size)
    have hBx := hB.trans (hS.mono hB.size)
    have t1 := t1.below hS t1.lt
    obtain ⟨g1, g2⟩ := Hend.out _ t1 hBx
    have hw1 : w.heap.size ≤ w2.heap.size := hB.size
    refine hKC.out _ _ (hS) (fun hHeld => ?_)
    clear hKC KC
    try simp only [Act.put, List.setIfInBounds_toArray, List.set_cons_zero, List.set_cons_succ]
    refine tkW (rs := [8]) (by kernel_rfl) (by simp) (AllK.close (o := _) rfl (by kernel_rfl) (fun KC hKC => ?_) AllK.nil)
    refine wantIt rfl (wp_storeD none rfl 36 (.tmp 6) (.tmp 28) rfl (w.heap.size + 1) 0 (bys q).toArray rfl rfl (t1.there 0 _ (by rw [List.size_toArray, bys_length, bys_length, hql]; decide)) (by rw [size54, List.size_toArray, bys_length, hql]) (all_oneCell_toArray (bys_one _)) ?_)
    refine hKC.out _ _ (fun hHeld => ?_)
    clear hKC KC
    try simp only [Act.put]
    refine tkD (by kernel_rfl) ?_ _
    go_wp2_with fail
    refine bodyPost_ret (v := .agg (bys q).toArray) (results_cell_row (P := Try.prog) (p := 6) (ty := 36) rfl _ _ (w.heap.size + 1) tA16 _ (0, 0) _ rfl g1 under54 rfl hsq) rfl ⟨by rw [Hq.out], g2⟩
end Go.Proofs.Ytgellbapbphnlaa

/- the reference's Seal and Open of GCM -/
namespace Go.Proofs.Ytgellbapbphnlaa
open Go.RowKit

set_option maxRecDepth 100000 in
set_option maxHeartbeats 4000000 in
theorem refseal_any (w : World) (kb ko kn kc m : Nat) (key : List UInt8) (hkr : RowAt w (some ⟨kb, ko, none⟩) key) (hkl : key.length = kn) (hm : m = 4 ∨ m = 8) (hkm : kn = 4 * m) (pi : Option Addr) (l ci : Nat) (iv : List UInt8) (hi : RowAt w pi iv) (hl : iv.length = l) (h0 : l ≠ 0) (h9 : l < 10000)
    (pa : Option Addr) (n ca : Nat) (a : List UInt8) (ha : RowAt w pa a) (hn : a.length = n) (hn9 : n < 9000) (pb : Option Addr) (k cb : Nat) (b : List UInt8) (hb : RowAt w pb b) (hk : b.length = k) (hk9 : k < 9000) :
    Calls Try.prog 36 #[.slice (some ⟨kb, ko, none⟩) kn kc, .slice pi l ci, .slice pa n ca, .slice pb k cb] w fun e w' => ∃ v, e = .returned v ∧ OwnR w.heap.size w' v (sealG (enc (rkOf m key)) (firstF (enc (rkOf m key)) iv) a b) ∧ Below w.heap.size w w' := by
  obtain ⟨T, hTe⟩ : ∃ T, tbl 256 = T := ⟨_, rfl⟩
  obtain ⟨Z, hZe⟩ : ∃ Z, tbl 0 = Z := ⟨_, rfl⟩
  have hl0 := tbl_len 0 (by omega)
  have hl1 := tbl_len 256 (by omega)
  have zz := zc60
  rw [hZe] at hl0 zz
  rw [hTe] at hl1
  have hrl := rkOf_len m key (by rw [hkl, hkm]) hm
  have hel := fun s hs => enc_l16 m key s (by rw [hkl, hkm]) hm hs
  obtain ⟨rk, hrk⟩ : ∃ rk, rkOf m key = rk := ⟨_, rfl⟩
  rw [hrk] at hrl hel
  obtain ⟨c, hce⟩ : ∃ c, firstF (enc rk) iv = c := ⟨_, rfl⟩
  have hcl := firstF_len (enc rk) iv
  rw [hce] at hcl
  have HTe := hid hTe
  have Zz := hid zz
  have Hl1 := hid hl1
  have Hl0 := hid hl0
  have Hl := hid hl
  have Hn := hid hn
  have Hk := hid hk
  have Hkl := hid hkl
  have Hkm := hid hkm
  have Hrl := hid hrl.1
  have Hel := hid hel
  have Hrk := hid hrk
  have Hce := hid hce
  have Hcl := hid hcl
  clear hTe hZe zz hl0 hl1 hl hn hk hkl hkm hrl hel hrk hce hcl
  go_enter Try.func36, Try.ntmps36
  go_wp2_with fail
  refine (table_T HTe.out w).mono ?_
  rintro e w3 ⟨rfl, hB3⟩
  have hkr0 := hkr.below hB3
  have hi0 := hi.below hB3
  have ha0 := ha.below hB3
  have hb0 := hb.below hB3
  clear hkr hi ha hb
  obtain ⟨tb, htb⟩ : ∃ tb, w3.heap.size = tb := ⟨_, rfl⟩
  have hT0 : Blk (w3.alloc (.cells Try.zeroCells62 62)) tb (bys Z) tA256 := by rw [Zz.out, ← htb]; exact Blk.new w3 (bys Z) tA256
  have hBt : Below w3.heap.size w3 (w3.alloc (.cells Try.zeroCells62 62)) := (Below.refl _ _).alloc (Nat.le_refl _) _
  obtain ⟨hTT, hcc⟩ := store16 (new := T) hT0 (by rw [Hl0.out, Hl1.out])
  have hBs := hBt.trans (hcc.below (M := w3.heap.size) hBt.size (fun k hk => by simp at hk; omega))
  have hkr0 := hkr0.below hBs
  have hi0 := hi0.below hBs
  have ha0 := ha0.below hBs
  have hb0 := hb0.below hBs
  have hBw := hB3.trans (hBs.mono hB3.size)
  clear hBt hcc hBs hB3
  have hsT : (Try.prog.info? 62).map (·.size) = some (bys T).length := by rw [size60, bys_length, Hl1.out]
  go_wp2_with (first | (refine wpList_store_mid rfl 62 (.tmp 9) (.tmp 13) rfl tb 0 (bys T).toArray rfl rfl (hT0.there 0 _ (by rw [List.size_toArray, bys_length, bys_length, Hl0.out, Hl1.out]; decide)) (by rw [size60, List.size_toArray, bys_length, Hl1.out]) (all_oneCell_toArray (bys_one _)) ?_) | (refine wpList_load_mid rfl 62 (.tmp 9) rfl tb 0 rfl (bys T) _ hTT.whole under60 rfl hsT ?_))
  clear hT0 htb
  generalize (w3.alloc (.cells Try.zeroCells62 62)).setCells tb 0 (bys T) = w4 at *
  refine (refkeys_T HTe.out w4 kb ko kn kc m key hkr0 Hkl.out hm Hkm.out).mono ?_
  rintro e w5 ⟨g, cap2, ex, rfl, hG, hBn⟩
  have hi0 := hi0.below hBn
  have ha0 := ha0.below hBn
  have hb0 := hb0.below hBn
  have hTT := hTT.below hBn hTT.lt
  have hBw := hBw.trans (hBn.mono hBw.size)
  rw [Hrk.out] at hG
  clear hBn hkr0
  obtain ⟨nr, hnr⟩ : ∃ nr, m + 7 = nr := ⟨_, rfl⟩
  have hRK : RK w5 g nr rk := ⟨⟨ex, hG⟩, by rw [← hnr]; exact Hrl.out, by omega, by omega, Hel.out⟩
  rw [hnr]
  clear hG hnr
  go_wp2_with (refine wpList_load_mid rfl 62 (.tmp 9) rfl tb 0 rfl (bys T) _ hTT.whole under60 rfl hsT ?_)
  refine (reffirst_any HTe.out w5 g nr cap2 rk hRK pi l ci iv hi0 Hl.out h0 h9).mono ?_
  rintro e w6 ⟨rfl, hBn⟩
  have ha0 := ha0.below hBn
  have hb0 := hb0.below hBn
  have hTT := hTT.below hBn hTT.lt
  have hRK := hRK.below hBn
  have hBw := hBw.trans (hBn.mono hBw.size)
  rw [Hce.out]
  clear hBn hi0
  have hsc : (Try.prog.info? 36).map (·.size) = some (bys c).length := by rw [size54, bys_length, Hcl.out]
  have hc0 : Blk (w6.alloc (.cells (bys z16).toArray tA16)) w6.heap.size (bys z16) tA16 := Blk.new _ _ _
  have hc1 := hc0.setCells (bys c) 0 (by rw [bys_length, bys_length, Hcl.out]; decide)
  rw [splice_whole _ _ (by rw [bys_length, bys_length, Hcl.out]; rfl)] at hc1
  have hBa : Below w6.heap.size w6 ((w6.alloc (.cells (bys z16).toArray tA16)).setCells w6.heap.size 0 (bys c)) := ((Below.refl _ _).alloc (Nat.le_refl _) _).trans (((Chg.refl (w6.alloc (.cells (bys z16).toArray tA16)).heap.size [w6.heap.size] (w6.alloc (.cells (bys z16).toArray tA16))).setCells (b := w6.heap.size) (.inl (by simp)) (bys c) 0).below (M := w6.heap.size) (by simp) (fun k hk => by simp at hk; omega))
  have ha0 := ha0.below hBa
  have hb0 := hb0.below hBa
  have hTT := hTT.below hBa hTT.lt
  have hRK := hRK.below hBa
  have hBw := hBw.trans (hBa.mono hBw.size)
  clear hBa
  have hx := gx_stream (enc rk) c b Hel.out Hcl.out
  have hs : sealG (enc (rkOf m key)) (firstF (enc (rkOf m key)) iv) a b = gx (enc rk) c b ++ tagF (enc rk) c a (gx (enc rk) c b) := by rw [Hrk.out, Hce.out, hx]; rfl
  have hxl := gx_len (enc rk) c b
  rw [Hk.out] at hxl
  have htl := fun x => tagF_len (enc rk) c a x (Hel.out c Hcl.out)
  have Hs := hid hs
  have Htl := hid htl
  clear hx hs htl
  go_wp2_with (first | (refine wpList_store_mid rfl 36 (.tmp 11) (.tmp 20) rfl w6.heap.size 0 (bys c).toArray rfl rfl (hc0.there 0 _ (by rw [List.size_toArray, bys_length, bys_length, Hcl.out]; decide)) (by rw [size54, List.size_toArray, bys_length, Hcl.out]) (all_oneCell_toArray (bys_one _)) ?_) | (refine wpList_load_mid rfl 62 (.tmp 9) rfl tb 0 rfl (bys T) _ hTT.whole under60 rfl hsT ?_) | (refine wpList_load_mid rfl 36 (.tmp 11) rfl w6.heap.size 0 rfl (bys c) _ hc1.whole under54 rfl hsc ?_))
  change Calls _ _ _ ((w6.alloc (.cells (bys z16).toArray tA16)).setCells w6.heap.size 0 (bys c)) _
  clear hc0
  generalize (w6.alloc (.cells (bys z16).toArray tA16)).setCells w6.heap.size 0 (bys c) = W at *
  generalize w6.heap.size = hc at *
  have hW0 : w.heap.size ≤ W.heap.size := hBw.size
  refine (refcrypt10_any HTe.out W g nr cap2 rk hRK c Hcl.out pb k cb b hb0 Hk.out (by omega)).mono ?_
  rintro e W1 ⟨v1, rfl, hown, hBn⟩
  have ha0 := ha0.below hBn
  have hTT := hTT.below hBn hTT.lt
  have hRK := hRK.below hBn
  have hc1 := hc1.below hBn hc1.lt
  have hBw := hBw.trans (hBn.mono hBw.size)
  have hWs := hBn.size
  clear hb0 hBn
  obtain ⟨X, hX⟩ : ∃ X, gx (enc rk) c b = X := ⟨_, rfl⟩
  rw [hX] at hown hxl
  have hs := Hs.out
  rw [hX] at hs
  have Hs := hid hs
  have Hxl := hid hxl
  clear hX hs hxl
  obtain ⟨p1, c1, rfl, hc1c, hr1⟩ := hown.row
  rw [Hxl.out] at hown hc1c ⊢
  go_wp2_with (first | (refine wpList_load_mid rfl 62 (.tmp 9) rfl tb 0 rfl (bys T) _ hTT.whole under60 rfl hsT ?_) | (refine wpList_load_mid rfl 36 (.tmp 11) rfl hc 0 rfl (bys c) _ hc1.whole under54 rfl hsc ?_))
  refine (reftag_any HTe.out W1 g nr cap2 rk hRK c Hcl.out pa n ca a ha0 Hn.out (by omega) p1 k c1 X hr1 Hxl.out (by omega)).mono ?_
  rintro e W2 ⟨v2, rfl, hown2, hBn⟩
  have hown := hown.below hBn
  have hWs := Nat.le_trans hWs hBn.size
  have hBw := hBw.trans (hBn.mono hBw.size)
  have ht := Htl.out X
  obtain ⟨tg, htg⟩ : ∃ tg, tagF (enc rk) c a X = tg := ⟨_, rfl⟩
  rw [htg] at ht hown2
  have hs := Hs.out
  rw [htg] at hs
  have Ht := hid ht
  have Hs := hid hs
  clear hs ht htg
  obtain ⟨p2, c2, rfl, hc2c, hr2⟩ := hown2.row
  rw [Ht.out] at hc2c ⊢
  go_wp2_with (refine wpList_addO hown rfl (.tmp 26) (.tmp 32) rfl rfl p2 16 c2 tg rfl hr2 Ht.out (by have := Hxl.out; omega) hWs ?_; intro v3 w7 hown7 hgrow7 _; have hB7 := (Below.refl _ _).grown hgrow7 hWs (fun j e => (hown.lt j e).1))
  go_ret
  refine ⟨_, rfl, by rw [Hs.out]; exact hown7.mono hW0, hBw.trans (hB7.mono hW0)⟩

end Go.Proofs.Ytgellbapbphnlaa
