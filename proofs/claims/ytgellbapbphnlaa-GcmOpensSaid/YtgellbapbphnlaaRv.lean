/- the reference's Open of GCM -/
import Derived.Test.YtgellbapbphnlaaRz
import Derived.Test.YtgellbapbphnlaaSt
namespace Go.Proofs.Ytgellbapbphnlaa
open Go.RowKit

/-- How the reference's Open answers. -/
def RefO (base : Nat) (w : World) (v : Value) (ok : Bool) (o : Option (List UInt8)) : Prop :=
  match o with
  | some l => ok = true ∧ OwnR base w v l
  | none => ok = false ∧ v = .slice none 0 0
set_option maxRecDepth 100000 in
set_option maxHeartbeats 4000000 in
theorem refopen_any (w : World) (kb ko kn kc m : Nat) (key : List UInt8) (hkr : RowAt w (some ⟨kb, ko, none⟩) key) (hkl : key.length = kn) (hm : m = 4 ∨ m = 8) (hkm : kn = 4 * m) (pi : Option Addr) (l ci : Nat) (iv : List UInt8) (hi : RowAt w pi iv) (hl : iv.length = l) (h0 : l ≠ 0) (h9 : l < 10000)
    (pa : Option Addr) (n ca : Nat) (a : List UInt8) (ha : RowAt w pa a) (hn : a.length = n) (hn9 : n < 9000) (pb : Option Addr) (k cb : Nat) (b : List UInt8) (hb : RowAt w pb b) (hk : b.length = k) (hk9 : k < 9000) (h16 : 16 ≤ k) (hkc : k ≤ cb) :
    Calls Try.prog 38 #[.slice (some ⟨kb, ko, none⟩) kn kc, .slice pi l ci, .slice pa n ca, .slice pb k cb] w fun e w' => ∃ v ok, e = .returned (.tuple #[v, .bool ok]) ∧ RefO w.heap.size w' v ok (openG (enc (rkOf m key)) (firstF (enc (rkOf m key)) iv) a b) ∧ Below w.heap.size w w' := by
  obtain ⟨T, hTe⟩ : ∃ T, tbl 256 = T := ⟨_, rfl⟩
  obtain ⟨Z, hZe⟩ : ∃ Z, tbl 0 = Z := ⟨_, rfl⟩
  have hl0 := tbl_len 0 (by omega)
  have hl1 := tbl_len 256 (by omega)
  have zz := zc60
  rw [hZe] at hl0 zz
  rw [hTe] at hl1
  have hrl := rkOf_len m key (by rw [hkl, hkm]) hm
  have hel := fun s hs => enc_l16 m key s (by rw [hkl, hkm]) hm hs
  obtain ⟨rk, hrk⟩ : ∃ rk, rkOf m key = rk := ⟨_, rfl⟩
  rw [hrk] at hrl hel
  obtain ⟨c, hce⟩ : ∃ c, firstF (enc rk) iv = c := ⟨_, rfl⟩
  have hcl := firstF_len (enc rk) iv
  rw [hce] at hcl
  have HTe := hid hTe
  have Zz := hid zz
  have Hl1 := hid hl1
  have Hl0 := hid hl0
  have Hl := hid hl
  have Hn := hid hn
  have Hk := hid hk
  have Hkl := hid hkl
  have Hkm := hid hkm
  have Hrl := hid hrl.1
  have Hel := hid hel
  have Hrk := hid hrk
  have Hce := hid hce
  have Hcl := hid hcl
  clear hTe hZe zz hl0 hl1 hl hn hk hkl hkm hrl hel hrk hce hcl
  go_enter Try.func38, Try.ntmps38
  go_wp2_with fail
  refine (table_T HTe.out w).mono ?_
  rintro e w3 ⟨rfl, hB3⟩
  have hkr0 := hkr.below hB3
  have hi0 := hi.below hB3
  have ha0 := ha.below hB3
  have hb0 := hb.below hB3
  clear hkr hi ha hb
  obtain ⟨tb, htb⟩ : ∃ tb, w3.heap.size = tb := ⟨_, rfl⟩
  have hT0 : Blk (w3.alloc (.cells Try.zeroCells62 62)) tb (bys Z) tA256 := by rw [Zz.out, ← htb]; exact Blk.new w3 (bys Z) tA256
  have hBt : Below w3.heap.size w3 (w3.alloc (.cells Try.zeroCells62 62)) := (Below.refl _ _).alloc (Nat.le_refl _) _
  obtain ⟨hTT, hcc⟩ := store16 (new := T) hT0 (by rw [Hl0.out, Hl1.out])
  have hBs := hBt.trans (hcc.below (M := w3.heap.size) hBt.size (fun k hk => by simp at hk; omega))
  have hkr0 := hkr0.below hBs
  have hi0 := hi0.below hBs
  have ha0 := ha0.below hBs
  have hb0 := hb0.below hBs
  have hBw := hB3.trans (hBs.mono hB3.size)
  clear hBt hcc hBs hB3
  have hsT : (Try.prog.info? 62).map (·.size) = some (bys T).length := by rw [size60, bys_length, Hl1.out]
  go_wp2_with (first | (refine wpList_store_mid rfl 62 (.tmp 10) (.tmp 14) rfl tb 0 (bys T).toArray rfl rfl (hT0.there 0 _ (by rw [List.size_toArray, bys_length, bys_length, Hl0.out, Hl1.out]; decide)) (by rw [size60, List.size_toArray, bys_length, Hl1.out]) (all_oneCell_toArray (bys_one _)) ?_) | (refine wpList_load_mid rfl 62 (.tmp 10) rfl tb 0 rfl (bys T) _ hTT.whole under60 rfl hsT ?_))
  clear hT0 htb
  generalize (w3.alloc (.cells Try.zeroCells62 62)).setCells tb 0 (bys T) = w4 at *
  refine (refkeys_T HTe.out w4 kb ko kn kc m key hkr0 Hkl.out hm Hkm.out).mono ?_
  rintro e w5 ⟨g, cap2, ex, rfl, hG, hBn⟩
  have hi0 := hi0.below hBn
  have ha0 := ha0.below hBn
  have hb0 := hb0.below hBn
  have hTT := hTT.below hBn hTT.lt
  have hBw := hBw.trans (hBn.mono hBw.size)
  rw [Hrk.out] at hG
  clear hBn hkr0
  obtain ⟨nr, hnr⟩ : ∃ nr, m + 7 = nr := ⟨_, rfl⟩
  have hRK : RK w5 g nr rk := ⟨⟨ex, hG⟩, by rw [← hnr]; exact Hrl.out, by omega, by omega, Hel.out⟩
  rw [hnr]
  clear hG hnr
  go_wp2_with (refine wpList_load_mid rfl 62 (.tmp 10) rfl tb 0 rfl (bys T) _ hTT.whole under60 rfl hsT ?_)
  refine (reffirst_any HTe.out w5 g nr cap2 rk hRK pi l ci iv hi0 Hl.out h0 h9).mono ?_
  rintro e w6 ⟨rfl, hBn⟩
  have ha0 := ha0.below hBn
  have hb0 := hb0.below hBn
  have hTT := hTT.below hBn hTT.lt
  have hRK := hRK.below hBn
  have hBw := hBw.trans (hBn.mono hBw.size)
  rw [Hce.out]
  clear hBn hi0
  have hsc : (Try.prog.info? 36).map (·.size) = some (bys c).length := by rw [size54, bys_length, Hcl.out]
  have hc0 : Blk (w6.alloc (.cells (bys z16).toArray tA16)) w6.heap.size (bys z16) tA16 := Blk.new _ _ _
  have hc1 := hc0.setCells (bys c) 0 (by rw [bys_length, bys_length, Hcl.out]; decide)
  rw [splice_whole _ _ (by rw [bys_length, bys_length, Hcl.out]; rfl)] at hc1
  have hBa : Below w6.heap.size w6 ((w6.alloc (.cells (bys z16).toArray tA16)).setCells w6.heap.size 0 (bys c)) := ((Below.refl _ _).alloc (Nat.le_refl _) _).trans (((Chg.refl (w6.alloc (.cells (bys z16).toArray tA16)).heap.size [w6.heap.size] (w6.alloc (.cells (bys z16).toArray tA16))).setCells (b := w6.heap.size) (.inl (by simp)) (bys c) 0).below (M := w6.heap.size) (by simp) (fun k hk => by simp at hk; omega))
  have ha0 := ha0.below hBa
  have hb0 := hb0.below hBa
  have hTT := hTT.below hBa hTT.lt
  have hRK := hRK.below hBa
  have hBw := hBw.trans (hBa.mono hBw.size)
  clear hBa
  obtain ⟨j, hj⟩ : ∃ j, k - 16 = j := ⟨_, rfl⟩
  have q1 : (k : Int) - 16 = (j : Int) := by omega
  have q3 : (j : Int) ≤ (k : Int) := by omega
  have q4 : 0 ≤ (j : Int) := by omega
  have q5 : ¬ cb = j := by omega
  have q6 : k - j = 16 := by omega
  have q7 : j ≤ k := by omega
  have q8 : j ≤ cb := by omega
  have q9 : (j : Int) ≤ (cb : Int) := by omega
  have hwr : IntKind.i64.wrap (j : Int) = (j : Int) := by rw [IntKind.wrap_i64]; omega
  obtain ⟨bb, bo, rfl, _, _⟩ := hb0 0 (by rw [Hk.out]; omega)
  obtain ⟨t, ht⟩ : ∃ t, b.take j = t := ⟨_, rfl⟩
  obtain ⟨d, hd⟩ : ∃ d, b.drop j = d := ⟨_, rfl⟩
  have htl : t.length = j := by rw [← ht, List.length_take, Hk.out]; omega
  have hdl : d.length = 16 := by rw [← hd, List.length_drop, Hk.out]; omega
  have hog : openG (enc (rkOf m key)) (firstF (enc (rkOf m key)) iv) a b = if d = tagF (enc rk) c a t then some (gx (enc rk) c t) else none := by
    rw [Hrk.out, Hce.out, gx_stream (enc rk) c t Hel.out Hcl.out, htl]
    unfold openG; rw [Hk.out, hj, ht, hd]
  have hTl := tagF_len (enc rk) c a t (Hel.out c Hcl.out)
  obtain ⟨tg, htg⟩ : ∃ tg, tagF (enc rk) c a t = tg := ⟨_, rfl⟩
  rw [htg] at hog hTl
  have Htg := hid htg
  have HTl := hid hTl
  have Hog := hid hog
  have Ht := hid ht
  have Hd := hid hd
  have Htl := hid htl
  have Hdl := hid hdl
  clear htg hTl hog ht hd hj htl hdl
  go_upto_region 5 with (refine wpList_store_mid rfl 36 (.tmp 12) (.tmp 21) rfl w6.heap.size 0 (bys c).toArray rfl rfl (hc0.there 0 _ (by rw [List.size_toArray, bys_length, bys_length, Hcl.out]; decide)) (by rw [size54, List.size_toArray, bys_length, Hcl.out]) (all_oneCell_toArray (bys_one _)) ?_)
  change Code.wp _ _ _ _ ((w6.alloc (.cells (bys z16).toArray tA16)).setCells w6.heap.size 0 (bys c))
  clear hc0
  generalize (w6.alloc (.cells (bys z16).toArray tA16)).setCells w6.heap.size 0 (bys c) = W at *
  generalize w6.heap.size = hc at *
  have hS0 : Below W.heap.size W W.drew := (Below.refl _ _).drew
  have hrd := (hb0.drop j).congr Hd.out
  have hrt := (hb0.take j).congr Ht.out
  by_cases hdt : d = tg
  · obtain ⟨z, hz⟩ : ∃ z, str d = z := ⟨_, rfl⟩
    have hz2 := hz
    rw [hdt] at hz2
    have hog := Hog.out
    rw [if_pos hdt] at hog
    have Hog2 := hid hog
    clear hdt hog
    try simp only [Act.put]
    refine tkR (fun w' => Below W.heap.size W w') [] (by kernel_rfl) (fun c a d v w h => by cases d <;> exact h) (hS0) (fun hPF hHeld => ?_)
    refine tkB 0 (.some 25) _ _ rfl rfl (by kernel_rfl) (by kernel_rfl) (by kernel_rfl) (by kernel_rfl) hPF rfl (fun w' => by (go_simp; try with_reducible rfl)) hHeld (fun hHeld => ?_)
    simp only [Act.put, List.setIfInBounds_toArray, List.set_cons_zero, List.set_cons_succ]
    refine tkB 1 (.some 26) _ _ rfl rfl (by kernel_rfl) (by kernel_rfl) (by kernel_rfl) (by kernel_rfl) hPF rfl (fun w' => by (go_simp; try with_reducible rfl)) hHeld (fun hHeld => ?_)
    simp only [Act.put, List.setIfInBounds_toArray, List.set_cons_zero, List.set_cons_succ]
    refine tkB 2 (.some 27) _ _ rfl rfl (by kernel_rfl) (by kernel_rfl) (by kernel_rfl) (by kernel_rfl) hPF rfl (fun w' => by (go_simp; try with_reducible rfl)) hHeld (fun hHeld => ?_)
    simp only [Act.put, List.setIfInBounds_toArray, List.set_cons_zero, List.set_cons_succ]
    refine tkA 3 (.some 28) _ _ rfl rfl (by kernel_rfl) (by kernel_rfl) (by kernel_rfl) (by kernel_rfl) (by kernel_rfl) hPF rfl (fun w' hw' => by (have h1 := str_row (n := 16) (c := cb - j) (hrd.below hw') Hdl.out; rw [hz] at h1; go_simp; try with_reducible rfl)) hHeld (fun hHeld => ?_)
    simp only [Act.put, List.setIfInBounds_toArray, List.set_cons_zero, List.set_cons_succ]
    refine tkL 4 (.some 29) _ rfl rfl 62 (.tmp 10) rfl tb 0 (bys T) _ (by kernel_rfl) (by kernel_rfl) (by kernel_rfl) (by kernel_rfl) (by kernel_rfl) hPF rfl rfl (fun w' hw' => (hTT.below hw' hTT.lt).whole) under60 rfl hsT hHeld (fun hHeld => ?_)
    simp only [Act.put, List.setIfInBounds_toArray, List.set_cons_zero, List.set_cons_succ]
    refine tkB 5 (.some 30) _ _ rfl rfl (by kernel_rfl) (by kernel_rfl) (by kernel_rfl) (by kernel_rfl) hPF rfl (fun w' => by (go_simp; try with_reducible rfl)) hHeld (fun hHeld => ?_)
    simp only [Act.put, List.setIfInBounds_toArray, List.set_cons_zero, List.set_cons_succ]
    refine tkL 6 (.some 31) _ rfl rfl 36 (.tmp 12) rfl hc 0 (bys c) _ (by kernel_rfl) (by kernel_rfl) (by kernel_rfl) (by kernel_rfl) (by kernel_rfl) hPF rfl rfl (fun w' hw' => (hc1.below hw' hc1.lt).whole) under54 rfl hsc hHeld (fun hHeld => ?_)
    simp only [Act.put, List.setIfInBounds_toArray, List.set_cons_zero, List.set_cons_succ]
    refine tkB 7 (.some 32) _ _ rfl rfl (by kernel_rfl) (by kernel_rfl) (by kernel_rfl) (by kernel_rfl) hPF rfl (fun w' => by (go_simp; try with_reducible rfl)) hHeld (fun hHeld => ?_)
    simp only [Act.put, List.setIfInBounds_toArray, List.set_cons_zero, List.set_cons_succ]
    refine tkB 8 (.some 33) _ _ rfl rfl (by kernel_rfl) (by kernel_rfl) (by kernel_rfl) (by kernel_rfl) hPF rfl (fun w' => by (go_simp; try with_reducible rfl)) hHeld (fun hHeld => ?_)
    simp only [Act.put, List.setIfInBounds_toArray, List.set_cons_zero, List.set_cons_succ]
    refine tkB 9 (.some 34) _ _ rfl rfl (by kernel_rfl) (by kernel_rfl) (by kernel_rfl) (by kernel_rfl) hPF rfl (fun w' => by (go_simp; try with_reducible rfl)) hHeld (fun hHeld => ?_)
    simp only [Act.put, List.setIfInBounds_toArray, List.set_cons_zero, List.set_cons_succ]
    refine tkB 10 (.some 35) _ _ rfl rfl (by kernel_rfl) (by kernel_rfl) (by kernel_rfl) (by kernel_rfl) hPF rfl (fun w' => by (go_simp; try with_reducible rfl)) hHeld (fun hHeld => ?_)
    simp only [Act.put, List.setIfInBounds_toArray, List.set_cons_zero, List.set_cons_succ]
    have hS := hHeld (by kernel_rfl)
    refine tkW (rs := [11]) (by kernel_rfl) (by simp) (AllK.cons (o := _) rfl (fun KC hKC => ?_) AllK.nil)
    go_simp
    refine (reftag_any HTe.out _ g nr cap2 rk (hRK.below hS) c Hcl.out pa n ca a (ha0.below hS) Hn.out (by omega) (some ⟨bb, bo, none⟩) j cb t (hrt.below hS) Htl.out (by omega)).mono ?_
    rintro e w8 ⟨v2, rfl, hown2, hB8⟩
    rw [Htg.out] at hown2
    obtain ⟨p2, c2, rfl, hc2, hr2⟩ := hown2.row
    rw [HTl.out] at hc2
    try rw [HTl.out]
    have hS := hS.trans (hB8.mono hS.size)
    have hTT := hTT.below hS hTT.lt
    have hc1 := hc1.below hS hc1.lt
    have hRK := hRK.below hS
    have hrt := hrt.below hS
    have hBw := hBw.trans (hS.mono hBw.size)
    clear hown2 hB8
    refine hKC.out _ _ (hS) (fun hHeld => ?_)
    clear hKC KC
    try simp only [Act.put, List.setIfInBounds_toArray, List.set_cons_zero, List.set_cons_succ]
    refine tkS (fun w' => Below w8.heap.size w8 w') (fun w' h => Below.trans hS (Below.mono h (Below.size hS))) (Below.refl _ _) (fun hHeld => ?_)
    refine tkA 12 (.some 37) _ _ rfl rfl (by kernel_rfl) (by kernel_rfl) (by kernel_rfl) (by kernel_rfl) (by kernel_rfl) hPF rfl (fun w' hw' => by (have h1 := str_row (n := 16) (c := c2) (hr2.below hw') HTl.out; rw [hz2] at h1; go_simp; try with_reducible rfl)) hHeld (fun hHeld => ?_)
    simp only [Act.put, List.setIfInBounds_toArray, List.set_cons_zero, List.set_cons_succ]
    refine tkB 13 (.some 38) _ _ rfl rfl (by kernel_rfl) (by kernel_rfl) (by kernel_rfl) (by kernel_rfl) hPF rfl (fun w' => by (go_simp; try with_reducible rfl)) hHeld (fun hHeld => ?_)
    simp only [Act.put, List.setIfInBounds_toArray, List.set_cons_zero, List.set_cons_succ]
    refine tkD (by kernel_rfl) ?_ _
    go_wp2_with fail
    have hbd : Below w8.heap.size w8 w8.drew := (Below.refl _ _).drew
    try simp only [Act.put]
    refine tkR (fun w' => Below w8.heap.size w8 w') [] (by kernel_rfl) (fun c a d v w h => by cases d <;> exact h) (hbd) (fun hPF hHeld => ?_)
    refine tkL 0 (.some 39) _ rfl rfl 62 (.tmp 10) rfl tb 0 (bys T) _ (by kernel_rfl) (by kernel_rfl) (by kernel_rfl) (by kernel_rfl) (by kernel_rfl) hPF rfl rfl (fun w' hw' => (hTT.below hw' hTT.lt).whole) under60 rfl hsT hHeld (fun hHeld => ?_)
    simp only [Act.put, List.setIfInBounds_toArray, List.set_cons_zero, List.set_cons_succ]
    refine tkB 1 (.some 40) _ _ rfl rfl (by kernel_rfl) (by kernel_rfl) (by kernel_rfl) (by kernel_rfl) hPF rfl (fun w' => by (go_simp; try with_reducible rfl)) hHeld (fun hHeld => ?_)
    simp only [Act.put, List.setIfInBounds_toArray, List.set_cons_zero, List.set_cons_succ]
    refine tkL 2 (.some 41) _ rfl rfl 36 (.tmp 12) rfl hc 0 (bys c) _ (by kernel_rfl) (by kernel_rfl) (by kernel_rfl) (by kernel_rfl) (by kernel_rfl) hPF rfl rfl (fun w' hw' => (hc1.below hw' hc1.lt).whole) under54 rfl hsc hHeld (fun hHeld => ?_)
    simp only [Act.put, List.setIfInBounds_toArray, List.set_cons_zero, List.set_cons_succ]
    refine tkB 3 (.some 42) _ _ rfl rfl (by kernel_rfl) (by kernel_rfl) (by kernel_rfl) (by kernel_rfl) hPF rfl (fun w' => by (go_simp; try with_reducible rfl)) hHeld (fun hHeld => ?_)
    simp only [Act.put, List.setIfInBounds_toArray, List.set_cons_zero, List.set_cons_succ]
    refine tkB 4 (.some 43) _ _ rfl rfl (by kernel_rfl) (by kernel_rfl) (by kernel_rfl) (by kernel_rfl) hPF rfl (fun w' => by (go_simp; try with_reducible rfl)) hHeld (fun hHeld => ?_)
    simp only [Act.put, List.setIfInBounds_toArray, List.set_cons_zero, List.set_cons_succ]
    refine tkB 5 (.some 44) _ _ rfl rfl (by kernel_rfl) (by kernel_rfl) (by kernel_rfl) (by kernel_rfl) hPF rfl (fun w' => by (go_simp; try with_reducible rfl)) hHeld (fun hHeld => ?_)
    simp only [Act.put, List.setIfInBounds_toArray, List.set_cons_zero, List.set_cons_succ]
    have hS := hHeld (by kernel_rfl)
    refine tkW (rs := [6]) (by kernel_rfl) (by simp) (AllK.cons (o := _) rfl (fun KC hKC => ?_) AllK.nil)
    go_simp
    refine (refcrypt10_any HTe.out _ g nr cap2 rk (hRK.below hS) c Hcl.out (some ⟨bb, bo, none⟩) j cb t (hrt.below hS) Htl.out (by omega)).mono ?_
    rintro e w10 ⟨v, rfl, hown, hB10⟩
    have hS := hS.trans (hB10.mono hS.size)
    have hown := hown.mono hBw.size
    have hBw := hBw.trans (hS.mono hBw.size)
    refine hKC.out _ _ (hS) (fun hHeld => ?_)
    clear hKC KC
    try simp only [Act.put, List.setIfInBounds_toArray, List.set_cons_zero, List.set_cons_succ]
    refine tkB 7 (.some 8) _ _ rfl rfl (by kernel_rfl) (by kernel_rfl) (by kernel_rfl) (by kernel_rfl) hPF rfl (fun w' => by (go_simp; try with_reducible rfl)) hHeld (fun hHeld => ?_)
    simp only [Act.put, List.setIfInBounds_toArray, List.set_cons_zero, List.set_cons_succ]
    refine tkB 8 (.some 9) _ _ rfl rfl (by kernel_rfl) (by kernel_rfl) (by kernel_rfl) (by kernel_rfl) hPF rfl (fun w' => by (go_simp; try with_reducible rfl)) hHeld (fun hHeld => ?_)
    simp only [Act.put, List.setIfInBounds_toArray, List.set_cons_zero, List.set_cons_succ]
    refine tkD (by kernel_rfl) ?_ _
    go_wp2_with fail
    go_ret2
    exact ⟨_, _, rfl, by unfold RefO; rw [Hog2.out]; exact ⟨rfl, hown⟩, hBw⟩
  · obtain ⟨z1, hz1⟩ : ∃ z, str d = z := ⟨_, rfl⟩
    obtain ⟨z2, hz2⟩ : ∃ z, str tg = z := ⟨_, rfl⟩
    have nz : (z1.toList == z2.toList) = false := by rw [← hz1, ← hz2, str_eq]; exact beq_eq_false_iff_ne.2 hdt
    have hog := Hog.out
    rw [if_neg hdt] at hog
    have Hog2 := hid hog
    clear hdt hog
    try simp only [Act.put]
    refine tkR (fun w' => Below W.heap.size W w') [] (by kernel_rfl) (fun c a d v w h => by cases d <;> exact h) (hS0) (fun hPF hHeld => ?_)
    refine tkB 0 (.some 25) _ _ rfl rfl (by kernel_rfl) (by kernel_rfl) (by kernel_rfl) (by kernel_rfl) hPF rfl (fun w' => by (go_simp; try with_reducible rfl)) hHeld (fun hHeld => ?_)
    simp only [Act.put, List.setIfInBounds_toArray, List.set_cons_zero, List.set_cons_succ]
    refine tkB 1 (.some 26) _ _ rfl rfl (by kernel_rfl) (by kernel_rfl) (by kernel_rfl) (by kernel_rfl) hPF rfl (fun w' => by (go_simp; try with_reducible rfl)) hHeld (fun hHeld => ?_)
    simp only [Act.put, List.setIfInBounds_toArray, List.set_cons_zero, List.set_cons_succ]
    refine tkB 2 (.some 27) _ _ rfl rfl (by kernel_rfl) (by kernel_rfl) (by kernel_rfl) (by kernel_rfl) hPF rfl (fun w' => by (go_simp; try with_reducible rfl)) hHeld (fun hHeld => ?_)
    simp only [Act.put, List.setIfInBounds_toArray, List.set_cons_zero, List.set_cons_succ]
    refine tkA 3 (.some 28) _ _ rfl rfl (by kernel_rfl) (by kernel_rfl) (by kernel_rfl) (by kernel_rfl) (by kernel_rfl) hPF rfl (fun w' hw' => by (have h1 := str_row (n := 16) (c := cb - j) (hrd.below hw') Hdl.out; rw [hz1] at h1; go_simp; try with_reducible rfl)) hHeld (fun hHeld => ?_)
    simp only [Act.put, List.setIfInBounds_toArray, List.set_cons_zero, List.set_cons_succ]
    refine tkL 4 (.some 29) _ rfl rfl 62 (.tmp 10) rfl tb 0 (bys T) _ (by kernel_rfl) (by kernel_rfl) (by kernel_rfl) (by kernel_rfl) (by kernel_rfl) hPF rfl rfl (fun w' hw' => (hTT.below hw' hTT.lt).whole) under60 rfl hsT hHeld (fun hHeld => ?_)
    simp only [Act.put, List.setIfInBounds_toArray, List.set_cons_zero, List.set_cons_succ]
    refine tkB 5 (.some 30) _ _ rfl rfl (by kernel_rfl) (by kernel_rfl) (by kernel_rfl) (by kernel_rfl) hPF rfl (fun w' => by (go_simp; try with_reducible rfl)) hHeld (fun hHeld => ?_)
    simp only [Act.put, List.setIfInBounds_toArray, List.set_cons_zero, List.set_cons_succ]
    refine tkL 6 (.some 31) _ rfl rfl 36 (.tmp 12) rfl hc 0 (bys c) _ (by kernel_rfl) (by kernel_rfl) (by kernel_rfl) (by kernel_rfl) (by kernel_rfl) hPF rfl rfl (fun w' hw' => (hc1.below hw' hc1.lt).whole) under54 rfl hsc hHeld (fun hHeld => ?_)
    simp only [Act.put, List.setIfInBounds_toArray, List.set_cons_zero, List.set_cons_succ]
    refine tkB 7 (.some 32) _ _ rfl rfl (by kernel_rfl) (by kernel_rfl) (by kernel_rfl) (by kernel_rfl) hPF rfl (fun w' => by (go_simp; try with_reducible rfl)) hHeld (fun hHeld => ?_)
    simp only [Act.put, List.setIfInBounds_toArray, List.set_cons_zero, List.set_cons_succ]
    refine tkB 8 (.some 33) _ _ rfl rfl (by kernel_rfl) (by kernel_rfl) (by kernel_rfl) (by kernel_rfl) hPF rfl (fun w' => by (go_simp; try with_reducible rfl)) hHeld (fun hHeld => ?_)
    simp only [Act.put, List.setIfInBounds_toArray, List.set_cons_zero, List.set_cons_succ]
    refine tkB 9 (.some 34) _ _ rfl rfl (by kernel_rfl) (by kernel_rfl) (by kernel_rfl) (by kernel_rfl) hPF rfl (fun w' => by (go_simp; try with_reducible rfl)) hHeld (fun hHeld => ?_)
    simp only [Act.put, List.setIfInBounds_toArray, List.set_cons_zero, List.set_cons_succ]
    refine tkB 10 (.some 35) _ _ rfl rfl (by kernel_rfl) (by kernel_rfl) (by kernel_rfl) (by kernel_rfl) hPF rfl (fun w' => by (go_simp; try with_reducible rfl)) hHeld (fun hHeld => ?_)
    simp only [Act.put, List.setIfInBounds_toArray, List.set_cons_zero, List.set_cons_succ]
    have hS := hHeld (by kernel_rfl)
    refine tkW (rs := [11]) (by kernel_rfl) (by simp) (AllK.cons (o := _) rfl (fun KC hKC => ?_) AllK.nil)
    go_simp
    refine (reftag_any HTe.out _ g nr cap2 rk (hRK.below hS) c Hcl.out pa n ca a (ha0.below hS) Hn.out (by omega) (some ⟨bb, bo, none⟩) j cb t (hrt.below hS) Htl.out (by omega)).mono ?_
    rintro e w8 ⟨v2, rfl, hown2, hB8⟩
    rw [Htg.out] at hown2
    obtain ⟨p2, c2, rfl, hc2, hr2⟩ := hown2.row
    rw [HTl.out] at hc2
    try rw [HTl.out]
    have hS := hS.trans (hB8.mono hS.size)
    have hTT := hTT.below hS hTT.lt
    have hc1 := hc1.below hS hc1.lt
    have hRK := hRK.below hS
    have hrt := hrt.below hS
    have hBw := hBw.trans (hS.mono hBw.size)
    clear hown2 hB8
    refine hKC.out _ _ (hS) (fun hHeld => ?_)
    clear hKC KC
    try simp only [Act.put, List.setIfInBounds_toArray, List.set_cons_zero, List.set_cons_succ]
    refine tkS (fun w' => Below w8.heap.size w8 w') (fun w' h => Below.trans hS (Below.mono h (Below.size hS))) (Below.refl _ _) (fun hHeld => ?_)
    refine tkA 12 (.some 37) _ _ rfl rfl (by kernel_rfl) (by kernel_rfl) (by kernel_rfl) (by kernel_rfl) (by kernel_rfl) hPF rfl (fun w' hw' => by (have h1 := str_row (n := 16) (c := c2) (hr2.below hw') HTl.out; rw [hz2] at h1; go_simp; try with_reducible rfl)) hHeld (fun hHeld => ?_)
    simp only [Act.put, List.setIfInBounds_toArray, List.set_cons_zero, List.set_cons_succ]
    refine tkB 13 (.some 38) _ _ rfl rfl (by kernel_rfl) (by kernel_rfl) (by kernel_rfl) (by kernel_rfl) hPF rfl (fun w' => by (go_simp; try with_reducible rfl)) hHeld (fun hHeld => ?_)
    simp only [Act.put, List.setIfInBounds_toArray, List.set_cons_zero, List.set_cons_succ]
    refine tkD (by kernel_rfl) ?_ _
    go_wp2_with fail
    go_ret2
    exact ⟨_, _, rfl, by unfold RefO; rw [Hog2.out]; exact ⟨rfl, rfl⟩, hBw⟩
end Go.Proofs.Ytgellbapbphnlaa
