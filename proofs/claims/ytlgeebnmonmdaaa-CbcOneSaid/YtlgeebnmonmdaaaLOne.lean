/- cbc: CbcOne, walked -/
import Derived.Test.YtlgeebnmonmdaaaK9
import Derived.Test.YtlgeebnmonmdaaaSl
import Derived.Test.YtlgeebnmonmdaaaApp
import Derived.Deep.DeepCutAuto
namespace Go.Proofs.Ytlgeebnmonmdaaa
open Go.RowKit

/-- The first r of z, noughts behind. -/
def fillN (z : List UInt8) (r : Nat) : List UInt8 := z.take r ++ List.replicate (z.length - r) 0
theorem fillN_len (z : List UInt8) (r : Nat) (h : r ≤ z.length) : (fillN z r).length = z.length := by simp [fillN]; omega
theorem fillN_succ (z : List UInt8) (r : Nat) (h : r < z.length) : (fillN z r).set r (z.getD r 0) = fillN z (r + 1) := by
  have hl : (z.take r).length = r := by rw [List.length_take]; omega
  unfold fillN
  rw [take_succ_getD 0 z r h, show z.length - r = (z.length - (r + 1)) + 1 by omega, List.replicate_succ, List.set_append_right _ _ (by omega), hl, Nat.sub_self, List.set_cons_zero, List.append_assoc]
  rfl
theorem fillN_all (z : List UInt8) : fillN z z.length = z := by simp [fillN]

set_option maxRecDepth 100000 in
set_option maxHeartbeats 4000000 in
theorem cbcOne_walk (K : List UInt8) (long : Bool) (IV : List UInt8) (pb : Option Addr) (n cap : Nat) (b : List UInt8) (w : World) (hK : K.length = 32) (hI : IV.length = 16) (hb : RowAt w pb b) (hn : b.length = n) (hcap : n ≤ cap) :
    Calls Try.prog 11 #[.agg (kcells K long IV).toArray, .slice pb n cap] w fun e w' => e = .returned (.bool true) ∧ Below w.heap.size w w' := by
  have h0 := Blk.new w (kcells K long IV) tKy9
  have hB0 : Below w.heap.size w (w.alloc (.cells (kcells K long IV).toArray tKy9)) := (Below.refl _ _).alloc (Nat.le_refl _) _
  by_cases h15 : n ≤ 15
  · have hsz : (Try.prog.info? 48).map (·.size) = some (kcells K long IV).length := by rw [sizeK9, kcells_len _ _ _ hK hI]
    have hszi : (Try.prog.info? 23).map (·.size) = some (bys IV).length := by rw [size54, bys_length, hI]
    have hb0 := hb.below hB0
    have HK := hid (kn_km long)
    have hkl : (K.take (kn long)).length = kn long := by rw [List.length_take, hK]; have := (kn_km long).2.2; omega
    have Hkl := hid hkl
    have Hn := hid hn
    have hrl := rkOf_len (km long) (K.take (kn long)) (hkl.trans HK.out.1) HK.out.2.1
    have Hrl := hid hrl
    have hiv : ∀ (w' : World), Blk w' w.heap.size (kcells K long IV) tKy9 → w'.rangeAt w.heap.size 33 (bys IV) := fun w' h => kcells_iv h hK
    have Hiv := hid hiv
    clear hb hn hkl hrl hiv
    go_enter Try.func11, Try.ntmps11
    go_wp2_with (refine wpList_load_mid rfl 48 (.tmp 2) rfl w.heap.size 0 rfl (kcells K long IV) _ h0.whole Try.underlying48 rfl hsz ?_)
    change Calls _ _ _ (w.alloc (.cells (kcells K long IV).toArray tKy9)) _
    generalize w.alloc (.cells (kcells K long IV).toArray tKy9) = w1 at *
    refine (keys9_any w1 K long IV hK hI).mono ?_
    rintro e w2 ⟨kb, rfl, hKA, hB2⟩
    have h0 := h0.below hB2 h0.lt
    have hb0 := (hb0.below hB2)
    have hB := (hB0.trans (hB2.mono hB0.size))
    clear hB2 hB0
    have hKV : KeyV w2 (some ⟨kb, 0, none⟩) (enc (rkK K long)) := .inr ⟨kb, _, rfl, hKA, rfl, Hrl.out.2⟩
    clear hKA
    have hbm := hb0.below ((Below.refl w2.heap.size w2).alloc (Nat.le_refl _) (.cells #[] 5))
    have hpad : 16 - n % 16 = 16 - n := by omega
    obtain ⟨m, hm⟩ : ∃ m, 16 - n = m := ⟨_, rfl⟩
    have hpl : (padF n).length = m := by rw [padF_len, hpad, hm]
    have hm1 : 1 ≤ m := by omega
    have hnm : n + m = 16 := by omega
    have Hpl := hid hpl
    have Hnm := hid hnm
    have hpad2 : 16 - n % 16 = m := by omega
    have Hpad := hid hpad2
    clear hpl hpad hm hpad2
    go_upto_region 6 with fail
    go_wp2_with (refine wpList_addO (OwnR.made w2) rfl (.tmp 21) (.tmp 22) rfl rfl pb n cap b rfl hbm Hn.out (by simp; omega) (by simp) ?_; intro v3 w3 hown3 hgrow3 _)
    have hS3 : Below w2.heap.size w2 w3 := ((Below.refl _ _).alloc (Nat.le_refl _) _).grown hgrow3 (by simp) (fun j e => ((OwnR.made w2).lt j e).1)
    clear hgrow3 hbm
    refine (pad_any w3 n (by omega)).mono ?_
    rintro e w4 ⟨g, rfl, hg, ⟨rest, hblk⟩, hB4⟩
    rw [Hpad.out]
    have hS4 := hS3.trans (hB4.mono hS3.size)
    have hown4 := hown3.below hB4
    have hrp := hblk.headRow
    have hs4 := hS4.size
    clear hblk hB4 hown3 hS3
    go_upto_region 7 with (refine wpList_addO hown4 rfl (.tmp 23) (.tmp 26) rfl rfl (some ⟨g, 0, none⟩) m m (padF n) rfl hrp Hpl.out (by rw [List.nil_append, Hn.out]; omega) hs4 ?_; intro v5 w5 hown5 hgrow5 _)
    have hS5 := hS4.grown hgrow5 hs4 (fun j e => (hown4.lt j e).1)
    clear hgrow5 hown4 hrp
    rw [List.nil_append] at hown5
    have hpl : (b ++ padF n).length = 16 := by rw [List.length_append, Hn.out, Hpl.out]; exact Hnm.out
    obtain ⟨g5, c5, r5, rfl, hc5, hg5, hp5⟩ := hown5.blk (by omega)
    obtain ⟨p, hp⟩ : ∃ p, b ++ padF n = p := ⟨_, rfl⟩
    rw [hp] at hpl hp5 hc5 ⊢
    rw [hpl] at hc5 ⊢
    have Hp := hid hp
    have Hpl2 := hid hpl
    have h0 := h0.below hS5 h0.lt
    have hRB := hb0.below hS5
    have hKV := hKV.below hS5
    have hB := hB.trans (hS5.mono hB.size)
    clear hown5 hS5 hS4 hs4 hp hpl
    obtain ⟨xb, hxb⟩ : ∃ xb, w5.heap.size = xb := ⟨_, rfl⟩
    have hx0 : Blk (w5.alloc (.cells (bys z16).toArray tA16)) xb (bys z16) tA16 := by rw [← hxb]; exact Blk.new w5 (bys z16) tA16
    have hBz : Below w5.heap.size w5 (w5.alloc (.cells (bys z16).toArray tA16)) := (Below.refl _ _).alloc (Nat.le_refl _) _
    have l0 := h0.lt
    have lp := hp5.lt
    rw [hxb] at l0 lp
    have hw5 : w.heap.size ≤ xb := by rw [← hxb]; exact hB.size
    have h0 := h0.below hBz h0.lt
    have hp5 := hp5.below hBz hp5.lt
    have hB := hB.trans (hBz.mono hB.size)
    have Hxb := hid hxb
    rw [hxb] at hBz
    obtain ⟨z, hz⟩ : ∃ z, List.zipWith (· ^^^ ·) IV p = z := ⟨_, rfl⟩
    have hzl : z.length = 16 := by rw [← hz, List.length_zipWith, hI, Hpl2.out]; rfl
    have hf0 : fillN z 0 = z16 := by unfold fillN; rw [hzl]; rfl
    have Hz := hid hz
    have Hzl := hid hzl
    go_wp2_with fail
    change Code.wp _ _ _ _ (w5.alloc (.cells (bys z16).toArray tA16))
    try rw [hxb]
    generalize w5.alloc (.cells (bys z16).toArray tA16) = W at *
    rw [← hf0] at hx0
    clear hz hzl hf0 hxb
    go_loopw [9] (fun i wx => ∃ r : Nat, r ≤ 16 ∧ i = .int .i64 r ∧ Blk wx xb (bys (fillN z r)) tA16 ∧ Chg xb [xb] W wx) (fun i _ => 16 - (intOf i).toNat)
    case atStart => exact ⟨0, by omega, rfl, hx0, Chg.refl _ _ _⟩
    case round =>
      clear hx0
      obtain ⟨r, hr, rfl, hX, hC⟩ := hrel
      by_cases hrl : r < 16
      · have hla := fillN_len z r (by rw [Hzl.out]; exact hr)
        have hc := hX.drew.cellAt (bys_get _ r (by rw [hla, Hzl.out]; exact hrl))
        have hf := hX.drew.frozen r
        have hs := fillN_succ z r (by rw [Hzl.out]; exact hrl)
        have hzr : z.getD r 0 = p.getD r 0 ^^^ IV.getD r 0 := by
          have h1 : r < IV.length := by rw [hI]; exact hrl
          have h2 : r < p.length := by rw [Hpl2.out]; exact hrl
          rw [← Hz.out]
          simp [List.getD, List.getElem?_zipWith, List.getElem?_eq_getElem h1, List.getElem?_eq_getElem h2, UInt8.xor_comm]
        rw [hzr] at hs
        have hcp := (hp5.chg hC lp (by simp; omega)).drew.headCell r (by rw [Hpl2.out]; exact hrl)
        have hci : wr.drew.cell? ⟨w.heap.size, 33 + r, none⟩ = some (.int .u8 (bv (IV.getD r 0))) := by
          rw [Nat.add_comm]
          have := kcells_iv ((h0.chg hC l0 (by simp; omega)).drew) hK r _ (bys_get IV r (by rw [hI]; exact hrl))
          rw [Nat.add_comm] at this
          exact this
        have HX := hid hX
        have HC := hid hC
        have Hs := hid hs
        have q6 : (r : Int) < 16 := by omega
        have q7 : 0 ≤ (r : Int) := by omega
        clear hX hC hla hzr hs
        generalize p.getD r 0 = x at *
        generalize IV.getD r 0 = y at *
        go_wp2_with fail
        try simp only [Act.put]
        refine tkR (fun w' => w'.cell? ⟨g5, r, none⟩ = some (.int .u8 (bv x)) ∧ w'.cell? ⟨w.heap.size, 33 + r, none⟩ = some (.int .u8 (bv y))) [11] (by kernel_rfl) (fun c a d v w h => by cases d <;> exact h) (⟨hcp, hci⟩) (fun hPF hHeld => ?_)
        refine tkB 0 (.some 35) _ _ rfl rfl (by kernel_rfl) (by kernel_rfl) (by kernel_rfl) (by kernel_rfl) hPF rfl (fun w' => by (go_simp; try with_reducible rfl)) hHeld (fun hHeld => ?_)
        simp only [Act.put, List.setIfInBounds_toArray, List.set_cons_zero, List.set_cons_succ]
        refine tkB 1 (.some 36) _ _ rfl rfl (by kernel_rfl) (by kernel_rfl) (by kernel_rfl) (by kernel_rfl) hPF rfl (fun w' => by (go_simp; try with_reducible rfl)) hHeld (fun hHeld => ?_)
        simp only [Act.put, List.setIfInBounds_toArray, List.set_cons_zero, List.set_cons_succ]
        refine tkB 2 (.some 37) _ _ rfl rfl (by kernel_rfl) (by kernel_rfl) (by kernel_rfl) (by kernel_rfl) hPF rfl (fun w' => by (go_simp; try with_reducible rfl)) hHeld (fun hHeld => ?_)
        simp only [Act.put, List.setIfInBounds_toArray, List.set_cons_zero, List.set_cons_succ]
        refine tkB 3 (.some 38) _ _ rfl rfl (by kernel_rfl) (by kernel_rfl) (by kernel_rfl) (by kernel_rfl) hPF rfl (fun w' => by (go_simp; try with_reducible rfl)) hHeld (fun hHeld => ?_)
        simp only [Act.put, List.setIfInBounds_toArray, List.set_cons_zero, List.set_cons_succ]
        refine tkA 4 (.some 39) _ _ rfl rfl (by kernel_rfl) (by kernel_rfl) (by kernel_rfl) (by kernel_rfl) (by kernel_rfl) hPF rfl (fun w' hw' => by (have h1 := hw'.1; go_simp; try with_reducible rfl)) hHeld (fun hHeld => ?_)
        simp only [Act.put, List.setIfInBounds_toArray, List.set_cons_zero, List.set_cons_succ]
        refine tkB 5 (.some 40) _ _ rfl rfl (by kernel_rfl) (by kernel_rfl) (by kernel_rfl) (by kernel_rfl) hPF rfl (fun w' => by (go_simp; try with_reducible rfl)) hHeld (fun hHeld => ?_)
        simp only [Act.put, List.setIfInBounds_toArray, List.set_cons_zero, List.set_cons_succ]
        refine tkB 6 (.some 41) _ _ rfl rfl (by kernel_rfl) (by kernel_rfl) (by kernel_rfl) (by kernel_rfl) hPF rfl (fun w' => by (go_simp; try with_reducible rfl)) hHeld (fun hHeld => ?_)
        simp only [Act.put, List.setIfInBounds_toArray, List.set_cons_zero, List.set_cons_succ]
        refine tkB 7 (.some 42) _ _ rfl rfl (by kernel_rfl) (by kernel_rfl) (by kernel_rfl) (by kernel_rfl) hPF rfl (fun w' => by (go_simp; try with_reducible rfl)) hHeld (fun hHeld => ?_)
        simp only [Act.put, List.setIfInBounds_toArray, List.set_cons_zero, List.set_cons_succ]
        refine tkA 8 (.some 43) _ _ rfl rfl (by kernel_rfl) (by kernel_rfl) (by kernel_rfl) (by kernel_rfl) (by kernel_rfl) hPF rfl (fun w' hw' => by (have h1 := hw'.2; go_simp; try with_reducible rfl)) hHeld (fun hHeld => ?_)
        simp only [Act.put, List.setIfInBounds_toArray, List.set_cons_zero, List.set_cons_succ]
        refine tkB 9 (.some 44) _ _ rfl rfl (by kernel_rfl) (by kernel_rfl) (by kernel_rfl) (by kernel_rfl) hPF rfl (fun w' => by (go_simp; try with_reducible rfl)) hHeld (fun hHeld => ?_)
        simp only [Act.put, List.setIfInBounds_toArray, List.set_cons_zero, List.set_cons_succ]
        refine tkB 10 (.some 45) _ _ rfl rfl (by kernel_rfl) (by kernel_rfl) (by kernel_rfl) (by kernel_rfl) hPF rfl (fun w' => by (go_simp; try with_reducible rfl)) hHeld (fun hHeld => ?_)
        simp only [Act.put, List.setIfInBounds_toArray, List.set_cons_zero, List.set_cons_succ]
        refine tkW (rs := [11]) (by kernel_rfl) (by simp) (AllK.close (o := _) rfl (by kernel_rfl) (fun KC hKC => ?_) AllK.nil)
        go_simp
        refine hKC.out _ _ (fun hHeld => ?_)
        clear hKC KC
        try simp only [Act.put]
        refine tkD (by kernel_rfl) ?_ _
        have hX' : Blk (wr.drew.setCell ⟨xb, r, none⟩ (.int .u8 (bv (x ^^^ y)))) xb (bys (fillN z (r + 1))) tA16 := by
          have := HX.out.drew.set r (.int .u8 (bv (x ^^^ y)))
          rw [bys_set, Hs.out] at this
          exact this
        have hC' : Chg xb [xb] W (wr.drew.setCell ⟨xb, r, none⟩ (.int .u8 (bv (x ^^^ y)))) := HC.out.drew.setCell (.inl (by simp)) _
        go_wp2_with fail
        go_roundw
        case rel => exact ⟨r + 1, by omega, by go_num, hX', hC'⟩
        case measure => (simp [intOf]; try omega)
      · obtain rfl : r = 16 := by omega
        have hzz : fillN z 16 = z := by rw [← Hzl.out]; exact fillN_all z
        rw [hzz] at hX
        have hB5 := hBz.trans (hC.below (Nat.le_refl _) (by simp))
        rw [← Hxb.out] at hB5
        have hKw := hKV.below hB5
        have h0w := h0.chg hC l0 (by simp; omega)
        have hrw : RowAt wr pb b := hRB.below hB5
        have hBw := hB.trans (hC.below hw5 (by simp; exact hw5))
        have hszz : (Try.prog.info? 23).map (·.size) = some (bys z).length := by rw [size54, bys_length, Hzl.out]
        clear hB5 hzz hBz hKV h0 hRB hp5 hB
        go_wp2_with (refine wpList_load_mid rfl 23 (.tmp 8) rfl xb 0 rfl (bys z) _ hX.whole under54 rfl hszz ?_)
        refine (keyv_enc hKw z Hzl.out).mono ?_
        rintro e w6 ⟨rfl, hB6⟩
        obtain ⟨y, hy⟩ : ∃ y, enc (rkK K long) z = y := ⟨_, rfl⟩
        have hyl := hKw.len z Hzl.out
        rw [hy] at hyl ⊢
        have hseal : sealF (enc (rkK K long)) IV (b ++ padF n) (n / 16 + 1) = y := by
          rw [show n / 16 = 0 by omega, Hp.out]
          simp only [sealF, lastF, List.nil_append, Nat.mul_zero, List.drop_zero]
          rw [List.take_of_length_le (by rw [Hpl2.out]; exact Nat.le_refl _), Hz.out, hy]
        have hKw := hKw.below hB6
        have h0w := h0w.below hB6 h0w.lt
        have hrw := hrw.below hB6
        have hBw := hBw.trans (hB6.mono hBw.size)
        have hyb := Blk.new w6 (bys z16) tA16
        have hBa : Below w6.heap.size w6 (w6.alloc (.cells (bys z16).toArray tA16)) := (Below.refl _ _).alloc (Nat.le_refl _) _
        obtain ⟨hy7, hC7⟩ := store16 (new := y) hyb (by rw [hyl]; rfl)
        have hB7 := hBa.trans (hC7.below (M := w6.heap.size) hBa.size (fun k hk => by simp at hk; omega))
        have hKw := hKw.below hB7
        have h0w := h0w.below hB7 h0w.lt
        have hrw := hrw.below hB7
        have hBw := hBw.trans (hB7.mono hBw.size)
        have Hyl := hid hyl
        have Hseal := hid hseal
        clear hB6 hBa hB7 hC7 hX hy hyl hseal
        go_wp2_with (refine wpList_store_mid rfl 23 (.tmp 10) (.tmp 48) rfl w6.heap.size 0 (bys y).toArray rfl rfl (hyb.there 0 _ (by rw [List.size_toArray, bys_length, bys_length, Hyl.out]; decide)) (by rw [size54, List.size_toArray, bys_length, Hyl.out]) (all_oneCell_toArray (bys_one _)) ?_)
        change Code.wp _ _ _ _ ((w6.alloc (.cells (bys z16).toArray tA16)).setCells w6.heap.size 0 (bys y))
        generalize (w6.alloc (.cells (bys z16).toArray tA16)).setCells w6.heap.size 0 (bys y) = w7 at *
        have hy7 := hy7.drew
        have hKw := hKw.drew
        have h0w := h0w.drew
        have hrw := hrw.drew
        have hBw := hBw.drew
        obtain ⟨s, hs⟩ : ∃ s, str y = s := ⟨_, rfl⟩
        clear hyb
        try simp only [Act.put]
        refine tkR (fun w' => Below w7.drew.heap.size w7.drew w') [] (by kernel_rfl) (fun c a d v w h => by cases d <;> exact h) (Below.refl _ _) (fun hPF hHeld => ?_)
        refine tkB 0 (.some 49) _ _ rfl rfl (by kernel_rfl) (by kernel_rfl) (by kernel_rfl) (by kernel_rfl) hPF rfl (fun w' => by (go_simp; try with_reducible rfl)) hHeld (fun hHeld => ?_)
        simp only [Act.put, List.setIfInBounds_toArray, List.set_cons_zero, List.set_cons_succ]
        refine tkB 1 (.some 50) _ _ rfl rfl (by kernel_rfl) (by kernel_rfl) (by kernel_rfl) (by kernel_rfl) hPF rfl (fun w' => by (go_simp; try with_reducible rfl)) hHeld (fun hHeld => ?_)
        simp only [Act.put, List.setIfInBounds_toArray, List.set_cons_zero, List.set_cons_succ]
        refine tkL 2 (.some 51) _ rfl rfl 23 (.tmp 50) rfl w.heap.size 33 (bys IV) _ (by kernel_rfl) (by kernel_rfl) (by kernel_rfl) (by kernel_rfl) (by kernel_rfl) hPF rfl rfl (fun w' hw' => Hiv.out _ (h0w.below hw' h0w.lt)) under54 rfl hszi hHeld (fun hHeld => ?_)
        simp only [Act.put, List.setIfInBounds_toArray, List.set_cons_zero, List.set_cons_succ]
        refine tkB 3 (.some 52) _ _ rfl rfl (by kernel_rfl) (by kernel_rfl) (by kernel_rfl) (by kernel_rfl) hPF rfl (fun w' => by (go_simp; try with_reducible rfl)) hHeld (fun hHeld => ?_)
        simp only [Act.put, List.setIfInBounds_toArray, List.set_cons_zero, List.set_cons_succ]
        refine tkB 6 (.some 55) _ _ rfl rfl (by kernel_rfl) (by kernel_rfl) (by kernel_rfl) (by kernel_rfl) hPF rfl (fun w' => by (go_simp; try with_reducible rfl)) hHeld (fun hHeld => ?_)
        simp only [Act.put, List.setIfInBounds_toArray, List.set_cons_zero, List.set_cons_succ]
        refine tkA 7 (.some 56) _ _ rfl rfl (by kernel_rfl) (by kernel_rfl) (by kernel_rfl) (by kernel_rfl) (by kernel_rfl) hPF rfl (fun w' hw' => by (have h1 := str_row (n := 16) (c := 16) ((hy7.below hw' hy7.lt).rowAt0) Hyl.out; rw [hs] at h1; go_simp; try with_reducible rfl)) hHeld (fun hHeld => ?_)
        simp only [Act.put, List.setIfInBounds_toArray, List.set_cons_zero, List.set_cons_succ]
        have hS := hHeld (by kernel_rfl)
        refine tkW (rs := [4]) (by kernel_rfl) (by simp) (AllK.cons (o := _) rfl (fun KC hKC => ?_) AllK.nil)
        go_simp
        (with_reducible refine (seal_any _ _ (enc (rkK K long)) IV hKw hI pb n cap b hrw Hn.out hcap (by omega)).mono ?_)
        rintro e w3 ⟨v3, rfl, hown, hB3⟩
        have hS3 := hS.trans (hB3.mono hS.size)
        rw [Hseal.out] at hown
        have hy7 := hy7.below hS3 hy7.lt
        have hBw := hBw.trans (hS3.mono hBw.size)
        obtain ⟨p3, c3, rfl, _, hr3⟩ := hown.row
        rw [Hyl.out]
        refine hKC.out _ _ (hS3) (fun hHeld => ?_)
        clear hKC KC
        try simp only [Act.put, List.setIfInBounds_toArray, List.set_cons_zero, List.set_cons_succ]
        refine tkS (fun w' => Below w3.heap.size w3 w') (fun w' h => Below.trans hS3 (Below.mono h (Below.size hS3))) (Below.refl _ _) (fun hHeld => ?_)
        refine tkA 5 (.some 54) _ _ rfl rfl (by kernel_rfl) (by kernel_rfl) (by kernel_rfl) (by kernel_rfl) (by kernel_rfl) hPF rfl (fun w' hw' => by (have h1 := str_row (n := 16) (c := c3) (hr3.below hw') Hyl.out; rw [hs] at h1; go_simp; try with_reducible rfl)) hHeld (fun hHeld => ?_)
        simp only [Act.put, List.setIfInBounds_toArray, List.set_cons_zero, List.set_cons_succ]
        refine tkA 8 (.some 57) _ (.bool true) rfl rfl (by kernel_rfl) (by kernel_rfl) (by kernel_rfl) (by kernel_rfl) (by kernel_rfl) hPF rfl (fun w' hw' => by (go_simp)) hHeld (fun hHeld => ?_)
        simp only [Act.put, List.setIfInBounds_toArray, List.set_cons_zero, List.set_cons_succ]
        refine tkB 9 (.some 58) _ _ rfl rfl (by kernel_rfl) (by kernel_rfl) (by kernel_rfl) (by kernel_rfl) hPF rfl (fun w' => by (go_simp; try with_reducible rfl)) hHeld (fun hHeld => ?_)
        simp only [Act.put, List.setIfInBounds_toArray, List.set_cons_zero, List.set_cons_succ]
        have hS := hHeld (by kernel_rfl)
        refine tkW (rs := [10]) (by kernel_rfl) (by simp) (AllK.cons (o := _) rfl (fun KC hKC => ?_) AllK.nil)
        go_simp
        (with_reducible refine (awake09_any _).mono ?_)
        rintro e w8 ⟨rfl, hB7⟩
        have hS7 := hS.trans (hB7.mono hS.size)
        have hBw := hBw.trans (hB7.mono hBw.size)
        refine hKC.out _ _ (hS7) (fun hHeld => ?_)
        clear hKC KC
        try simp only [Act.put, List.setIfInBounds_toArray, List.set_cons_zero, List.set_cons_succ]
        refine tkS (fun w' => Below w8.heap.size w8 w') (fun w' h => Below.trans hS7 (Below.mono h (Below.size hS7))) (Below.refl _ _) (fun hHeld => ?_)
        refine tkB 11 (.some 60) _ _ rfl rfl (by kernel_rfl) (by kernel_rfl) (by kernel_rfl) (by kernel_rfl) hPF rfl (fun w' => by (go_simp; try with_reducible rfl)) hHeld (fun hHeld => ?_)
        simp only [Act.put, List.setIfInBounds_toArray, List.set_cons_zero, List.set_cons_succ]
        refine tkB 12 (.some 4) _ _ rfl rfl (by kernel_rfl) (by kernel_rfl) (by kernel_rfl) (by kernel_rfl) hPF rfl (fun w' => by (go_simp; try with_reducible rfl)) hHeld (fun hHeld => ?_)
        simp only [Act.put, List.setIfInBounds_toArray, List.set_cons_zero, List.set_cons_succ]
        refine tkD (by kernel_rfl) ?_ _
        go_wp2_with fail
        go_ret
        exact ⟨rfl, hBw⟩
  ·
    go_enter Try.func11, Try.ntmps11
    go_wp2_with fail
    go_ret
    exact ⟨rfl, hB0⟩
end Go.Proofs.Ytlgeebnmonmdaaa
