/- cbc: CbcChained, walked -/
import Derived.Test.YtlgeebnmonmdaaaLCBack
namespace Go.Proofs.Ytlgeebnmonmdaaa
open Go.RowKit

theorem zip_inj : ∀ {l a b : List UInt8}, a.length = l.length → b.length = l.length → List.zipWith (· ^^^ ·) l a = List.zipWith (· ^^^ ·) l b → a = b
  | [], [], [], _, _, _ => rfl
  | x :: l, a :: a', b :: b', ha, hb, h => by
    simp only [List.zipWith_cons_cons, List.cons.injEq] at h
    have h1 : x ^^^ (x ^^^ a) = x ^^^ (x ^^^ b) := by rw [h.1]
    rw [← UInt8.xor_assoc, ← UInt8.xor_assoc, UInt8.xor_self, UInt8.zero_xor, UInt8.zero_xor] at h1
    rw [h1, zip_inj (by simpa using ha) (by simpa using hb) h.2]
/-- A block further: alike where the texts are, else others. -/
theorem lastF_next (E : List UInt8 → List UInt8) (iv p q : List UInt8) (j : Nat) (h : lastF E iv p j = lastF E iv q j) (e : blkAt p j = blkAt q j) : lastF E iv p (j + 1) = lastF E iv q (j + 1) := by
  unfold blkAt at e
  rw [lastF, lastF, h, e]
theorem lastF_apart (E D : List UInt8 → List UInt8) (iv p q : List UInt8) (j : Nat) (hE : ∀ s : List UInt8, s.length = 16 → (E s).length = 16) (hDE : ∀ s : List UInt8, s.length = 16 → D (E s) = s) (hiv : iv.length = 16)
    (hp : 16 * (j + 1) ≤ p.length) (hq : 16 * (j + 1) ≤ q.length) (h : lastF E iv p j = lastF E iv q j) (e : blkAt p j ≠ blkAt q j) : lastF E iv p (j + 1) ≠ lastF E iv q (j + 1) := fun h2 => by
  rw [lastF, lastF, ← h] at h2
  have hl := lastF_len E iv p (j + 1) hE hiv hp j (by omega)
  have hlp : ((p.drop (16 * j)).take 16).length = 16 := by rw [List.length_take, List.length_drop]; omega
  have hlq : ((q.drop (16 * j)).take 16).length = 16 := by rw [List.length_take, List.length_drop]; omega
  have h3 : D (E (List.zipWith (· ^^^ ·) (lastF E iv p j) ((p.drop (16 * j)).take 16))) = D (E (List.zipWith (· ^^^ ·) (lastF E iv p j) ((q.drop (16 * j)).take 16))) := by rw [h2]
  rw [hDE _ (by rw [List.length_zipWith, hl, hlp]; rfl), hDE _ (by rw [List.length_zipWith, hl, hlq]; rfl)] at h3
  exact e (zip_inj (hlp.trans hl.symm) (hlq.trans hl.symm) h3)

set_option maxRecDepth 100000 in
set_option maxHeartbeats 4000000 in
theorem cbcChained_walk (K : List UInt8) (long : Bool) (IV : List UInt8) (pa : Option Addr) (m cpa : Nat) (a : List UInt8) (pb : Option Addr) (n cap : Nat) (b : List UInt8) (w : World) (hK : K.length = 32) (hI : IV.length = 16)
    (ha : RowAt w pa a) (hm : a.length = m) (hcpa : m ≤ cpa) (hb : RowAt w pb b) (hn : b.length = n) (hcap : n ≤ cap) :
    Calls Try.prog 10 #[.agg (kcells K long IV).toArray, .slice pa m cpa, .slice pb n cap] w fun e w' => e = .returned (.bool true) ∧ Below w.heap.size w w' := by
  have h0 := Blk.new w (kcells K long IV) tKy9
  have hB0 : Below w.heap.size w (w.alloc (.cells (kcells K long IV).toArray tKy9)) := (Below.refl _ _).alloc (Nat.le_refl _) _
  by_cases hm300 : m ≤ 300
  · by_cases h300 : n ≤ 300
    · have hsz : (Try.prog.info? 48).map (·.size) = some (kcells K long IV).length := by rw [sizeK9, kcells_len _ _ _ hK hI]
      have hszi : (Try.prog.info? 23).map (·.size) = some (bys IV).length := by rw [size54, bys_length, hI]
      have ha0 := ha.below hB0
      have hb0 := hb.below hB0
      have HK := hid (kn_km long)
      have hkl : (K.take (kn long)).length = kn long := by rw [List.length_take, hK]; have := (kn_km long).2.2; omega
      have Hn := hid hn
      have Hm := hid hm
      have hrl := rkOf_len (km long) (K.take (kn long)) (hkl.trans HK.out.1) HK.out.2.1
      have Hrl := hid hrl
      have hiv : ∀ (w' : World), Blk w' w.heap.size (kcells K long IV) tKy9 → w'.rangeAt w.heap.size 33 (bys IV) := fun w' h => kcells_iv h hK
      have Hiv := hid hiv
      clear hb hn hkl hrl hiv ha hm
      go_enter Try.func10, Try.ntmps10
      go_wp2_with (refine wpList_load_mid rfl 48 (.tmp 3) rfl w.heap.size 0 rfl (kcells K long IV) _ h0.whole Try.underlying48 rfl hsz ?_)
      change Calls _ _ _ (w.alloc (.cells (kcells K long IV).toArray tKy9)) _
      generalize w.alloc (.cells (kcells K long IV).toArray tKy9) = w1 at *
      refine (keys9_any w1 K long IV hK hI).mono ?_
      rintro e w2 ⟨kb, rfl, hKA, hB2⟩
      have h0 := h0.below hB2 h0.lt
      have ha0 := (ha0.below hB2)
      have hb0 := (hb0.below hB2)
      have hB := (hB0.trans (hB2.mono hB0.size))
      clear hB2 hB0
      have hrl2 := Hrl.out.2
      have hrl1 := Hrl.out.1
      have hR : 0 < roundsOf (rkK K long) := by
        have h1 : (rkK K long).length = 16 * (km long + 7) := hrl1
        unfold roundsOf
        omega
      have hE : ∀ s : List UInt8, s.length = 16 → (enc (rkK K long) s).length = 16 := fun s hs => by unfold enc; exact encTo_len _ _ _ _ hrl2 hs
      have hDE : ∀ s : List UInt8, s.length = 16 → dec (rkK K long) (enc (rkK K long) s) = s := fun s hs => dec_enc _ s hrl2 hR hs
      have hKV : KeyV w2 (some ⟨kb, 0, none⟩) (enc (rkK K long)) := .inr ⟨kb, _, rfl, hKA, rfl, hrl2⟩
      obtain ⟨E, hEe⟩ : ∃ E, enc (rkK K long) = E := ⟨_, rfl⟩
      obtain ⟨D, hDe⟩ : ∃ D, dec (rkK K long) = D := ⟨_, rfl⟩
      rw [hEe] at hE hDE hKV
      rw [hDe] at hDE
      have hpl : (a ++ padF m).length = 16 * (m / 16 + 1) := by rw [List.length_append, padF_len, Hm.out]; omega
      have hql : (b ++ padF n).length = 16 * (n / 16 + 1) := by rw [List.length_append, padF_len, Hn.out]; omega
      have hxl := sealF_len E IV (a ++ padF m) (m / 16 + 1) hE hI (by omega) (m / 16 + 1) (Nat.le_refl _)
      have hyl := sealF_len E IV (b ++ padF n) (n / 16 + 1) hE hI (by omega) (n / 16 + 1) (Nat.le_refl _)
      obtain ⟨x, hx⟩ : ∃ x, sealF E IV (a ++ padF m) (m / 16 + 1) = x := ⟨_, rfl⟩
      obtain ⟨y, hy⟩ : ∃ y, sealF E IV (b ++ padF n) (n / 16 + 1) = y := ⟨_, rfl⟩
      have HE := hid hE
      have HDE := hid hDE
      have Hx := hid hx
      have Hy := hid hy
      rw [hx] at hxl
      rw [hy] at hyl
      have Hpl := hid hpl
      have Hql := hid hql
      have Hxl := hid hxl
      have Hyl := hid hyl
      clear hE hDE hx hy hpl hql hxl hyl hKA hrl1 hrl2 hR
      go_upto_region 6 with fail
      try simp only [Act.put]
      refine tkR (fun w' => Below w2.heap.size w2 w') [] (by kernel_rfl) (fun c a d v w h => by cases d <;> exact h) ((Below.refl _ _).drew) (fun hPF hHeld => ?_)
      refine tkB 0 (.some 29) _ _ rfl rfl (by kernel_rfl) (by kernel_rfl) (by kernel_rfl) (by kernel_rfl) hPF rfl (fun w' => by (go_simp; try with_reducible rfl)) hHeld (fun hHeld => ?_)
      simp only [Act.put, List.setIfInBounds_toArray, List.set_cons_zero, List.set_cons_succ]
      refine tkB 1 (.some 30) _ _ rfl rfl (by kernel_rfl) (by kernel_rfl) (by kernel_rfl) (by kernel_rfl) hPF rfl (fun w' => by (go_simp; try with_reducible rfl)) hHeld (fun hHeld => ?_)
      simp only [Act.put, List.setIfInBounds_toArray, List.set_cons_zero, List.set_cons_succ]
      refine tkL 2 (.some 31) _ rfl rfl 23 (.tmp 30) rfl w.heap.size 33 (bys IV) _ (by kernel_rfl) (by kernel_rfl) (by kernel_rfl) (by kernel_rfl) (by kernel_rfl) hPF rfl rfl (fun w' hw' => Hiv.out _ (h0.below hw' h0.lt)) under54 rfl hszi hHeld (fun hHeld => ?_)
      simp only [Act.put, List.setIfInBounds_toArray, List.set_cons_zero, List.set_cons_succ]
      refine tkB 3 (.some 32) _ _ rfl rfl (by kernel_rfl) (by kernel_rfl) (by kernel_rfl) (by kernel_rfl) hPF rfl (fun w' => by (go_simp; try with_reducible rfl)) hHeld (fun hHeld => ?_)
      simp only [Act.put, List.setIfInBounds_toArray, List.set_cons_zero, List.set_cons_succ]
      refine tkB 5 (.some 34) _ _ rfl rfl (by kernel_rfl) (by kernel_rfl) (by kernel_rfl) (by kernel_rfl) hPF rfl (fun w' => by (go_simp; try with_reducible rfl)) hHeld (fun hHeld => ?_)
      simp only [Act.put, List.setIfInBounds_toArray, List.set_cons_zero, List.set_cons_succ]
      refine tkB 6 (.some 35) _ _ rfl rfl (by kernel_rfl) (by kernel_rfl) (by kernel_rfl) (by kernel_rfl) hPF rfl (fun w' => by (go_simp; try with_reducible rfl)) hHeld (fun hHeld => ?_)
      simp only [Act.put, List.setIfInBounds_toArray, List.set_cons_zero, List.set_cons_succ]
      refine tkL 7 (.some 36) _ rfl rfl 23 (.tmp 35) rfl w.heap.size 33 (bys IV) _ (by kernel_rfl) (by kernel_rfl) (by kernel_rfl) (by kernel_rfl) (by kernel_rfl) hPF rfl rfl (fun w' hw' => Hiv.out _ (h0.below hw' h0.lt)) under54 rfl hszi hHeld (fun hHeld => ?_)
      simp only [Act.put, List.setIfInBounds_toArray, List.set_cons_zero, List.set_cons_succ]
      refine tkB 8 (.some 37) _ _ rfl rfl (by kernel_rfl) (by kernel_rfl) (by kernel_rfl) (by kernel_rfl) hPF rfl (fun w' => by (go_simp; try with_reducible rfl)) hHeld (fun hHeld => ?_)
      simp only [Act.put, List.setIfInBounds_toArray, List.set_cons_zero, List.set_cons_succ]
      have hS := hHeld (by kernel_rfl)
      refine tkW (rs := [4]) (by kernel_rfl) (by simp) (AllK.cons (o := _) rfl (fun KC hKC => ?_) AllK.nil)
      go_simp
      (with_reducible refine (seal_any _ _ E IV (hKV.below hS) hI pa m cpa a (ha0.below hS) Hm.out hcpa (by omega)).mono ?_)
      rintro e w3 ⟨v3, rfl, hown3, hB3⟩
      have hS3 := hS.trans (hB3.mono hS.size)
      rw [Hx.out] at hown3
      obtain ⟨px, cx, rfl, hcx, hrx⟩ := hown3.row
      clear hown3 hB3
      refine hKC.out _ _ (hS3) (fun hHeld => ?_)
      clear hKC KC
      try simp only [Act.put, List.setIfInBounds_toArray, List.set_cons_zero, List.set_cons_succ]
      refine tkS (fun w' => Below w3.heap.size w3 w') (fun w' h => Below.trans hS3 (Below.mono h (Below.size hS3))) (Below.refl _ _) (fun hHeld => ?_)
      have hS := hHeld (by kernel_rfl)
      refine tkW (rs := [9]) (by kernel_rfl) (by simp) (AllK.cons (o := _) rfl (fun KC hKC => ?_) AllK.nil)
      go_simp
      (with_reducible refine (seal_any _ _ E IV (hKV.below hS3) hI pb n cap b (hb0.below hS3) Hn.out hcap (by omega)).mono ?_)
      rintro e w4 ⟨v4, rfl, hown4, hB4⟩
      have hS4' := hS.trans (hB4.mono hS.size)
      rw [Hy.out] at hown4
      obtain ⟨py, cy, rfl, hcy, hry⟩ := hown4.row
      have hrx := hrx.below hB4
      have hS4 := hS3.trans (hB4.mono hS3.size)
      clear hown4 hB4 hS3
      refine hKC.out _ _ (hS4') (fun hHeld => ?_)
      clear hKC KC
      try simp only [Act.put, List.setIfInBounds_toArray, List.set_cons_zero, List.set_cons_succ]
      refine tkS (fun w' => Below w4.heap.size w4 w') (fun w' h => Below.trans hS4' (Below.mono h (Below.size hS4'))) (Below.refl _ _) (fun hHeld => ?_)
      refine tkB 10 (.some 9) _ _ rfl rfl (by kernel_rfl) (by kernel_rfl) (by kernel_rfl) (by kernel_rfl) hPF rfl (fun w' => by (go_simp; try with_reducible rfl)) hHeld (fun hHeld => ?_)
      simp only [Act.put, List.setIfInBounds_toArray, List.set_cons_zero, List.set_cons_succ]
      refine tkB 11 (.some 10) _ _ rfl rfl (by kernel_rfl) (by kernel_rfl) (by kernel_rfl) (by kernel_rfl) hPF rfl (fun w' => by (go_simp; try with_reducible rfl)) hHeld (fun hHeld => ?_)
      simp only [Act.put, List.setIfInBounds_toArray, List.set_cons_zero, List.set_cons_succ]
      refine tkD (by kernel_rfl) ?_ _
      have hB := hB.trans (hS4.mono hB.size)
      have ha0 := ha0.below hS4
      have hb0 := hb0.below hS4
      clear hS4 hS4' hHeld hPF hKV h0
      have hpad : 16 - m % 16 = 16 * (m / 16 + 1) - m := by omega
      have hpad2 : 16 - n % 16 = 16 * (n / 16 + 1) - n := by omega
      obtain ⟨lp, hlp⟩ : ∃ lp, 16 * (m / 16 + 1) = lp := ⟨_, rfl⟩
      obtain ⟨lq, hlq⟩ : ∃ lq, 16 * (n / 16 + 1) = lq := ⟨_, rfl⟩
      obtain ⟨dp, hdp⟩ : ∃ dp, 16 - m % 16 = dp := ⟨_, rfl⟩
      obtain ⟨dq, hdq⟩ : ∃ dq, 16 - n % 16 = dq := ⟨_, rfl⟩
      have hfp : (padF m).length = dp := by rw [padF_len, hdp]
      have hfq : (padF n).length = dq := by rw [padF_len, hdq]
      have hpl := Hpl.out
      have hql := Hql.out
      have hxl := Hxl.out
      have hyl := Hyl.out
      rw [hlp] at hpl hxl
      rw [hlq] at hql hyl
      have Hfp := hid hfp
      have Hfq := hid hfq
      have Hdp := hid hdp
      have Hdq := hid hdq
      have Hlp := hid hlp
      have Hlq := hid hlq
      have Hpl2 := hid hpl
      have Hql2 := hid hql
      have Hxl2 := hid hxl
      have Hyl2 := hid hyl
      have hb1 := hb0.below ((Below.refl w4.heap.size w4).alloc (Nat.le_refl _) (.cells #[] 5))
      have ham := ha0.below ((Below.refl w4.heap.size w4).alloc (Nat.le_refl _) (.cells #[] 5))
      clear hpad hpad2 hlp hlq hdp hdq hfp hfq hpl hql hxl hyl Hpl Hql Hxl Hyl hb1
      go_wp2_with (refine wpList_addO (OwnR.made w4) rfl (.tmp 39) (.tmp 40) rfl rfl pa m cpa a rfl ham Hm.out (by simp; omega) (by simp) ?_; intro v5 w5 hown5 hgrow5 _)
      have hS5 : Below w4.heap.size w4 w5 := ((Below.refl _ _).alloc (Nat.le_refl _) _).grown hgrow5 (by simp) (fun j e => ((OwnR.made w4).lt j e).1)
      clear hgrow5 ham
      refine (pad_any w5 m (by omega)).mono ?_
      rintro e w6 ⟨g, rfl, hg, ⟨rest, hblk⟩, hB6⟩
      rw [Hdp.out]
      have hS6 := hS5.trans (hB6.mono hS5.size)
      have hown6 := hown5.below hB6
      have hrp := hblk.headRow
      have hs6 := hS6.size
      clear hblk hB6 hown5 hS5
      go_upto_region 8 with (refine wpList_addO hown6 rfl (.tmp 41) (.tmp 44) rfl rfl (some ⟨g, 0, none⟩) dp dp (padF m) rfl hrp Hfp.out (by rw [List.nil_append, Hm.out]; have := Hdp.out; omega) hs6 ?_; intro v7 w7 hown7 hgrow7 _)
      have hS7 := hS6.grown hgrow7 hs6 (fun j e => (hown6.lt j e).1)
      clear hgrow7 hown6 hrp hS6 hs6
      rw [List.nil_append] at hown7
      have hb0 := hb0.below hS7
      have hrx := hrx.below hS7
      have hry := hry.below hS7
      have hB := hB.trans (hS7.mono hB.size)
      obtain ⟨p, hp⟩ : ∃ p, a ++ padF m = p := ⟨_, rfl⟩
      obtain ⟨q, hq⟩ : ∃ q, b ++ padF n = q := ⟨_, rfl⟩
      have hX := Hx.out
      have hY := Hy.out
      have hpl := Hpl2.out
      have hql := Hql2.out
      rw [hp] at hX hpl hown7
      rw [hq] at hY hql
      have HX := hid hX
      have HY := hid hY
      have Hpl := hid hpl
      have Hql := hid hql
      have Hq := hid hq
      obtain ⟨pp, cp, rfl, hcp, hrp⟩ := hown7.row
      rw [Hpl.out] at hcp ⊢
      have hbm := hb0.below ((Below.refl w7.heap.size w7).alloc (Nat.le_refl _) (.cells #[] 5))
      clear hp hq hX hY hpl hql Hx Hy Hpl2 Hql2 hown7 hS7
      go_wp2_with (refine wpList_addO (OwnR.made w7) rfl (.tmp 46) (.tmp 47) rfl rfl pb n cap b rfl hbm Hn.out (by simp; omega) (by simp) ?_; intro v8 w8 hown8 hgrow8 _)
      have hS8 : Below w7.heap.size w7 w8 := ((Below.refl _ _).alloc (Nat.le_refl _) _).grown hgrow8 (by simp) (fun j e => ((OwnR.made w7).lt j e).1)
      clear hgrow8 hbm
      refine (pad_any w8 n (by omega)).mono ?_
      rintro e w9 ⟨g, rfl, hg, ⟨rest, hblk⟩, hB9⟩
      rw [Hdq.out]
      have hS9 := hS8.trans (hB9.mono hS8.size)
      have hown9 := hown8.below hB9
      have hrq := hblk.headRow
      have hs9 := hS9.size
      clear hblk hB9 hown8 hS8
      go_upto_region 9 with (refine wpList_addO hown9 rfl (.tmp 48) (.tmp 51) rfl rfl (some ⟨g, 0, none⟩) dq dq (padF n) rfl hrq Hfq.out (by rw [List.nil_append, Hn.out]; have := Hdq.out; omega) hs9 ?_; intro v10 w10 hown10 hgrow10 _)
      have hS10 := hS9.grown hgrow10 hs9 (fun j e => (hown9.lt j e).1)
      clear hgrow10 hown9 hrq hS9 hs9
      rw [List.nil_append, Hq.out] at hown10
      have hrp := hrp.below hS10
      have hrx := hrx.below hS10
      have hry := hry.below hS10
      have hB := hB.trans (hS10.mono hB.size)
      obtain ⟨pq, cq, rfl, hcq, hrq⟩ := hown10.row
      rw [Hql.out] at hcq ⊢
      rw [Hxl2.out] at hcx ⊢
      rw [Hyl2.out] at hcy ⊢
      clear hown10 hS10 ha0 hb0
      go_wp2_with fail
      go_loopw [13] (fun i wx => ∃ j t : Nat, i = .int .i64 t ∧ t = 16 * j ∧ t ≤ lp ∧ lastF E IV p j = lastF E IV q j ∧ Below w10.heap.size w10 wx) (fun i _ => lp - (intOf i).toNat)
      case atStart => exact ⟨0, 0, rfl, rfl, by omega, rfl, (Below.refl _ _)⟩
      case round =>
        obtain ⟨j, t, rfl, htj, htl, hL, hBr⟩ := hrel
        have q0 : (0 : Int) ≤ (t : Int) := by omega
        obtain ⟨u, hu⟩ : ∃ u, t + 16 = u := ⟨_, rfl⟩
        have q1 : (t : Int) + 16 = (u : Int) := by omega
        have hlp9 : lp ≤ 400 := by have := Hlp.out; omega
        have hlq9 : lq ≤ 400 := by have := Hlq.out; omega
        have q2 : (u : Int) ≤ 1000000000 := by omega
        by_cases hcond : u ≤ lp ∧ u ≤ lq
        · obtain ⟨h1, h2⟩ := hcond
          have q3 : (u : Int) ≤ (lp : Int) := by omega
          have q4 : (u : Int) ≤ (lq : Int) := by omega
          obtain ⟨gp, op, rfl, hgp, _⟩ := hrp t (by rw [Hpl.out]; omega)
          obtain ⟨gq, oq, rfl, hgq, _⟩ := hrq t (by rw [Hql.out]; omega)
          obtain ⟨gx, ox, rfl, hgx, _⟩ := hrx t (by rw [Hxl2.out]; omega)
          obtain ⟨gy, oy, rfl, hgy, _⟩ := hry t (by rw [Hyl2.out]; omega)
          have bp := ((hrp.drop t).take 16)
          have bq := ((hrq.drop t).take 16)
          have bx := ((hrx.drop t).take 16)
          have by' := ((hry.drop t).take 16)
          have e1 : (p.drop t).take 16 = blkAt p j := by rw [htj]; rfl
          have e2 : (q.drop t).take 16 = blkAt q j := by rw [htj]; rfl
          have hkp : j < m / 16 + 1 := by have := Hlp.out; omega
          have hkq : j < n / 16 + 1 := by have := Hlq.out; omega
          have e3 : (x.drop t).take 16 = lastF E IV p (j + 1) := by
            rw [htj, ← HX.out]
            exact blkAt_seal E IV p (m / 16 + 1) HE.out hI (by rw [Hpl.out, ← Hlp.out]; exact Nat.le_refl _) _ j (Nat.le_refl _) hkp
          have e4 : (y.drop t).take 16 = lastF E IV q (j + 1) := by
            rw [htj, ← HY.out]
            exact blkAt_seal E IV q (n / 16 + 1) HE.out hI (by rw [Hql.out, ← Hlq.out]; exact Nat.le_refl _) _ j (Nat.le_refl _) hkq
          rw [e1] at bp
          rw [e2] at bq
          rw [e3] at bx
          rw [e4] at by'
          have l1 : (blkAt p j).length = 16 := by rw [← e1, List.length_take, List.length_drop, Hpl.out]; omega
          have l2 : (blkAt q j).length = 16 := by rw [← e2, List.length_take, List.length_drop, Hql.out]; omega
          have l3 : (lastF E IV p (j + 1)).length = 16 := by rw [← e3, List.length_take, List.length_drop, Hxl2.out]; omega
          have l4 : (lastF E IV q (j + 1)).length = 16 := by rw [← e4, List.length_take, List.length_drop, Hyl2.out]; omega
          have Htj := hid htj
          have np : ¬ cp = t := by omega
          have nq : ¬ cq = t := by omega
          have nx : ¬ cx = t := by omega
          have ny : ¬ cy = t := by omega
          have q5 : (t : Int) ≤ (u : Int) := by omega
          have q6 : IntKind.i64.wrap (u : Int) = (u : Int) := by rw [IntKind.wrap_i64]; omega
          have q7 : u - t = 16 := by omega
          have q8 : t ≤ u := by omega
          have q9 : u ≤ cp := by omega
          have q10 : u ≤ cq := by omega
          have q11 : u ≤ cx := by omega
          have q12 : u ≤ cy := by omega
          clear e1 e2 e3 e4 h1 h2 htj
          have hup : u ≤ cp := by omega
          have huq : u ≤ cq := by omega
          have hux : u ≤ cx := by omega
          have huy : u ≤ cy := by omega
          by_cases hpq : blkAt p j = blkAt q j
          · have hxy := lastF_next E IV p q j hL hpq
            obtain ⟨s1, hs1⟩ : ∃ s, str (blkAt p j) = s := ⟨_, rfl⟩
            obtain ⟨s2, hs2⟩ : ∃ s, str (lastF E IV p (j + 1)) = s := ⟨_, rfl⟩
            rw [← hpq] at bq l2
            rw [← hxy] at by' l4
            have Hxy := hid hxy
            clear hxy hpq hL
            have hBd := hBr.drew
            go_wp2_with fail
            try simp only [Act.put]
            refine tkR (fun w' => Below w10.heap.size w10 w') [] (by kernel_rfl) (fun c a d v w h => by cases d <;> exact h) (hBd) (fun hPF hHeld => ?_)
            refine tkB 0 (.some 79) _ _ rfl rfl (by kernel_rfl) (by kernel_rfl) (by kernel_rfl) (by kernel_rfl) hPF rfl (fun w' => by (go_simp; try with_reducible rfl)) hHeld (fun hHeld => ?_)
            simp only [Act.put, List.setIfInBounds_toArray, List.set_cons_zero, List.set_cons_succ]
            refine tkB 1 (.some 80) _ _ rfl rfl (by kernel_rfl) (by kernel_rfl) (by kernel_rfl) (by kernel_rfl) hPF rfl (fun w' => by (go_simp; try with_reducible rfl)) hHeld (fun hHeld => ?_)
            simp only [Act.put, List.setIfInBounds_toArray, List.set_cons_zero, List.set_cons_succ]
            refine tkB 2 (.some 81) _ _ rfl rfl (by kernel_rfl) (by kernel_rfl) (by kernel_rfl) (by kernel_rfl) hPF rfl (fun w' => by (go_simp; try with_reducible rfl)) hHeld (fun hHeld => ?_)
            simp only [Act.put, List.setIfInBounds_toArray, List.set_cons_zero, List.set_cons_succ]
            refine tkB 3 (.some 82) _ _ rfl rfl (by kernel_rfl) (by kernel_rfl) (by kernel_rfl) (by kernel_rfl) hPF rfl (fun w' => by (go_simp; try with_reducible rfl)) hHeld (fun hHeld => ?_)
            simp only [Act.put, List.setIfInBounds_toArray, List.set_cons_zero, List.set_cons_succ]
            refine tkB 4 (.some 83) _ _ rfl rfl (by kernel_rfl) (by kernel_rfl) (by kernel_rfl) (by kernel_rfl) hPF rfl (fun w' => by (go_simp; try with_reducible rfl)) hHeld (fun hHeld => ?_)
            simp only [Act.put, List.setIfInBounds_toArray, List.set_cons_zero, List.set_cons_succ]
            refine tkA 5 (.some 84) _ _ rfl rfl (by kernel_rfl) (by kernel_rfl) (by kernel_rfl) (by kernel_rfl) (by kernel_rfl) hPF rfl (fun w' hw' => by (have h1 := str_row (n := 16) (c := cp - t) (bp.below hw') l1; rw [hs1] at h1; go_simp; try with_reducible rfl)) hHeld (fun hHeld => ?_)
            simp only [Act.put, List.setIfInBounds_toArray, List.set_cons_zero, List.set_cons_succ]
            refine tkB 6 (.some 85) _ _ rfl rfl (by kernel_rfl) (by kernel_rfl) (by kernel_rfl) (by kernel_rfl) hPF rfl (fun w' => by (go_simp; try with_reducible rfl)) hHeld (fun hHeld => ?_)
            simp only [Act.put, List.setIfInBounds_toArray, List.set_cons_zero, List.set_cons_succ]
            refine tkB 7 (.some 86) _ _ rfl rfl (by kernel_rfl) (by kernel_rfl) (by kernel_rfl) (by kernel_rfl) hPF rfl (fun w' => by (go_simp; try with_reducible rfl)) hHeld (fun hHeld => ?_)
            simp only [Act.put, List.setIfInBounds_toArray, List.set_cons_zero, List.set_cons_succ]
            refine tkB 8 (.some 87) _ _ rfl rfl (by kernel_rfl) (by kernel_rfl) (by kernel_rfl) (by kernel_rfl) hPF rfl (fun w' => by (go_simp; try with_reducible rfl)) hHeld (fun hHeld => ?_)
            simp only [Act.put, List.setIfInBounds_toArray, List.set_cons_zero, List.set_cons_succ]
            refine tkB 9 (.some 88) _ _ rfl rfl (by kernel_rfl) (by kernel_rfl) (by kernel_rfl) (by kernel_rfl) hPF rfl (fun w' => by (go_simp; try with_reducible rfl)) hHeld (fun hHeld => ?_)
            simp only [Act.put, List.setIfInBounds_toArray, List.set_cons_zero, List.set_cons_succ]
            refine tkB 10 (.some 89) _ _ rfl rfl (by kernel_rfl) (by kernel_rfl) (by kernel_rfl) (by kernel_rfl) hPF rfl (fun w' => by (go_simp; try with_reducible rfl)) hHeld (fun hHeld => ?_)
            simp only [Act.put, List.setIfInBounds_toArray, List.set_cons_zero, List.set_cons_succ]
            refine tkA 11 (.some 90) _ _ rfl rfl (by kernel_rfl) (by kernel_rfl) (by kernel_rfl) (by kernel_rfl) (by kernel_rfl) hPF rfl (fun w' hw' => by (have h1 := str_row (n := 16) (c := cq - t) (bq.below hw') l2; rw [hs1] at h1; go_simp; try with_reducible rfl)) hHeld (fun hHeld => ?_)
            simp only [Act.put, List.setIfInBounds_toArray, List.set_cons_zero, List.set_cons_succ]
            refine tkB 12 (.some 91) _ _ rfl rfl (by kernel_rfl) (by kernel_rfl) (by kernel_rfl) (by kernel_rfl) hPF rfl (fun w' => by (go_simp; try with_reducible rfl)) hHeld (fun hHeld => ?_)
            simp only [Act.put, List.setIfInBounds_toArray, List.set_cons_zero, List.set_cons_succ]
            refine tkD (by kernel_rfl) ?_ _
            have hBe := hBd.drew
            go_wp2_with fail
            try simp only [Act.put]
            refine tkR (fun w' => Below w10.heap.size w10 w') [] (by kernel_rfl) (fun c a d v w h => by cases d <;> exact h) (hBe) (fun hPF hHeld => ?_)
            refine tkB 0 (.some 108) _ _ rfl rfl (by kernel_rfl) (by kernel_rfl) (by kernel_rfl) (by kernel_rfl) hPF rfl (fun w' => by (go_simp; try with_reducible rfl)) hHeld (fun hHeld => ?_)
            simp only [Act.put, List.setIfInBounds_toArray, List.set_cons_zero, List.set_cons_succ]
            refine tkB 1 (.some 109) _ _ rfl rfl (by kernel_rfl) (by kernel_rfl) (by kernel_rfl) (by kernel_rfl) hPF rfl (fun w' => by (go_simp; try with_reducible rfl)) hHeld (fun hHeld => ?_)
            simp only [Act.put, List.setIfInBounds_toArray, List.set_cons_zero, List.set_cons_succ]
            refine tkB 2 (.some 110) _ _ rfl rfl (by kernel_rfl) (by kernel_rfl) (by kernel_rfl) (by kernel_rfl) hPF rfl (fun w' => by (go_simp; try with_reducible rfl)) hHeld (fun hHeld => ?_)
            simp only [Act.put, List.setIfInBounds_toArray, List.set_cons_zero, List.set_cons_succ]
            refine tkB 3 (.some 111) _ _ rfl rfl (by kernel_rfl) (by kernel_rfl) (by kernel_rfl) (by kernel_rfl) hPF rfl (fun w' => by (go_simp; try with_reducible rfl)) hHeld (fun hHeld => ?_)
            simp only [Act.put, List.setIfInBounds_toArray, List.set_cons_zero, List.set_cons_succ]
            refine tkB 4 (.some 112) _ _ rfl rfl (by kernel_rfl) (by kernel_rfl) (by kernel_rfl) (by kernel_rfl) hPF rfl (fun w' => by (go_simp; try with_reducible rfl)) hHeld (fun hHeld => ?_)
            simp only [Act.put, List.setIfInBounds_toArray, List.set_cons_zero, List.set_cons_succ]
            refine tkA 5 (.some 113) _ _ rfl rfl (by kernel_rfl) (by kernel_rfl) (by kernel_rfl) (by kernel_rfl) (by kernel_rfl) hPF rfl (fun w' hw' => by (have h1 := str_row (n := 16) (c := cx - t) (bx.below hw') l3; rw [hs2] at h1; go_simp; try with_reducible rfl)) hHeld (fun hHeld => ?_)
            simp only [Act.put, List.setIfInBounds_toArray, List.set_cons_zero, List.set_cons_succ]
            refine tkB 6 (.some 114) _ _ rfl rfl (by kernel_rfl) (by kernel_rfl) (by kernel_rfl) (by kernel_rfl) hPF rfl (fun w' => by (go_simp; try with_reducible rfl)) hHeld (fun hHeld => ?_)
            simp only [Act.put, List.setIfInBounds_toArray, List.set_cons_zero, List.set_cons_succ]
            refine tkB 7 (.some 115) _ _ rfl rfl (by kernel_rfl) (by kernel_rfl) (by kernel_rfl) (by kernel_rfl) hPF rfl (fun w' => by (go_simp; try with_reducible rfl)) hHeld (fun hHeld => ?_)
            simp only [Act.put, List.setIfInBounds_toArray, List.set_cons_zero, List.set_cons_succ]
            refine tkB 8 (.some 116) _ _ rfl rfl (by kernel_rfl) (by kernel_rfl) (by kernel_rfl) (by kernel_rfl) hPF rfl (fun w' => by (go_simp; try with_reducible rfl)) hHeld (fun hHeld => ?_)
            simp only [Act.put, List.setIfInBounds_toArray, List.set_cons_zero, List.set_cons_succ]
            refine tkB 9 (.some 117) _ _ rfl rfl (by kernel_rfl) (by kernel_rfl) (by kernel_rfl) (by kernel_rfl) hPF rfl (fun w' => by (go_simp; try with_reducible rfl)) hHeld (fun hHeld => ?_)
            simp only [Act.put, List.setIfInBounds_toArray, List.set_cons_zero, List.set_cons_succ]
            refine tkB 10 (.some 118) _ _ rfl rfl (by kernel_rfl) (by kernel_rfl) (by kernel_rfl) (by kernel_rfl) hPF rfl (fun w' => by (go_simp; try with_reducible rfl)) hHeld (fun hHeld => ?_)
            simp only [Act.put, List.setIfInBounds_toArray, List.set_cons_zero, List.set_cons_succ]
            refine tkA 11 (.some 119) _ _ rfl rfl (by kernel_rfl) (by kernel_rfl) (by kernel_rfl) (by kernel_rfl) (by kernel_rfl) hPF rfl (fun w' hw' => by (have h1 := str_row (n := 16) (c := cy - t) (by'.below hw') l4; rw [hs2] at h1; go_simp; try with_reducible rfl)) hHeld (fun hHeld => ?_)
            simp only [Act.put, List.setIfInBounds_toArray, List.set_cons_zero, List.set_cons_succ]
            refine tkB 12 (.some 120) _ _ rfl rfl (by kernel_rfl) (by kernel_rfl) (by kernel_rfl) (by kernel_rfl) hPF rfl (fun w' => by (go_simp; try with_reducible rfl)) hHeld (fun hHeld => ?_)
            simp only [Act.put, List.setIfInBounds_toArray, List.set_cons_zero, List.set_cons_succ]
            refine tkD (by kernel_rfl) ?_ _
            go_wp2_with fail
            go_roundw
            case rel => exact ⟨j + 1, u, rfl, by have := Htj.out; omega, by omega, Hxy.out, hBe⟩
            case measure => (simp [intOf]; try omega)
          · have hxy := lastF_apart E D IV p q j HE.out HDE.out hI (by rw [Hpl.out]; have := Htj.out; omega) (by rw [Hql.out]; have := Htj.out; omega) hL hpq
            obtain ⟨s1, hs1⟩ : ∃ s, str (blkAt p j) = s := ⟨_, rfl⟩
            obtain ⟨s2, hs2⟩ : ∃ s, str (blkAt q j) = s := ⟨_, rfl⟩
            obtain ⟨s3, hs3⟩ : ∃ s, str (lastF E IV p (j + 1)) = s := ⟨_, rfl⟩
            obtain ⟨s4, hs4⟩ : ∃ s, str (lastF E IV q (j + 1)) = s := ⟨_, rfl⟩
            have n12 : (s1.toList == s2.toList) = false := by rw [← hs1, ← hs2, str_eq]; exact beq_eq_false_iff_ne.2 hpq
            have n34 : (s3.toList == s4.toList) = false := by rw [← hs3, ← hs4, str_eq]; exact beq_eq_false_iff_ne.2 hxy
            clear hxy hpq hL
            have hBd := hBr.drew
            go_wp2_with fail
            try simp only [Act.put]
            refine tkR (fun w' => Below w10.heap.size w10 w') [] (by kernel_rfl) (fun c a d v w h => by cases d <;> exact h) (hBd) (fun hPF hHeld => ?_)
            refine tkB 0 (.some 79) _ _ rfl rfl (by kernel_rfl) (by kernel_rfl) (by kernel_rfl) (by kernel_rfl) hPF rfl (fun w' => by (go_simp; try with_reducible rfl)) hHeld (fun hHeld => ?_)
            simp only [Act.put, List.setIfInBounds_toArray, List.set_cons_zero, List.set_cons_succ]
            refine tkB 1 (.some 80) _ _ rfl rfl (by kernel_rfl) (by kernel_rfl) (by kernel_rfl) (by kernel_rfl) hPF rfl (fun w' => by (go_simp; try with_reducible rfl)) hHeld (fun hHeld => ?_)
            simp only [Act.put, List.setIfInBounds_toArray, List.set_cons_zero, List.set_cons_succ]
            refine tkB 2 (.some 81) _ _ rfl rfl (by kernel_rfl) (by kernel_rfl) (by kernel_rfl) (by kernel_rfl) hPF rfl (fun w' => by (go_simp; try with_reducible rfl)) hHeld (fun hHeld => ?_)
            simp only [Act.put, List.setIfInBounds_toArray, List.set_cons_zero, List.set_cons_succ]
            refine tkB 3 (.some 82) _ _ rfl rfl (by kernel_rfl) (by kernel_rfl) (by kernel_rfl) (by kernel_rfl) hPF rfl (fun w' => by (go_simp; try with_reducible rfl)) hHeld (fun hHeld => ?_)
            simp only [Act.put, List.setIfInBounds_toArray, List.set_cons_zero, List.set_cons_succ]
            refine tkB 4 (.some 83) _ _ rfl rfl (by kernel_rfl) (by kernel_rfl) (by kernel_rfl) (by kernel_rfl) hPF rfl (fun w' => by (go_simp; try with_reducible rfl)) hHeld (fun hHeld => ?_)
            simp only [Act.put, List.setIfInBounds_toArray, List.set_cons_zero, List.set_cons_succ]
            refine tkA 5 (.some 84) _ _ rfl rfl (by kernel_rfl) (by kernel_rfl) (by kernel_rfl) (by kernel_rfl) (by kernel_rfl) hPF rfl (fun w' hw' => by (have h1 := str_row (n := 16) (c := cp - t) (bp.below hw') l1; rw [hs1] at h1; go_simp; try with_reducible rfl)) hHeld (fun hHeld => ?_)
            simp only [Act.put, List.setIfInBounds_toArray, List.set_cons_zero, List.set_cons_succ]
            refine tkB 6 (.some 85) _ _ rfl rfl (by kernel_rfl) (by kernel_rfl) (by kernel_rfl) (by kernel_rfl) hPF rfl (fun w' => by (go_simp; try with_reducible rfl)) hHeld (fun hHeld => ?_)
            simp only [Act.put, List.setIfInBounds_toArray, List.set_cons_zero, List.set_cons_succ]
            refine tkB 7 (.some 86) _ _ rfl rfl (by kernel_rfl) (by kernel_rfl) (by kernel_rfl) (by kernel_rfl) hPF rfl (fun w' => by (go_simp; try with_reducible rfl)) hHeld (fun hHeld => ?_)
            simp only [Act.put, List.setIfInBounds_toArray, List.set_cons_zero, List.set_cons_succ]
            refine tkB 8 (.some 87) _ _ rfl rfl (by kernel_rfl) (by kernel_rfl) (by kernel_rfl) (by kernel_rfl) hPF rfl (fun w' => by (go_simp; try with_reducible rfl)) hHeld (fun hHeld => ?_)
            simp only [Act.put, List.setIfInBounds_toArray, List.set_cons_zero, List.set_cons_succ]
            refine tkB 9 (.some 88) _ _ rfl rfl (by kernel_rfl) (by kernel_rfl) (by kernel_rfl) (by kernel_rfl) hPF rfl (fun w' => by (go_simp; try with_reducible rfl)) hHeld (fun hHeld => ?_)
            simp only [Act.put, List.setIfInBounds_toArray, List.set_cons_zero, List.set_cons_succ]
            refine tkB 10 (.some 89) _ _ rfl rfl (by kernel_rfl) (by kernel_rfl) (by kernel_rfl) (by kernel_rfl) hPF rfl (fun w' => by (go_simp; try with_reducible rfl)) hHeld (fun hHeld => ?_)
            simp only [Act.put, List.setIfInBounds_toArray, List.set_cons_zero, List.set_cons_succ]
            refine tkA 11 (.some 90) _ _ rfl rfl (by kernel_rfl) (by kernel_rfl) (by kernel_rfl) (by kernel_rfl) (by kernel_rfl) hPF rfl (fun w' hw' => by (have h1 := str_row (n := 16) (c := cq - t) (bq.below hw') l2; rw [hs2] at h1; go_simp; try with_reducible rfl)) hHeld (fun hHeld => ?_)
            simp only [Act.put, List.setIfInBounds_toArray, List.set_cons_zero, List.set_cons_succ]
            refine tkB 12 (.some 91) _ _ rfl rfl (by kernel_rfl) (by kernel_rfl) (by kernel_rfl) (by kernel_rfl) hPF rfl (fun w' => by (go_simp; try with_reducible rfl)) hHeld (fun hHeld => ?_)
            simp only [Act.put, List.setIfInBounds_toArray, List.set_cons_zero, List.set_cons_succ]
            refine tkD (by kernel_rfl) ?_ _
            have hBe := hBd.drew
            go_wp2_with fail
            try simp only [Act.put]
            refine tkR (fun w' => Below w10.heap.size w10 w') [] (by kernel_rfl) (fun c a d v w h => by cases d <;> exact h) (hBe) (fun hPF hHeld => ?_)
            refine tkB 0 (.some 92) _ _ rfl rfl (by kernel_rfl) (by kernel_rfl) (by kernel_rfl) (by kernel_rfl) hPF rfl (fun w' => by (go_simp; try with_reducible rfl)) hHeld (fun hHeld => ?_)
            simp only [Act.put, List.setIfInBounds_toArray, List.set_cons_zero, List.set_cons_succ]
            refine tkB 1 (.some 93) _ _ rfl rfl (by kernel_rfl) (by kernel_rfl) (by kernel_rfl) (by kernel_rfl) hPF rfl (fun w' => by (go_simp; try with_reducible rfl)) hHeld (fun hHeld => ?_)
            simp only [Act.put, List.setIfInBounds_toArray, List.set_cons_zero, List.set_cons_succ]
            refine tkB 2 (.some 94) _ _ rfl rfl (by kernel_rfl) (by kernel_rfl) (by kernel_rfl) (by kernel_rfl) hPF rfl (fun w' => by (go_simp; try with_reducible rfl)) hHeld (fun hHeld => ?_)
            simp only [Act.put, List.setIfInBounds_toArray, List.set_cons_zero, List.set_cons_succ]
            refine tkB 3 (.some 95) _ _ rfl rfl (by kernel_rfl) (by kernel_rfl) (by kernel_rfl) (by kernel_rfl) hPF rfl (fun w' => by (go_simp; try with_reducible rfl)) hHeld (fun hHeld => ?_)
            simp only [Act.put, List.setIfInBounds_toArray, List.set_cons_zero, List.set_cons_succ]
            refine tkB 4 (.some 96) _ _ rfl rfl (by kernel_rfl) (by kernel_rfl) (by kernel_rfl) (by kernel_rfl) hPF rfl (fun w' => by (go_simp; try with_reducible rfl)) hHeld (fun hHeld => ?_)
            simp only [Act.put, List.setIfInBounds_toArray, List.set_cons_zero, List.set_cons_succ]
            refine tkA 5 (.some 97) _ _ rfl rfl (by kernel_rfl) (by kernel_rfl) (by kernel_rfl) (by kernel_rfl) (by kernel_rfl) hPF rfl (fun w' hw' => by (have h1 := str_row (n := 16) (c := cx - t) (bx.below hw') l3; rw [hs3] at h1; go_simp; try with_reducible rfl)) hHeld (fun hHeld => ?_)
            simp only [Act.put, List.setIfInBounds_toArray, List.set_cons_zero, List.set_cons_succ]
            refine tkB 6 (.some 98) _ _ rfl rfl (by kernel_rfl) (by kernel_rfl) (by kernel_rfl) (by kernel_rfl) hPF rfl (fun w' => by (go_simp; try with_reducible rfl)) hHeld (fun hHeld => ?_)
            simp only [Act.put, List.setIfInBounds_toArray, List.set_cons_zero, List.set_cons_succ]
            refine tkB 7 (.some 99) _ _ rfl rfl (by kernel_rfl) (by kernel_rfl) (by kernel_rfl) (by kernel_rfl) hPF rfl (fun w' => by (go_simp; try with_reducible rfl)) hHeld (fun hHeld => ?_)
            simp only [Act.put, List.setIfInBounds_toArray, List.set_cons_zero, List.set_cons_succ]
            refine tkB 8 (.some 100) _ _ rfl rfl (by kernel_rfl) (by kernel_rfl) (by kernel_rfl) (by kernel_rfl) hPF rfl (fun w' => by (go_simp; try with_reducible rfl)) hHeld (fun hHeld => ?_)
            simp only [Act.put, List.setIfInBounds_toArray, List.set_cons_zero, List.set_cons_succ]
            refine tkB 9 (.some 101) _ _ rfl rfl (by kernel_rfl) (by kernel_rfl) (by kernel_rfl) (by kernel_rfl) hPF rfl (fun w' => by (go_simp; try with_reducible rfl)) hHeld (fun hHeld => ?_)
            simp only [Act.put, List.setIfInBounds_toArray, List.set_cons_zero, List.set_cons_succ]
            refine tkB 10 (.some 102) _ _ rfl rfl (by kernel_rfl) (by kernel_rfl) (by kernel_rfl) (by kernel_rfl) hPF rfl (fun w' => by (go_simp; try with_reducible rfl)) hHeld (fun hHeld => ?_)
            simp only [Act.put, List.setIfInBounds_toArray, List.set_cons_zero, List.set_cons_succ]
            refine tkA 11 (.some 103) _ _ rfl rfl (by kernel_rfl) (by kernel_rfl) (by kernel_rfl) (by kernel_rfl) (by kernel_rfl) hPF rfl (fun w' hw' => by (have h1 := str_row (n := 16) (c := cy - t) (by'.below hw') l4; rw [hs4] at h1; go_simp; try with_reducible rfl)) hHeld (fun hHeld => ?_)
            simp only [Act.put, List.setIfInBounds_toArray, List.set_cons_zero, List.set_cons_succ]
            refine tkB 12 (.some 104) _ _ rfl rfl (by kernel_rfl) (by kernel_rfl) (by kernel_rfl) (by kernel_rfl) hPF rfl (fun w' => by (go_simp; try with_reducible rfl)) hHeld (fun hHeld => ?_)
            simp only [Act.put, List.setIfInBounds_toArray, List.set_cons_zero, List.set_cons_succ]
            refine tkB 13 (.some 105) _ _ rfl rfl (by kernel_rfl) (by kernel_rfl) (by kernel_rfl) (by kernel_rfl) hPF rfl (fun w' => by (go_simp; try with_reducible rfl)) hHeld (fun hHeld => ?_)
            simp only [Act.put, List.setIfInBounds_toArray, List.set_cons_zero, List.set_cons_succ]
            have hS := hHeld (by kernel_rfl)
            refine tkW (rs := [14]) (by kernel_rfl) (by simp) (AllK.cons (o := _) rfl (fun KC hKC => ?_) AllK.nil)
            go_simp
            (with_reducible refine (awake09_any _).mono ?_)
            rintro e w8 ⟨rfl, hB7⟩
            have hS7 := hS.trans (hB7.mono hS.size)
            refine hKC.out _ _ (hS7) (fun hHeld => ?_)
            clear hKC KC
            try simp only [Act.put, List.setIfInBounds_toArray, List.set_cons_zero, List.set_cons_succ]
            refine tkS (fun w' => Below w8.heap.size w8 w') (fun w' h => Below.trans hS7 (Below.mono h (Below.size hS7))) (Below.refl _ _) (fun hHeld => ?_)
            refine tkB 15 (.some 107) _ _ rfl rfl (by kernel_rfl) (by kernel_rfl) (by kernel_rfl) (by kernel_rfl) hPF rfl (fun w' => by (go_simp; try with_reducible rfl)) hHeld (fun hHeld => ?_)
            simp only [Act.put, List.setIfInBounds_toArray, List.set_cons_zero, List.set_cons_succ]
            refine tkB 16 (.some 6) _ _ rfl rfl (by kernel_rfl) (by kernel_rfl) (by kernel_rfl) (by kernel_rfl) hPF rfl (fun w' => by (go_simp; try with_reducible rfl)) hHeld (fun hHeld => ?_)
            simp only [Act.put, List.setIfInBounds_toArray, List.set_cons_zero, List.set_cons_succ]
            refine tkD (by kernel_rfl) ?_ _
            go_wp2_with fail
            go_ret
            exact ⟨rfl, hB.trans (hS7.mono hB.size)⟩
        · by_cases h1 : u ≤ lp
          · have h2 : ¬ u ≤ lq := fun h => hcond ⟨h1, h⟩
            have q3 : (u : Int) ≤ (lp : Int) := by omega
            have q4 : ¬ ((u : Int) ≤ (lq : Int)) := by omega
            clear hcond h1 h2 htj
            go_wp2_with fail
            (with_reducible refine (awake09_any _).mono ?_)
            rintro e w8 ⟨rfl, hB7⟩
            go_wp2_with fail
            go_ret
            exact ⟨rfl, hB.trans ((hBr.trans (hB7.mono hBr.size)).mono hB.size)⟩
          · have q3 : ¬ ((u : Int) ≤ (lp : Int)) := by omega
            clear hcond h1 htj
            go_wp2_with fail
            (with_reducible refine (awake09_any _).mono ?_)
            rintro e w8 ⟨rfl, hB7⟩
            go_wp2_with fail
            go_ret
            exact ⟨rfl, hB.trans ((hBr.trans (hB7.mono hBr.size)).mono hB.size)⟩
    ·
      go_enter Try.func10, Try.ntmps10
      go_wp2_with fail
      go_ret
      exact ⟨rfl, hB0⟩
  ·
    go_enter Try.func10, Try.ntmps10
    go_wp2_with fail
    go_ret
    exact ⟨rfl, hB0⟩
end Go.Proofs.Ytlgeebnmonmdaaa
