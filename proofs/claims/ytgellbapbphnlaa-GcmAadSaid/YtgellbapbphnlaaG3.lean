/- gcm: GcmAad, walked -/
import Derived.Test.YtgellbapbphnlaaG1
namespace Go.Proofs.Ytgellbapbphnlaa
open Go.RowKit

/-- Sealed with a, opened with x. -/
theorem open_other (E : List UInt8 → List UInt8) (c a x b : List UInt8) (hE : ∀ s : List UInt8, s.length = 16 → (E s).length = 16) (hc : c.length = 16) :
    openG E c x (sealG E c a b) = if sealG E c a b = sealG E c x b then some b else none := by
  have hl := sealG_len E c a b hE hc
  obtain ⟨h1, h2⟩ := sealG_take E c a b hE hc
  have hX : (List.zipWith (· ^^^ ·) b (streamF E c b.length)).length = b.length := by rw [List.length_zipWith, streamF_len E c _ hE hc, Nat.min_self]
  unfold openG
  rw [hl, Nat.add_sub_cancel, h1, h2]
  by_cases h : tagF E c a (List.zipWith (· ^^^ ·) b (streamF E c b.length)) = tagF E c x (List.zipWith (· ^^^ ·) b (streamF E c b.length))
  · have h3 : sealG E c a b = sealG E c x b := by unfold sealG; rw [h]
    rw [if_pos h, if_pos h3, xor_twice (by rw [streamF_len E c _ hE hc])]
  · have h3 : ¬ sealG E c a b = sealG E c x b := fun e => h (by unfold sealG at e; exact List.append_cancel_left e)
    rw [if_neg h, if_neg h3]

set_option maxRecDepth 100000 in
set_option maxHeartbeats 4000000 in
theorem gcmAad_walk (K : List UInt8) (long : Bool) (pi : Option Addr) (l ci : Nat) (iv : List UInt8) (pa : Option Addr) (n ca : Nat) (a : List UInt8) (px : Option Addr) (k cx : Nat) (x : List UInt8) (pb : Option Addr) (m cb : Nat) (b : List UInt8) (w : World) (hK : K.length = 32)
    (hi : RowAt w pi iv) (hl : iv.length = l) (ha : RowAt w pa a) (hn : a.length = n) (hx : RowAt w px x) (hk : x.length = k) (hb : RowAt w pb b) (hm : b.length = m) :
    Calls Try.prog 14 #[.agg (kc10 K long (.slice pi l ci) (.slice pa n ca)).toArray, .slice px k cx, .slice pb m cb] w fun e w' => e = .returned (.bool true) ∧ Below w.heap.size w w' := by
  have h0 := Blk.new w (kc10 K long (.slice pi l ci) (.slice pa n ca)) tKy10
  have hB0 : Below w.heap.size w (w.alloc (.cells (kc10 K long (.slice pi l ci) (.slice pa n ca)).toArray tKy10)) := (Below.refl _ _).alloc (Nat.le_refl _) _
  by_cases hbd : m ≤ 100 ∧ k ≤ 100
  · have hsz : (Try.prog.info? 55).map (·.size) = some (kc10 K long (.slice pi l ci) (.slice pa n ca)).length := by rw [sizeK10, kc10_len _ _ _ _ hK]
    have qb0 : ¬ (100 < (m : Int)) := by omega
    have qb1 : ¬ (100 < (k : Int)) := by omega
    have hi0 := hi.below hB0
    have Hl := hid hl
    have ha0 := ha.below hB0
    have Hn := hid hn
    have hx0 := hx.below hB0
    have Hx := hid hk
    have hb0 := hb.below hB0
    have Hm := hid hm
    clear hi hl ha hn hx hk hb hm

    go_enter Try.func14, Try.ntmps14
    go_wp2_with (refine wpList_load_midG rfl 55 (.tmp 3) rfl w.heap.size 0 rfl (kc10 K long (.slice pi l ci) (.slice pa n ca)) _ h0.whole Try.underlying55 rfl hsz ?_)
    change Calls _ _ _ (w.alloc (.cells (kc10 K long (.slice pi l ci) (.slice pa n ca)).toArray tKy10)) _
    generalize w.alloc (.cells (kc10 K long (.slice pi l ci) (.slice pa n ca)).toArray tKy10) = w1 at *
    refine (short10_any w1 K long pi pa l ci n ca hK).mono ?_
    rintro e w2 ⟨rfl, hB2⟩
    have h0 := h0.below hB2 h0.lt
    have hi0 := hi0.below hB2
    have ha0 := ha0.below hB2
    have hx0 := hx0.below hB2
    have hb0 := hb0.below hB2
    have hB := hB0.trans (hB2.mono hB0.size)
    obtain ⟨sh, hsh⟩ : ∃ z, decide (l ≤ 100 ∧ n ≤ 100) = z := ⟨_, rfl⟩
    rw [hsh]
    clear hB2 hB0
    have c33 := h0.cell 33
    have c34 := h0.cell 34
    rw [(kc10_at _ _ _ _ hK).2.1] at c33
    rw [(kc10_at _ _ _ _ hK).2.2] at c34
    cases sh with
    | false =>
      clear hsh
      go_wp2_with fail
      go_ret
      exact ⟨rfl, hB⟩
    | true =>
      obtain ⟨hl100, hn100⟩ : l ≤ 100 ∧ n ≤ 100 := of_decide_eq_true hsh
      clear hsh
      by_cases hl0 : l = 0
      · subst hl0
        go_wp2_with fail
        go_ret
        exact ⟨rfl, hB⟩
      · have q2 : ((l : Int) == 0) = false := by rw [beq_eq_false_iff_ne]; omega
        go_wp2_with (refine wpList_load_mid rfl 55 (.tmp 3) rfl w.heap.size 0 rfl (kc10 K long (.slice pi l ci) (.slice pa n ca)) _ h0.whole Try.underlying55 rfl hsz ?_)
        refine (keys10_any w2 K long _ _ hK).mono ?_
        rintro e w3 ⟨kb, rfl, hKA, hB3⟩
        have h0 := h0.below hB3 h0.lt
        have hi0 := hi0.below hB3
        have ha0 := ha0.below hB3
        have hx0 := hx0.below hB3
        have hb0 := hb0.below hB3
        have hB := hB.trans (hB3.mono hB.size)
        have c33 := h0.cell 33
        have c34 := h0.cell 34
        rw [(kc10_at _ _ _ _ hK).2.1] at c33
        rw [(kc10_at _ _ _ _ hK).2.2] at c34
        obtain ⟨hrl, hE⟩ := enc_rkK K long hK
        have Hrl := hid hrl
        obtain ⟨E, hEe⟩ : ∃ E, enc (rkK K long) = E := ⟨_, rfl⟩
        rw [hEe] at hE
        have hc := firstF_len E iv
        obtain ⟨c, hce⟩ : ∃ c, firstF E iv = c := ⟨_, rfl⟩
        rw [hce] at hc
        have HE := hid hE
        have HEe := hid hEe
        have Hce := hid hce
        have Hc := hid hc
        clear hrl hE hEe hce hc hB3
        have hsl1 := sealG_len E c a b HE.out Hc.out
        have hsl2 := sealG_len E c x b HE.out Hc.out
        have htk1 := (sealG_take E c a b HE.out Hc.out).1
        have htk2 := (sealG_take E c x b HE.out Hc.out).1
        have hop := open_other E c a x b HE.out Hc.out
        rw [Hm.out] at hsl1 hsl2 htk1 htk2
        obtain ⟨s, hs⟩ : ∃ s, sealG E c a b = s := ⟨_, rfl⟩
        obtain ⟨t, ht⟩ : ∃ t, sealG E c x b = t := ⟨_, rfl⟩
        obtain ⟨X, hX⟩ : ∃ X, List.zipWith (· ^^^ ·) b (streamF E c m) = X := ⟨_, rfl⟩
        rw [hs] at hsl1 hop
        rw [ht] at hsl2 hop
        rw [hs, hX] at htk1
        rw [ht, hX] at htk2
        have hXl : X.length = m := by rw [← htk1, List.length_take, hsl1]; omega
        have Hs := hid hs
        have Ht := hid ht
        have Hop := hid hop
        obtain ⟨lt, hlt⟩ : ∃ lt, m + 16 = lt := ⟨_, rfl⟩
        rw [hlt] at hsl1 hsl2
        have Hsl1 := hid hsl1
        have Hsl2 := hid hsl2
        have q5 : (m : Int) + 16 = (lt : Int) := by omega
        have q6 : (lt : Int) ≤ 1000000000 := by omega
        have q7 : 0 ≤ (lt : Int) := by omega
        have qw : IntKind.i64.wrap (lt : Int) = (lt : Int) := by rw [IntKind.wrap_i64]; omega
        have q8 : m ≤ lt := by omega
        have q9 : (m : Int) ≤ (lt : Int) := by omega
        have lt9 : lt < 1000000 := by omega
        have lt16 : ¬ lt < 16 := by omega
        have Htk1 := hid htk1
        have Htk2 := hid htk2
        have HXl := hid hXl
        clear hs ht hX hop hsl1 hsl2 hlt htk1 htk2 hXl
        go_wp2_with fail
        refine (gseal_any w3 kb (rkK K long) hKA Hrl.out pi l ci iv hi0 Hl.out (by omega) hl0 pa n ca a ha0 Hn.out (by omega) pb m cb b hb0 Hm.out (by omega)).mono ?_
        rw [HEe.out, Hce.out, Hs.out]
        rintro e w4 ⟨v, rfl, hown, hB4⟩
        have h0 := h0.below hB4 h0.lt
        have hi0 := hi0.below hB4
        have hx0 := hx0.below hB4
        have hb0 := hb0.below hB4
        have hKA := hKA.below hB4
        have hB := hB.trans (hB4.mono hB.size)
        have c33 := h0.cell 33
        rw [(kc10_at _ _ _ _ hK).2.1] at c33
        obtain ⟨ps, cs, rfl, hcs, hrs⟩ := hown.row
        rw [Hsl1.out] at hcs ⊢
        clear hown hB4
        go_wp2_with fail
        refine (gseal_any w4 kb (rkK K long) hKA Hrl.out pi l ci iv hi0 Hl.out (by omega) hl0 px k cx x hx0 Hx.out (by omega) pb m cb b hb0 Hm.out (by omega)).mono ?_
        rw [HEe.out, Hce.out, Ht.out]
        rintro e w5 ⟨v, rfl, hown, hB5⟩
        have h0 := h0.below hB5 h0.lt
        have hi0 := hi0.below hB5
        have hx0 := hx0.below hB5
        have hKA := hKA.below hB5
        have hrs := hrs.below hB5
        have hB := hB.trans (hB5.mono hB.size)
        have c33 := h0.cell 33
        rw [(kc10_at _ _ _ _ hK).2.1] at c33
        obtain ⟨pt, ct, rfl, hct, hrt⟩ := hown.row
        rw [Hsl2.out] at hct ⊢
        have hr1 := (hrs.take m).congr Htk1.out
        have hr2 := (hrt.take m).congr Htk2.out
        obtain ⟨st, hst⟩ : ∃ z, str X = z := ⟨_, rfl⟩
        have q10 : (m : Int) ≤ (cs : Int) := by omega
        have q11 : (m : Int) ≤ (ct : Int) := by omega
        have q12 : m ≤ cs := by omega
        have q13 : m ≤ ct := by omega
        have hBd : Below w5.heap.size w5 w5.drew := (Below.refl _ _).drew
        clear hown hB5
        go_upto_region 8 with fail
        try simp only [Act.put]
        refine tkR (fun w' => Below w5.heap.size w5 w') [] (by kernel_rfl) (fun c a d v w h => by cases d <;> exact h) (hBd) (fun hPF hHeld => ?_)
        refine tkB 0 (.some 60) _ _ rfl rfl (by kernel_rfl) (by kernel_rfl) (by kernel_rfl) (by kernel_rfl) hPF rfl (fun w' => by (go_simp; try with_reducible rfl)) hHeld (fun hHeld => ?_)
        simp only [Act.put, List.setIfInBounds_toArray, List.set_cons_zero, List.set_cons_succ]
        refine tkB 1 (.some 61) _ _ rfl rfl (by kernel_rfl) (by kernel_rfl) (by kernel_rfl) (by kernel_rfl) hPF rfl (fun w' => by (go_simp; try with_reducible rfl)) hHeld (fun hHeld => ?_)
        simp only [Act.put, List.setIfInBounds_toArray, List.set_cons_zero, List.set_cons_succ]
        refine tkB 2 (.some 62) _ _ rfl rfl (by kernel_rfl) (by kernel_rfl) (by kernel_rfl) (by kernel_rfl) hPF rfl (fun w' => by (go_simp; try with_reducible rfl)) hHeld (fun hHeld => ?_)
        simp only [Act.put, List.setIfInBounds_toArray, List.set_cons_zero, List.set_cons_succ]
        refine tkB 3 (.some 63) _ _ rfl rfl (by kernel_rfl) (by kernel_rfl) (by kernel_rfl) (by kernel_rfl) hPF rfl (fun w' => by (go_simp; try with_reducible rfl)) hHeld (fun hHeld => ?_)
        simp only [Act.put, List.setIfInBounds_toArray, List.set_cons_zero, List.set_cons_succ]
        refine tkB 4 (.some 64) _ _ rfl rfl (by kernel_rfl) (by kernel_rfl) (by kernel_rfl) (by kernel_rfl) hPF rfl (fun w' => by (go_simp; try with_reducible rfl)) hHeld (fun hHeld => ?_)
        simp only [Act.put, List.setIfInBounds_toArray, List.set_cons_zero, List.set_cons_succ]
        refine tkB 5 (.some 65) _ _ rfl rfl (by kernel_rfl) (by kernel_rfl) (by kernel_rfl) (by kernel_rfl) hPF rfl (fun w' => by (go_simp; try with_reducible rfl)) hHeld (fun hHeld => ?_)
        simp only [Act.put, List.setIfInBounds_toArray, List.set_cons_zero, List.set_cons_succ]
        refine tkB 6 (.some 66) _ _ rfl rfl (by kernel_rfl) (by kernel_rfl) (by kernel_rfl) (by kernel_rfl) hPF rfl (fun w' => by (go_simp; try with_reducible rfl)) hHeld (fun hHeld => ?_)
        simp only [Act.put, List.setIfInBounds_toArray, List.set_cons_zero, List.set_cons_succ]
        refine tkB 7 (.some 67) _ _ rfl rfl (by kernel_rfl) (by kernel_rfl) (by kernel_rfl) (by kernel_rfl) hPF rfl (fun w' => by (go_simp; try with_reducible rfl)) hHeld (fun hHeld => ?_)
        simp only [Act.put, List.setIfInBounds_toArray, List.set_cons_zero, List.set_cons_succ]
        refine tkB 8 (.some 68) _ _ rfl rfl (by kernel_rfl) (by kernel_rfl) (by kernel_rfl) (by kernel_rfl) hPF rfl (fun w' => by (go_simp; try with_reducible rfl)) hHeld (fun hHeld => ?_)
        simp only [Act.put, List.setIfInBounds_toArray, List.set_cons_zero, List.set_cons_succ]
        refine tkB 9 (.some 69) _ _ rfl rfl (by kernel_rfl) (by kernel_rfl) (by kernel_rfl) (by kernel_rfl) hPF rfl (fun w' => by (go_simp; try with_reducible rfl)) hHeld (fun hHeld => ?_)
        simp only [Act.put, List.setIfInBounds_toArray, List.set_cons_zero, List.set_cons_succ]
        refine tkB 10 (.some 70) _ _ rfl rfl (by kernel_rfl) (by kernel_rfl) (by kernel_rfl) (by kernel_rfl) hPF rfl (fun w' => by (go_simp; try with_reducible rfl)) hHeld (fun hHeld => ?_)
        simp only [Act.put, List.setIfInBounds_toArray, List.set_cons_zero, List.set_cons_succ]
        refine tkB 11 (.some 71) _ _ rfl rfl (by kernel_rfl) (by kernel_rfl) (by kernel_rfl) (by kernel_rfl) hPF rfl (fun w' => by (go_simp; try with_reducible rfl)) hHeld (fun hHeld => ?_)
        simp only [Act.put, List.setIfInBounds_toArray, List.set_cons_zero, List.set_cons_succ]
        refine tkB 12 (.some 72) _ _ rfl rfl (by kernel_rfl) (by kernel_rfl) (by kernel_rfl) (by kernel_rfl) hPF rfl (fun w' => by (go_simp; try with_reducible rfl)) hHeld (fun hHeld => ?_)
        simp only [Act.put, List.setIfInBounds_toArray, List.set_cons_zero, List.set_cons_succ]
        refine tkB 13 (.some 73) _ _ rfl rfl (by kernel_rfl) (by kernel_rfl) (by kernel_rfl) (by kernel_rfl) hPF rfl (fun w' => by (go_simp; try with_reducible rfl)) hHeld (fun hHeld => ?_)
        simp only [Act.put, List.setIfInBounds_toArray, List.set_cons_zero, List.set_cons_succ]
        refine tkB 14 (.some 74) _ _ rfl rfl (by kernel_rfl) (by kernel_rfl) (by kernel_rfl) (by kernel_rfl) hPF rfl (fun w' => by (go_simp; try with_reducible rfl)) hHeld (fun hHeld => ?_)
        simp only [Act.put, List.setIfInBounds_toArray, List.set_cons_zero, List.set_cons_succ]
        refine tkB 15 (.some 75) _ _ rfl rfl (by kernel_rfl) (by kernel_rfl) (by kernel_rfl) (by kernel_rfl) hPF rfl (fun w' => by (go_simp; try with_reducible rfl)) hHeld (fun hHeld => ?_)
        simp only [Act.put, List.setIfInBounds_toArray, List.set_cons_zero, List.set_cons_succ]
        refine tkB 16 (.some 76) _ _ rfl rfl (by kernel_rfl) (by kernel_rfl) (by kernel_rfl) (by kernel_rfl) hPF rfl (fun w' => by (go_simp; try with_reducible rfl)) hHeld (fun hHeld => ?_)
        simp only [Act.put, List.setIfInBounds_toArray, List.set_cons_zero, List.set_cons_succ]
        refine tkB 17 (.some 77) _ _ rfl rfl (by kernel_rfl) (by kernel_rfl) (by kernel_rfl) (by kernel_rfl) hPF rfl (fun w' => by (go_simp; try with_reducible rfl)) hHeld (fun hHeld => ?_)
        simp only [Act.put, List.setIfInBounds_toArray, List.set_cons_zero, List.set_cons_succ]
        refine tkB 18 (.some 78) _ _ rfl rfl (by kernel_rfl) (by kernel_rfl) (by kernel_rfl) (by kernel_rfl) hPF rfl (fun w' => by (go_simp; try with_reducible rfl)) hHeld (fun hHeld => ?_)
        simp only [Act.put, List.setIfInBounds_toArray, List.set_cons_zero, List.set_cons_succ]
        refine tkB 19 (.some 79) _ _ rfl rfl (by kernel_rfl) (by kernel_rfl) (by kernel_rfl) (by kernel_rfl) hPF rfl (fun w' => by (go_simp; try with_reducible rfl)) hHeld (fun hHeld => ?_)
        simp only [Act.put, List.setIfInBounds_toArray, List.set_cons_zero, List.set_cons_succ]
        refine tkB 20 (.some 80) _ _ rfl rfl (by kernel_rfl) (by kernel_rfl) (by kernel_rfl) (by kernel_rfl) hPF rfl (fun w' => by (go_simp; try with_reducible rfl)) hHeld (fun hHeld => ?_)
        simp only [Act.put, List.setIfInBounds_toArray, List.set_cons_zero, List.set_cons_succ]
        refine tkB 21 (.some 81) _ _ rfl rfl (by kernel_rfl) (by kernel_rfl) (by kernel_rfl) (by kernel_rfl) hPF rfl (fun w' => by (go_simp; try with_reducible rfl)) hHeld (fun hHeld => ?_)
        simp only [Act.put, List.setIfInBounds_toArray, List.set_cons_zero, List.set_cons_succ]
        refine tkB 22 (.some 82) _ _ rfl rfl (by kernel_rfl) (by kernel_rfl) (by kernel_rfl) (by kernel_rfl) hPF rfl (fun w' => by (go_simp; try with_reducible rfl)) hHeld (fun hHeld => ?_)
        simp only [Act.put, List.setIfInBounds_toArray, List.set_cons_zero, List.set_cons_succ]
        refine tkB 23 (.some 83) _ _ rfl rfl (by kernel_rfl) (by kernel_rfl) (by kernel_rfl) (by kernel_rfl) hPF rfl (fun w' => by (go_simp; try with_reducible rfl)) hHeld (fun hHeld => ?_)
        simp only [Act.put, List.setIfInBounds_toArray, List.set_cons_zero, List.set_cons_succ]
        refine tkB 24 (.some 84) _ _ rfl rfl (by kernel_rfl) (by kernel_rfl) (by kernel_rfl) (by kernel_rfl) hPF rfl (fun w' => by (go_simp; try with_reducible rfl)) hHeld (fun hHeld => ?_)
        simp only [Act.put, List.setIfInBounds_toArray, List.set_cons_zero, List.set_cons_succ]
        refine tkB 25 (.some 85) _ _ rfl rfl (by kernel_rfl) (by kernel_rfl) (by kernel_rfl) (by kernel_rfl) hPF rfl (fun w' => by (go_simp; try with_reducible rfl)) hHeld (fun hHeld => ?_)
        simp only [Act.put, List.setIfInBounds_toArray, List.set_cons_zero, List.set_cons_succ]
        refine tkA 26 (.some 86) _ _ rfl rfl (by kernel_rfl) (by kernel_rfl) (by kernel_rfl) (by kernel_rfl) (by kernel_rfl) hPF rfl (fun w' hw' => by (have h1 := str_row (n := m) (c := cs) (hr1.below hw') HXl.out; rw [hst] at h1; go_simp; try with_reducible rfl)) hHeld (fun hHeld => ?_)
        simp only [Act.put, List.setIfInBounds_toArray, List.set_cons_zero, List.set_cons_succ]
        refine tkB 27 (.some 87) _ _ rfl rfl (by kernel_rfl) (by kernel_rfl) (by kernel_rfl) (by kernel_rfl) hPF rfl (fun w' => by (go_simp; try with_reducible rfl)) hHeld (fun hHeld => ?_)
        simp only [Act.put, List.setIfInBounds_toArray, List.set_cons_zero, List.set_cons_succ]
        refine tkB 28 (.some 88) _ _ rfl rfl (by kernel_rfl) (by kernel_rfl) (by kernel_rfl) (by kernel_rfl) hPF rfl (fun w' => by (go_simp; try with_reducible rfl)) hHeld (fun hHeld => ?_)
        simp only [Act.put, List.setIfInBounds_toArray, List.set_cons_zero, List.set_cons_succ]
        refine tkB 29 (.some 89) _ _ rfl rfl (by kernel_rfl) (by kernel_rfl) (by kernel_rfl) (by kernel_rfl) hPF rfl (fun w' => by (go_simp; try with_reducible rfl)) hHeld (fun hHeld => ?_)
        simp only [Act.put, List.setIfInBounds_toArray, List.set_cons_zero, List.set_cons_succ]
        refine tkB 30 (.some 90) _ _ rfl rfl (by kernel_rfl) (by kernel_rfl) (by kernel_rfl) (by kernel_rfl) hPF rfl (fun w' => by (go_simp; try with_reducible rfl)) hHeld (fun hHeld => ?_)
        simp only [Act.put, List.setIfInBounds_toArray, List.set_cons_zero, List.set_cons_succ]
        refine tkA 31 (.some 91) _ _ rfl rfl (by kernel_rfl) (by kernel_rfl) (by kernel_rfl) (by kernel_rfl) (by kernel_rfl) hPF rfl (fun w' hw' => by (have h1 := str_row (n := m) (c := ct) (hr2.below hw') HXl.out; rw [hst] at h1; go_simp; try with_reducible rfl)) hHeld (fun hHeld => ?_)
        simp only [Act.put, List.setIfInBounds_toArray, List.set_cons_zero, List.set_cons_succ]
        refine tkB 32 (.some 92) _ _ rfl rfl (by kernel_rfl) (by kernel_rfl) (by kernel_rfl) (by kernel_rfl) hPF rfl (fun w' => by (go_simp; try with_reducible rfl)) hHeld (fun hHeld => ?_)
        simp only [Act.put, List.setIfInBounds_toArray, List.set_cons_zero, List.set_cons_succ]
        refine tkB 33 (.some 93) _ _ rfl rfl (by kernel_rfl) (by kernel_rfl) (by kernel_rfl) (by kernel_rfl) hPF rfl (fun w' => by (go_simp; try with_reducible rfl)) hHeld (fun hHeld => ?_)
        simp only [Act.put, List.setIfInBounds_toArray, List.set_cons_zero, List.set_cons_succ]
        refine tkD (by kernel_rfl) ?_ _
        have h0 := h0.drew
        have hi0 := hi0.drew
        have hx0 := hx0.drew
        have hKA := hKA.drew
        have hrs := hrs.drew
        have hrt := hrt.drew
        have hB := hB.drew
        have c33 := h0.cell 33
        rw [(kc10_at _ _ _ _ hK).2.1] at c33
        generalize w5.drew = W at *
        clear hHeld hPF hBd hr1 hr2 hst
        go_wp2_with fail
        refine (gopen_any W kb (rkK K long) hKA Hrl.out pi l ci iv hi0 Hl.out (by omega) hl0 px k cx x hx0 Hx.out (by omega) ps lt cs s hrs Hsl1.out lt9 hcs).mono ?_
        rw [HEe.out, Hce.out, Hop.out]
        rintro e w6 ⟨v, er, rfl, hA, hB6⟩
        have s1 := str_row (n := lt) (c := cs) (hrs.below hB6) Hsl1.out
        have s2 := str_row (n := lt) (c := ct) (hrt.below hB6) Hsl2.out
        have hB := hB.trans (hB6.mono hB.size)
        unfold OpenA at hA
        rw [if_neg (by rw [Hsl1.out]; exact lt16)] at hA
        clear hKA h0 c33 hi0 hx0 hrs hrt
        by_cases hst : s = t
        · rw [if_pos hst] at hA
          obtain ⟨rfl, hown⟩ := hA
          obtain ⟨pv, cv, rfl, _, _⟩ := hown.row
          rw [← hst] at s2
          obtain ⟨z, hz⟩ : ∃ z, str s = z := ⟨_, rfl⟩
          rw [hz] at s1 s2
          clear hown hB6 hz hst
          go_wp2_with fail
          refine (awake10_any _).mono ?_
          rintro e w7 ⟨rfl, hB7⟩
          go_wp2_with fail
          go_ret
          exact ⟨rfl, hB.trans (hB7.mono hB.size)⟩
        · rw [if_neg hst] at hA
          obtain ⟨rfl, rfl⟩ := hA
          obtain ⟨z1, hz1⟩ : ∃ z, str s = z := ⟨_, rfl⟩
          obtain ⟨z2, hz2⟩ : ∃ z, str t = z := ⟨_, rfl⟩
          rw [hz1] at s1
          rw [hz2] at s2
          have nz : (z1.toList == z2.toList) = false := by rw [← hz1, ← hz2, str_eq]; exact beq_eq_false_iff_ne.2 hst
          clear hB6 hz1 hz2 hst
          go_wp2_with fail
          refine (awake10_any _).mono ?_
          rintro e w7 ⟨rfl, hB7⟩
          go_wp2_with fail
          go_ret
          exact ⟨rfl, hB.trans (hB7.mono hB.size)⟩
  ·
    by_cases hx0 : m ≤ 100
    · have qb0 : ¬ (100 < (m : Int)) := by omega
      have qb1 : 100 < (k : Int) := by omega
      go_enter Try.func14, Try.ntmps14
      go_wp2_with fail
      go_ret
      exact ⟨rfl, hB0⟩
    · have qb0 : 100 < (m : Int) := by omega
      go_enter Try.func14, Try.ntmps14
      go_wp2_with fail
      go_ret
      exact ⟨rfl, hB0⟩
end Go.Proofs.Ytgellbapbphnlaa
