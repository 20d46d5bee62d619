/- gcm: GcmStream, walked -/
import Derived.Test.YtgellbapbphnlaaG1
namespace Go.Proofs.Ytgellbapbphnlaa
open Go.RowKit

theorem gblk_take (E : List UInt8 → List UInt8) (c : List UInt8) (hE : ∀ s : List UInt8, s.length = 16 → (E s).length = 16) (hc : c.length = 16) (i : Nat) : ∀ k, i ≤ k → (gblk E c k).take (16 * i) = gblk E c i
  | 0, h => by obtain rfl : i = 0 := by omega
               rfl
  | k + 1, h => by
    have hl := gblk_len E c hE hc k
    by_cases hi : i ≤ k
    · rw [gblk, List.take_append_of_le_length (by rw [hl]; omega), gblk_take E c hE hc i k hi]
    · obtain rfl : i = k + 1 := by omega
      rw [List.take_of_length_le (by rw [gblk_len E c hE hc]; exact Nat.le_refl _)]
theorem streamF_get (E : List UInt8 → List UInt8) (c : List UInt8) (hE : ∀ s : List UInt8, s.length = 16 → (E s).length = 16) (hc : c.length = 16) (m j : Nat) (h : j < m) : (streamF E c m).getD j 0 = (gblk E c (j / 16 + 1)).getD j 0 := by
  have h1 := gblk_take E c hE hc (j / 16 + 1) (nblk m) (by unfold nblk; omega)
  unfold streamF
  rw [← h1]
  simp only [List.getD, List.getElem?_take]
  rw [if_pos h, if_pos (by omega)]
theorem getD_zip (l r : List UInt8) (j : Nat) (h1 : j < l.length) (h2 : j < r.length) : (List.zipWith (· ^^^ ·) l r).getD j 0 = l.getD j 0 ^^^ r.getD j 0 := by
  simp [List.getD, List.getElem?_zipWith, List.getElem?_eq_getElem h1, List.getElem?_eq_getElem h2]
theorem sealG_get (E : List UInt8 → List UInt8) (c aad b : List UInt8) (hE : ∀ s : List UInt8, s.length = 16 → (E s).length = 16) (hc : c.length = 16) (j : Nat) (h : j < b.length) : (sealG E c aad b).getD j 0 = b.getD j 0 ^^^ (gblk E c (j / 16 + 1)).getD j 0 := by
  have h1 := (sealG_take E c aad b hE hc).1
  have e : (sealG E c aad b).getD j 0 = ((sealG E c aad b).take b.length).getD j 0 := by simp only [List.getD, List.getElem?_take, if_pos h]
  rw [e, h1, getD_zip _ _ _ h (by rw [streamF_len E c _ hE hc]; exact h), streamF_get E c hE hc _ _ h]
theorem xor_four (a b g : UInt8) : (a ^^^ g) ^^^ (b ^^^ g) = a ^^^ b := by
  rw [UInt8.xor_assoc, UInt8.xor_comm b g, ← UInt8.xor_assoc g g b, UInt8.xor_self, UInt8.zero_xor]

set_option maxRecDepth 100000 in
set_option maxHeartbeats 4000000 in
theorem gcmStream_walk (K : List UInt8) (long : Bool) (pi : Option Addr) (l ci : Nat) (iv : List UInt8) (pa : Option Addr) (n ca : Nat) (a : List UInt8) (px : Option Addr) (k cx : Nat) (x : List UInt8) (pb : Option Addr) (m cb : Nat) (b : List UInt8) (w : World) (hK : K.length = 32)
    (hi : RowAt w pi iv) (hl : iv.length = l) (ha : RowAt w pa a) (hn : a.length = n) (hx : RowAt w px x) (hk : x.length = k) (hb : RowAt w pb b) (hm : b.length = m) :
    Calls Try.prog 9 #[.agg (kc10 K long (.slice pi l ci) (.slice pa n ca)).toArray, .slice px k cx, .slice pb m cb] w fun e w' => e = .returned (.bool true) ∧ Below w.heap.size w w' := by
  have h0 := Blk.new w (kc10 K long (.slice pi l ci) (.slice pa n ca)) tKy10
  have hB0 : Below w.heap.size w (w.alloc (.cells (kc10 K long (.slice pi l ci) (.slice pa n ca)).toArray tKy10)) := (Below.refl _ _).alloc (Nat.le_refl _) _
  by_cases hbd : k ≤ 100 ∧ m ≤ 100
  · have hsz : (Try.prog.info? 55).map (·.size) = some (kc10 K long (.slice pi l ci) (.slice pa n ca)).length := by rw [sizeK10, kc10_len _ _ _ _ hK]
    have qb0 : ¬ (100 < (k : Int)) := by omega
    have qb1 : ¬ (100 < (m : Int)) := by omega
    have hi0 := hi.below hB0
    have Hl := hid hl
    have ha0 := ha.below hB0
    have Hn := hid hn
    have hx0 := hx.below hB0
    have Hx := hid hk
    have hb0 := hb.below hB0
    have Hm := hid hm
    clear hi hl ha hn hx hk hb hm

    go_enter Try.func9, Try.ntmps9
    go_wp2_with (refine wpList_load_midG rfl 55 (.tmp 3) rfl w.heap.size 0 rfl (kc10 K long (.slice pi l ci) (.slice pa n ca)) _ h0.whole Try.underlying55 rfl hsz ?_)
    change Calls _ _ _ (w.alloc (.cells (kc10 K long (.slice pi l ci) (.slice pa n ca)).toArray tKy10)) _
    generalize w.alloc (.cells (kc10 K long (.slice pi l ci) (.slice pa n ca)).toArray tKy10) = w1 at *
    refine (short10_any w1 K long pi pa l ci n ca hK).mono ?_
    rintro e w2 ⟨rfl, hB2⟩
    have h0 := h0.below hB2 h0.lt
    have hi0 := hi0.below hB2
    have ha0 := ha0.below hB2
    have hx0 := hx0.below hB2
    have hb0 := hb0.below hB2
    have hB := hB0.trans (hB2.mono hB0.size)
    obtain ⟨sh, hsh⟩ : ∃ z, decide (l ≤ 100 ∧ n ≤ 100) = z := ⟨_, rfl⟩
    rw [hsh]
    clear hB2 hB0
    have c33 := h0.cell 33
    have c34 := h0.cell 34
    rw [(kc10_at _ _ _ _ hK).2.1] at c33
    rw [(kc10_at _ _ _ _ hK).2.2] at c34
    cases sh with
    | false =>
      clear hsh
      go_wp2_with fail
      go_ret
      exact ⟨rfl, hB⟩
    | true =>
      obtain ⟨hl100, hn100⟩ : l ≤ 100 ∧ n ≤ 100 := of_decide_eq_true hsh
      clear hsh
      by_cases hl0 : l = 0
      · subst hl0
        go_wp2_with fail
        go_ret
        exact ⟨rfl, hB⟩
      · have q2 : ((l : Int) == 0) = false := by rw [beq_eq_false_iff_ne]; omega
        go_wp2_with (refine wpList_load_mid rfl 55 (.tmp 3) rfl w.heap.size 0 rfl (kc10 K long (.slice pi l ci) (.slice pa n ca)) _ h0.whole Try.underlying55 rfl hsz ?_)
        refine (keys10_any w2 K long _ _ hK).mono ?_
        rintro e w3 ⟨kb, rfl, hKA, hB3⟩
        have h0 := h0.below hB3 h0.lt
        have hi0 := hi0.below hB3
        have ha0 := ha0.below hB3
        have hx0 := hx0.below hB3
        have hb0 := hb0.below hB3
        have hB := hB.trans (hB3.mono hB.size)
        have c33 := h0.cell 33
        have c34 := h0.cell 34
        rw [(kc10_at _ _ _ _ hK).2.1] at c33
        rw [(kc10_at _ _ _ _ hK).2.2] at c34
        obtain ⟨hrl, hE⟩ := enc_rkK K long hK
        have Hrl := hid hrl
        obtain ⟨E, hEe⟩ : ∃ E, enc (rkK K long) = E := ⟨_, rfl⟩
        rw [hEe] at hE
        have hc := firstF_len E iv
        obtain ⟨c, hce⟩ : ∃ c, firstF E iv = c := ⟨_, rfl⟩
        rw [hce] at hc
        have HE := hid hE
        have HEe := hid hEe
        have Hce := hid hce
        have Hc := hid hc
        clear hrl hE hEe hce hc hB3
        have hsl1 := sealG_len E c a x HE.out Hc.out
        have hsl2 := sealG_len E c [] b HE.out Hc.out
        rw [Hx.out] at hsl1
        rw [Hm.out] at hsl2
        obtain ⟨s, hs⟩ : ∃ s, sealG E c a x = s := ⟨_, rfl⟩
        obtain ⟨t, ht⟩ : ∃ t, sealG E c [] b = t := ⟨_, rfl⟩
        have hxor : ∀ j, j < k → j < m → s.getD j 0 ^^^ t.getD j 0 = x.getD j 0 ^^^ b.getD j 0 := fun j h1 h2 => by
          rw [← hs, ← ht, sealG_get E c a x HE.out Hc.out j (by rw [Hx.out]; exact h1), sealG_get E c [] b HE.out Hc.out j (by rw [Hm.out]; exact h2), xor_four]
        rw [hs] at hsl1
        rw [ht] at hsl2
        have Hxor := hid hxor
        have Hs := hid hs
        have Ht := hid ht
        obtain ⟨ls, hls⟩ : ∃ ls, k + 16 = ls := ⟨_, rfl⟩
        obtain ⟨lt, hlt⟩ : ∃ lt, m + 16 = lt := ⟨_, rfl⟩
        rw [hls] at hsl1
        rw [hlt] at hsl2
        have Hsl1 := hid hsl1
        have Hsl2 := hid hsl2
        have Hls := hid hls
        have Hlt := hid hlt
        have q3 : (k : Int) + 16 = (ls : Int) := by omega
        have q4 : (ls : Int) ≤ 1000000000 := by omega
        have q5 : (m : Int) + 16 = (lt : Int) := by omega
        have q6 : (lt : Int) ≤ 1000000000 := by omega
        have q7 : 0 ≤ (ls : Int) := by omega
        have q8 : 0 ≤ (lt : Int) := by omega
        clear hs ht hxor hsl1 hsl2 hls hlt
        go_wp2_with fail
        refine (gseal_any w3 kb (rkK K long) hKA Hrl.out pi l ci iv hi0 Hl.out (by omega) hl0 pa n ca a ha0 Hn.out (by omega) px k cx x hx0 Hx.out (by omega)).mono ?_
        rw [HEe.out, Hce.out, Hs.out]
        rintro e w4 ⟨v, rfl, hown, hB4⟩
        have h0 := h0.below hB4 h0.lt
        have hi0 := hi0.below hB4
        have hx0 := hx0.below hB4
        have hb0 := hb0.below hB4
        have hKA := hKA.below hB4
        have hB := hB.trans (hB4.mono hB.size)
        have c33 := h0.cell 33
        rw [(kc10_at _ _ _ _ hK).2.1] at c33
        obtain ⟨ps, cs, rfl, hcs, hrs⟩ := hown.row
        rw [Hsl1.out] at hcs ⊢
        clear hown hB4
        go_wp2_with fail
        refine (gseal_any w4 kb (rkK K long) hKA Hrl.out pi l ci iv hi0 Hl.out (by omega) hl0 none 0 0 [] (RowAt.nil _ _) rfl (by omega) pb m cb b hb0 Hm.out (by omega)).mono ?_
        rw [HEe.out, Hce.out, Ht.out]
        rintro e w5 ⟨v, rfl, hown, hB5⟩
        have hx0 := hx0.below hB5
        have hb0 := hb0.below hB5
        have hrs := hrs.below hB5
        have hB := hB.trans (hB5.mono hB.size)
        obtain ⟨pt, ct, rfl, hct, hrt⟩ := hown.row
        rw [Hsl2.out] at hct ⊢
        clear hown hB5 hKA h0 c33 hi0 ha0
        go_wp2_with fail
        go_loopw [13] (fun i wx => ∃ j : Nat, i = .int .i64 j ∧ j ≤ 1000 ∧ Below w5.heap.size w5 wx) (fun i _ => 1000 - (intOf i).toNat)
        case atStart => exact ⟨0, rfl, by omega, Below.refl _ _⟩
        case round =>
          obtain ⟨j, rfl, hj, hBr⟩ := hrel
          by_cases hcond : j < k ∧ j < m
          · obtain ⟨h1, h2⟩ := hcond
            have q9 : (j : Int) < (k : Int) := by omega
            have q10 : (j : Int) < (m : Int) := by omega
            have q11 : 0 ≤ (j : Int) := by omega
            have q12 : (j : Int) < (ls : Int) := by omega
            have q13 : (j : Int) < (lt : Int) := by omega
            obtain ⟨gs, os, rfl, _, cs0⟩ := (hrs.below hBr) j (by rw [Hsl1.out]; have := Hls.out; omega)
            obtain ⟨gt, ot, rfl, _, ct0⟩ := (hrt.below hBr) j (by rw [Hsl2.out]; have := Hlt.out; omega)
            obtain ⟨gx, ox, rfl, _, cx0⟩ := (hx0.below hBr) j (by rw [Hx.out]; exact h1)
            obtain ⟨gb, ob, rfl, _, cb0⟩ := (hb0.below hBr) j (by rw [Hm.out]; exact h2)
            have hxj := Hxor.out j h1 h2
            have hBd := hBr.drew
            generalize s.getD j 0 = s0 at *
            generalize t.getD j 0 = t0 at *
            generalize x.getD j 0 = x0 at *
            generalize b.getD j 0 = b0 at *
            have Hxj := hid hxj
            obtain ⟨y, hy⟩ : ∃ y, s0 ^^^ t0 = y := ⟨_, rfl⟩
            have hy2 : x0 ^^^ b0 = y := by rw [← hxj, hy]
            clear hxj h1 h2
            go_wp2_with fail
            try simp only [Act.put]
            refine tkR (fun w' => w'.cell? ⟨gs, os + j, none⟩ = some (.int .u8 (bv s0)) ∧ w'.cell? ⟨gt, ot + j, none⟩ = some (.int .u8 (bv t0)) ∧ w'.cell? ⟨gx, ox + j, none⟩ = some (.int .u8 (bv x0)) ∧ w'.cell? ⟨gb, ob + j, none⟩ = some (.int .u8 (bv b0))) [] (by kernel_rfl) (fun c a d v w h => by cases d <;> exact h) (⟨cs0, ct0, cx0, cb0⟩) (fun hPF hHeld => ?_)
            refine tkB 0 (.some 92) _ _ rfl rfl (by kernel_rfl) (by kernel_rfl) (by kernel_rfl) (by kernel_rfl) hPF rfl (fun w' => by (go_simp; try with_reducible rfl)) hHeld (fun hHeld => ?_)
            simp only [Act.put, List.setIfInBounds_toArray, List.set_cons_zero, List.set_cons_succ]
            refine tkB 1 (.some 93) _ _ rfl rfl (by kernel_rfl) (by kernel_rfl) (by kernel_rfl) (by kernel_rfl) hPF rfl (fun w' => by (go_simp; try with_reducible rfl)) hHeld (fun hHeld => ?_)
            simp only [Act.put, List.setIfInBounds_toArray, List.set_cons_zero, List.set_cons_succ]
            refine tkB 2 (.some 94) _ _ rfl rfl (by kernel_rfl) (by kernel_rfl) (by kernel_rfl) (by kernel_rfl) hPF rfl (fun w' => by (go_simp; try with_reducible rfl)) hHeld (fun hHeld => ?_)
            simp only [Act.put, List.setIfInBounds_toArray, List.set_cons_zero, List.set_cons_succ]
            refine tkA 3 (.some 95) _ _ rfl rfl (by kernel_rfl) (by kernel_rfl) (by kernel_rfl) (by kernel_rfl) (by kernel_rfl) hPF rfl (fun w' hw' => by (have q := hw'.1; go_simp; try with_reducible rfl)) hHeld (fun hHeld => ?_)
            simp only [Act.put, List.setIfInBounds_toArray, List.set_cons_zero, List.set_cons_succ]
            refine tkB 4 (.some 96) _ _ rfl rfl (by kernel_rfl) (by kernel_rfl) (by kernel_rfl) (by kernel_rfl) hPF rfl (fun w' => by (go_simp; try with_reducible rfl)) hHeld (fun hHeld => ?_)
            simp only [Act.put, List.setIfInBounds_toArray, List.set_cons_zero, List.set_cons_succ]
            refine tkB 5 (.some 97) _ _ rfl rfl (by kernel_rfl) (by kernel_rfl) (by kernel_rfl) (by kernel_rfl) hPF rfl (fun w' => by (go_simp; try with_reducible rfl)) hHeld (fun hHeld => ?_)
            simp only [Act.put, List.setIfInBounds_toArray, List.set_cons_zero, List.set_cons_succ]
            refine tkB 6 (.some 98) _ _ rfl rfl (by kernel_rfl) (by kernel_rfl) (by kernel_rfl) (by kernel_rfl) hPF rfl (fun w' => by (go_simp; try with_reducible rfl)) hHeld (fun hHeld => ?_)
            simp only [Act.put, List.setIfInBounds_toArray, List.set_cons_zero, List.set_cons_succ]
            refine tkA 7 (.some 99) _ _ rfl rfl (by kernel_rfl) (by kernel_rfl) (by kernel_rfl) (by kernel_rfl) (by kernel_rfl) hPF rfl (fun w' hw' => by (have q := hw'.2.1; go_simp; try with_reducible rfl)) hHeld (fun hHeld => ?_)
            simp only [Act.put, List.setIfInBounds_toArray, List.set_cons_zero, List.set_cons_succ]
            refine tkB 8 (.some 100) _ _ rfl rfl (by kernel_rfl) (by kernel_rfl) (by kernel_rfl) (by kernel_rfl) hPF rfl (fun w' => by (go_simp; try with_reducible rfl)) hHeld (fun hHeld => ?_)
            simp only [Act.put, List.setIfInBounds_toArray, List.set_cons_zero, List.set_cons_succ]
            refine tkB 9 (.some 101) _ _ rfl rfl (by kernel_rfl) (by kernel_rfl) (by kernel_rfl) (by kernel_rfl) hPF rfl (fun w' => by (go_simp; try with_reducible rfl)) hHeld (fun hHeld => ?_)
            simp only [Act.put, List.setIfInBounds_toArray, List.set_cons_zero, List.set_cons_succ]
            refine tkB 10 (.some 102) _ _ rfl rfl (by kernel_rfl) (by kernel_rfl) (by kernel_rfl) (by kernel_rfl) hPF rfl (fun w' => by (go_simp; try with_reducible rfl)) hHeld (fun hHeld => ?_)
            simp only [Act.put, List.setIfInBounds_toArray, List.set_cons_zero, List.set_cons_succ]
            refine tkB 11 (.some 103) _ _ rfl rfl (by kernel_rfl) (by kernel_rfl) (by kernel_rfl) (by kernel_rfl) hPF rfl (fun w' => by (go_simp; try with_reducible rfl)) hHeld (fun hHeld => ?_)
            simp only [Act.put, List.setIfInBounds_toArray, List.set_cons_zero, List.set_cons_succ]
            refine tkA 12 (.some 104) _ _ rfl rfl (by kernel_rfl) (by kernel_rfl) (by kernel_rfl) (by kernel_rfl) (by kernel_rfl) hPF rfl (fun w' hw' => by (have q := hw'.2.2.1; go_simp; try with_reducible rfl)) hHeld (fun hHeld => ?_)
            simp only [Act.put, List.setIfInBounds_toArray, List.set_cons_zero, List.set_cons_succ]
            refine tkB 13 (.some 105) _ _ rfl rfl (by kernel_rfl) (by kernel_rfl) (by kernel_rfl) (by kernel_rfl) hPF rfl (fun w' => by (go_simp; try with_reducible rfl)) hHeld (fun hHeld => ?_)
            simp only [Act.put, List.setIfInBounds_toArray, List.set_cons_zero, List.set_cons_succ]
            refine tkB 14 (.some 106) _ _ rfl rfl (by kernel_rfl) (by kernel_rfl) (by kernel_rfl) (by kernel_rfl) hPF rfl (fun w' => by (go_simp; try with_reducible rfl)) hHeld (fun hHeld => ?_)
            simp only [Act.put, List.setIfInBounds_toArray, List.set_cons_zero, List.set_cons_succ]
            refine tkB 15 (.some 107) _ _ rfl rfl (by kernel_rfl) (by kernel_rfl) (by kernel_rfl) (by kernel_rfl) hPF rfl (fun w' => by (go_simp; try with_reducible rfl)) hHeld (fun hHeld => ?_)
            simp only [Act.put, List.setIfInBounds_toArray, List.set_cons_zero, List.set_cons_succ]
            refine tkA 16 (.some 108) _ _ rfl rfl (by kernel_rfl) (by kernel_rfl) (by kernel_rfl) (by kernel_rfl) (by kernel_rfl) hPF rfl (fun w' hw' => by (have q := hw'.2.2.2; go_simp; try with_reducible rfl)) hHeld (fun hHeld => ?_)
            simp only [Act.put, List.setIfInBounds_toArray, List.set_cons_zero, List.set_cons_succ]
            refine tkB 17 (.some 109) _ _ rfl rfl (by kernel_rfl) (by kernel_rfl) (by kernel_rfl) (by kernel_rfl) hPF rfl (fun w' => by (go_simp; try with_reducible rfl)) hHeld (fun hHeld => ?_)
            simp only [Act.put, List.setIfInBounds_toArray, List.set_cons_zero, List.set_cons_succ]
            refine tkB 18 (.some 110) _ _ rfl rfl (by kernel_rfl) (by kernel_rfl) (by kernel_rfl) (by kernel_rfl) hPF rfl (fun w' => by (go_simp; try with_reducible rfl)) hHeld (fun hHeld => ?_)
            simp only [Act.put, List.setIfInBounds_toArray, List.set_cons_zero, List.set_cons_succ]
            refine tkD (by kernel_rfl) ?_ _
            go_wp2_with fail
            go_roundw
            case rel => exact ⟨j + 1, by go_num, by omega, hBd⟩
            case measure => (simp [intOf]; try omega)
          · have hBx := hB.trans (hBr.mono hB.size)
            by_cases h1 : j < k
            · have h2 : ¬ j < m := fun h => hcond ⟨h1, h⟩
              have q9 : (j : Int) < (k : Int) := by omega
              have q10 : ¬ ((j : Int) < (m : Int)) := by omega
              clear hcond h1 h2
              go_wp2_with fail
              refine (awake10_any _).mono ?_
              rintro e w7 ⟨rfl, hB7⟩
              go_wp2_with fail
              go_ret
              exact ⟨rfl, hBx.trans (hB7.mono hBx.size)⟩
            · have q9 : ¬ ((j : Int) < (k : Int)) := by omega
              clear hcond h1
              go_wp2_with fail
              refine (awake10_any _).mono ?_
              rintro e w7 ⟨rfl, hB7⟩
              go_wp2_with fail
              go_ret
              exact ⟨rfl, hBx.trans (hB7.mono hBx.size)⟩
  ·
    by_cases hx0 : k ≤ 100
    · have qb0 : ¬ (100 < (k : Int)) := by omega
      have qb1 : 100 < (m : Int) := by omega
      go_enter Try.func9, Try.ntmps9
      go_wp2_with fail
      go_ret
      exact ⟨rfl, hB0⟩
    · have qb0 : 100 < (k : Int) := by omega
      go_enter Try.func9, Try.ntmps9
      go_wp2_with fail
      go_ret
      exact ⟨rfl, hB0⟩
end Go.Proofs.Ytgellbapbphnlaa
