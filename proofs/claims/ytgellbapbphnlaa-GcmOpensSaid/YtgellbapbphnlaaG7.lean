/- gcm: GcmOpens, walked -/
import Derived.Test.YtgellbapbphnlaaRv
import Derived.Test.YtgellbapbphnlaaK10
import Derived.Test.YtgellbapbphnlaaG1
namespace Go.Proofs.Ytgellbapbphnlaa
open Go.RowKit

set_option maxRecDepth 100000 in
set_option maxHeartbeats 4000000 in
theorem gcmOpens_walk (K : List UInt8) (long : Bool) (pi : Option Addr) (l ci : Nat) (iv : List UInt8) (pa : Option Addr) (n ca : Nat) (a : List UInt8) (pb : Option Addr) (m cb : Nat) (b : List UInt8) (w : World) (hK : K.length = 32)
    (hi : RowAt w pi iv) (hl : iv.length = l) (ha : RowAt w pa a) (hn : a.length = n) (hb : RowAt w pb b) (hm : b.length = m) (hmc : m ≤ cb) :
    Calls Try.prog 10 #[.agg (kc10 K long (.slice pi l ci) (.slice pa n ca)).toArray, .slice pb m cb] w fun e w' => e = .returned (.bool true) ∧ Below w.heap.size w w' := by
  have h0 := Blk.new w (kc10 K long (.slice pi l ci) (.slice pa n ca)) tKy10
  have hB0 : Below w.heap.size w (w.alloc (.cells (kc10 K long (.slice pi l ci) (.slice pa n ca)).toArray tKy10)) := (Below.refl _ _).alloc (Nat.le_refl _) _
  by_cases hbd : m ≤ 100
  · have hsz : (Try.prog.info? 55).map (·.size) = some (kc10 K long (.slice pi l ci) (.slice pa n ca)).length := by rw [sizeK10, kc10_len _ _ _ _ hK]
    have qb0 : ¬ (100 < (m : Int)) := by omega
    have hi0 := hi.below hB0
    have Hl := hid hl
    have ha0 := ha.below hB0
    have Hn := hid hn
    have hb0 := hb.below hB0
    have Hm := hid hm
    clear hi hl ha hn hb hm

    go_enter Try.func10, Try.ntmps10
    go_wp2_with (refine wpList_load_midG rfl 55 (.tmp 2) rfl w.heap.size 0 rfl (kc10 K long (.slice pi l ci) (.slice pa n ca)) _ h0.whole Try.underlying55 rfl hsz ?_)
    change Calls _ _ _ (w.alloc (.cells (kc10 K long (.slice pi l ci) (.slice pa n ca)).toArray tKy10)) _
    generalize w.alloc (.cells (kc10 K long (.slice pi l ci) (.slice pa n ca)).toArray tKy10) = w1 at *
    refine (short10_any w1 K long pi pa l ci n ca hK).mono ?_
    rintro e w2 ⟨rfl, hB2⟩
    have h0 := h0.below hB2 h0.lt
    have hi0 := hi0.below hB2
    have ha0 := ha0.below hB2
    have hb0 := hb0.below hB2
    have hB := hB0.trans (hB2.mono hB0.size)
    obtain ⟨sh, hsh⟩ : ∃ z, decide (l ≤ 100 ∧ n ≤ 100) = z := ⟨_, rfl⟩
    rw [hsh]
    clear hB2 hB0
    have c33 := h0.cell 33
    have c34 := h0.cell 34
    rw [(kc10_at _ _ _ _ hK).2.1] at c33
    rw [(kc10_at _ _ _ _ hK).2.2] at c34
    cases sh with
    | false =>
      clear hsh
      go_wp2_with fail
      go_ret
      exact ⟨rfl, hB⟩
    | true =>
      obtain ⟨hl100, hn100⟩ : l ≤ 100 ∧ n ≤ 100 := of_decide_eq_true hsh
      clear hsh
      go_wp2_with (refine wpList_load_mid rfl 55 (.tmp 2) rfl w.heap.size 0 rfl (kc10 K long (.slice pi l ci) (.slice pa n ca)) _ h0.whole Try.underlying55 rfl hsz ?_)
      refine (keys10_any w2 K long _ _ hK).mono ?_
      rintro e w3 ⟨kb, rfl, hKA, hB3⟩
      have h0 := h0.below hB3 h0.lt
      have hi0 := hi0.below hB3
      have ha0 := ha0.below hB3
      have hb0 := hb0.below hB3
      have hB := hB.trans (hB3.mono hB.size)
      have c33 := h0.cell 33
      have c34 := h0.cell 34
      rw [(kc10_at _ _ _ _ hK).2.1] at c33
      rw [(kc10_at _ _ _ _ hK).2.2] at c34
      obtain ⟨hrl, hE⟩ := enc_rkK K long hK
      have Hrl := hid hrl
      obtain ⟨E, hEe⟩ : ∃ E, enc (rkK K long) = E := ⟨_, rfl⟩
      rw [hEe] at hE
      have hc := firstF_len E iv
      obtain ⟨c, hce⟩ : ∃ c, firstF E iv = c := ⟨_, rfl⟩
      rw [hce] at hc
      have HE := hid hE
      have HEe := hid hEe
      have Hce := hid hce
      have Hc := hid hc
      clear hrl hE hEe hce hc hB3
      have hkn := kn_km long
      have hkl : (K.take (kn long)).length = kn long := by rw [List.length_take]; omega
      have Hkn := hid hkn
      have Hkl := hid hkl
      clear hkn hkl
      by_cases hl0 : l = 0
      · subst hl0
        have hS0 : Below w3.heap.size w3 w3.drew := (Below.refl _ _).drew
        clear c33 c34
        go_upto_region 6 with fail
        try simp only [Act.put]
        refine tkR (fun w' => Below w3.heap.size w3 w') [] (by kernel_rfl) (fun c a d v w h => by cases d <;> exact h) (hS0) (fun hPF hHeld => ?_)
        refine tkB 0 (.some 27) _ _ rfl rfl (by kernel_rfl) (by kernel_rfl) (by kernel_rfl) (by kernel_rfl) hPF rfl (fun w' => by (go_simp; try with_reducible rfl)) hHeld (fun hHeld => ?_)
        simp only [Act.put, List.setIfInBounds_toArray, List.set_cons_zero, List.set_cons_succ]
        refine tkB 1 (.some 28) _ _ rfl rfl (by kernel_rfl) (by kernel_rfl) (by kernel_rfl) (by kernel_rfl) hPF rfl (fun w' => by (go_simp; try with_reducible rfl)) hHeld (fun hHeld => ?_)
        simp only [Act.put, List.setIfInBounds_toArray, List.set_cons_zero, List.set_cons_succ]
        refine tkA 2 (.some 29) _ _ rfl rfl (by kernel_rfl) (by kernel_rfl) (by kernel_rfl) (by kernel_rfl) (by kernel_rfl) hPF rfl (fun w' hw' => by (have h1 := (h0.below hw' h0.lt).cell 33; rw [(kc10_at _ _ _ _ hK).2.1] at h1; go_simp; try with_reducible rfl)) hHeld (fun hHeld => ?_)
        simp only [Act.put, List.setIfInBounds_toArray, List.set_cons_zero, List.set_cons_succ]
        refine tkB 3 (.some 30) _ _ rfl rfl (by kernel_rfl) (by kernel_rfl) (by kernel_rfl) (by kernel_rfl) hPF rfl (fun w' => by (go_simp; try with_reducible rfl)) hHeld (fun hHeld => ?_)
        simp only [Act.put, List.setIfInBounds_toArray, List.set_cons_zero, List.set_cons_succ]
        refine tkA 4 (.some 31) _ _ rfl rfl (by kernel_rfl) (by kernel_rfl) (by kernel_rfl) (by kernel_rfl) (by kernel_rfl) hPF rfl (fun w' hw' => by (have h1 := (h0.below hw' h0.lt).cell 34; rw [(kc10_at _ _ _ _ hK).2.2] at h1; go_simp; try with_reducible rfl)) hHeld (fun hHeld => ?_)
        simp only [Act.put, List.setIfInBounds_toArray, List.set_cons_zero, List.set_cons_succ]
        refine tkB 6 (.some 33) _ _ rfl rfl (by kernel_rfl) (by kernel_rfl) (by kernel_rfl) (by kernel_rfl) hPF rfl (fun w' => by (go_simp; try with_reducible rfl)) hHeld (fun hHeld => ?_)
        simp only [Act.put, List.setIfInBounds_toArray, List.set_cons_zero, List.set_cons_succ]
        have hS := hHeld (by kernel_rfl)
        refine tkW (rs := [5]) (by kernel_rfl) (by simp) (AllK.cons (o := _) rfl (fun KC hKC => ?_) AllK.nil)
        go_simp
        have h5 := hS.alloc hS.size (.cells #[] 5)
        have hbm := hb0.below h5
        have hmade : OwnR w3.heap.size (w3.alloc (.cells #[] 5)).drew (.slice (some ⟨w3.heap.size, 0, none⟩) 0 0) [] := (OwnR.made w3).drew
        refine hKC.out _ _ (h5) (fun hHeld => ?_)
        clear hKC KC
        try simp only [Act.put, List.setIfInBounds_toArray, List.set_cons_zero, List.set_cons_succ]
        have hS := hHeld (by kernel_rfl)
        refine tkW (rs := [7]) (by kernel_rfl) (by simp) (AllK.cons (o := _) rfl (fun KC hKC => ?_) AllK.nil)
        refine wantIt rfl (wp_add (.some 34) rfl (.tmp 32) (.tmp 33) rfl w3.heap.size _ _ rfl hmade pb m cb b rfl hbm Hm.out (by simp; omega) h5.size ?_)
        intro v5 w5 hown5 hgrow5 _
        have h7 : Below w3.heap.size w3 w5 := h5.grown hgrow5 h5.size (fun j e => (hmade.lt j e).1)
        rw [List.nil_append] at hown5
        obtain ⟨p5, c5, rfl, hc5, hr5⟩ := hown5.row
        rw [Hm.out] at hc5 ⊢
        refine hKC.out _ _ (h7) (fun hHeld => ?_)
        clear hKC KC
        try simp only [Act.put, List.setIfInBounds_toArray, List.set_cons_zero, List.set_cons_succ]
        have hS := hHeld (by kernel_rfl)
        refine tkW (rs := [8]) (by kernel_rfl) (by simp) (AllK.cons (o := _) rfl (fun KC hKC => ?_) AllK.nil)
        go_simp
        refine (gopen_iv0 _ kb (rkK K long) (hKA.below h7) pi ci pa n ca p5 m c5).mono ?_
        rintro e w8 ⟨rfl, hB8⟩
        have h8 := h7.trans (hB8.mono h7.size)
        have h0 := h0.below h8 h0.lt
        have hi0 := hi0.below h8
        have ha0 := ha0.below h8
        have hb0 := hb0.below h8
        have hB := hB.trans (h8.mono hB.size)
        have c33 := h0.cell 33
        rw [(kc10_at _ _ _ _ hK).2.1] at c33
        refine hKC.out _ _ (h8) (fun hHeld => ?_)
        clear hKC KC
        try simp only [Act.put, List.setIfInBounds_toArray, List.set_cons_zero, List.set_cons_succ]
        refine tkS (fun w' => Below w8.heap.size w8 w') (fun w' h => Below.trans h8 (Below.mono h (Below.size h8))) (Below.refl _ _) (fun hHeld => ?_)
        refine tkB 9 (.some 26) _ _ rfl rfl (by kernel_rfl) (by kernel_rfl) (by kernel_rfl) (by kernel_rfl) hPF rfl (fun w' => by (go_simp; try with_reducible rfl)) hHeld (fun hHeld => ?_)
        simp only [Act.put, List.setIfInBounds_toArray, List.set_cons_zero, List.set_cons_succ]
        refine tkB 10 (.some 36) _ _ rfl rfl (by kernel_rfl) (by kernel_rfl) (by kernel_rfl) (by kernel_rfl) hPF rfl (fun w' => by (go_simp; try with_reducible rfl)) hHeld (fun hHeld => ?_)
        simp only [Act.put, List.setIfInBounds_toArray, List.set_cons_zero, List.set_cons_succ]
        refine tkB 11 (.some 37) _ _ rfl rfl (by kernel_rfl) (by kernel_rfl) (by kernel_rfl) (by kernel_rfl) hPF rfl (fun w' => by (go_simp; try with_reducible rfl)) hHeld (fun hHeld => ?_)
        simp only [Act.put, List.setIfInBounds_toArray, List.set_cons_zero, List.set_cons_succ]
        refine tkB 12 (.some 7) _ _ rfl rfl (by kernel_rfl) (by kernel_rfl) (by kernel_rfl) (by kernel_rfl) hPF rfl (fun w' => by (go_simp; try with_reducible rfl)) hHeld (fun hHeld => ?_)
        simp only [Act.put, List.setIfInBounds_toArray, List.set_cons_zero, List.set_cons_succ]
        refine tkB 13 (.some 8) _ _ rfl rfl (by kernel_rfl) (by kernel_rfl) (by kernel_rfl) (by kernel_rfl) hPF rfl (fun w' => by (go_simp; try with_reducible rfl)) hHeld (fun hHeld => ?_)
        simp only [Act.put, List.setIfInBounds_toArray, List.set_cons_zero, List.set_cons_succ]
        refine tkD (by kernel_rfl) ?_ _
        go_wp2_with fail
        refine (awake10_any _).mono ?_
        rintro e w12 ⟨rfl, hB12⟩
        go_wp2_with fail
        go_ret
        exact ⟨rfl, hB.trans (hB12.mono hB.size)⟩
      · have q2 : ((l : Int) == 0) = false := by rw [beq_eq_false_iff_ne]; omega
        by_cases h16 : m < 16
        · have q3 : (m : Int) < 16 := by omega
          have hS0 : Below w3.heap.size w3 w3.drew := (Below.refl _ _).drew
          clear c33 c34
          go_upto_region 6 with fail
          try simp only [Act.put]
          refine tkR (fun w' => Below w3.heap.size w3 w') [] (by kernel_rfl) (fun c a d v w h => by cases d <;> exact h) (hS0) (fun hPF hHeld => ?_)
          refine tkB 0 (.some 27) _ _ rfl rfl (by kernel_rfl) (by kernel_rfl) (by kernel_rfl) (by kernel_rfl) hPF rfl (fun w' => by (go_simp; try with_reducible rfl)) hHeld (fun hHeld => ?_)
          simp only [Act.put, List.setIfInBounds_toArray, List.set_cons_zero, List.set_cons_succ]
          refine tkB 1 (.some 28) _ _ rfl rfl (by kernel_rfl) (by kernel_rfl) (by kernel_rfl) (by kernel_rfl) hPF rfl (fun w' => by (go_simp; try with_reducible rfl)) hHeld (fun hHeld => ?_)
          simp only [Act.put, List.setIfInBounds_toArray, List.set_cons_zero, List.set_cons_succ]
          refine tkA 2 (.some 29) _ _ rfl rfl (by kernel_rfl) (by kernel_rfl) (by kernel_rfl) (by kernel_rfl) (by kernel_rfl) hPF rfl (fun w' hw' => by (have h1 := (h0.below hw' h0.lt).cell 33; rw [(kc10_at _ _ _ _ hK).2.1] at h1; go_simp; try with_reducible rfl)) hHeld (fun hHeld => ?_)
          simp only [Act.put, List.setIfInBounds_toArray, List.set_cons_zero, List.set_cons_succ]
          refine tkB 3 (.some 30) _ _ rfl rfl (by kernel_rfl) (by kernel_rfl) (by kernel_rfl) (by kernel_rfl) hPF rfl (fun w' => by (go_simp; try with_reducible rfl)) hHeld (fun hHeld => ?_)
          simp only [Act.put, List.setIfInBounds_toArray, List.set_cons_zero, List.set_cons_succ]
          refine tkA 4 (.some 31) _ _ rfl rfl (by kernel_rfl) (by kernel_rfl) (by kernel_rfl) (by kernel_rfl) (by kernel_rfl) hPF rfl (fun w' hw' => by (have h1 := (h0.below hw' h0.lt).cell 34; rw [(kc10_at _ _ _ _ hK).2.2] at h1; go_simp; try with_reducible rfl)) hHeld (fun hHeld => ?_)
          simp only [Act.put, List.setIfInBounds_toArray, List.set_cons_zero, List.set_cons_succ]
          refine tkB 6 (.some 33) _ _ rfl rfl (by kernel_rfl) (by kernel_rfl) (by kernel_rfl) (by kernel_rfl) hPF rfl (fun w' => by (go_simp; try with_reducible rfl)) hHeld (fun hHeld => ?_)
          simp only [Act.put, List.setIfInBounds_toArray, List.set_cons_zero, List.set_cons_succ]
          have hS := hHeld (by kernel_rfl)
          refine tkW (rs := [5]) (by kernel_rfl) (by simp) (AllK.cons (o := _) rfl (fun KC hKC => ?_) AllK.nil)
          go_simp
          have h5 := hS.alloc hS.size (.cells #[] 5)
          have hbm := hb0.below h5
          have hmade : OwnR w3.heap.size (w3.alloc (.cells #[] 5)).drew (.slice (some ⟨w3.heap.size, 0, none⟩) 0 0) [] := (OwnR.made w3).drew
          refine hKC.out _ _ (h5) (fun hHeld => ?_)
          clear hKC KC
          try simp only [Act.put, List.setIfInBounds_toArray, List.set_cons_zero, List.set_cons_succ]
          have hS := hHeld (by kernel_rfl)
          refine tkW (rs := [7]) (by kernel_rfl) (by simp) (AllK.cons (o := _) rfl (fun KC hKC => ?_) AllK.nil)
          refine wantIt rfl (wp_add (.some 34) rfl (.tmp 32) (.tmp 33) rfl w3.heap.size _ _ rfl hmade pb m cb b rfl hbm Hm.out (by simp; omega) h5.size ?_)
          intro v5 w5 hown5 hgrow5 _
          have h7 : Below w3.heap.size w3 w5 := h5.grown hgrow5 h5.size (fun j e => (hmade.lt j e).1)
          rw [List.nil_append] at hown5
          obtain ⟨p5, c5, rfl, hc5, hr5⟩ := hown5.row
          rw [Hm.out] at hc5 ⊢
          refine hKC.out _ _ (h7) (fun hHeld => ?_)
          clear hKC KC
          try simp only [Act.put, List.setIfInBounds_toArray, List.set_cons_zero, List.set_cons_succ]
          have hS := hHeld (by kernel_rfl)
          refine tkW (rs := [8]) (by kernel_rfl) (by simp) (AllK.cons (o := _) rfl (fun KC hKC => ?_) AllK.nil)
          go_simp
          refine (gopen_any _ kb (rkK K long) (hKA.below h7) Hrl.out pi l ci iv (hi0.below h7) Hl.out (by omega) hl0 pa n ca a (ha0.below h7) Hn.out (by omega) p5 m c5 b hr5 Hm.out (by omega) hc5).mono ?_
          rw [HEe.out, Hce.out]
          rintro e w8 ⟨v8, er, rfl, hA, hB8⟩
          have h8 := h7.trans (hB8.mono h7.size)
          have h0 := h0.below h8 h0.lt
          have hi0 := hi0.below h8
          have ha0 := ha0.below h8
          have hb0 := hb0.below h8
          have hB := hB.trans (h8.mono hB.size)
          have c33 := h0.cell 33
          rw [(kc10_at _ _ _ _ hK).2.1] at c33
          refine hKC.out _ _ (h8) (fun hHeld => ?_)
          clear hKC KC
          try simp only [Act.put, List.setIfInBounds_toArray, List.set_cons_zero, List.set_cons_succ]
          refine tkS (fun w' => Below w8.heap.size w8 w') (fun w' h => Below.trans h8 (Below.mono h (Below.size h8))) (Below.refl _ _) (fun hHeld => ?_)
          refine tkB 9 (.some 26) _ _ rfl rfl (by kernel_rfl) (by kernel_rfl) (by kernel_rfl) (by kernel_rfl) hPF rfl (fun w' => by (go_simp; try with_reducible rfl)) hHeld (fun hHeld => ?_)
          simp only [Act.put, List.setIfInBounds_toArray, List.set_cons_zero, List.set_cons_succ]
          refine tkB 10 (.some 36) _ _ rfl rfl (by kernel_rfl) (by kernel_rfl) (by kernel_rfl) (by kernel_rfl) hPF rfl (fun w' => by (go_simp; try with_reducible rfl)) hHeld (fun hHeld => ?_)
          simp only [Act.put, List.setIfInBounds_toArray, List.set_cons_zero, List.set_cons_succ]
          refine tkB 11 (.some 37) _ _ rfl rfl (by kernel_rfl) (by kernel_rfl) (by kernel_rfl) (by kernel_rfl) hPF rfl (fun w' => by (go_simp; try with_reducible rfl)) hHeld (fun hHeld => ?_)
          simp only [Act.put, List.setIfInBounds_toArray, List.set_cons_zero, List.set_cons_succ]
          refine tkB 12 (.some 7) _ _ rfl rfl (by kernel_rfl) (by kernel_rfl) (by kernel_rfl) (by kernel_rfl) hPF rfl (fun w' => by (go_simp; try with_reducible rfl)) hHeld (fun hHeld => ?_)
          simp only [Act.put, List.setIfInBounds_toArray, List.set_cons_zero, List.set_cons_succ]
          refine tkB 13 (.some 8) _ _ rfl rfl (by kernel_rfl) (by kernel_rfl) (by kernel_rfl) (by kernel_rfl) hPF rfl (fun w' => by (go_simp; try with_reducible rfl)) hHeld (fun hHeld => ?_)
          simp only [Act.put, List.setIfInBounds_toArray, List.set_cons_zero, List.set_cons_succ]
          refine tkD (by kernel_rfl) ?_ _
          unfold OpenA at hA
          rw [if_pos (by rw [Hm.out]; exact h16)] at hA
          obtain ⟨rfl, rfl⟩ := hA
          go_wp2_with fail
          refine (awake10_any _).mono ?_
          rintro e w12 ⟨rfl, hB12⟩
          go_wp2_with fail
          go_ret
          exact ⟨rfl, hB.trans (hB12.mono hB.size)⟩
        · have q3 : ¬ ((m : Int) < 16) := by omega
          have hS0 : Below w3.heap.size w3 w3.drew := (Below.refl _ _).drew
          clear c33 c34
          go_upto_region 6 with fail
          try simp only [Act.put]
          refine tkR (fun w' => Below w3.heap.size w3 w') [] (by kernel_rfl) (fun c a d v w h => by cases d <;> exact h) (hS0) (fun hPF hHeld => ?_)
          refine tkB 0 (.some 27) _ _ rfl rfl (by kernel_rfl) (by kernel_rfl) (by kernel_rfl) (by kernel_rfl) hPF rfl (fun w' => by (go_simp; try with_reducible rfl)) hHeld (fun hHeld => ?_)
          simp only [Act.put, List.setIfInBounds_toArray, List.set_cons_zero, List.set_cons_succ]
          refine tkB 1 (.some 28) _ _ rfl rfl (by kernel_rfl) (by kernel_rfl) (by kernel_rfl) (by kernel_rfl) hPF rfl (fun w' => by (go_simp; try with_reducible rfl)) hHeld (fun hHeld => ?_)
          simp only [Act.put, List.setIfInBounds_toArray, List.set_cons_zero, List.set_cons_succ]
          refine tkA 2 (.some 29) _ _ rfl rfl (by kernel_rfl) (by kernel_rfl) (by kernel_rfl) (by kernel_rfl) (by kernel_rfl) hPF rfl (fun w' hw' => by (have h1 := (h0.below hw' h0.lt).cell 33; rw [(kc10_at _ _ _ _ hK).2.1] at h1; go_simp; try with_reducible rfl)) hHeld (fun hHeld => ?_)
          simp only [Act.put, List.setIfInBounds_toArray, List.set_cons_zero, List.set_cons_succ]
          refine tkB 3 (.some 30) _ _ rfl rfl (by kernel_rfl) (by kernel_rfl) (by kernel_rfl) (by kernel_rfl) hPF rfl (fun w' => by (go_simp; try with_reducible rfl)) hHeld (fun hHeld => ?_)
          simp only [Act.put, List.setIfInBounds_toArray, List.set_cons_zero, List.set_cons_succ]
          refine tkA 4 (.some 31) _ _ rfl rfl (by kernel_rfl) (by kernel_rfl) (by kernel_rfl) (by kernel_rfl) (by kernel_rfl) hPF rfl (fun w' hw' => by (have h1 := (h0.below hw' h0.lt).cell 34; rw [(kc10_at _ _ _ _ hK).2.2] at h1; go_simp; try with_reducible rfl)) hHeld (fun hHeld => ?_)
          simp only [Act.put, List.setIfInBounds_toArray, List.set_cons_zero, List.set_cons_succ]
          refine tkB 6 (.some 33) _ _ rfl rfl (by kernel_rfl) (by kernel_rfl) (by kernel_rfl) (by kernel_rfl) hPF rfl (fun w' => by (go_simp; try with_reducible rfl)) hHeld (fun hHeld => ?_)
          simp only [Act.put, List.setIfInBounds_toArray, List.set_cons_zero, List.set_cons_succ]
          have hS := hHeld (by kernel_rfl)
          refine tkW (rs := [5]) (by kernel_rfl) (by simp) (AllK.cons (o := _) rfl (fun KC hKC => ?_) AllK.nil)
          go_simp
          have h5 := hS.alloc hS.size (.cells #[] 5)
          have hbm := hb0.below h5
          have hmade : OwnR w3.heap.size (w3.alloc (.cells #[] 5)).drew (.slice (some ⟨w3.heap.size, 0, none⟩) 0 0) [] := (OwnR.made w3).drew
          refine hKC.out _ _ (h5) (fun hHeld => ?_)
          clear hKC KC
          try simp only [Act.put, List.setIfInBounds_toArray, List.set_cons_zero, List.set_cons_succ]
          have hS := hHeld (by kernel_rfl)
          refine tkW (rs := [7]) (by kernel_rfl) (by simp) (AllK.cons (o := _) rfl (fun KC hKC => ?_) AllK.nil)
          refine wantIt rfl (wp_add (.some 34) rfl (.tmp 32) (.tmp 33) rfl w3.heap.size _ _ rfl hmade pb m cb b rfl hbm Hm.out (by simp; omega) h5.size ?_)
          intro v5 w5 hown5 hgrow5 _
          have h7 : Below w3.heap.size w3 w5 := h5.grown hgrow5 h5.size (fun j e => (hmade.lt j e).1)
          rw [List.nil_append] at hown5
          obtain ⟨p5, c5, rfl, hc5, hr5⟩ := hown5.row
          rw [Hm.out] at hc5 ⊢
          refine hKC.out _ _ (h7) (fun hHeld => ?_)
          clear hKC KC
          try simp only [Act.put, List.setIfInBounds_toArray, List.set_cons_zero, List.set_cons_succ]
          have hS := hHeld (by kernel_rfl)
          refine tkW (rs := [8]) (by kernel_rfl) (by simp) (AllK.cons (o := _) rfl (fun KC hKC => ?_) AllK.nil)
          go_simp
          refine (gopen_any _ kb (rkK K long) (hKA.below h7) Hrl.out pi l ci iv (hi0.below h7) Hl.out (by omega) hl0 pa n ca a (ha0.below h7) Hn.out (by omega) p5 m c5 b hr5 Hm.out (by omega) hc5).mono ?_
          rw [HEe.out, Hce.out]
          rintro e w8 ⟨v8, er, rfl, hA, hB8⟩
          have h8 := h7.trans (hB8.mono h7.size)
          have h0 := h0.below h8 h0.lt
          have hi0 := hi0.below h8
          have ha0 := ha0.below h8
          have hb0 := hb0.below h8
          have hB := hB.trans (h8.mono hB.size)
          have c33 := h0.cell 33
          rw [(kc10_at _ _ _ _ hK).2.1] at c33
          refine hKC.out _ _ (h8) (fun hHeld => ?_)
          clear hKC KC
          try simp only [Act.put, List.setIfInBounds_toArray, List.set_cons_zero, List.set_cons_succ]
          refine tkS (fun w' => Below w8.heap.size w8 w') (fun w' h => Below.trans h8 (Below.mono h (Below.size h8))) (Below.refl _ _) (fun hHeld => ?_)
          refine tkB 9 (.some 26) _ _ rfl rfl (by kernel_rfl) (by kernel_rfl) (by kernel_rfl) (by kernel_rfl) hPF rfl (fun w' => by (go_simp; try with_reducible rfl)) hHeld (fun hHeld => ?_)
          simp only [Act.put, List.setIfInBounds_toArray, List.set_cons_zero, List.set_cons_succ]
          refine tkB 10 (.some 36) _ _ rfl rfl (by kernel_rfl) (by kernel_rfl) (by kernel_rfl) (by kernel_rfl) hPF rfl (fun w' => by (go_simp; try with_reducible rfl)) hHeld (fun hHeld => ?_)
          simp only [Act.put, List.setIfInBounds_toArray, List.set_cons_zero, List.set_cons_succ]
          refine tkB 11 (.some 37) _ _ rfl rfl (by kernel_rfl) (by kernel_rfl) (by kernel_rfl) (by kernel_rfl) hPF rfl (fun w' => by (go_simp; try with_reducible rfl)) hHeld (fun hHeld => ?_)
          simp only [Act.put, List.setIfInBounds_toArray, List.set_cons_zero, List.set_cons_succ]
          refine tkB 12 (.some 7) _ _ rfl rfl (by kernel_rfl) (by kernel_rfl) (by kernel_rfl) (by kernel_rfl) hPF rfl (fun w' => by (go_simp; try with_reducible rfl)) hHeld (fun hHeld => ?_)
          simp only [Act.put, List.setIfInBounds_toArray, List.set_cons_zero, List.set_cons_succ]
          refine tkB 13 (.some 8) _ _ rfl rfl (by kernel_rfl) (by kernel_rfl) (by kernel_rfl) (by kernel_rfl) hPF rfl (fun w' => by (go_simp; try with_reducible rfl)) hHeld (fun hHeld => ?_)
          simp only [Act.put, List.setIfInBounds_toArray, List.set_cons_zero, List.set_cons_succ]
          refine tkD (by kernel_rfl) ?_ _
          unfold OpenA at hA
          rw [if_neg (by rw [Hm.out]; exact h16)] at hA
          cases ho : openG E c a b with
          | none =>
            rw [ho] at hA
            obtain ⟨rfl, rfl⟩ := hA
            have c33 := h0.cell 33
            rw [(kc10_at _ _ _ _ hK).2.1] at c33
            go_wp2_with fail
            have hS1 : Below w8.heap.size w8 w8.drew := (Below.refl _ _).drew
            try simp only [Act.put]
            refine tkR (fun w' => Below w8.heap.size w8 w') [] (by kernel_rfl) (fun c a d v w h => by cases d <;> exact h) (hS1) (fun hPF hHeld => ?_)
            refine tkL 0 (.some 66) _ rfl rfl 55 (.tmp 2) rfl w.heap.size 0 (kc10 K long (.slice pi l ci) (.slice pa n ca)) _ (by kernel_rfl) (by kernel_rfl) (by kernel_rfl) (by kernel_rfl) (by kernel_rfl) hPF rfl rfl (fun w' hw' => (h0.below hw' h0.lt).whole) Try.underlying55 rfl hsz hHeld (fun hHeld => ?_)
            simp only [Act.put, List.setIfInBounds_toArray, List.set_cons_zero, List.set_cons_succ]
            refine tkB 2 (.some 68) _ _ rfl rfl (by kernel_rfl) (by kernel_rfl) (by kernel_rfl) (by kernel_rfl) hPF rfl (fun w' => by (go_simp; try with_reducible rfl)) hHeld (fun hHeld => ?_)
            simp only [Act.put, List.setIfInBounds_toArray, List.set_cons_zero, List.set_cons_succ]
            refine tkA 3 (.some 69) _ _ rfl rfl (by kernel_rfl) (by kernel_rfl) (by kernel_rfl) (by kernel_rfl) (by kernel_rfl) hPF rfl (fun w' hw' => by (have h1 := (h0.below hw' h0.lt).cell 33; rw [(kc10_at _ _ _ _ hK).2.1] at h1; go_simp; try with_reducible rfl)) hHeld (fun hHeld => ?_)
            simp only [Act.put, List.setIfInBounds_toArray, List.set_cons_zero, List.set_cons_succ]
            refine tkB 4 (.some 70) _ _ rfl rfl (by kernel_rfl) (by kernel_rfl) (by kernel_rfl) (by kernel_rfl) hPF rfl (fun w' => by (go_simp; try with_reducible rfl)) hHeld (fun hHeld => ?_)
            simp only [Act.put, List.setIfInBounds_toArray, List.set_cons_zero, List.set_cons_succ]
            refine tkA 5 (.some 71) _ _ rfl rfl (by kernel_rfl) (by kernel_rfl) (by kernel_rfl) (by kernel_rfl) (by kernel_rfl) hPF rfl (fun w' hw' => by (have h1 := (h0.below hw' h0.lt).cell 34; rw [(kc10_at _ _ _ _ hK).2.2] at h1; go_simp; try with_reducible rfl)) hHeld (fun hHeld => ?_)
            simp only [Act.put, List.setIfInBounds_toArray, List.set_cons_zero, List.set_cons_succ]
            refine tkB 6 (.some 72) _ _ rfl rfl (by kernel_rfl) (by kernel_rfl) (by kernel_rfl) (by kernel_rfl) hPF rfl (fun w' => by (go_simp; try with_reducible rfl)) hHeld (fun hHeld => ?_)
            simp only [Act.put, List.setIfInBounds_toArray, List.set_cons_zero, List.set_cons_succ]
            have hS := hHeld (by kernel_rfl)
            refine tkW (rs := [1]) (by kernel_rfl) (by simp) (AllK.cons (o := _) rfl (fun KC hKC => ?_) AllK.nil)
            go_simp
            refine (bytes10_any _ K long _ _ hK).mono ?_
            rintro e w10 ⟨rfl, hb10, hB10⟩
            have hr10 := kc10_row hb10 (kn long) (by rw [hK]; exact Hkn.out.2.2)
            have hS := hS.trans (hB10.mono hS.size)
            clear hb10 hB10
            refine hKC.out _ _ (hS) (fun hHeld => ?_)
            clear hKC KC
            try simp only [Act.put, List.setIfInBounds_toArray, List.set_cons_zero, List.set_cons_succ]
            have hS := hHeld (by kernel_rfl)
            refine tkW (rs := [7]) (by kernel_rfl) (by simp) (AllK.cons (o := _) rfl (fun KC hKC => ?_) AllK.nil)
            go_simp
            refine (refopen_any _ _ 0 (kn long) 32 (km long) (K.take (kn long)) hr10 Hkl.out Hkn.out.2.1 Hkn.out.1 pi l ci iv (hi0.below hS) Hl.out hl0 (by omega) pa n ca a (ha0.below hS) Hn.out (by omega) pb m cb b (hb0.below hS) Hm.out (by omega) (by omega) hmc).mono ?_
            rintro e w11 ⟨v11, ok, rfl, hR, hB11⟩
            change RefO _ _ _ _ (openG (enc (rkK K long)) (firstF (enc (rkK K long)) iv) a b) at hR
            rw [HEe.out, Hce.out, ho] at hR
            have hS := hS.trans (hB11.mono hS.size)
            have hB := hB.trans (hS.mono hB.size)
            obtain ⟨rfl, rfl⟩ := hR
            refine hKC.out _ _ (hS) (fun hHeld => ?_)
            clear hKC KC
            try simp only [Act.put, List.setIfInBounds_toArray, List.set_cons_zero, List.set_cons_succ]
            refine tkB 8 (.some 65) _ _ rfl rfl (by kernel_rfl) (by kernel_rfl) (by kernel_rfl) (by kernel_rfl) hPF rfl (fun w' => by (go_simp; try with_reducible rfl)) hHeld (fun hHeld => ?_)
            simp only [Act.put, List.setIfInBounds_toArray, List.set_cons_zero, List.set_cons_succ]
            refine tkB 9 (.some 74) _ _ rfl rfl (by kernel_rfl) (by kernel_rfl) (by kernel_rfl) (by kernel_rfl) hPF rfl (fun w' => by (go_simp; try with_reducible rfl)) hHeld (fun hHeld => ?_)
            simp only [Act.put, List.setIfInBounds_toArray, List.set_cons_zero, List.set_cons_succ]
            refine tkB 10 (.some 75) _ _ rfl rfl (by kernel_rfl) (by kernel_rfl) (by kernel_rfl) (by kernel_rfl) hPF rfl (fun w' => by (go_simp; try with_reducible rfl)) hHeld (fun hHeld => ?_)
            simp only [Act.put, List.setIfInBounds_toArray, List.set_cons_zero, List.set_cons_succ]
            refine tkB 11 (.some 9) _ _ rfl rfl (by kernel_rfl) (by kernel_rfl) (by kernel_rfl) (by kernel_rfl) hPF rfl (fun w' => by (go_simp; try with_reducible rfl)) hHeld (fun hHeld => ?_)
            simp only [Act.put, List.setIfInBounds_toArray, List.set_cons_zero, List.set_cons_succ]
            refine tkB 12 (.some 10) _ _ rfl rfl (by kernel_rfl) (by kernel_rfl) (by kernel_rfl) (by kernel_rfl) hPF rfl (fun w' => by (go_simp; try with_reducible rfl)) hHeld (fun hHeld => ?_)
            simp only [Act.put, List.setIfInBounds_toArray, List.set_cons_zero, List.set_cons_succ]
            refine tkD (by kernel_rfl) ?_ _
            have s1 := str_row (w := w11) (pa := none) (l := []) (n := 0) (c := 0) (RowAt.nilW _ _) rfl
            go_wp2_with fail
            refine (awake10_any _).mono ?_
            rintro e w12 ⟨rfl, hB12⟩
            go_wp2_with fail
            go_ret
            exact ⟨rfl, hB.trans (hB12.mono hB.size)⟩
          | some lo =>
            rw [ho] at hA
            obtain ⟨rfl, hown8⟩ := hA
            obtain ⟨p8, c8, rfl, hc8, hr8⟩ := hown8.row
            have c33 := h0.cell 33
            rw [(kc10_at _ _ _ _ hK).2.1] at c33
            go_wp2_with fail
            have hS1 : Below w8.heap.size w8 w8.drew := (Below.refl _ _).drew
            try simp only [Act.put]
            refine tkR (fun w' => Below w8.heap.size w8 w') [] (by kernel_rfl) (fun c a d v w h => by cases d <;> exact h) (hS1) (fun hPF hHeld => ?_)
            refine tkL 0 (.some 66) _ rfl rfl 55 (.tmp 2) rfl w.heap.size 0 (kc10 K long (.slice pi l ci) (.slice pa n ca)) _ (by kernel_rfl) (by kernel_rfl) (by kernel_rfl) (by kernel_rfl) (by kernel_rfl) hPF rfl rfl (fun w' hw' => (h0.below hw' h0.lt).whole) Try.underlying55 rfl hsz hHeld (fun hHeld => ?_)
            simp only [Act.put, List.setIfInBounds_toArray, List.set_cons_zero, List.set_cons_succ]
            refine tkB 2 (.some 68) _ _ rfl rfl (by kernel_rfl) (by kernel_rfl) (by kernel_rfl) (by kernel_rfl) hPF rfl (fun w' => by (go_simp; try with_reducible rfl)) hHeld (fun hHeld => ?_)
            simp only [Act.put, List.setIfInBounds_toArray, List.set_cons_zero, List.set_cons_succ]
            refine tkA 3 (.some 69) _ _ rfl rfl (by kernel_rfl) (by kernel_rfl) (by kernel_rfl) (by kernel_rfl) (by kernel_rfl) hPF rfl (fun w' hw' => by (have h1 := (h0.below hw' h0.lt).cell 33; rw [(kc10_at _ _ _ _ hK).2.1] at h1; go_simp; try with_reducible rfl)) hHeld (fun hHeld => ?_)
            simp only [Act.put, List.setIfInBounds_toArray, List.set_cons_zero, List.set_cons_succ]
            refine tkB 4 (.some 70) _ _ rfl rfl (by kernel_rfl) (by kernel_rfl) (by kernel_rfl) (by kernel_rfl) hPF rfl (fun w' => by (go_simp; try with_reducible rfl)) hHeld (fun hHeld => ?_)
            simp only [Act.put, List.setIfInBounds_toArray, List.set_cons_zero, List.set_cons_succ]
            refine tkA 5 (.some 71) _ _ rfl rfl (by kernel_rfl) (by kernel_rfl) (by kernel_rfl) (by kernel_rfl) (by kernel_rfl) hPF rfl (fun w' hw' => by (have h1 := (h0.below hw' h0.lt).cell 34; rw [(kc10_at _ _ _ _ hK).2.2] at h1; go_simp; try with_reducible rfl)) hHeld (fun hHeld => ?_)
            simp only [Act.put, List.setIfInBounds_toArray, List.set_cons_zero, List.set_cons_succ]
            refine tkB 6 (.some 72) _ _ rfl rfl (by kernel_rfl) (by kernel_rfl) (by kernel_rfl) (by kernel_rfl) hPF rfl (fun w' => by (go_simp; try with_reducible rfl)) hHeld (fun hHeld => ?_)
            simp only [Act.put, List.setIfInBounds_toArray, List.set_cons_zero, List.set_cons_succ]
            have hS := hHeld (by kernel_rfl)
            refine tkW (rs := [1]) (by kernel_rfl) (by simp) (AllK.cons (o := _) rfl (fun KC hKC => ?_) AllK.nil)
            go_simp
            refine (bytes10_any _ K long _ _ hK).mono ?_
            rintro e w10 ⟨rfl, hb10, hB10⟩
            have hr10 := kc10_row hb10 (kn long) (by rw [hK]; exact Hkn.out.2.2)
            have hS := hS.trans (hB10.mono hS.size)
            clear hb10 hB10
            refine hKC.out _ _ (hS) (fun hHeld => ?_)
            clear hKC KC
            try simp only [Act.put, List.setIfInBounds_toArray, List.set_cons_zero, List.set_cons_succ]
            have hS := hHeld (by kernel_rfl)
            refine tkW (rs := [7]) (by kernel_rfl) (by simp) (AllK.cons (o := _) rfl (fun KC hKC => ?_) AllK.nil)
            go_simp
            refine (refopen_any _ _ 0 (kn long) 32 (km long) (K.take (kn long)) hr10 Hkl.out Hkn.out.2.1 Hkn.out.1 pi l ci iv (hi0.below hS) Hl.out hl0 (by omega) pa n ca a (ha0.below hS) Hn.out (by omega) pb m cb b (hb0.below hS) Hm.out (by omega) (by omega) hmc).mono ?_
            rintro e w11 ⟨v11, ok, rfl, hR, hB11⟩
            change RefO _ _ _ _ (openG (enc (rkK K long)) (firstF (enc (rkK K long)) iv) a b) at hR
            rw [HEe.out, Hce.out, ho] at hR
            have hS := hS.trans (hB11.mono hS.size)
            have hB := hB.trans (hS.mono hB.size)
            obtain ⟨rfl, hown11⟩ := hR
            obtain ⟨p11, c11, rfl, hc11, hr11⟩ := hown11.row
            have hr8 := hr8.below hS
            refine hKC.out _ _ (hS) (fun hHeld => ?_)
            clear hKC KC
            try simp only [Act.put, List.setIfInBounds_toArray, List.set_cons_zero, List.set_cons_succ]
            refine tkB 8 (.some 65) _ _ rfl rfl (by kernel_rfl) (by kernel_rfl) (by kernel_rfl) (by kernel_rfl) hPF rfl (fun w' => by (go_simp; try with_reducible rfl)) hHeld (fun hHeld => ?_)
            simp only [Act.put, List.setIfInBounds_toArray, List.set_cons_zero, List.set_cons_succ]
            refine tkB 9 (.some 74) _ _ rfl rfl (by kernel_rfl) (by kernel_rfl) (by kernel_rfl) (by kernel_rfl) hPF rfl (fun w' => by (go_simp; try with_reducible rfl)) hHeld (fun hHeld => ?_)
            simp only [Act.put, List.setIfInBounds_toArray, List.set_cons_zero, List.set_cons_succ]
            refine tkB 10 (.some 75) _ _ rfl rfl (by kernel_rfl) (by kernel_rfl) (by kernel_rfl) (by kernel_rfl) hPF rfl (fun w' => by (go_simp; try with_reducible rfl)) hHeld (fun hHeld => ?_)
            simp only [Act.put, List.setIfInBounds_toArray, List.set_cons_zero, List.set_cons_succ]
            refine tkB 11 (.some 9) _ _ rfl rfl (by kernel_rfl) (by kernel_rfl) (by kernel_rfl) (by kernel_rfl) hPF rfl (fun w' => by (go_simp; try with_reducible rfl)) hHeld (fun hHeld => ?_)
            simp only [Act.put, List.setIfInBounds_toArray, List.set_cons_zero, List.set_cons_succ]
            refine tkB 12 (.some 10) _ _ rfl rfl (by kernel_rfl) (by kernel_rfl) (by kernel_rfl) (by kernel_rfl) hPF rfl (fun w' => by (go_simp; try with_reducible rfl)) hHeld (fun hHeld => ?_)
            simp only [Act.put, List.setIfInBounds_toArray, List.set_cons_zero, List.set_cons_succ]
            refine tkD (by kernel_rfl) ?_ _
            have s1 := str_row (n := lo.length) (c := c8) hr8 rfl
            have s2 := str_row (n := lo.length) (c := c11) hr11 rfl
            obtain ⟨st, hst⟩ : ∃ s, str lo = s := ⟨_, rfl⟩
            rw [hst] at s1 s2
            go_wp2_with fail
            refine (awake10_any _).mono ?_
            rintro e w12 ⟨rfl, hB12⟩
            go_wp2_with fail
            go_ret
            exact ⟨rfl, hB.trans (hB12.mono hB.size)⟩
  ·
    have qb0 : 100 < (m : Int) := by omega
    go_enter Try.func10, Try.ntmps10
    go_wp2_with fail
    go_ret
    exact ⟨rfl, hB0⟩
end Go.Proofs.Ytgellbapbphnlaa
