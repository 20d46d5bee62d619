/- gcm: GcmSeals, walked -/
import Derived.Test.YtgellbapbphnlaaRz
import Derived.Test.YtgellbapbphnlaaK10
import Derived.Test.YtgellbapbphnlaaG1
namespace Go.Proofs.Ytgellbapbphnlaa
open Go.RowKit

set_option maxRecDepth 100000 in
set_option maxHeartbeats 4000000 in
theorem gcmSeals_walk (K : List UInt8) (long : Bool) (pi : Option Addr) (l ci : Nat) (iv : List UInt8) (pa : Option Addr) (n ca : Nat) (a : List UInt8) (pb : Option Addr) (m cb : Nat) (b : List UInt8) (w : World) (hK : K.length = 32)
    (hi : RowAt w pi iv) (hl : iv.length = l) (ha : RowAt w pa a) (hn : a.length = n) (hb : RowAt w pb b) (hm : b.length = m) :
    Calls Try.prog 8 #[.agg (kc10 K long (.slice pi l ci) (.slice pa n ca)).toArray, .slice pb m cb] w fun e w' => e = .returned (.bool true) ∧ Below w.heap.size w w' := by
  have h0 := Blk.new w (kc10 K long (.slice pi l ci) (.slice pa n ca)) tKy10
  have hB0 : Below w.heap.size w (w.alloc (.cells (kc10 K long (.slice pi l ci) (.slice pa n ca)).toArray tKy10)) := (Below.refl _ _).alloc (Nat.le_refl _) _
  by_cases hbd : m ≤ 100
  · have hsz : (Try.prog.info? 55).map (·.size) = some (kc10 K long (.slice pi l ci) (.slice pa n ca)).length := by rw [sizeK10, kc10_len _ _ _ _ hK]
    have qb0 : ¬ (100 < (m : Int)) := by omega
    have hi0 := hi.below hB0
    have Hl := hid hl
    have ha0 := ha.below hB0
    have Hn := hid hn
    have hb0 := hb.below hB0
    have Hm := hid hm
    clear hi hl ha hn hb hm

    go_enter Try.func8, Try.ntmps8
    go_wp2_with (refine wpList_load_midG rfl 55 (.tmp 2) rfl w.heap.size 0 rfl (kc10 K long (.slice pi l ci) (.slice pa n ca)) _ h0.whole Try.underlying55 rfl hsz ?_)
    change Calls _ _ _ (w.alloc (.cells (kc10 K long (.slice pi l ci) (.slice pa n ca)).toArray tKy10)) _
    generalize w.alloc (.cells (kc10 K long (.slice pi l ci) (.slice pa n ca)).toArray tKy10) = w1 at *
    refine (short10_any w1 K long pi pa l ci n ca hK).mono ?_
    rintro e w2 ⟨rfl, hB2⟩
    have h0 := h0.below hB2 h0.lt
    have hi0 := hi0.below hB2
    have ha0 := ha0.below hB2
    have hb0 := hb0.below hB2
    have hB := hB0.trans (hB2.mono hB0.size)
    obtain ⟨sh, hsh⟩ : ∃ z, decide (l ≤ 100 ∧ n ≤ 100) = z := ⟨_, rfl⟩
    rw [hsh]
    clear hB2 hB0
    have c33 := h0.cell 33
    have c34 := h0.cell 34
    rw [(kc10_at _ _ _ _ hK).2.1] at c33
    rw [(kc10_at _ _ _ _ hK).2.2] at c34
    cases sh with
    | false =>
      clear hsh
      go_wp2_with fail
      go_ret
      exact ⟨rfl, hB⟩
    | true =>
      obtain ⟨hl100, hn100⟩ : l ≤ 100 ∧ n ≤ 100 := of_decide_eq_true hsh
      clear hsh
      go_wp2_with (refine wpList_load_mid rfl 55 (.tmp 2) rfl w.heap.size 0 rfl (kc10 K long (.slice pi l ci) (.slice pa n ca)) _ h0.whole Try.underlying55 rfl hsz ?_)
      refine (keys10_any w2 K long _ _ hK).mono ?_
      rintro e w3 ⟨kb, rfl, hKA, hB3⟩
      have h0 := h0.below hB3 h0.lt
      have hi0 := hi0.below hB3
      have ha0 := ha0.below hB3
      have hb0 := hb0.below hB3
      have hB := hB.trans (hB3.mono hB.size)
      have c33 := h0.cell 33
      have c34 := h0.cell 34
      rw [(kc10_at _ _ _ _ hK).2.1] at c33
      rw [(kc10_at _ _ _ _ hK).2.2] at c34
      obtain ⟨hrl, hE⟩ := enc_rkK K long hK
      have Hrl := hid hrl
      obtain ⟨E, hEe⟩ : ∃ E, enc (rkK K long) = E := ⟨_, rfl⟩
      rw [hEe] at hE
      have hc := firstF_len E iv
      obtain ⟨c, hce⟩ : ∃ c, firstF E iv = c := ⟨_, rfl⟩
      rw [hce] at hc
      have HE := hid hE
      have HEe := hid hEe
      have Hce := hid hce
      have Hc := hid hc
      clear hrl hE hEe hce hc hB3
      by_cases hl0 : l = 0
      · subst hl0
        have hcz : c = z16 := by rw [← Hce.out]; unfold firstF; rw [Hl.out]; exact if_pos rfl
        have heq : ∀ w, (Op.equalIn 10000 36 (.agg (bys c).toArray) (.agg #[.int .u8 0, .int .u8 0, .int .u8 0, .int .u8 0, .int .u8 0, .int .u8 0, .int .u8 0, .int .u8 0, .int .u8 0, .int .u8 0, .int .u8 0, .int .u8 0, .int .u8 0, .int .u8 0, .int .u8 0, .int .u8 0])).run Try.prog w = .ok true w := fun w => by
          have := run_equalIn_bytes (P := Try.prog) 9998 36 5 .u8 c z16 (by rw [Hc.out]; exact under54) under5 size5 (by rw [Hc.out]; rfl) w
          rw [decide_eq_true hcz] at this; exact this
        clear hcz
        go_wp2_with fail
        refine (gseal_iv0 w3 kb (rkK K long) hKA pi ci pa n ca pb m cb).mono ?_
        rintro e w4 ⟨rfl, hB4⟩
        have h0 := h0.below hB4 h0.lt
        have hi0 := hi0.below hB4
        have hKA := hKA.below hB4
        have hB := hB.trans (hB4.mono hB.size)
        clear hB4
        have c33 := h0.cell 33
        have c34 := h0.cell 34
        rw [(kc10_at _ _ _ _ hK).2.1] at c33
        rw [(kc10_at _ _ _ _ hK).2.2] at c34
        go_wp2_with fail
        refine (gseal_nil w4 pi 0 ci pa n ca pb m cb).mono ?_
        rintro e w5 ⟨rfl, hB5⟩
        have h0 := h0.below hB5 h0.lt
        have hi0 := hi0.below hB5
        have hKA := hKA.below hB5
        have hB := hB.trans (hB5.mono hB.size)
        clear hB5
        have c33 := h0.cell 33
        have c34 := h0.cell 34
        rw [(kc10_at _ _ _ _ hK).2.1] at c33
        rw [(kc10_at _ _ _ _ hK).2.2] at c34
        go_wp2_with fail
        refine (first_any w5 kb (rkK K long) hKA Hrl.out pi 0 ci iv hi0 Hl.out (by omega)).mono ?_
        rw [HEe.out, Hce.out]
        rintro e w6 ⟨rfl, hB6⟩
        have hB := hB.trans (hB6.mono hB.size)
        go_wp2_with fail
        refine (awake10_any _).mono ?_
        rintro e w7 ⟨rfl, hB7⟩
        go_wp2_with fail
        go_ret
        exact ⟨rfl, hB.trans (hB7.mono hB.size)⟩
      · have q2 : ((l : Int) == 0) = false := by rw [beq_eq_false_iff_ne]; omega
        have hsl1 := sealG_len E c a b HE.out Hc.out
        rw [Hm.out] at hsl1
        obtain ⟨s, hs⟩ : ∃ s, sealG E c a b = s := ⟨_, rfl⟩
        rw [hs] at hsl1
        obtain ⟨lt, hlt⟩ : ∃ lt, m + 16 = lt := ⟨_, rfl⟩
        rw [hlt] at hsl1
        have Hs := hid hs
        have Hsl1 := hid hsl1
        have hkn := kn_km long
        have hkl : (K.take (kn long)).length = kn long := by rw [List.length_take]; omega
        have hrlk := (rkOf_len (km long) (K.take (kn long)) (by rw [hkl]; exact hkn.1) hkn.2.1).1
        have hsc : (Try.prog.info? 36).map (·.size) = some (bys c).length := by rw [size54, bys_length, Hc.out]
        have heq : ∀ w, (Op.equalIn 10000 36 (.agg (bys c).toArray) (.agg (bys c).toArray)).run Try.prog w = .ok true w := fun w => by
          have := run_equalIn_bytes (P := Try.prog) 9998 36 5 .u8 c c (by rw [Hc.out]; exact under54) under5 size5 rfl w
          rw [decide_eq_true rfl] at this; exact this
        obtain ⟨T, hTe⟩ : ∃ T, tbl 256 = T := ⟨_, rfl⟩
        obtain ⟨Z, hZe⟩ : ∃ Z, tbl 0 = Z := ⟨_, rfl⟩
        have hl0' := tbl_len 0 (by omega)
        have hl1' := tbl_len 256 (by omega)
        have zz := zc60
        rw [hZe] at hl0' zz
        rw [hTe] at hl1'
        have HTe := hid hTe
        have Zz := hid zz
        have Hl1 := hid hl1'
        have Hl0 := hid hl0'
        have Hkn := hid hkn
        have Hkl := hid hkl
        have Hrlk := hid hrlk
        have Heq := hid heq
        have hsT : (Try.prog.info? 62).map (·.size) = some (bys T).length := by rw [size60, bys_length, Hl1.out]
        clear hs hsl1 hlt hkn hkl hrlk hTe hZe zz hl0' hl1' heq
        go_wp2_with fail
        refine (gseal_any w3 kb (rkK K long) hKA Hrl.out pi l ci iv hi0 Hl.out (by omega) hl0 pa n ca a ha0 Hn.out (by omega) pb m cb b hb0 Hm.out (by omega)).mono ?_
        rw [HEe.out, Hce.out, Hs.out]
        rintro e w4 ⟨v, rfl, hown, hB4⟩
        have h0 := h0.below hB4 h0.lt
        have hi0 := hi0.below hB4
        have ha0 := ha0.below hB4
        have hb0 := hb0.below hB4
        have hKA := hKA.below hB4
        have hB := hB.trans (hB4.mono hB.size)
        have c33 := h0.cell 33
        have c34 := h0.cell 34
        rw [(kc10_at _ _ _ _ hK).2.1] at c33
        rw [(kc10_at _ _ _ _ hK).2.2] at c34
        obtain ⟨ps, cs, rfl, hcs, hrs⟩ := hown.row
        rw [Hsl1.out] at hcs ⊢
        clear hown hB4
        go_wp2_with fail
        refine (gseal_nil w4 pi l ci pa n ca pb m cb).mono ?_
        rintro e w5 ⟨rfl, hB5⟩
        have h0 := h0.below hB5 h0.lt
        have hi0 := hi0.below hB5
        have ha0 := ha0.below hB5
        have hb0 := hb0.below hB5
        have hKA := hKA.below hB5
        have hrs := hrs.below hB5
        have hB := hB.trans (hB5.mono hB.size)
        clear hB5
        have c33 := h0.cell 33
        have c34 := h0.cell 34
        rw [(kc10_at _ _ _ _ hK).2.1] at c33
        rw [(kc10_at _ _ _ _ hK).2.2] at c34
        go_wp2_with fail
        refine (table_T HTe.out w5).mono ?_
        rintro e w6 ⟨rfl, hB6⟩
        have h0 := h0.below hB6 h0.lt
        have hi0 := hi0.below hB6
        have ha0 := ha0.below hB6
        have hb0 := hb0.below hB6
        have hKA := hKA.below hB6
        have hrs := hrs.below hB6
        have hB := hB.trans (hB6.mono hB.size)
        clear hB6 c33 c34
        obtain ⟨tb, htb⟩ : ∃ tb, w6.heap.size = tb := ⟨_, rfl⟩
        have hT0 : Blk (w6.alloc (.cells Try.zeroCells62 62)) tb (bys Z) tA256 := by rw [Zz.out, ← htb]; exact Blk.new w6 (bys Z) tA256
        have hBt : Below w6.heap.size w6 (w6.alloc (.cells Try.zeroCells62 62)) := (Below.refl _ _).alloc (Nat.le_refl _) _
        obtain ⟨hTT, hcc⟩ := store16 (new := T) hT0 (by rw [Hl0.out, Hl1.out])
        have hBs := hBt.trans (hcc.below (M := w6.heap.size) hBt.size (fun k hk => by simp at hk; omega))
        have h0 := h0.below hBs h0.lt
        have hi0 := hi0.below hBs
        have ha0 := ha0.below hBs
        have hb0 := hb0.below hBs
        have hKA := hKA.below hBs
        have hrs := hrs.below hBs
        have hB := hB.trans (hBs.mono hB.size)
        clear hBt hcc hBs
        go_upto_region 11 with (refine wpList_store_mid rfl 62 (.tmp 11) (.tmp 73) rfl tb 0 (bys T).toArray rfl rfl (hT0.there 0 _ (by rw [List.size_toArray, bys_length, bys_length, Hl0.out, Hl1.out]; decide)) (by rw [size60, List.size_toArray, bys_length, Hl1.out]) (all_oneCell_toArray (bys_one _)) ?_)
        clear hT0 htb
        generalize (w6.alloc (.cells Try.zeroCells62 62)).setCells tb 0 (bys T) = W at *
        have hS : Below W.heap.size W W.drew := (Below.refl _ _).drew
        try simp only [Act.put]
        refine tkR (fun w' => Below W.heap.size W w') [] (by kernel_rfl) (fun c a d v w h => by cases d <;> exact h) (hS) (fun hPF hHeld => ?_)
        refine tkL 0 (.some 74) _ rfl rfl 62 (.tmp 11) rfl tb 0 (bys T) _ (by kernel_rfl) (by kernel_rfl) (by kernel_rfl) (by kernel_rfl) (by kernel_rfl) hPF rfl rfl (fun w' hw' => (hTT.below hw' hTT.lt).whole) under60 rfl hsT hHeld (fun hHeld => ?_)
        simp only [Act.put, List.setIfInBounds_toArray, List.set_cons_zero, List.set_cons_succ]
        refine tkL 1 (.some 75) _ rfl rfl 62 (.tmp 11) rfl tb 0 (bys T) _ (by kernel_rfl) (by kernel_rfl) (by kernel_rfl) (by kernel_rfl) (by kernel_rfl) hPF rfl rfl (fun w' hw' => (hTT.below hw' hTT.lt).whole) under60 rfl hsT hHeld (fun hHeld => ?_)
        simp only [Act.put, List.setIfInBounds_toArray, List.set_cons_zero, List.set_cons_succ]
        refine tkL 2 (.some 76) _ rfl rfl 55 (.tmp 2) rfl w.heap.size 0 (kc10 K long (.slice pi l ci) (.slice pa n ca)) _ (by kernel_rfl) (by kernel_rfl) (by kernel_rfl) (by kernel_rfl) (by kernel_rfl) hPF rfl rfl (fun w' hw' => (h0.below hw' h0.lt).whole) Try.underlying55 rfl hsz hHeld (fun hHeld => ?_)
        simp only [Act.put, List.setIfInBounds_toArray, List.set_cons_zero, List.set_cons_succ]
        refine tkB 5 (.some 79) _ _ rfl rfl (by kernel_rfl) (by kernel_rfl) (by kernel_rfl) (by kernel_rfl) hPF rfl (fun w' => by (go_simp; try with_reducible rfl)) hHeld (fun hHeld => ?_)
        simp only [Act.put, List.setIfInBounds_toArray, List.set_cons_zero, List.set_cons_succ]
        refine tkA 6 (.some 80) _ _ rfl rfl (by kernel_rfl) (by kernel_rfl) (by kernel_rfl) (by kernel_rfl) (by kernel_rfl) hPF rfl (fun w' hw' => by (have h1 := (h0.below hw' h0.lt).cell 33; rw [(kc10_at _ _ _ _ hK).2.1] at h1; go_simp; try with_reducible rfl)) hHeld (fun hHeld => ?_)
        simp only [Act.put, List.setIfInBounds_toArray, List.set_cons_zero, List.set_cons_succ]
        have hS := hHeld (by kernel_rfl)
        refine tkW (rs := [3, 8]) (by kernel_rfl) (by simp) (AllK.cons (o := _) rfl (fun KC hKC => ?_) (AllK.cons (o := _) rfl (fun KC hKC => ?_) AllK.nil))
        ·
          go_simp
          refine (bytes10_any _ K long _ _ hK).mono ?_
          rintro e w7 ⟨rfl, hb7, hB7⟩
          have hS := hS.trans (hB7.mono hS.size)
          have hr7 := kc10_row hb7 (kn long) (by rw [hK]; exact Hkn.out.2.2)
          clear hb7 hB7
          refine hKC.out _ _ (hS) (fun hHeld => ?_)
          clear hKC KC
          try simp only [Act.put, List.setIfInBounds_toArray, List.set_cons_zero, List.set_cons_succ]
          have hS := hHeld (by kernel_rfl)
          refine tkW (rs := [4, 8]) (by kernel_rfl) (by simp) (AllK.cons (o := _) rfl (fun KC hKC => ?_) (AllK.cons (o := _) rfl (fun KC hKC => ?_) AllK.nil))
          ·
            go_simp
            refine (refkeys_T HTe.out _ _ 0 (kn long) 32 (km long) (K.take (kn long)) hr7 Hkl.out Hkn.out.2.1 Hkn.out.1).mono ?_
            rintro e w8 ⟨g, cap2, ex, rfl, hG, hB8⟩
            have hS := hS.trans (hB8.mono hS.size)
            have hRK : RK w8 g (km long + 7) (rkK K long) := ⟨⟨ex, hG⟩, Hrlk.out, by omega, by have := Hkn.out.2.1; omega, by rw [HEe.out]; exact HE.out⟩
            clear hr7 hG hB8
            refine hKC.out _ _ (hS) (fun hHeld => ?_)
            clear hKC KC
            try simp only [Act.put, List.setIfInBounds_toArray, List.set_cons_zero, List.set_cons_succ]
            have hS := hHeld (by kernel_rfl)
            refine tkW (rs := [7, 8]) (by kernel_rfl) (by simp) (AllK.cons (o := _) rfl (fun KC hKC => ?_) (AllK.cons (o := _) rfl (fun KC hKC => ?_) AllK.nil))
            ·
              go_simp
              refine (reffirst_any HTe.out _ g (km long + 7) cap2 (rkK K long) hRK pi l ci iv (hi0.below hS) Hl.out hl0 (by omega)).mono ?_
              rw [HEe.out, Hce.out]
              rintro e w9 ⟨rfl, hB9⟩
              have hS := hS.trans (hB9.mono hS.size)
              have hRK := hRK.below hB9
              clear hB9
              refine hKC.out _ _ (hS) (fun hHeld => ?_)
              clear hKC KC
              try simp only [Act.put, List.setIfInBounds_toArray, List.set_cons_zero, List.set_cons_succ]
              have hS := hHeld (by kernel_rfl)
              refine tkW (rs := [8]) (by kernel_rfl) (by simp) (AllK.cons (o := _) rfl (fun KC hKC => ?_) AllK.nil)
              go_simp
              have hA : Blk (World.alloc w9 (.cells (bys z16).toArray tA16)) w9.heap.size (bys z16) tA16 := Blk.new w9 _ _
              have hsb : W.heap.size ≤ w9.heap.size := hS.size
              have hBn : Below w9.heap.size w9 (World.alloc w9 (.cells (bys z16).toArray tA16)) := (Below.refl _ _).alloc (Nat.le_refl _) _
              change KC _ (World.alloc w9 (.cells (bys z16).toArray tA16))
              have hS := hS.trans (hBn.mono hS.size)
              have hRK := hRK.below hBn
              generalize World.alloc w9 (.cells (bys z16).toArray tA16) = wa at *
              clear hBn
              refine hKC.out _ _ (hS) (fun hHeld => ?_)
              clear hKC KC
              try simp only [Act.put, List.setIfInBounds_toArray, List.set_cons_zero, List.set_cons_succ]
              have hS := hHeld (by kernel_rfl)
              refine tkW (rs := [9]) (by kernel_rfl) (by simp) (AllK.cons (o := _) rfl (fun KC hKC => ?_) AllK.nil)
              refine wantIt rfl (wp_storeD none rfl 36 (.tmp 12) (.tmp 81) rfl w9.heap.size 0 (bys c).toArray rfl rfl (hA.there 0 _ (by rw [List.size_toArray, bys_length, bys_length, Hc.out]; decide)) (by rw [size54, List.size_toArray, bys_length, Hc.out]) (all_oneCell_toArray (bys_one _)) ?_)
              have hA10 := hA.setCells (bys c) 0 (by rw [bys_length, bys_length, Hc.out]; decide)
              rw [splice_whole _ _ (by rw [bys_length, bys_length, Hc.out]; rfl)] at hA10
              have hS10 := hS.trans (((Chg.refl W.heap.size [] wa).setCells (b := w9.heap.size) (.inr hsb) (bys c) 0).below (Nat.le_refl _) (by simp))
              refine hKC.out _ _ (hS10) (fun hHeld => ?_)
              clear hKC KC
              try simp only [Act.put]
              refine tkD (by kernel_rfl) ?_ _
              change Exit.then _ _ _ _ (wa.setCells w9.heap.size 0 (bys c))
              generalize wa.setCells w9.heap.size 0 (bys c) = W2 at *
              have h0 := h0.below hS10 h0.lt
              have hi0 := hi0.below hS10
              have ha0 := ha0.below hS10
              have hb0 := hb0.below hS10
              have hKA := hKA.below hS10
              have hrs := hrs.below hS10
              have hB := hB.trans (hS10.mono hB.size)
              clear hS10 hS hA hTT hRK
              generalize w9.heap.size = sb at *
              have hS12 : Below W2.heap.size W2 W2.drew := (Below.refl _ _).drew
              obtain ⟨st, hst⟩ : ∃ z, str s = z := ⟨_, rfl⟩
              go_upto_region 12 with fail
              try simp only [Act.put]
              refine tkR (fun w' => Below W2.heap.size W2 w') [] (by kernel_rfl) (fun c a d v w h => by cases d <;> exact h) (hS12) (fun hPF hHeld => ?_)
              refine tkB 0 (.some 82) _ _ rfl rfl (by kernel_rfl) (by kernel_rfl) (by kernel_rfl) (by kernel_rfl) hPF rfl (fun w' => by (go_simp; try with_reducible rfl)) hHeld (fun hHeld => ?_)
              simp only [Act.put, List.setIfInBounds_toArray, List.set_cons_zero, List.set_cons_succ]
              refine tkA 1 (.some 83) _ _ rfl rfl (by kernel_rfl) (by kernel_rfl) (by kernel_rfl) (by kernel_rfl) (by kernel_rfl) hPF rfl (fun w' hw' => by (have h1 := str_row (n := lt) (c := cs) (hrs.below hw') Hsl1.out; rw [hst] at h1; go_simp; try with_reducible rfl)) hHeld (fun hHeld => ?_)
              simp only [Act.put, List.setIfInBounds_toArray, List.set_cons_zero, List.set_cons_succ]
              refine tkL 2 (.some 84) _ rfl rfl 55 (.tmp 2) rfl w.heap.size 0 (kc10 K long (.slice pi l ci) (.slice pa n ca)) _ (by kernel_rfl) (by kernel_rfl) (by kernel_rfl) (by kernel_rfl) (by kernel_rfl) hPF rfl rfl (fun w' hw' => (h0.below hw' h0.lt).whole) Try.underlying55 rfl hsz hHeld (fun hHeld => ?_)
              simp only [Act.put, List.setIfInBounds_toArray, List.set_cons_zero, List.set_cons_succ]
              refine tkB 4 (.some 86) _ _ rfl rfl (by kernel_rfl) (by kernel_rfl) (by kernel_rfl) (by kernel_rfl) hPF rfl (fun w' => by (go_simp; try with_reducible rfl)) hHeld (fun hHeld => ?_)
              simp only [Act.put, List.setIfInBounds_toArray, List.set_cons_zero, List.set_cons_succ]
              refine tkA 5 (.some 87) _ _ rfl rfl (by kernel_rfl) (by kernel_rfl) (by kernel_rfl) (by kernel_rfl) (by kernel_rfl) hPF rfl (fun w' hw' => by (have h1 := (h0.below hw' h0.lt).cell 33; rw [(kc10_at _ _ _ _ hK).2.1] at h1; go_simp; try with_reducible rfl)) hHeld (fun hHeld => ?_)
              simp only [Act.put, List.setIfInBounds_toArray, List.set_cons_zero, List.set_cons_succ]
              refine tkB 6 (.some 88) _ _ rfl rfl (by kernel_rfl) (by kernel_rfl) (by kernel_rfl) (by kernel_rfl) hPF rfl (fun w' => by (go_simp; try with_reducible rfl)) hHeld (fun hHeld => ?_)
              simp only [Act.put, List.setIfInBounds_toArray, List.set_cons_zero, List.set_cons_succ]
              refine tkA 7 (.some 89) _ _ rfl rfl (by kernel_rfl) (by kernel_rfl) (by kernel_rfl) (by kernel_rfl) (by kernel_rfl) hPF rfl (fun w' hw' => by (have h1 := (h0.below hw' h0.lt).cell 34; rw [(kc10_at _ _ _ _ hK).2.2] at h1; go_simp; try with_reducible rfl)) hHeld (fun hHeld => ?_)
              simp only [Act.put, List.setIfInBounds_toArray, List.set_cons_zero, List.set_cons_succ]
              refine tkB 8 (.some 90) _ _ rfl rfl (by kernel_rfl) (by kernel_rfl) (by kernel_rfl) (by kernel_rfl) hPF rfl (fun w' => by (go_simp; try with_reducible rfl)) hHeld (fun hHeld => ?_)
              simp only [Act.put, List.setIfInBounds_toArray, List.set_cons_zero, List.set_cons_succ]
              have hS := hHeld (by kernel_rfl)
              refine tkW (rs := [3]) (by kernel_rfl) (by simp) (AllK.cons (o := _) rfl (fun KC hKC => ?_) AllK.nil)
              go_simp
              refine (bytes10_any _ K long _ _ hK).mono ?_
              rintro e w10 ⟨rfl, hb10, hB10⟩
              have hr10 := kc10_row hb10 (kn long) (by rw [hK]; exact Hkn.out.2.2)
              have hS := hS.trans (hB10.mono hS.size)
              clear hb10 hB10
              refine hKC.out _ _ (hS) (fun hHeld => ?_)
              clear hKC KC
              try simp only [Act.put, List.setIfInBounds_toArray, List.set_cons_zero, List.set_cons_succ]
              have hS := hHeld (by kernel_rfl)
              refine tkW (rs := [9]) (by kernel_rfl) (by simp) (AllK.cons (o := _) rfl (fun KC hKC => ?_) AllK.nil)
              go_simp
              refine (refseal_any _ _ 0 (kn long) 32 (km long) (K.take (kn long)) hr10 Hkl.out Hkn.out.2.1 Hkn.out.1 pi l ci iv (hi0.below hS) Hl.out hl0 (by omega) pa n ca a (ha0.below hS) Hn.out (by omega) pb m cb b (hb0.below hS) Hm.out (by omega)).mono ?_
              rintro e w11 ⟨v11, rfl, hown, hB11⟩
              change OwnR _ _ _ (sealG (enc (rkK K long)) (firstF (enc (rkK K long)) iv) a b) at hown
              rw [HEe.out, Hce.out, Hs.out] at hown
              have hS := hS.trans (hB11.mono hS.size)
              obtain ⟨p9, c9, rfl, hc9, hr9⟩ := hown.row
              rw [Hsl1.out] at hc9
              try rw [Hsl1.out]
              have h0 := h0.below hS h0.lt
              have hi0 := hi0.below hS
              have hKA := hKA.below hS
              have hA10 := hA10.below hS hA10.lt
              have hB := hB.trans (hS.mono hB.size)
              clear hown hB11 hr10
              refine hKC.out _ _ (hS) (fun hHeld => ?_)
              clear hKC KC
              try simp only [Act.put, List.setIfInBounds_toArray, List.set_cons_zero, List.set_cons_succ]
              refine tkS (fun w' => Below w11.heap.size w11 w') (fun w' h => Below.trans hS (Below.mono h (Below.size hS))) (Below.refl _ _) (fun hHeld => ?_)
              refine tkA 10 (.some 92) _ _ rfl rfl (by kernel_rfl) (by kernel_rfl) (by kernel_rfl) (by kernel_rfl) (by kernel_rfl) hPF rfl (fun w' hw' => by (have h1 := str_row (n := lt) (c := c9) (hr9.below hw') Hsl1.out; rw [hst] at h1; go_simp; try with_reducible rfl)) hHeld (fun hHeld => ?_)
              simp only [Act.put, List.setIfInBounds_toArray, List.set_cons_zero, List.set_cons_succ]
              refine tkB 11 (.some 93) _ _ rfl rfl (by kernel_rfl) (by kernel_rfl) (by kernel_rfl) (by kernel_rfl) hPF rfl (fun w' => by (go_simp; try with_reducible rfl)) hHeld (fun hHeld => ?_)
              simp only [Act.put, List.setIfInBounds_toArray, List.set_cons_zero, List.set_cons_succ]
              refine tkB 12 (.some 94) _ _ rfl rfl (by kernel_rfl) (by kernel_rfl) (by kernel_rfl) (by kernel_rfl) hPF rfl (fun w' => by (go_simp; try with_reducible rfl)) hHeld (fun hHeld => ?_)
              simp only [Act.put, List.setIfInBounds_toArray, List.set_cons_zero, List.set_cons_succ]
              refine tkB 13 (.some 95) _ _ rfl rfl (by kernel_rfl) (by kernel_rfl) (by kernel_rfl) (by kernel_rfl) hPF rfl (fun w' => by (go_simp; try with_reducible rfl)) hHeld (fun hHeld => ?_)
              simp only [Act.put, List.setIfInBounds_toArray, List.set_cons_zero, List.set_cons_succ]
              refine tkB 14 (.some 96) _ _ rfl rfl (by kernel_rfl) (by kernel_rfl) (by kernel_rfl) (by kernel_rfl) hPF rfl (fun w' => by (go_simp; try with_reducible rfl)) hHeld (fun hHeld => ?_)
              simp only [Act.put, List.setIfInBounds_toArray, List.set_cons_zero, List.set_cons_succ]
              refine tkB 15 (.some 97) _ _ rfl rfl (by kernel_rfl) (by kernel_rfl) (by kernel_rfl) (by kernel_rfl) hPF rfl (fun w' => by (go_simp; try with_reducible rfl)) hHeld (fun hHeld => ?_)
              simp only [Act.put, List.setIfInBounds_toArray, List.set_cons_zero, List.set_cons_succ]
              refine tkB 16 (.some 98) _ _ rfl rfl (by kernel_rfl) (by kernel_rfl) (by kernel_rfl) (by kernel_rfl) hPF rfl (fun w' => by (go_simp; try with_reducible rfl)) hHeld (fun hHeld => ?_)
              simp only [Act.put, List.setIfInBounds_toArray, List.set_cons_zero, List.set_cons_succ]
              refine tkB 17 (.some 99) _ _ rfl rfl (by kernel_rfl) (by kernel_rfl) (by kernel_rfl) (by kernel_rfl) hPF rfl (fun w' => by (go_simp; try with_reducible rfl)) hHeld (fun hHeld => ?_)
              simp only [Act.put, List.setIfInBounds_toArray, List.set_cons_zero, List.set_cons_succ]
              refine tkB 18 (.some 100) _ _ rfl rfl (by kernel_rfl) (by kernel_rfl) (by kernel_rfl) (by kernel_rfl) hPF rfl (fun w' => by (go_simp; try with_reducible rfl)) hHeld (fun hHeld => ?_)
              simp only [Act.put, List.setIfInBounds_toArray, List.set_cons_zero, List.set_cons_succ]
              refine tkB 19 (.some 101) _ _ rfl rfl (by kernel_rfl) (by kernel_rfl) (by kernel_rfl) (by kernel_rfl) hPF rfl (fun w' => by (go_simp; try with_reducible rfl)) hHeld (fun hHeld => ?_)
              simp only [Act.put, List.setIfInBounds_toArray, List.set_cons_zero, List.set_cons_succ]
              refine tkB 20 (.some 102) _ _ rfl rfl (by kernel_rfl) (by kernel_rfl) (by kernel_rfl) (by kernel_rfl) hPF rfl (fun w' => by (go_simp; try with_reducible rfl)) hHeld (fun hHeld => ?_)
              simp only [Act.put, List.setIfInBounds_toArray, List.set_cons_zero, List.set_cons_succ]
              refine tkB 21 (.some 103) _ _ rfl rfl (by kernel_rfl) (by kernel_rfl) (by kernel_rfl) (by kernel_rfl) hPF rfl (fun w' => by (go_simp; try with_reducible rfl)) hHeld (fun hHeld => ?_)
              simp only [Act.put, List.setIfInBounds_toArray, List.set_cons_zero, List.set_cons_succ]
              refine tkB 22 (.some 104) _ _ rfl rfl (by kernel_rfl) (by kernel_rfl) (by kernel_rfl) (by kernel_rfl) hPF rfl (fun w' => by (go_simp; try with_reducible rfl)) hHeld (fun hHeld => ?_)
              simp only [Act.put, List.setIfInBounds_toArray, List.set_cons_zero, List.set_cons_succ]
              refine tkA 23 (.some 105) _ _ rfl rfl (by kernel_rfl) (by kernel_rfl) (by kernel_rfl) (by kernel_rfl) (by kernel_rfl) hPF rfl (fun w' hw' => by (have h1 := (h0.below hw' h0.lt).cell 33; rw [(kc10_at _ _ _ _ hK).2.1] at h1; go_simp; try with_reducible rfl)) hHeld (fun hHeld => ?_)
              simp only [Act.put, List.setIfInBounds_toArray, List.set_cons_zero, List.set_cons_succ]
              refine tkL 25 (.some 107) _ rfl rfl 36 (.tmp 12) rfl sb 0 (bys c) _ (by kernel_rfl) (by kernel_rfl) (by kernel_rfl) (by kernel_rfl) (by kernel_rfl) hPF rfl rfl (fun w' hw' => (hA10.below hw' hA10.lt).whole) under54 rfl hsc hHeld (fun hHeld => ?_)
              simp only [Act.put, List.setIfInBounds_toArray, List.set_cons_zero, List.set_cons_succ]
              have hS := hHeld (by kernel_rfl)
              refine tkW (rs := [24]) (by kernel_rfl) (by simp) (AllK.cons (o := _) rfl (fun KC hKC => ?_) AllK.nil)
              go_simp
              refine (first_any _ kb (rkK K long) (hKA.below hS) Hrl.out pi l ci iv (hi0.below hS) Hl.out (by omega)).mono ?_
              rw [HEe.out, Hce.out]
              rintro e w12 ⟨rfl, hB12⟩
              have hS := hS.trans (hB12.mono hS.size)
              clear hB12
              refine hKC.out _ _ (hS) (fun hHeld => ?_)
              clear hKC KC
              try simp only [Act.put, List.setIfInBounds_toArray, List.set_cons_zero, List.set_cons_succ]
              refine tkA 26 (.some 108) _ _ rfl rfl (by kernel_rfl) (by kernel_rfl) (by kernel_rfl) (by kernel_rfl) (by kernel_rfl) hPF rfl (fun w' hw' => by (have h1 := Heq.out w'; go_simp; try with_reducible rfl)) hHeld (fun hHeld => ?_)
              simp only [Act.put, List.setIfInBounds_toArray, List.set_cons_zero, List.set_cons_succ]
              refine tkB 27 (.some 109) _ _ rfl rfl (by kernel_rfl) (by kernel_rfl) (by kernel_rfl) (by kernel_rfl) hPF rfl (fun w' => by (go_simp; try with_reducible rfl)) hHeld (fun hHeld => ?_)
              simp only [Act.put, List.setIfInBounds_toArray, List.set_cons_zero, List.set_cons_succ]
              refine tkB 28 (.some 110) _ _ rfl rfl (by kernel_rfl) (by kernel_rfl) (by kernel_rfl) (by kernel_rfl) hPF rfl (fun w' => by (go_simp; try with_reducible rfl)) hHeld (fun hHeld => ?_)
              simp only [Act.put, List.setIfInBounds_toArray, List.set_cons_zero, List.set_cons_succ]
              have hS := hHeld (by kernel_rfl)
              refine tkW (rs := [29]) (by kernel_rfl) (by simp) (AllK.cons (o := _) rfl (fun KC hKC => ?_) AllK.nil)
              go_simp
              refine (awake10_any _).mono ?_
              rintro e w13 ⟨rfl, hB13⟩
              have hS := hS.trans (hB13.mono hS.size)
              have hBe := hB.trans (hS.mono hB.size)
              clear hB13
              refine hKC.out _ _ (hS) (fun hHeld => ?_)
              clear hKC KC
              try simp only [Act.put, List.setIfInBounds_toArray, List.set_cons_zero, List.set_cons_succ]
              refine tkB 30 (.some 112) _ _ rfl rfl (by kernel_rfl) (by kernel_rfl) (by kernel_rfl) (by kernel_rfl) hPF rfl (fun w' => by (go_simp; try with_reducible rfl)) hHeld (fun hHeld => ?_)
              simp only [Act.put, List.setIfInBounds_toArray, List.set_cons_zero, List.set_cons_succ]
              refine tkB 31 (.some 4) _ _ rfl rfl (by kernel_rfl) (by kernel_rfl) (by kernel_rfl) (by kernel_rfl) hPF rfl (fun w' => by (go_simp; try with_reducible rfl)) hHeld (fun hHeld => ?_)
              simp only [Act.put, List.setIfInBounds_toArray, List.set_cons_zero, List.set_cons_succ]
              refine tkD (by kernel_rfl) ?_ _
              go_wp2_with fail
              go_ret
              exact ⟨rfl, hBe⟩
            ·
              go_simp
              have hA : Blk (World.alloc w8 (.cells (bys z16).toArray tA16)) w8.heap.size (bys z16) tA16 := Blk.new w8 _ _
              have hsb : W.heap.size ≤ w8.heap.size := hS.size
              have hBn : Below w8.heap.size w8 (World.alloc w8 (.cells (bys z16).toArray tA16)) := (Below.refl _ _).alloc (Nat.le_refl _) _
              change KC _ (World.alloc w8 (.cells (bys z16).toArray tA16))
              have hS := hS.trans (hBn.mono hS.size)
              have hRK := hRK.below hBn
              generalize World.alloc w8 (.cells (bys z16).toArray tA16) = wa at *
              clear hBn
              refine hKC.out _ _ (hS) (fun hHeld => ?_)
              clear hKC KC
              try simp only [Act.put, List.setIfInBounds_toArray, List.set_cons_zero, List.set_cons_succ]
              have hS := hHeld (by kernel_rfl)
              refine tkW (rs := [7]) (by kernel_rfl) (by simp) (AllK.cons (o := _) rfl (fun KC hKC => ?_) AllK.nil)
              go_simp
              refine (reffirst_any HTe.out _ g (km long + 7) cap2 (rkK K long) hRK pi l ci iv (hi0.below hS) Hl.out hl0 (by omega)).mono ?_
              rw [HEe.out, Hce.out]
              rintro e w9 ⟨rfl, hB9⟩
              have hS := hS.trans (hB9.mono hS.size)
              have hRK := hRK.below hB9
              have hA := hA.below hB9 hA.lt
              clear hB9
              refine hKC.out _ _ (hS) (fun hHeld => ?_)
              clear hKC KC
              try simp only [Act.put, List.setIfInBounds_toArray, List.set_cons_zero, List.set_cons_succ]
              have hS := hHeld (by kernel_rfl)
              refine tkW (rs := [9]) (by kernel_rfl) (by simp) (AllK.cons (o := _) rfl (fun KC hKC => ?_) AllK.nil)
              refine wantIt rfl (wp_storeD none rfl 36 (.tmp 12) (.tmp 81) rfl w8.heap.size 0 (bys c).toArray rfl rfl (hA.there 0 _ (by rw [List.size_toArray, bys_length, bys_length, Hc.out]; decide)) (by rw [size54, List.size_toArray, bys_length, Hc.out]) (all_oneCell_toArray (bys_one _)) ?_)
              have hA10 := hA.setCells (bys c) 0 (by rw [bys_length, bys_length, Hc.out]; decide)
              rw [splice_whole _ _ (by rw [bys_length, bys_length, Hc.out]; rfl)] at hA10
              have hS10 := hS.trans (((Chg.refl W.heap.size [] w9).setCells (b := w8.heap.size) (.inr hsb) (bys c) 0).below (Nat.le_refl _) (by simp))
              refine hKC.out _ _ (hS10) (fun hHeld => ?_)
              clear hKC KC
              try simp only [Act.put]
              refine tkD (by kernel_rfl) ?_ _
              change Exit.then _ _ _ _ (w9.setCells w8.heap.size 0 (bys c))
              generalize w9.setCells w8.heap.size 0 (bys c) = W2 at *
              have h0 := h0.below hS10 h0.lt
              have hi0 := hi0.below hS10
              have ha0 := ha0.below hS10
              have hb0 := hb0.below hS10
              have hKA := hKA.below hS10
              have hrs := hrs.below hS10
              have hB := hB.trans (hS10.mono hB.size)
              clear hS10 hS hA hTT hRK
              generalize w8.heap.size = sb at *
              have hS12 : Below W2.heap.size W2 W2.drew := (Below.refl _ _).drew
              obtain ⟨st, hst⟩ : ∃ z, str s = z := ⟨_, rfl⟩
              go_upto_region 12 with fail
              try simp only [Act.put]
              refine tkR (fun w' => Below W2.heap.size W2 w') [] (by kernel_rfl) (fun c a d v w h => by cases d <;> exact h) (hS12) (fun hPF hHeld => ?_)
              refine tkB 0 (.some 82) _ _ rfl rfl (by kernel_rfl) (by kernel_rfl) (by kernel_rfl) (by kernel_rfl) hPF rfl (fun w' => by (go_simp; try with_reducible rfl)) hHeld (fun hHeld => ?_)
              simp only [Act.put, List.setIfInBounds_toArray, List.set_cons_zero, List.set_cons_succ]
              refine tkA 1 (.some 83) _ _ rfl rfl (by kernel_rfl) (by kernel_rfl) (by kernel_rfl) (by kernel_rfl) (by kernel_rfl) hPF rfl (fun w' hw' => by (have h1 := str_row (n := lt) (c := cs) (hrs.below hw') Hsl1.out; rw [hst] at h1; go_simp; try with_reducible rfl)) hHeld (fun hHeld => ?_)
              simp only [Act.put, List.setIfInBounds_toArray, List.set_cons_zero, List.set_cons_succ]
              refine tkL 2 (.some 84) _ rfl rfl 55 (.tmp 2) rfl w.heap.size 0 (kc10 K long (.slice pi l ci) (.slice pa n ca)) _ (by kernel_rfl) (by kernel_rfl) (by kernel_rfl) (by kernel_rfl) (by kernel_rfl) hPF rfl rfl (fun w' hw' => (h0.below hw' h0.lt).whole) Try.underlying55 rfl hsz hHeld (fun hHeld => ?_)
              simp only [Act.put, List.setIfInBounds_toArray, List.set_cons_zero, List.set_cons_succ]
              refine tkB 4 (.some 86) _ _ rfl rfl (by kernel_rfl) (by kernel_rfl) (by kernel_rfl) (by kernel_rfl) hPF rfl (fun w' => by (go_simp; try with_reducible rfl)) hHeld (fun hHeld => ?_)
              simp only [Act.put, List.setIfInBounds_toArray, List.set_cons_zero, List.set_cons_succ]
              refine tkA 5 (.some 87) _ _ rfl rfl (by kernel_rfl) (by kernel_rfl) (by kernel_rfl) (by kernel_rfl) (by kernel_rfl) hPF rfl (fun w' hw' => by (have h1 := (h0.below hw' h0.lt).cell 33; rw [(kc10_at _ _ _ _ hK).2.1] at h1; go_simp; try with_reducible rfl)) hHeld (fun hHeld => ?_)
              simp only [Act.put, List.setIfInBounds_toArray, List.set_cons_zero, List.set_cons_succ]
              refine tkB 6 (.some 88) _ _ rfl rfl (by kernel_rfl) (by kernel_rfl) (by kernel_rfl) (by kernel_rfl) hPF rfl (fun w' => by (go_simp; try with_reducible rfl)) hHeld (fun hHeld => ?_)
              simp only [Act.put, List.setIfInBounds_toArray, List.set_cons_zero, List.set_cons_succ]
              refine tkA 7 (.some 89) _ _ rfl rfl (by kernel_rfl) (by kernel_rfl) (by kernel_rfl) (by kernel_rfl) (by kernel_rfl) hPF rfl (fun w' hw' => by (have h1 := (h0.below hw' h0.lt).cell 34; rw [(kc10_at _ _ _ _ hK).2.2] at h1; go_simp; try with_reducible rfl)) hHeld (fun hHeld => ?_)
              simp only [Act.put, List.setIfInBounds_toArray, List.set_cons_zero, List.set_cons_succ]
              refine tkB 8 (.some 90) _ _ rfl rfl (by kernel_rfl) (by kernel_rfl) (by kernel_rfl) (by kernel_rfl) hPF rfl (fun w' => by (go_simp; try with_reducible rfl)) hHeld (fun hHeld => ?_)
              simp only [Act.put, List.setIfInBounds_toArray, List.set_cons_zero, List.set_cons_succ]
              have hS := hHeld (by kernel_rfl)
              refine tkW (rs := [3]) (by kernel_rfl) (by simp) (AllK.cons (o := _) rfl (fun KC hKC => ?_) AllK.nil)
              go_simp
              refine (bytes10_any _ K long _ _ hK).mono ?_
              rintro e w10 ⟨rfl, hb10, hB10⟩
              have hr10 := kc10_row hb10 (kn long) (by rw [hK]; exact Hkn.out.2.2)
              have hS := hS.trans (hB10.mono hS.size)
              clear hb10 hB10
              refine hKC.out _ _ (hS) (fun hHeld => ?_)
              clear hKC KC
              try simp only [Act.put, List.setIfInBounds_toArray, List.set_cons_zero, List.set_cons_succ]
              have hS := hHeld (by kernel_rfl)
              refine tkW (rs := [9]) (by kernel_rfl) (by simp) (AllK.cons (o := _) rfl (fun KC hKC => ?_) AllK.nil)
              go_simp
              refine (refseal_any _ _ 0 (kn long) 32 (km long) (K.take (kn long)) hr10 Hkl.out Hkn.out.2.1 Hkn.out.1 pi l ci iv (hi0.below hS) Hl.out hl0 (by omega) pa n ca a (ha0.below hS) Hn.out (by omega) pb m cb b (hb0.below hS) Hm.out (by omega)).mono ?_
              rintro e w11 ⟨v11, rfl, hown, hB11⟩
              change OwnR _ _ _ (sealG (enc (rkK K long)) (firstF (enc (rkK K long)) iv) a b) at hown
              rw [HEe.out, Hce.out, Hs.out] at hown
              have hS := hS.trans (hB11.mono hS.size)
              obtain ⟨p9, c9, rfl, hc9, hr9⟩ := hown.row
              rw [Hsl1.out] at hc9
              try rw [Hsl1.out]
              have h0 := h0.below hS h0.lt
              have hi0 := hi0.below hS
              have hKA := hKA.below hS
              have hA10 := hA10.below hS hA10.lt
              have hB := hB.trans (hS.mono hB.size)
              clear hown hB11 hr10
              refine hKC.out _ _ (hS) (fun hHeld => ?_)
              clear hKC KC
              try simp only [Act.put, List.setIfInBounds_toArray, List.set_cons_zero, List.set_cons_succ]
              refine tkS (fun w' => Below w11.heap.size w11 w') (fun w' h => Below.trans hS (Below.mono h (Below.size hS))) (Below.refl _ _) (fun hHeld => ?_)
              refine tkA 10 (.some 92) _ _ rfl rfl (by kernel_rfl) (by kernel_rfl) (by kernel_rfl) (by kernel_rfl) (by kernel_rfl) hPF rfl (fun w' hw' => by (have h1 := str_row (n := lt) (c := c9) (hr9.below hw') Hsl1.out; rw [hst] at h1; go_simp; try with_reducible rfl)) hHeld (fun hHeld => ?_)
              simp only [Act.put, List.setIfInBounds_toArray, List.set_cons_zero, List.set_cons_succ]
              refine tkB 11 (.some 93) _ _ rfl rfl (by kernel_rfl) (by kernel_rfl) (by kernel_rfl) (by kernel_rfl) hPF rfl (fun w' => by (go_simp; try with_reducible rfl)) hHeld (fun hHeld => ?_)
              simp only [Act.put, List.setIfInBounds_toArray, List.set_cons_zero, List.set_cons_succ]
              refine tkB 12 (.some 94) _ _ rfl rfl (by kernel_rfl) (by kernel_rfl) (by kernel_rfl) (by kernel_rfl) hPF rfl (fun w' => by (go_simp; try with_reducible rfl)) hHeld (fun hHeld => ?_)
              simp only [Act.put, List.setIfInBounds_toArray, List.set_cons_zero, List.set_cons_succ]
              refine tkB 13 (.some 95) _ _ rfl rfl (by kernel_rfl) (by kernel_rfl) (by kernel_rfl) (by kernel_rfl) hPF rfl (fun w' => by (go_simp; try with_reducible rfl)) hHeld (fun hHeld => ?_)
              simp only [Act.put, List.setIfInBounds_toArray, List.set_cons_zero, List.set_cons_succ]
              refine tkB 14 (.some 96) _ _ rfl rfl (by kernel_rfl) (by kernel_rfl) (by kernel_rfl) (by kernel_rfl) hPF rfl (fun w' => by (go_simp; try with_reducible rfl)) hHeld (fun hHeld => ?_)
              simp only [Act.put, List.setIfInBounds_toArray, List.set_cons_zero, List.set_cons_succ]
              refine tkB 15 (.some 97) _ _ rfl rfl (by kernel_rfl) (by kernel_rfl) (by kernel_rfl) (by kernel_rfl) hPF rfl (fun w' => by (go_simp; try with_reducible rfl)) hHeld (fun hHeld => ?_)
              simp only [Act.put, List.setIfInBounds_toArray, List.set_cons_zero, List.set_cons_succ]
              refine tkB 16 (.some 98) _ _ rfl rfl (by kernel_rfl) (by kernel_rfl) (by kernel_rfl) (by kernel_rfl) hPF rfl (fun w' => by (go_simp; try with_reducible rfl)) hHeld (fun hHeld => ?_)
              simp only [Act.put, List.setIfInBounds_toArray, List.set_cons_zero, List.set_cons_succ]
              refine tkB 17 (.some 99) _ _ rfl rfl (by kernel_rfl) (by kernel_rfl) (by kernel_rfl) (by kernel_rfl) hPF rfl (fun w' => by (go_simp; try with_reducible rfl)) hHeld (fun hHeld => ?_)
              simp only [Act.put, List.setIfInBounds_toArray, List.set_cons_zero, List.set_cons_succ]
              refine tkB 18 (.some 100) _ _ rfl rfl (by kernel_rfl) (by kernel_rfl) (by kernel_rfl) (by kernel_rfl) hPF rfl (fun w' => by (go_simp; try with_reducible rfl)) hHeld (fun hHeld => ?_)
              simp only [Act.put, List.setIfInBounds_toArray, List.set_cons_zero, List.set_cons_succ]
              refine tkB 19 (.some 101) _ _ rfl rfl (by kernel_rfl) (by kernel_rfl) (by kernel_rfl) (by kernel_rfl) hPF rfl (fun w' => by (go_simp; try with_reducible rfl)) hHeld (fun hHeld => ?_)
              simp only [Act.put, List.setIfInBounds_toArray, List.set_cons_zero, List.set_cons_succ]
              refine tkB 20 (.some 102) _ _ rfl rfl (by kernel_rfl) (by kernel_rfl) (by kernel_rfl) (by kernel_rfl) hPF rfl (fun w' => by (go_simp; try with_reducible rfl)) hHeld (fun hHeld => ?_)
              simp only [Act.put, List.setIfInBounds_toArray, List.set_cons_zero, List.set_cons_succ]
              refine tkB 21 (.some 103) _ _ rfl rfl (by kernel_rfl) (by kernel_rfl) (by kernel_rfl) (by kernel_rfl) hPF rfl (fun w' => by (go_simp; try with_reducible rfl)) hHeld (fun hHeld => ?_)
              simp only [Act.put, List.setIfInBounds_toArray, List.set_cons_zero, List.set_cons_succ]
              refine tkB 22 (.some 104) _ _ rfl rfl (by kernel_rfl) (by kernel_rfl) (by kernel_rfl) (by kernel_rfl) hPF rfl (fun w' => by (go_simp; try with_reducible rfl)) hHeld (fun hHeld => ?_)
              simp only [Act.put, List.setIfInBounds_toArray, List.set_cons_zero, List.set_cons_succ]
              refine tkA 23 (.some 105) _ _ rfl rfl (by kernel_rfl) (by kernel_rfl) (by kernel_rfl) (by kernel_rfl) (by kernel_rfl) hPF rfl (fun w' hw' => by (have h1 := (h0.below hw' h0.lt).cell 33; rw [(kc10_at _ _ _ _ hK).2.1] at h1; go_simp; try with_reducible rfl)) hHeld (fun hHeld => ?_)
              simp only [Act.put, List.setIfInBounds_toArray, List.set_cons_zero, List.set_cons_succ]
              refine tkL 25 (.some 107) _ rfl rfl 36 (.tmp 12) rfl sb 0 (bys c) _ (by kernel_rfl) (by kernel_rfl) (by kernel_rfl) (by kernel_rfl) (by kernel_rfl) hPF rfl rfl (fun w' hw' => (hA10.below hw' hA10.lt).whole) under54 rfl hsc hHeld (fun hHeld => ?_)
              simp only [Act.put, List.setIfInBounds_toArray, List.set_cons_zero, List.set_cons_succ]
              have hS := hHeld (by kernel_rfl)
              refine tkW (rs := [24]) (by kernel_rfl) (by simp) (AllK.cons (o := _) rfl (fun KC hKC => ?_) AllK.nil)
              go_simp
              refine (first_any _ kb (rkK K long) (hKA.below hS) Hrl.out pi l ci iv (hi0.below hS) Hl.out (by omega)).mono ?_
              rw [HEe.out, Hce.out]
              rintro e w12 ⟨rfl, hB12⟩
              have hS := hS.trans (hB12.mono hS.size)
              clear hB12
              refine hKC.out _ _ (hS) (fun hHeld => ?_)
              clear hKC KC
              try simp only [Act.put, List.setIfInBounds_toArray, List.set_cons_zero, List.set_cons_succ]
              refine tkA 26 (.some 108) _ _ rfl rfl (by kernel_rfl) (by kernel_rfl) (by kernel_rfl) (by kernel_rfl) (by kernel_rfl) hPF rfl (fun w' hw' => by (have h1 := Heq.out w'; go_simp; try with_reducible rfl)) hHeld (fun hHeld => ?_)
              simp only [Act.put, List.setIfInBounds_toArray, List.set_cons_zero, List.set_cons_succ]
              refine tkB 27 (.some 109) _ _ rfl rfl (by kernel_rfl) (by kernel_rfl) (by kernel_rfl) (by kernel_rfl) hPF rfl (fun w' => by (go_simp; try with_reducible rfl)) hHeld (fun hHeld => ?_)
              simp only [Act.put, List.setIfInBounds_toArray, List.set_cons_zero, List.set_cons_succ]
              refine tkB 28 (.some 110) _ _ rfl rfl (by kernel_rfl) (by kernel_rfl) (by kernel_rfl) (by kernel_rfl) hPF rfl (fun w' => by (go_simp; try with_reducible rfl)) hHeld (fun hHeld => ?_)
              simp only [Act.put, List.setIfInBounds_toArray, List.set_cons_zero, List.set_cons_succ]
              have hS := hHeld (by kernel_rfl)
              refine tkW (rs := [29]) (by kernel_rfl) (by simp) (AllK.cons (o := _) rfl (fun KC hKC => ?_) AllK.nil)
              go_simp
              refine (awake10_any _).mono ?_
              rintro e w13 ⟨rfl, hB13⟩
              have hS := hS.trans (hB13.mono hS.size)
              have hBe := hB.trans (hS.mono hB.size)
              clear hB13
              refine hKC.out _ _ (hS) (fun hHeld => ?_)
              clear hKC KC
              try simp only [Act.put, List.setIfInBounds_toArray, List.set_cons_zero, List.set_cons_succ]
              refine tkB 30 (.some 112) _ _ rfl rfl (by kernel_rfl) (by kernel_rfl) (by kernel_rfl) (by kernel_rfl) hPF rfl (fun w' => by (go_simp; try with_reducible rfl)) hHeld (fun hHeld => ?_)
              simp only [Act.put, List.setIfInBounds_toArray, List.set_cons_zero, List.set_cons_succ]
              refine tkB 31 (.some 4) _ _ rfl rfl (by kernel_rfl) (by kernel_rfl) (by kernel_rfl) (by kernel_rfl) hPF rfl (fun w' => by (go_simp; try with_reducible rfl)) hHeld (fun hHeld => ?_)
              simp only [Act.put, List.setIfInBounds_toArray, List.set_cons_zero, List.set_cons_succ]
              refine tkD (by kernel_rfl) ?_ _
              go_wp2_with fail
              go_ret
              exact ⟨rfl, hBe⟩
          ·
            go_simp
            have hA : Blk (World.alloc w7 (.cells (bys z16).toArray tA16)) w7.heap.size (bys z16) tA16 := Blk.new w7 _ _
            have hsb : W.heap.size ≤ w7.heap.size := hS.size
            have hBn : Below w7.heap.size w7 (World.alloc w7 (.cells (bys z16).toArray tA16)) := (Below.refl _ _).alloc (Nat.le_refl _) _
            change KC _ (World.alloc w7 (.cells (bys z16).toArray tA16))
            have hS := hS.trans (hBn.mono hS.size)
            have hr7 := hr7.below hBn
            generalize World.alloc w7 (.cells (bys z16).toArray tA16) = wa at *
            clear hBn
            refine hKC.out _ _ (hS) (fun hHeld => ?_)
            clear hKC KC
            try simp only [Act.put, List.setIfInBounds_toArray, List.set_cons_zero, List.set_cons_succ]
            have hS := hHeld (by kernel_rfl)
            refine tkW (rs := [4]) (by kernel_rfl) (by simp) (AllK.cons (o := _) rfl (fun KC hKC => ?_) AllK.nil)
            go_simp
            refine (refkeys_T HTe.out _ _ 0 (kn long) 32 (km long) (K.take (kn long)) hr7 Hkl.out Hkn.out.2.1 Hkn.out.1).mono ?_
            rintro e w8 ⟨g, cap2, ex, rfl, hG, hB8⟩
            have hS := hS.trans (hB8.mono hS.size)
            have hA := hA.below hB8 hA.lt
            have hRK : RK w8 g (km long + 7) (rkK K long) := ⟨⟨ex, hG⟩, Hrlk.out, by omega, by have := Hkn.out.2.1; omega, by rw [HEe.out]; exact HE.out⟩
            clear hr7 hG hB8
            refine hKC.out _ _ (hS) (fun hHeld => ?_)
            clear hKC KC
            try simp only [Act.put, List.setIfInBounds_toArray, List.set_cons_zero, List.set_cons_succ]
            have hS := hHeld (by kernel_rfl)
            refine tkW (rs := [7]) (by kernel_rfl) (by simp) (AllK.cons (o := _) rfl (fun KC hKC => ?_) AllK.nil)
            go_simp
            refine (reffirst_any HTe.out _ g (km long + 7) cap2 (rkK K long) hRK pi l ci iv (hi0.below hS) Hl.out hl0 (by omega)).mono ?_
            rw [HEe.out, Hce.out]
            rintro e w9 ⟨rfl, hB9⟩
            have hS := hS.trans (hB9.mono hS.size)
            have hRK := hRK.below hB9
            have hA := hA.below hB9 hA.lt
            clear hB9
            refine hKC.out _ _ (hS) (fun hHeld => ?_)
            clear hKC KC
            try simp only [Act.put, List.setIfInBounds_toArray, List.set_cons_zero, List.set_cons_succ]
            have hS := hHeld (by kernel_rfl)
            refine tkW (rs := [9]) (by kernel_rfl) (by simp) (AllK.cons (o := _) rfl (fun KC hKC => ?_) AllK.nil)
            refine wantIt rfl (wp_storeD none rfl 36 (.tmp 12) (.tmp 81) rfl w7.heap.size 0 (bys c).toArray rfl rfl (hA.there 0 _ (by rw [List.size_toArray, bys_length, bys_length, Hc.out]; decide)) (by rw [size54, List.size_toArray, bys_length, Hc.out]) (all_oneCell_toArray (bys_one _)) ?_)
            have hA10 := hA.setCells (bys c) 0 (by rw [bys_length, bys_length, Hc.out]; decide)
            rw [splice_whole _ _ (by rw [bys_length, bys_length, Hc.out]; rfl)] at hA10
            have hS10 := hS.trans (((Chg.refl W.heap.size [] w9).setCells (b := w7.heap.size) (.inr hsb) (bys c) 0).below (Nat.le_refl _) (by simp))
            refine hKC.out _ _ (hS10) (fun hHeld => ?_)
            clear hKC KC
            try simp only [Act.put]
            refine tkD (by kernel_rfl) ?_ _
            change Exit.then _ _ _ _ (w9.setCells w7.heap.size 0 (bys c))
            generalize w9.setCells w7.heap.size 0 (bys c) = W2 at *
            have h0 := h0.below hS10 h0.lt
            have hi0 := hi0.below hS10
            have ha0 := ha0.below hS10
            have hb0 := hb0.below hS10
            have hKA := hKA.below hS10
            have hrs := hrs.below hS10
            have hB := hB.trans (hS10.mono hB.size)
            clear hS10 hS hA hTT hRK
            generalize w7.heap.size = sb at *
            have hS12 : Below W2.heap.size W2 W2.drew := (Below.refl _ _).drew
            obtain ⟨st, hst⟩ : ∃ z, str s = z := ⟨_, rfl⟩
            go_upto_region 12 with fail
            try simp only [Act.put]
            refine tkR (fun w' => Below W2.heap.size W2 w') [] (by kernel_rfl) (fun c a d v w h => by cases d <;> exact h) (hS12) (fun hPF hHeld => ?_)
            refine tkB 0 (.some 82) _ _ rfl rfl (by kernel_rfl) (by kernel_rfl) (by kernel_rfl) (by kernel_rfl) hPF rfl (fun w' => by (go_simp; try with_reducible rfl)) hHeld (fun hHeld => ?_)
            simp only [Act.put, List.setIfInBounds_toArray, List.set_cons_zero, List.set_cons_succ]
            refine tkA 1 (.some 83) _ _ rfl rfl (by kernel_rfl) (by kernel_rfl) (by kernel_rfl) (by kernel_rfl) (by kernel_rfl) hPF rfl (fun w' hw' => by (have h1 := str_row (n := lt) (c := cs) (hrs.below hw') Hsl1.out; rw [hst] at h1; go_simp; try with_reducible rfl)) hHeld (fun hHeld => ?_)
            simp only [Act.put, List.setIfInBounds_toArray, List.set_cons_zero, List.set_cons_succ]
            refine tkL 2 (.some 84) _ rfl rfl 55 (.tmp 2) rfl w.heap.size 0 (kc10 K long (.slice pi l ci) (.slice pa n ca)) _ (by kernel_rfl) (by kernel_rfl) (by kernel_rfl) (by kernel_rfl) (by kernel_rfl) hPF rfl rfl (fun w' hw' => (h0.below hw' h0.lt).whole) Try.underlying55 rfl hsz hHeld (fun hHeld => ?_)
            simp only [Act.put, List.setIfInBounds_toArray, List.set_cons_zero, List.set_cons_succ]
            refine tkB 4 (.some 86) _ _ rfl rfl (by kernel_rfl) (by kernel_rfl) (by kernel_rfl) (by kernel_rfl) hPF rfl (fun w' => by (go_simp; try with_reducible rfl)) hHeld (fun hHeld => ?_)
            simp only [Act.put, List.setIfInBounds_toArray, List.set_cons_zero, List.set_cons_succ]
            refine tkA 5 (.some 87) _ _ rfl rfl (by kernel_rfl) (by kernel_rfl) (by kernel_rfl) (by kernel_rfl) (by kernel_rfl) hPF rfl (fun w' hw' => by (have h1 := (h0.below hw' h0.lt).cell 33; rw [(kc10_at _ _ _ _ hK).2.1] at h1; go_simp; try with_reducible rfl)) hHeld (fun hHeld => ?_)
            simp only [Act.put, List.setIfInBounds_toArray, List.set_cons_zero, List.set_cons_succ]
            refine tkB 6 (.some 88) _ _ rfl rfl (by kernel_rfl) (by kernel_rfl) (by kernel_rfl) (by kernel_rfl) hPF rfl (fun w' => by (go_simp; try with_reducible rfl)) hHeld (fun hHeld => ?_)
            simp only [Act.put, List.setIfInBounds_toArray, List.set_cons_zero, List.set_cons_succ]
            refine tkA 7 (.some 89) _ _ rfl rfl (by kernel_rfl) (by kernel_rfl) (by kernel_rfl) (by kernel_rfl) (by kernel_rfl) hPF rfl (fun w' hw' => by (have h1 := (h0.below hw' h0.lt).cell 34; rw [(kc10_at _ _ _ _ hK).2.2] at h1; go_simp; try with_reducible rfl)) hHeld (fun hHeld => ?_)
            simp only [Act.put, List.setIfInBounds_toArray, List.set_cons_zero, List.set_cons_succ]
            refine tkB 8 (.some 90) _ _ rfl rfl (by kernel_rfl) (by kernel_rfl) (by kernel_rfl) (by kernel_rfl) hPF rfl (fun w' => by (go_simp; try with_reducible rfl)) hHeld (fun hHeld => ?_)
            simp only [Act.put, List.setIfInBounds_toArray, List.set_cons_zero, List.set_cons_succ]
            have hS := hHeld (by kernel_rfl)
            refine tkW (rs := [3]) (by kernel_rfl) (by simp) (AllK.cons (o := _) rfl (fun KC hKC => ?_) AllK.nil)
            go_simp
            refine (bytes10_any _ K long _ _ hK).mono ?_
            rintro e w10 ⟨rfl, hb10, hB10⟩
            have hr10 := kc10_row hb10 (kn long) (by rw [hK]; exact Hkn.out.2.2)
            have hS := hS.trans (hB10.mono hS.size)
            clear hb10 hB10
            refine hKC.out _ _ (hS) (fun hHeld => ?_)
            clear hKC KC
            try simp only [Act.put, List.setIfInBounds_toArray, List.set_cons_zero, List.set_cons_succ]
            have hS := hHeld (by kernel_rfl)
            refine tkW (rs := [9]) (by kernel_rfl) (by simp) (AllK.cons (o := _) rfl (fun KC hKC => ?_) AllK.nil)
            go_simp
            refine (refseal_any _ _ 0 (kn long) 32 (km long) (K.take (kn long)) hr10 Hkl.out Hkn.out.2.1 Hkn.out.1 pi l ci iv (hi0.below hS) Hl.out hl0 (by omega) pa n ca a (ha0.below hS) Hn.out (by omega) pb m cb b (hb0.below hS) Hm.out (by omega)).mono ?_
            rintro e w11 ⟨v11, rfl, hown, hB11⟩
            change OwnR _ _ _ (sealG (enc (rkK K long)) (firstF (enc (rkK K long)) iv) a b) at hown
            rw [HEe.out, Hce.out, Hs.out] at hown
            have hS := hS.trans (hB11.mono hS.size)
            obtain ⟨p9, c9, rfl, hc9, hr9⟩ := hown.row
            rw [Hsl1.out] at hc9
            try rw [Hsl1.out]
            have h0 := h0.below hS h0.lt
            have hi0 := hi0.below hS
            have hKA := hKA.below hS
            have hA10 := hA10.below hS hA10.lt
            have hB := hB.trans (hS.mono hB.size)
            clear hown hB11 hr10
            refine hKC.out _ _ (hS) (fun hHeld => ?_)
            clear hKC KC
            try simp only [Act.put, List.setIfInBounds_toArray, List.set_cons_zero, List.set_cons_succ]
            refine tkS (fun w' => Below w11.heap.size w11 w') (fun w' h => Below.trans hS (Below.mono h (Below.size hS))) (Below.refl _ _) (fun hHeld => ?_)
            refine tkA 10 (.some 92) _ _ rfl rfl (by kernel_rfl) (by kernel_rfl) (by kernel_rfl) (by kernel_rfl) (by kernel_rfl) hPF rfl (fun w' hw' => by (have h1 := str_row (n := lt) (c := c9) (hr9.below hw') Hsl1.out; rw [hst] at h1; go_simp; try with_reducible rfl)) hHeld (fun hHeld => ?_)
            simp only [Act.put, List.setIfInBounds_toArray, List.set_cons_zero, List.set_cons_succ]
            refine tkB 11 (.some 93) _ _ rfl rfl (by kernel_rfl) (by kernel_rfl) (by kernel_rfl) (by kernel_rfl) hPF rfl (fun w' => by (go_simp; try with_reducible rfl)) hHeld (fun hHeld => ?_)
            simp only [Act.put, List.setIfInBounds_toArray, List.set_cons_zero, List.set_cons_succ]
            refine tkB 12 (.some 94) _ _ rfl rfl (by kernel_rfl) (by kernel_rfl) (by kernel_rfl) (by kernel_rfl) hPF rfl (fun w' => by (go_simp; try with_reducible rfl)) hHeld (fun hHeld => ?_)
            simp only [Act.put, List.setIfInBounds_toArray, List.set_cons_zero, List.set_cons_succ]
            refine tkB 13 (.some 95) _ _ rfl rfl (by kernel_rfl) (by kernel_rfl) (by kernel_rfl) (by kernel_rfl) hPF rfl (fun w' => by (go_simp; try with_reducible rfl)) hHeld (fun hHeld => ?_)
            simp only [Act.put, List.setIfInBounds_toArray, List.set_cons_zero, List.set_cons_succ]
            refine tkB 14 (.some 96) _ _ rfl rfl (by kernel_rfl) (by kernel_rfl) (by kernel_rfl) (by kernel_rfl) hPF rfl (fun w' => by (go_simp; try with_reducible rfl)) hHeld (fun hHeld => ?_)
            simp only [Act.put, List.setIfInBounds_toArray, List.set_cons_zero, List.set_cons_succ]
            refine tkB 15 (.some 97) _ _ rfl rfl (by kernel_rfl) (by kernel_rfl) (by kernel_rfl) (by kernel_rfl) hPF rfl (fun w' => by (go_simp; try with_reducible rfl)) hHeld (fun hHeld => ?_)
            simp only [Act.put, List.setIfInBounds_toArray, List.set_cons_zero, List.set_cons_succ]
            refine tkB 16 (.some 98) _ _ rfl rfl (by kernel_rfl) (by kernel_rfl) (by kernel_rfl) (by kernel_rfl) hPF rfl (fun w' => by (go_simp; try with_reducible rfl)) hHeld (fun hHeld => ?_)
            simp only [Act.put, List.setIfInBounds_toArray, List.set_cons_zero, List.set_cons_succ]
            refine tkB 17 (.some 99) _ _ rfl rfl (by kernel_rfl) (by kernel_rfl) (by kernel_rfl) (by kernel_rfl) hPF rfl (fun w' => by (go_simp; try with_reducible rfl)) hHeld (fun hHeld => ?_)
            simp only [Act.put, List.setIfInBounds_toArray, List.set_cons_zero, List.set_cons_succ]
            refine tkB 18 (.some 100) _ _ rfl rfl (by kernel_rfl) (by kernel_rfl) (by kernel_rfl) (by kernel_rfl) hPF rfl (fun w' => by (go_simp; try with_reducible rfl)) hHeld (fun hHeld => ?_)
            simp only [Act.put, List.setIfInBounds_toArray, List.set_cons_zero, List.set_cons_succ]
            refine tkB 19 (.some 101) _ _ rfl rfl (by kernel_rfl) (by kernel_rfl) (by kernel_rfl) (by kernel_rfl) hPF rfl (fun w' => by (go_simp; try with_reducible rfl)) hHeld (fun hHeld => ?_)
            simp only [Act.put, List.setIfInBounds_toArray, List.set_cons_zero, List.set_cons_succ]
            refine tkB 20 (.some 102) _ _ rfl rfl (by kernel_rfl) (by kernel_rfl) (by kernel_rfl) (by kernel_rfl) hPF rfl (fun w' => by (go_simp; try with_reducible rfl)) hHeld (fun hHeld => ?_)
            simp only [Act.put, List.setIfInBounds_toArray, List.set_cons_zero, List.set_cons_succ]
            refine tkB 21 (.some 103) _ _ rfl rfl (by kernel_rfl) (by kernel_rfl) (by kernel_rfl) (by kernel_rfl) hPF rfl (fun w' => by (go_simp; try with_reducible rfl)) hHeld (fun hHeld => ?_)
            simp only [Act.put, List.setIfInBounds_toArray, List.set_cons_zero, List.set_cons_succ]
            refine tkB 22 (.some 104) _ _ rfl rfl (by kernel_rfl) (by kernel_rfl) (by kernel_rfl) (by kernel_rfl) hPF rfl (fun w' => by (go_simp; try with_reducible rfl)) hHeld (fun hHeld => ?_)
            simp only [Act.put, List.setIfInBounds_toArray, List.set_cons_zero, List.set_cons_succ]
            refine tkA 23 (.some 105) _ _ rfl rfl (by kernel_rfl) (by kernel_rfl) (by kernel_rfl) (by kernel_rfl) (by kernel_rfl) hPF rfl (fun w' hw' => by (have h1 := (h0.below hw' h0.lt).cell 33; rw [(kc10_at _ _ _ _ hK).2.1] at h1; go_simp; try with_reducible rfl)) hHeld (fun hHeld => ?_)
            simp only [Act.put, List.setIfInBounds_toArray, List.set_cons_zero, List.set_cons_succ]
            refine tkL 25 (.some 107) _ rfl rfl 36 (.tmp 12) rfl sb 0 (bys c) _ (by kernel_rfl) (by kernel_rfl) (by kernel_rfl) (by kernel_rfl) (by kernel_rfl) hPF rfl rfl (fun w' hw' => (hA10.below hw' hA10.lt).whole) under54 rfl hsc hHeld (fun hHeld => ?_)
            simp only [Act.put, List.setIfInBounds_toArray, List.set_cons_zero, List.set_cons_succ]
            have hS := hHeld (by kernel_rfl)
            refine tkW (rs := [24]) (by kernel_rfl) (by simp) (AllK.cons (o := _) rfl (fun KC hKC => ?_) AllK.nil)
            go_simp
            refine (first_any _ kb (rkK K long) (hKA.below hS) Hrl.out pi l ci iv (hi0.below hS) Hl.out (by omega)).mono ?_
            rw [HEe.out, Hce.out]
            rintro e w12 ⟨rfl, hB12⟩
            have hS := hS.trans (hB12.mono hS.size)
            clear hB12
            refine hKC.out _ _ (hS) (fun hHeld => ?_)
            clear hKC KC
            try simp only [Act.put, List.setIfInBounds_toArray, List.set_cons_zero, List.set_cons_succ]
            refine tkA 26 (.some 108) _ _ rfl rfl (by kernel_rfl) (by kernel_rfl) (by kernel_rfl) (by kernel_rfl) (by kernel_rfl) hPF rfl (fun w' hw' => by (have h1 := Heq.out w'; go_simp; try with_reducible rfl)) hHeld (fun hHeld => ?_)
            simp only [Act.put, List.setIfInBounds_toArray, List.set_cons_zero, List.set_cons_succ]
            refine tkB 27 (.some 109) _ _ rfl rfl (by kernel_rfl) (by kernel_rfl) (by kernel_rfl) (by kernel_rfl) hPF rfl (fun w' => by (go_simp; try with_reducible rfl)) hHeld (fun hHeld => ?_)
            simp only [Act.put, List.setIfInBounds_toArray, List.set_cons_zero, List.set_cons_succ]
            refine tkB 28 (.some 110) _ _ rfl rfl (by kernel_rfl) (by kernel_rfl) (by kernel_rfl) (by kernel_rfl) hPF rfl (fun w' => by (go_simp; try with_reducible rfl)) hHeld (fun hHeld => ?_)
            simp only [Act.put, List.setIfInBounds_toArray, List.set_cons_zero, List.set_cons_succ]
            have hS := hHeld (by kernel_rfl)
            refine tkW (rs := [29]) (by kernel_rfl) (by simp) (AllK.cons (o := _) rfl (fun KC hKC => ?_) AllK.nil)
            go_simp
            refine (awake10_any _).mono ?_
            rintro e w13 ⟨rfl, hB13⟩
            have hS := hS.trans (hB13.mono hS.size)
            have hBe := hB.trans (hS.mono hB.size)
            clear hB13
            refine hKC.out _ _ (hS) (fun hHeld => ?_)
            clear hKC KC
            try simp only [Act.put, List.setIfInBounds_toArray, List.set_cons_zero, List.set_cons_succ]
            refine tkB 30 (.some 112) _ _ rfl rfl (by kernel_rfl) (by kernel_rfl) (by kernel_rfl) (by kernel_rfl) hPF rfl (fun w' => by (go_simp; try with_reducible rfl)) hHeld (fun hHeld => ?_)
            simp only [Act.put, List.setIfInBounds_toArray, List.set_cons_zero, List.set_cons_succ]
            refine tkB 31 (.some 4) _ _ rfl rfl (by kernel_rfl) (by kernel_rfl) (by kernel_rfl) (by kernel_rfl) hPF rfl (fun w' => by (go_simp; try with_reducible rfl)) hHeld (fun hHeld => ?_)
            simp only [Act.put, List.setIfInBounds_toArray, List.set_cons_zero, List.set_cons_succ]
            refine tkD (by kernel_rfl) ?_ _
            go_wp2_with fail
            go_ret
            exact ⟨rfl, hBe⟩
        ·
          go_simp
          have hA : Blk (World.alloc W.drew (.cells (bys z16).toArray tA16)) W.heap.size (bys z16) tA16 := Blk.new W.drew _ _
          have hsb : W.heap.size ≤ W.heap.size := hS.size
          have hBn : Below W.drew.heap.size W.drew (World.alloc W.drew (.cells (bys z16).toArray tA16)) := (Below.refl _ _).alloc (Nat.le_refl _) _
          change KC _ (World.alloc W.drew (.cells (bys z16).toArray tA16))
          have hS := hS.trans (hBn.mono hS.size)
          generalize World.alloc W.drew (.cells (bys z16).toArray tA16) = wa at *
          clear hBn
          refine hKC.out _ _ (hS) (fun hHeld => ?_)
          clear hKC KC
          try simp only [Act.put, List.setIfInBounds_toArray, List.set_cons_zero, List.set_cons_succ]
          have hS := hHeld (by kernel_rfl)
          refine tkW (rs := [3]) (by kernel_rfl) (by simp) (AllK.cons (o := _) rfl (fun KC hKC => ?_) AllK.nil)
          go_simp
          refine (bytes10_any _ K long _ _ hK).mono ?_
          rintro e w7 ⟨rfl, hb7, hB7⟩
          have hS := hS.trans (hB7.mono hS.size)
          have hA := hA.below hB7 hA.lt
          have hr7 := kc10_row hb7 (kn long) (by rw [hK]; exact Hkn.out.2.2)
          clear hb7 hB7
          refine hKC.out _ _ (hS) (fun hHeld => ?_)
          clear hKC KC
          try simp only [Act.put, List.setIfInBounds_toArray, List.set_cons_zero, List.set_cons_succ]
          have hS := hHeld (by kernel_rfl)
          refine tkW (rs := [4]) (by kernel_rfl) (by simp) (AllK.cons (o := _) rfl (fun KC hKC => ?_) AllK.nil)
          go_simp
          refine (refkeys_T HTe.out _ _ 0 (kn long) 32 (km long) (K.take (kn long)) hr7 Hkl.out Hkn.out.2.1 Hkn.out.1).mono ?_
          rintro e w8 ⟨g, cap2, ex, rfl, hG, hB8⟩
          have hS := hS.trans (hB8.mono hS.size)
          have hA := hA.below hB8 hA.lt
          have hRK : RK w8 g (km long + 7) (rkK K long) := ⟨⟨ex, hG⟩, Hrlk.out, by omega, by have := Hkn.out.2.1; omega, by rw [HEe.out]; exact HE.out⟩
          clear hr7 hG hB8
          refine hKC.out _ _ (hS) (fun hHeld => ?_)
          clear hKC KC
          try simp only [Act.put, List.setIfInBounds_toArray, List.set_cons_zero, List.set_cons_succ]
          have hS := hHeld (by kernel_rfl)
          refine tkW (rs := [7]) (by kernel_rfl) (by simp) (AllK.cons (o := _) rfl (fun KC hKC => ?_) AllK.nil)
          go_simp
          refine (reffirst_any HTe.out _ g (km long + 7) cap2 (rkK K long) hRK pi l ci iv (hi0.below hS) Hl.out hl0 (by omega)).mono ?_
          rw [HEe.out, Hce.out]
          rintro e w9 ⟨rfl, hB9⟩
          have hS := hS.trans (hB9.mono hS.size)
          have hRK := hRK.below hB9
          have hA := hA.below hB9 hA.lt
          clear hB9
          refine hKC.out _ _ (hS) (fun hHeld => ?_)
          clear hKC KC
          try simp only [Act.put, List.setIfInBounds_toArray, List.set_cons_zero, List.set_cons_succ]
          have hS := hHeld (by kernel_rfl)
          refine tkW (rs := [9]) (by kernel_rfl) (by simp) (AllK.cons (o := _) rfl (fun KC hKC => ?_) AllK.nil)
          refine wantIt rfl (wp_storeD none rfl 36 (.tmp 12) (.tmp 81) rfl W.heap.size 0 (bys c).toArray rfl rfl (hA.there 0 _ (by rw [List.size_toArray, bys_length, bys_length, Hc.out]; decide)) (by rw [size54, List.size_toArray, bys_length, Hc.out]) (all_oneCell_toArray (bys_one _)) ?_)
          have hA10 := hA.setCells (bys c) 0 (by rw [bys_length, bys_length, Hc.out]; decide)
          rw [splice_whole _ _ (by rw [bys_length, bys_length, Hc.out]; rfl)] at hA10
          have hS10 := hS.trans (((Chg.refl W.heap.size [] w9).setCells (b := W.heap.size) (.inr hsb) (bys c) 0).below (Nat.le_refl _) (by simp))
          refine hKC.out _ _ (hS10) (fun hHeld => ?_)
          clear hKC KC
          try simp only [Act.put]
          refine tkD (by kernel_rfl) ?_ _
          change Exit.then _ _ _ _ (w9.setCells W.heap.size 0 (bys c))
          generalize w9.setCells W.heap.size 0 (bys c) = W2 at *
          have h0 := h0.below hS10 h0.lt
          have hi0 := hi0.below hS10
          have ha0 := ha0.below hS10
          have hb0 := hb0.below hS10
          have hKA := hKA.below hS10
          have hrs := hrs.below hS10
          have hB := hB.trans (hS10.mono hB.size)
          clear hS10 hS hA hTT hRK
          generalize W.heap.size = sb at *
          have hS12 : Below W2.heap.size W2 W2.drew := (Below.refl _ _).drew
          obtain ⟨st, hst⟩ : ∃ z, str s = z := ⟨_, rfl⟩
          go_upto_region 12 with fail
          try simp only [Act.put]
          refine tkR (fun w' => Below W2.heap.size W2 w') [] (by kernel_rfl) (fun c a d v w h => by cases d <;> exact h) (hS12) (fun hPF hHeld => ?_)
          refine tkB 0 (.some 82) _ _ rfl rfl (by kernel_rfl) (by kernel_rfl) (by kernel_rfl) (by kernel_rfl) hPF rfl (fun w' => by (go_simp; try with_reducible rfl)) hHeld (fun hHeld => ?_)
          simp only [Act.put, List.setIfInBounds_toArray, List.set_cons_zero, List.set_cons_succ]
          refine tkA 1 (.some 83) _ _ rfl rfl (by kernel_rfl) (by kernel_rfl) (by kernel_rfl) (by kernel_rfl) (by kernel_rfl) hPF rfl (fun w' hw' => by (have h1 := str_row (n := lt) (c := cs) (hrs.below hw') Hsl1.out; rw [hst] at h1; go_simp; try with_reducible rfl)) hHeld (fun hHeld => ?_)
          simp only [Act.put, List.setIfInBounds_toArray, List.set_cons_zero, List.set_cons_succ]
          refine tkL 2 (.some 84) _ rfl rfl 55 (.tmp 2) rfl w.heap.size 0 (kc10 K long (.slice pi l ci) (.slice pa n ca)) _ (by kernel_rfl) (by kernel_rfl) (by kernel_rfl) (by kernel_rfl) (by kernel_rfl) hPF rfl rfl (fun w' hw' => (h0.below hw' h0.lt).whole) Try.underlying55 rfl hsz hHeld (fun hHeld => ?_)
          simp only [Act.put, List.setIfInBounds_toArray, List.set_cons_zero, List.set_cons_succ]
          refine tkB 4 (.some 86) _ _ rfl rfl (by kernel_rfl) (by kernel_rfl) (by kernel_rfl) (by kernel_rfl) hPF rfl (fun w' => by (go_simp; try with_reducible rfl)) hHeld (fun hHeld => ?_)
          simp only [Act.put, List.setIfInBounds_toArray, List.set_cons_zero, List.set_cons_succ]
          refine tkA 5 (.some 87) _ _ rfl rfl (by kernel_rfl) (by kernel_rfl) (by kernel_rfl) (by kernel_rfl) (by kernel_rfl) hPF rfl (fun w' hw' => by (have h1 := (h0.below hw' h0.lt).cell 33; rw [(kc10_at _ _ _ _ hK).2.1] at h1; go_simp; try with_reducible rfl)) hHeld (fun hHeld => ?_)
          simp only [Act.put, List.setIfInBounds_toArray, List.set_cons_zero, List.set_cons_succ]
          refine tkB 6 (.some 88) _ _ rfl rfl (by kernel_rfl) (by kernel_rfl) (by kernel_rfl) (by kernel_rfl) hPF rfl (fun w' => by (go_simp; try with_reducible rfl)) hHeld (fun hHeld => ?_)
          simp only [Act.put, List.setIfInBounds_toArray, List.set_cons_zero, List.set_cons_succ]
          refine tkA 7 (.some 89) _ _ rfl rfl (by kernel_rfl) (by kernel_rfl) (by kernel_rfl) (by kernel_rfl) (by kernel_rfl) hPF rfl (fun w' hw' => by (have h1 := (h0.below hw' h0.lt).cell 34; rw [(kc10_at _ _ _ _ hK).2.2] at h1; go_simp; try with_reducible rfl)) hHeld (fun hHeld => ?_)
          simp only [Act.put, List.setIfInBounds_toArray, List.set_cons_zero, List.set_cons_succ]
          refine tkB 8 (.some 90) _ _ rfl rfl (by kernel_rfl) (by kernel_rfl) (by kernel_rfl) (by kernel_rfl) hPF rfl (fun w' => by (go_simp; try with_reducible rfl)) hHeld (fun hHeld => ?_)
          simp only [Act.put, List.setIfInBounds_toArray, List.set_cons_zero, List.set_cons_succ]
          have hS := hHeld (by kernel_rfl)
          refine tkW (rs := [3]) (by kernel_rfl) (by simp) (AllK.cons (o := _) rfl (fun KC hKC => ?_) AllK.nil)
          go_simp
          refine (bytes10_any _ K long _ _ hK).mono ?_
          rintro e w10 ⟨rfl, hb10, hB10⟩
          have hr10 := kc10_row hb10 (kn long) (by rw [hK]; exact Hkn.out.2.2)
          have hS := hS.trans (hB10.mono hS.size)
          clear hb10 hB10
          refine hKC.out _ _ (hS) (fun hHeld => ?_)
          clear hKC KC
          try simp only [Act.put, List.setIfInBounds_toArray, List.set_cons_zero, List.set_cons_succ]
          have hS := hHeld (by kernel_rfl)
          refine tkW (rs := [9]) (by kernel_rfl) (by simp) (AllK.cons (o := _) rfl (fun KC hKC => ?_) AllK.nil)
          go_simp
          refine (refseal_any _ _ 0 (kn long) 32 (km long) (K.take (kn long)) hr10 Hkl.out Hkn.out.2.1 Hkn.out.1 pi l ci iv (hi0.below hS) Hl.out hl0 (by omega) pa n ca a (ha0.below hS) Hn.out (by omega) pb m cb b (hb0.below hS) Hm.out (by omega)).mono ?_
          rintro e w11 ⟨v11, rfl, hown, hB11⟩
          change OwnR _ _ _ (sealG (enc (rkK K long)) (firstF (enc (rkK K long)) iv) a b) at hown
          rw [HEe.out, Hce.out, Hs.out] at hown
          have hS := hS.trans (hB11.mono hS.size)
          obtain ⟨p9, c9, rfl, hc9, hr9⟩ := hown.row
          rw [Hsl1.out] at hc9
          try rw [Hsl1.out]
          have h0 := h0.below hS h0.lt
          have hi0 := hi0.below hS
          have hKA := hKA.below hS
          have hA10 := hA10.below hS hA10.lt
          have hB := hB.trans (hS.mono hB.size)
          clear hown hB11 hr10
          refine hKC.out _ _ (hS) (fun hHeld => ?_)
          clear hKC KC
          try simp only [Act.put, List.setIfInBounds_toArray, List.set_cons_zero, List.set_cons_succ]
          refine tkS (fun w' => Below w11.heap.size w11 w') (fun w' h => Below.trans hS (Below.mono h (Below.size hS))) (Below.refl _ _) (fun hHeld => ?_)
          refine tkA 10 (.some 92) _ _ rfl rfl (by kernel_rfl) (by kernel_rfl) (by kernel_rfl) (by kernel_rfl) (by kernel_rfl) hPF rfl (fun w' hw' => by (have h1 := str_row (n := lt) (c := c9) (hr9.below hw') Hsl1.out; rw [hst] at h1; go_simp; try with_reducible rfl)) hHeld (fun hHeld => ?_)
          simp only [Act.put, List.setIfInBounds_toArray, List.set_cons_zero, List.set_cons_succ]
          refine tkB 11 (.some 93) _ _ rfl rfl (by kernel_rfl) (by kernel_rfl) (by kernel_rfl) (by kernel_rfl) hPF rfl (fun w' => by (go_simp; try with_reducible rfl)) hHeld (fun hHeld => ?_)
          simp only [Act.put, List.setIfInBounds_toArray, List.set_cons_zero, List.set_cons_succ]
          refine tkB 12 (.some 94) _ _ rfl rfl (by kernel_rfl) (by kernel_rfl) (by kernel_rfl) (by kernel_rfl) hPF rfl (fun w' => by (go_simp; try with_reducible rfl)) hHeld (fun hHeld => ?_)
          simp only [Act.put, List.setIfInBounds_toArray, List.set_cons_zero, List.set_cons_succ]
          refine tkB 13 (.some 95) _ _ rfl rfl (by kernel_rfl) (by kernel_rfl) (by kernel_rfl) (by kernel_rfl) hPF rfl (fun w' => by (go_simp; try with_reducible rfl)) hHeld (fun hHeld => ?_)
          simp only [Act.put, List.setIfInBounds_toArray, List.set_cons_zero, List.set_cons_succ]
          refine tkB 14 (.some 96) _ _ rfl rfl (by kernel_rfl) (by kernel_rfl) (by kernel_rfl) (by kernel_rfl) hPF rfl (fun w' => by (go_simp; try with_reducible rfl)) hHeld (fun hHeld => ?_)
          simp only [Act.put, List.setIfInBounds_toArray, List.set_cons_zero, List.set_cons_succ]
          refine tkB 15 (.some 97) _ _ rfl rfl (by kernel_rfl) (by kernel_rfl) (by kernel_rfl) (by kernel_rfl) hPF rfl (fun w' => by (go_simp; try with_reducible rfl)) hHeld (fun hHeld => ?_)
          simp only [Act.put, List.setIfInBounds_toArray, List.set_cons_zero, List.set_cons_succ]
          refine tkB 16 (.some 98) _ _ rfl rfl (by kernel_rfl) (by kernel_rfl) (by kernel_rfl) (by kernel_rfl) hPF rfl (fun w' => by (go_simp; try with_reducible rfl)) hHeld (fun hHeld => ?_)
          simp only [Act.put, List.setIfInBounds_toArray, List.set_cons_zero, List.set_cons_succ]
          refine tkB 17 (.some 99) _ _ rfl rfl (by kernel_rfl) (by kernel_rfl) (by kernel_rfl) (by kernel_rfl) hPF rfl (fun w' => by (go_simp; try with_reducible rfl)) hHeld (fun hHeld => ?_)
          simp only [Act.put, List.setIfInBounds_toArray, List.set_cons_zero, List.set_cons_succ]
          refine tkB 18 (.some 100) _ _ rfl rfl (by kernel_rfl) (by kernel_rfl) (by kernel_rfl) (by kernel_rfl) hPF rfl (fun w' => by (go_simp; try with_reducible rfl)) hHeld (fun hHeld => ?_)
          simp only [Act.put, List.setIfInBounds_toArray, List.set_cons_zero, List.set_cons_succ]
          refine tkB 19 (.some 101) _ _ rfl rfl (by kernel_rfl) (by kernel_rfl) (by kernel_rfl) (by kernel_rfl) hPF rfl (fun w' => by (go_simp; try with_reducible rfl)) hHeld (fun hHeld => ?_)
          simp only [Act.put, List.setIfInBounds_toArray, List.set_cons_zero, List.set_cons_succ]
          refine tkB 20 (.some 102) _ _ rfl rfl (by kernel_rfl) (by kernel_rfl) (by kernel_rfl) (by kernel_rfl) hPF rfl (fun w' => by (go_simp; try with_reducible rfl)) hHeld (fun hHeld => ?_)
          simp only [Act.put, List.setIfInBounds_toArray, List.set_cons_zero, List.set_cons_succ]
          refine tkB 21 (.some 103) _ _ rfl rfl (by kernel_rfl) (by kernel_rfl) (by kernel_rfl) (by kernel_rfl) hPF rfl (fun w' => by (go_simp; try with_reducible rfl)) hHeld (fun hHeld => ?_)
          simp only [Act.put, List.setIfInBounds_toArray, List.set_cons_zero, List.set_cons_succ]
          refine tkB 22 (.some 104) _ _ rfl rfl (by kernel_rfl) (by kernel_rfl) (by kernel_rfl) (by kernel_rfl) hPF rfl (fun w' => by (go_simp; try with_reducible rfl)) hHeld (fun hHeld => ?_)
          simp only [Act.put, List.setIfInBounds_toArray, List.set_cons_zero, List.set_cons_succ]
          refine tkA 23 (.some 105) _ _ rfl rfl (by kernel_rfl) (by kernel_rfl) (by kernel_rfl) (by kernel_rfl) (by kernel_rfl) hPF rfl (fun w' hw' => by (have h1 := (h0.below hw' h0.lt).cell 33; rw [(kc10_at _ _ _ _ hK).2.1] at h1; go_simp; try with_reducible rfl)) hHeld (fun hHeld => ?_)
          simp only [Act.put, List.setIfInBounds_toArray, List.set_cons_zero, List.set_cons_succ]
          refine tkL 25 (.some 107) _ rfl rfl 36 (.tmp 12) rfl sb 0 (bys c) _ (by kernel_rfl) (by kernel_rfl) (by kernel_rfl) (by kernel_rfl) (by kernel_rfl) hPF rfl rfl (fun w' hw' => (hA10.below hw' hA10.lt).whole) under54 rfl hsc hHeld (fun hHeld => ?_)
          simp only [Act.put, List.setIfInBounds_toArray, List.set_cons_zero, List.set_cons_succ]
          have hS := hHeld (by kernel_rfl)
          refine tkW (rs := [24]) (by kernel_rfl) (by simp) (AllK.cons (o := _) rfl (fun KC hKC => ?_) AllK.nil)
          go_simp
          refine (first_any _ kb (rkK K long) (hKA.below hS) Hrl.out pi l ci iv (hi0.below hS) Hl.out (by omega)).mono ?_
          rw [HEe.out, Hce.out]
          rintro e w12 ⟨rfl, hB12⟩
          have hS := hS.trans (hB12.mono hS.size)
          clear hB12
          refine hKC.out _ _ (hS) (fun hHeld => ?_)
          clear hKC KC
          try simp only [Act.put, List.setIfInBounds_toArray, List.set_cons_zero, List.set_cons_succ]
          refine tkA 26 (.some 108) _ _ rfl rfl (by kernel_rfl) (by kernel_rfl) (by kernel_rfl) (by kernel_rfl) (by kernel_rfl) hPF rfl (fun w' hw' => by (have h1 := Heq.out w'; go_simp; try with_reducible rfl)) hHeld (fun hHeld => ?_)
          simp only [Act.put, List.setIfInBounds_toArray, List.set_cons_zero, List.set_cons_succ]
          refine tkB 27 (.some 109) _ _ rfl rfl (by kernel_rfl) (by kernel_rfl) (by kernel_rfl) (by kernel_rfl) hPF rfl (fun w' => by (go_simp; try with_reducible rfl)) hHeld (fun hHeld => ?_)
          simp only [Act.put, List.setIfInBounds_toArray, List.set_cons_zero, List.set_cons_succ]
          refine tkB 28 (.some 110) _ _ rfl rfl (by kernel_rfl) (by kernel_rfl) (by kernel_rfl) (by kernel_rfl) hPF rfl (fun w' => by (go_simp; try with_reducible rfl)) hHeld (fun hHeld => ?_)
          simp only [Act.put, List.setIfInBounds_toArray, List.set_cons_zero, List.set_cons_succ]
          have hS := hHeld (by kernel_rfl)
          refine tkW (rs := [29]) (by kernel_rfl) (by simp) (AllK.cons (o := _) rfl (fun KC hKC => ?_) AllK.nil)
          go_simp
          refine (awake10_any _).mono ?_
          rintro e w13 ⟨rfl, hB13⟩
          have hS := hS.trans (hB13.mono hS.size)
          have hBe := hB.trans (hS.mono hB.size)
          clear hB13
          refine hKC.out _ _ (hS) (fun hHeld => ?_)
          clear hKC KC
          try simp only [Act.put, List.setIfInBounds_toArray, List.set_cons_zero, List.set_cons_succ]
          refine tkB 30 (.some 112) _ _ rfl rfl (by kernel_rfl) (by kernel_rfl) (by kernel_rfl) (by kernel_rfl) hPF rfl (fun w' => by (go_simp; try with_reducible rfl)) hHeld (fun hHeld => ?_)
          simp only [Act.put, List.setIfInBounds_toArray, List.set_cons_zero, List.set_cons_succ]
          refine tkB 31 (.some 4) _ _ rfl rfl (by kernel_rfl) (by kernel_rfl) (by kernel_rfl) (by kernel_rfl) hPF rfl (fun w' => by (go_simp; try with_reducible rfl)) hHeld (fun hHeld => ?_)
          simp only [Act.put, List.setIfInBounds_toArray, List.set_cons_zero, List.set_cons_succ]
          refine tkD (by kernel_rfl) ?_ _
          go_wp2_with fail
          go_ret
          exact ⟨rfl, hBe⟩
  ·
    have qb0 : 100 < (m : Int) := by omega
    go_enter Try.func8, Try.ntmps8
    go_wp2_with fail
    go_ret
    exact ⟨rfl, hB0⟩
end Go.Proofs.Ytgellbapbphnlaa
