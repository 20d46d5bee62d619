/- gcm: GcmTurned, walked -/
import Derived.Test.YtgellbapbphnlaaG1
namespace Go.Proofs.Ytgellbapbphnlaa
open Go.RowKit

theorem xor_ne {a v : UInt8} (h : v ≠ 0) : a ^^^ v ≠ a := fun e => h (by
  have : a ^^^ (a ^^^ v) = a ^^^ a := by rw [e]
  rwa [← UInt8.xor_assoc, UInt8.xor_self, UInt8.zero_xor] at this)
/-- A byte of the tag turned. -/
theorem open_turned (E : List UInt8 → List UInt8) (c a b : List UInt8) (hE : ∀ s : List UInt8, s.length = 16 → (E s).length = 16) (hc : c.length = 16) (u : Nat) (v : UInt8) (h1 : b.length ≤ u) (h2 : u < b.length + 16) (h3 : v ≠ 0) :
    openG E c a ((sealG E c a b).set u ((sealG E c a b).getD u 0 ^^^ v)) = none := by
  have hl := sealG_len E c a b hE hc
  obtain ⟨ht, hd⟩ := sealG_take E c a b hE hc
  obtain ⟨s, hs⟩ : ∃ s, sealG E c a b = s := ⟨_, rfl⟩
  rw [hs] at hl ht hd ⊢
  unfold openG
  rw [List.length_set, hl, Nat.add_sub_cancel, List.take_set_of_le h1, ht, ← hd, if_neg]
  intro e
  have e1 : ((s.set u (s.getD u 0 ^^^ v)).drop b.length).getD (u - b.length) 0 = (s.drop b.length).getD (u - b.length) 0 := by rw [e]
  have e2 : ((s.set u (s.getD u 0 ^^^ v)).drop b.length).getD (u - b.length) 0 = s.getD u 0 ^^^ v := by
    simp only [List.getD, List.getElem?_drop]
    rw [show b.length + (u - b.length) = u by omega, List.getElem?_set_self (by omega)]; rfl
  have e3 : (s.drop b.length).getD (u - b.length) 0 = s.getD u 0 := by
    simp only [List.getD, List.getElem?_drop]
    rw [show b.length + (u - b.length) = u by omega]
  rw [e2, e3] at e1
  exact xor_ne h3 e1
theorem shl_one (r : Nat) (h : r < 8) : ∃ v : UInt8, v ≠ 0 ∧ IntKind.u8.wrap ((2 : Int) ^ r) = bv v := by
  have : r = 0 ∨ r = 1 ∨ r = 2 ∨ r = 3 ∨ r = 4 ∨ r = 5 ∨ r = 6 ∨ r = 7 := by omega
  rcases this with rfl | rfl | rfl | rfl | rfl | rfl | rfl | rfl
  · exact ⟨1, by decide, by decide⟩
  · exact ⟨2, by decide, by decide⟩
  · exact ⟨4, by decide, by decide⟩
  · exact ⟨8, by decide, by decide⟩
  · exact ⟨16, by decide, by decide⟩
  · exact ⟨32, by decide, by decide⟩
  · exact ⟨64, by decide, by decide⟩
  · exact ⟨128, by decide, by decide⟩

set_option maxRecDepth 100000 in
set_option maxHeartbeats 4000000 in
theorem gcmTurned_walk (K : List UInt8) (long : Bool) (pi : Option Addr) (l ci : Nat) (iv : List UInt8) (pa : Option Addr) (n ca : Nat) (a : List UInt8) (pb : Option Addr) (m cb : Nat) (b : List UInt8) (y : UInt8) (w : World) (hK : K.length = 32)
    (hi : RowAt w pi iv) (hl : iv.length = l) (ha : RowAt w pa a) (hn : a.length = n) (hb : RowAt w pb b) (hm : b.length = m) :
    Calls Try.prog 12 #[.agg (kc10 K long (.slice pi l ci) (.slice pa n ca)).toArray, .slice pb m cb, .int .u8 (bv y)] w fun e w' => e = .returned (.bool true) ∧ Below w.heap.size w w' := by
  have h0 := Blk.new w (kc10 K long (.slice pi l ci) (.slice pa n ca)) tKy10
  have hB0 : Below w.heap.size w (w.alloc (.cells (kc10 K long (.slice pi l ci) (.slice pa n ca)).toArray tKy10)) := (Below.refl _ _).alloc (Nat.le_refl _) _
  by_cases hbd : m ≤ 100
  · have hsz : (Try.prog.info? 55).map (·.size) = some (kc10 K long (.slice pi l ci) (.slice pa n ca)).length := by rw [sizeK10, kc10_len _ _ _ _ hK]
    have qb0 : ¬ (100 < (m : Int)) := by omega
    have hi0 := hi.below hB0
    have Hl := hid hl
    have ha0 := ha.below hB0
    have Hn := hid hn
    have hb0 := hb.below hB0
    have Hm := hid hm
    clear hi hl ha hn hb hm
    obtain ⟨yn, hyn, hy9⟩ : ∃ yn : Nat, bv y = (yn : Int) ∧ yn < 256 := ⟨y.toNat, rfl, y.toNat_lt⟩
    obtain ⟨d, hd⟩ : ∃ d, yn % 128 = d := ⟨_, rfl⟩
    have y1 : IntKind.i64.wrap (yn : Int) = (yn : Int) := by rw [IntKind.wrap_i64]; omega
    have y2 : (yn : Int).tmod 128 = (d : Int) := by rw [Int.tmod_eq_emod_of_nonneg (by omega)]; omega
    have y3 : (yn : Int) % 128 = (d : Int) := by omega
    have y4 : 0 ≤ (d : Int) := by omega
    have y5 : (yn : Int) ≤ 255 := by omega
    have hd128 : d < 128 := by omega
    rw [hyn]
    clear hd hyn
    go_enter Try.func12, Try.ntmps12
    go_wp2_with (refine wpList_load_midG rfl 55 (.tmp 3) rfl w.heap.size 0 rfl (kc10 K long (.slice pi l ci) (.slice pa n ca)) _ h0.whole Try.underlying55 rfl hsz ?_)
    change Calls _ _ _ (w.alloc (.cells (kc10 K long (.slice pi l ci) (.slice pa n ca)).toArray tKy10)) _
    generalize w.alloc (.cells (kc10 K long (.slice pi l ci) (.slice pa n ca)).toArray tKy10) = w1 at *
    refine (short10_any w1 K long pi pa l ci n ca hK).mono ?_
    rintro e w2 ⟨rfl, hB2⟩
    have h0 := h0.below hB2 h0.lt
    have hi0 := hi0.below hB2
    have ha0 := ha0.below hB2
    have hb0 := hb0.below hB2
    have hB := hB0.trans (hB2.mono hB0.size)
    obtain ⟨sh, hsh⟩ : ∃ z, decide (l ≤ 100 ∧ n ≤ 100) = z := ⟨_, rfl⟩
    rw [hsh]
    clear hB2 hB0
    have c33 := h0.cell 33
    have c34 := h0.cell 34
    rw [(kc10_at _ _ _ _ hK).2.1] at c33
    rw [(kc10_at _ _ _ _ hK).2.2] at c34
    cases sh with
    | false =>
      clear hsh
      go_wp2_with fail
      go_ret
      exact ⟨rfl, hB⟩
    | true =>
      obtain ⟨hl100, hn100⟩ : l ≤ 100 ∧ n ≤ 100 := of_decide_eq_true hsh
      clear hsh
      by_cases hl0 : l = 0
      · subst hl0
        go_wp2_with fail
        go_ret
        exact ⟨rfl, hB⟩
      · have q2 : ((l : Int) == 0) = false := by rw [beq_eq_false_iff_ne]; omega
        go_wp2_with (refine wpList_load_mid rfl 55 (.tmp 3) rfl w.heap.size 0 rfl (kc10 K long (.slice pi l ci) (.slice pa n ca)) _ h0.whole Try.underlying55 rfl hsz ?_)
        refine (keys10_any w2 K long _ _ hK).mono ?_
        rintro e w3 ⟨kb, rfl, hKA, hB3⟩
        have h0 := h0.below hB3 h0.lt
        have hi0 := hi0.below hB3
        have ha0 := ha0.below hB3
        have hb0 := hb0.below hB3
        have hB := hB.trans (hB3.mono hB.size)
        have c33 := h0.cell 33
        have c34 := h0.cell 34
        rw [(kc10_at _ _ _ _ hK).2.1] at c33
        rw [(kc10_at _ _ _ _ hK).2.2] at c34
        obtain ⟨hrl, hE⟩ := enc_rkK K long hK
        have Hrl := hid hrl
        obtain ⟨E, hEe⟩ : ∃ E, enc (rkK K long) = E := ⟨_, rfl⟩
        rw [hEe] at hE
        have hc := firstF_len E iv
        obtain ⟨c, hce⟩ : ∃ c, firstF E iv = c := ⟨_, rfl⟩
        rw [hce] at hc
        have HE := hid hE
        have HEe := hid hEe
        have Hce := hid hce
        have Hc := hid hc
        clear hrl hE hEe hce hc hB3
        have hsl1 := sealG_len E c a b HE.out Hc.out
        have hos := open_seal E c a b HE.out Hc.out
        have hot := fun u v h1 h2 h3 => open_turned E c a b HE.out Hc.out u v h1 h2 h3
        rw [Hm.out] at hsl1 hot
        obtain ⟨s, hs⟩ : ∃ s, sealG E c a b = s := ⟨_, rfl⟩
        rw [hs] at hsl1 hos hot
        have Hs := hid hs
        have Hos := hid hos
        have Hot := hid hot
        obtain ⟨lt, hlt⟩ : ∃ lt, m + 16 = lt := ⟨_, rfl⟩
        rw [hlt] at hsl1
        have Hsl1 := hid hsl1
        have Hlt := hid hlt
        have q5 : (m : Int) + 16 = (lt : Int) := by omega
        have q6 : (lt : Int) ≤ 1000000000 := by omega
        have q7 : 0 ≤ (lt : Int) := by omega
        have lt9 : lt < 1000000 := by omega
        have lt16 : ¬ lt < 16 := by omega
        clear hs hos hot hsl1 hlt
        go_wp2_with fail
        refine (gseal_any w3 kb (rkK K long) hKA Hrl.out pi l ci iv hi0 Hl.out (by omega) hl0 pa n ca a ha0 Hn.out (by omega) pb m cb b hb0 Hm.out (by omega)).mono ?_
        rw [HEe.out, Hce.out, Hs.out]
        rintro e w4 ⟨v, rfl, hown, hB4⟩
        have h0 := h0.below hB4 h0.lt
        have hi0 := hi0.below hB4
        have ha0 := ha0.below hB4
        have hb0 := hb0.below hB4
        have hKA := hKA.below hB4
        have hB := hB.trans (hB4.mono hB.size)
        obtain ⟨ps, cs, rfl, hcs, hrs⟩ := hown.row
        rw [Hsl1.out] at hcs ⊢
        have hrm := hrs.below ((Below.refl w4.heap.size w4).alloc (Nat.le_refl _) (.cells #[] 5))
        clear hown hB4 c33 c34
        go_wp2_with (refine wpList_addO (OwnR.made w4) rfl (.tmp 58) (.tmp 59) rfl rfl ps lt cs s rfl hrm Hsl1.out (by simp; omega) (by simp) ?_; intro v5 w5 hown5 hgrow5 _)
        have hS5 : Below w4.heap.size w4 w5 := ((Below.refl _ _).alloc (Nat.le_refl _) _).grown hgrow5 (by simp) (fun j e => ((OwnR.made w4).lt j e).1)
        rw [List.nil_append] at hown5
        obtain ⟨g, cg, rest, rfl, hcg, hg, hgb⟩ := hown5.blk (by rw [Hsl1.out]; omega)
        rw [Hsl1.out] at hcg ⊢
        clear hgrow5 hown5 hrm
        obtain ⟨q, hq⟩ : ∃ q, d / 8 = q := ⟨_, rfl⟩
        obtain ⟨r, hr⟩ : ∃ r, d % 8 = r := ⟨_, rfl⟩
        obtain ⟨u, hu⟩ : ∃ u, m + q = u := ⟨_, rfl⟩
        have d1 : (d : Int).tdiv 8 = (q : Int) := by rw [Int.tdiv_eq_ediv_of_nonneg (by omega)]; omega
        have d2 : (d : Int) / 8 = (q : Int) := by omega
        have d3 : (d : Int).tmod 8 = (r : Int) := by rw [Int.tmod_eq_emod_of_nonneg (by omega)]; omega
        have d4 : (d : Int) % 8 = (r : Int) := by omega
        have d5 : (m : Int) + (q : Int) = (u : Int) := by omega
        have d6 : IntKind.i64.wrap (u : Int) = (u : Int) := by rw [IntKind.wrap_i64]; omega
        have d7 : IntKind.i64.wrap (q : Int) = (q : Int) := by rw [IntKind.wrap_i64]; omega
        have hult : u < lt := by have := Hlt.out; omega
        have d8 : (u : Int) < (lt : Int) := by omega
        have d9 : 0 ≤ (u : Int) := by omega
        have hmu : m ≤ u := by omega
        have hr8 : r < 8 := by omega
        obtain ⟨v, hv0, hv⟩ := shl_one r hr8
        have hc5 := hgb.headCell u (by rw [Hsl1.out]; exact hult)
        have hf5 := hgb.frozen u
        have hgs : Blk (w5.setCell ⟨g, u, none⟩ (.int .u8 (bv (s.getD u 0 ^^^ v)))) g (bys (s.set u (s.getD u 0 ^^^ v)) ++ rest) tU8 := by
          have := hgb.set u (.int .u8 (bv (s.getD u 0 ^^^ v)))
          rw [bys_setAt _ _ _ _ (by rw [Hsl1.out]; exact hult)] at this
          exact this
        have hnone := Hot.out u v hmu (by have := Hlt.out; omega) hv0
        have htl : (s.set u (s.getD u 0 ^^^ v)).length = lt := by rw [List.length_set, Hsl1.out]
        have hS6 : Below w4.heap.size w4 (w5.setCell ⟨g, u, none⟩ (.int .u8 (bv (s.getD u 0 ^^^ v)))) := hS5.trans (((Chg.refl w4.heap.size [] w5).setCell (p := ⟨g, u, none⟩) (.inr hg) _).below (Nat.le_refl _) (by simp))
        obtain ⟨t, ht⟩ : ∃ t, s.set u (s.getD u 0 ^^^ v) = t := ⟨_, rfl⟩
        rw [ht] at hgs hnone htl
        generalize s.getD u 0 = x0 at *
        have Hnone := hid hnone
        have Htl := hid htl
        have Hgs := hid hgs
        have HS6 := hid hS6
        clear hq hr hu ht hnone htl hgs hS5 hS6 hgb
        go_upto_region 11 with fail
        try simp only [Act.put]
        refine tkR (fun w' => w'.cell? ⟨g, u, none⟩ = some (.int .u8 (bv x0))) [13] (by kernel_rfl) (fun c a d v w h => by cases d <;> exact h) (hc5) (fun hPF hHeld => ?_)
        refine tkB 0 (.some 64) _ _ rfl rfl (by kernel_rfl) (by kernel_rfl) (by kernel_rfl) (by kernel_rfl) hPF rfl (fun w' => by (go_simp; try with_reducible rfl)) hHeld (fun hHeld => ?_)
        simp only [Act.put, List.setIfInBounds_toArray, List.set_cons_zero, List.set_cons_succ]
        refine tkB 1 (.some 65) _ _ rfl rfl (by kernel_rfl) (by kernel_rfl) (by kernel_rfl) (by kernel_rfl) hPF rfl (fun w' => by (go_simp; try with_reducible rfl)) hHeld (fun hHeld => ?_)
        simp only [Act.put, List.setIfInBounds_toArray, List.set_cons_zero, List.set_cons_succ]
        refine tkB 2 (.some 66) _ _ rfl rfl (by kernel_rfl) (by kernel_rfl) (by kernel_rfl) (by kernel_rfl) hPF rfl (fun w' => by (go_simp; try with_reducible rfl)) hHeld (fun hHeld => ?_)
        simp only [Act.put, List.setIfInBounds_toArray, List.set_cons_zero, List.set_cons_succ]
        refine tkB 3 (.some 67) _ _ rfl rfl (by kernel_rfl) (by kernel_rfl) (by kernel_rfl) (by kernel_rfl) hPF rfl (fun w' => by (go_simp; try with_reducible rfl)) hHeld (fun hHeld => ?_)
        simp only [Act.put, List.setIfInBounds_toArray, List.set_cons_zero, List.set_cons_succ]
        refine tkB 4 (.some 68) _ _ rfl rfl (by kernel_rfl) (by kernel_rfl) (by kernel_rfl) (by kernel_rfl) hPF rfl (fun w' => by (go_simp; try with_reducible rfl)) hHeld (fun hHeld => ?_)
        simp only [Act.put, List.setIfInBounds_toArray, List.set_cons_zero, List.set_cons_succ]
        refine tkB 5 (.some 69) _ _ rfl rfl (by kernel_rfl) (by kernel_rfl) (by kernel_rfl) (by kernel_rfl) hPF rfl (fun w' => by (go_simp; try with_reducible rfl)) hHeld (fun hHeld => ?_)
        simp only [Act.put, List.setIfInBounds_toArray, List.set_cons_zero, List.set_cons_succ]
        refine tkB 6 (.some 70) _ _ rfl rfl (by kernel_rfl) (by kernel_rfl) (by kernel_rfl) (by kernel_rfl) hPF rfl (fun w' => by (go_simp; try with_reducible rfl)) hHeld (fun hHeld => ?_)
        simp only [Act.put, List.setIfInBounds_toArray, List.set_cons_zero, List.set_cons_succ]
        refine tkA 7 (.some 71) _ _ rfl rfl (by kernel_rfl) (by kernel_rfl) (by kernel_rfl) (by kernel_rfl) (by kernel_rfl) hPF rfl (fun w' hw' => by (have h1 := hw'; go_simp; try with_reducible rfl)) hHeld (fun hHeld => ?_)
        simp only [Act.put, List.setIfInBounds_toArray, List.set_cons_zero, List.set_cons_succ]
        refine tkB 8 (.some 72) _ _ rfl rfl (by kernel_rfl) (by kernel_rfl) (by kernel_rfl) (by kernel_rfl) hPF rfl (fun w' => by (go_simp; try with_reducible rfl)) hHeld (fun hHeld => ?_)
        simp only [Act.put, List.setIfInBounds_toArray, List.set_cons_zero, List.set_cons_succ]
        refine tkB 9 (.some 73) _ _ rfl rfl (by kernel_rfl) (by kernel_rfl) (by kernel_rfl) (by kernel_rfl) hPF rfl (fun w' => by (go_simp; try with_reducible rfl)) hHeld (fun hHeld => ?_)
        simp only [Act.put, List.setIfInBounds_toArray, List.set_cons_zero, List.set_cons_succ]
        refine tkB 10 (.some 74) _ _ rfl rfl (by kernel_rfl) (by kernel_rfl) (by kernel_rfl) (by kernel_rfl) hPF rfl (fun w' => by (go_simp; try with_reducible rfl)) hHeld (fun hHeld => ?_)
        simp only [Act.put, List.setIfInBounds_toArray, List.set_cons_zero, List.set_cons_succ]
        refine tkB 11 (.some 75) _ _ rfl rfl (by kernel_rfl) (by kernel_rfl) (by kernel_rfl) (by kernel_rfl) hPF rfl (fun w' => by (go_simp; try with_reducible rfl)) hHeld (fun hHeld => ?_)
        simp only [Act.put, List.setIfInBounds_toArray, List.set_cons_zero, List.set_cons_succ]
        refine tkB 12 (.some 76) _ _ rfl rfl (by kernel_rfl) (by kernel_rfl) (by kernel_rfl) (by kernel_rfl) hPF rfl (fun w' => by (go_simp; try with_reducible rfl)) hHeld (fun hHeld => ?_)
        simp only [Act.put, List.setIfInBounds_toArray, List.set_cons_zero, List.set_cons_succ]
        refine tkW (rs := [13]) (by kernel_rfl) (by simp) (AllK.close (o := _) rfl (by kernel_rfl) (fun KC hKC => ?_) AllK.nil)
        go_simp
        refine hKC.out _ _ (fun hHeld => ?_)
        clear hKC KC
        try simp only [Act.put]
        refine tkD (by kernel_rfl) ?_ _
        have hS6 := HS6.out.drew
        have hrt := (Hgs.out.drew).headRow
        have h0 := h0.below hS6 h0.lt
        have hi0 := hi0.below hS6
        have ha0 := ha0.below hS6
        have hb0 := hb0.below hS6
        have hKA := hKA.below hS6
        have hrs := hrs.below hS6
        have hB := hB.trans (hS6.mono hB.size)
        change Exit.then _ _ _ _ (w5.setCell ⟨g, u, none⟩ (.int .u8 (bv (x0 ^^^ v)))).drew
        generalize (w5.setCell ⟨g, u, none⟩ (.int .u8 (bv (x0 ^^^ v)))).drew = W at *
        have c33 := h0.cell 33
        have c34 := h0.cell 34
        rw [(kc10_at _ _ _ _ hK).2.1] at c33
        rw [(kc10_at _ _ _ _ hK).2.2] at c34
        clear hS6 hHeld hPF hc5 hf5
        go_wp2_with fail
        refine (gopen_any W kb (rkK K long) hKA Hrl.out pi l ci iv hi0 Hl.out (by omega) hl0 pa n ca a ha0 Hn.out (by omega) (some ⟨g, 0, none⟩) lt cg t hrt Htl.out lt9 hcg).mono ?_
        rw [HEe.out, Hce.out, Hnone.out]
        rintro e w6 ⟨v, er, rfl, hA, hB6⟩
        unfold OpenA at hA
        rw [if_neg (by rw [Htl.out]; exact lt16)] at hA
        obtain ⟨rfl, rfl⟩ := hA
        have h0 := h0.below hB6 h0.lt
        have hi0 := hi0.below hB6
        have ha0 := ha0.below hB6
        have hb0 := hb0.below hB6
        have hKA := hKA.below hB6
        have hrs := hrs.below hB6
        have hB := hB.trans (hB6.mono hB.size)
        have c33 := h0.cell 33
        have c34 := h0.cell 34
        rw [(kc10_at _ _ _ _ hK).2.1] at c33
        rw [(kc10_at _ _ _ _ hK).2.2] at c34
        clear hB6 hrt
        go_wp2_with fail
        refine (gopen_any w6 kb (rkK K long) hKA Hrl.out pi l ci iv hi0 Hl.out (by omega) hl0 pa n ca a ha0 Hn.out (by omega) ps lt cs s hrs Hsl1.out lt9 hcs).mono ?_
        rw [HEe.out, Hce.out, Hos.out]
        rintro e w7 ⟨v, er, rfl, hA, hB7⟩
        have hb0 := hb0.below hB7
        have hB := hB.trans (hB7.mono hB.size)
        unfold OpenA at hA
        rw [if_neg (by rw [Hsl1.out]; exact lt16)] at hA
        obtain ⟨rfl, hown⟩ := hA
        obtain ⟨px, cx, rfl, hcx, hrx⟩ := hown.row
        rw [Hm.out]
        have s1 := str_row (n := m) (c := cx) hrx Hm.out
        have s2 := str_row (n := m) (c := cb) hb0 Hm.out
        obtain ⟨st, hst⟩ : ∃ s, str b = s := ⟨_, rfl⟩
        rw [hst] at s1 s2
        clear hown hrx hst hB7 hKA h0 c33 c34
        go_wp2_with fail
        refine (awake10_any _).mono ?_
        rintro e w7 ⟨rfl, hB7⟩
        go_wp2_with fail
        go_ret
        exact ⟨rfl, hB.trans (hB7.mono hB.size)⟩
  ·
    have qb0 : 100 < (m : Int) := by omega
    go_enter Try.func12, Try.ntmps12
    go_wp2_with fail
    go_ret
    exact ⟨rfl, hB0⟩
end Go.Proofs.Ytgellbapbphnlaa
