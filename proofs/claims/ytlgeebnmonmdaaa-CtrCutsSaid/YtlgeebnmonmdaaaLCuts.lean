/- ctr: CtrCuts, walked -/
import Derived.Test.YtlgeebnmonmdaaaLCrypts
namespace Go.Proofs.Ytlgeebnmonmdaaa
open Go.RowKit

theorem ksb_cut (E : List UInt8 → List UInt8) (iv : List UInt8) (q i : Nat) : ksb E iv (16 * q + i) = ksb E (cnt iv q) i := by
  unfold ksb
  rw [cnt_cnt, show (16 * q + i) / 16 = q + i / 16 by omega, show (16 * q + i) % 16 = i % 16 by omega]
theorem xk_cut (E : List UInt8 → List UInt8) (iv b : List UInt8) (q : Nat) (h : 16 * q ≤ b.length) : xk E iv 0 (b.take (16 * q)) ++ xk E (cnt iv q) 0 (b.drop (16 * q)) = xk E iv 0 b := by
  have e := xk_append E iv 0 (b.take (16 * q)) (b.drop (16 * q))
  rw [List.take_append_drop, List.length_take, Nat.min_eq_left h] at e
  rw [e]
  congr 1
  apply ext_getD
  · rw [xk_len, xk_len]
  · intro j hj
    rw [xk_len] at hj
    rw [xk_get _ _ _ _ _ hj, xk_get _ _ _ _ _ hj, Nat.zero_add, Nat.zero_add, ksb_cut]
theorem str_append (a b : List UInt8) : str a ++ str b = str (a ++ b) := by
  apply ByteArray.ext
  simp [str]

set_option maxRecDepth 100000 in
set_option maxHeartbeats 4000000 in
theorem ctrCuts_walk (K : List UInt8) (long : Bool) (IV : List UInt8) (pb : Option Addr) (n cap : Nat) (b : List UInt8) (bl : UInt8) (w : World) (hK : K.length = 32) (hI : IV.length = 16) (hb : RowAt w pb b) (hn : b.length = n) (hcap : n ≤ cap) :
    Calls Try.prog 5 #[.agg (kcells K long IV).toArray, .slice pb n cap, .int .u8 (bv bl)] w fun e w' => e = .returned (.bool true) ∧ Below w.heap.size w w' := by
  have h0 := Blk.new w (kcells K long IV) tKy8
  have hB0 : Below w.heap.size w (w.alloc (.cells (kcells K long IV).toArray tKy8)) := (Below.refl _ _).alloc (Nat.le_refl _) _
  by_cases h300 : n ≤ 300
  · have hsz : (Try.prog.info? 25).map (·.size) = some (kcells K long IV).length := by rw [sizeK8, kcells_len _ _ _ hK hI]
    have hszi : (Try.prog.info? 23).map (·.size) = some (bys IV).length := by rw [size54, bys_length, hI]
    have hb0 := hb.below hB0
    have HK := hid (kn_km long)
    have hkl : (K.take (kn long)).length = kn long := by rw [List.length_take, hK]; have := (kn_km long).2.2; omega
    have Hn := hid hn
    have hrl := rkOf_len (km long) (K.take (kn long)) (hkl.trans HK.out.1) HK.out.2.1
    have Hrl := hid hrl
    have hiv : ∀ (w' : World), Blk w' w.heap.size (kcells K long IV) tKy8 → w'.rangeAt w.heap.size 33 (bys IV) := fun w' h => kcells_iv h hK
    have Hiv := hid hiv
    obtain ⟨x, hx⟩ : ∃ x, bl.toNat % 20 = x := ⟨_, rfl⟩
    obtain ⟨y, hy⟩ : ∃ y, n / 16 = y := ⟨_, rfl⟩
    obtain ⟨q, hq⟩ : ∃ q, min x y = q := ⟨_, rfl⟩
    have ebl : bv bl = (bl.toNat : Int) := rfl
    have hx1 : bv bl % 20 = (x : Int) := by omega
    have hx2 : (bv bl).tmod 20 = (x : Int) := by rw [Int.tmod_eq_emod_of_nonneg (by omega)]; exact hx1
    have hy1 : (n : Int) / 16 = (y : Int) := by omega
    have hy2 : (n : Int).tdiv 16 = (y : Int) := by rw [Int.tdiv_eq_ediv_of_nonneg (by omega)]; exact hy1
    have hx20 : x < 20 := by omega
    have hy19 : y < 19 := by omega
    have hm : min (16 * (x : Int)) ((y : Int) * 16) = ((16 * q : Nat) : Int) := by omega
    obtain ⟨t, ht⟩ : ∃ t, 16 * q = t := ⟨_, rfl⟩
    rw [ht] at hm
    have htn : t ≤ n := by omega
    have hq20 : q < 20 := by omega
    have hd1 : (t : Int) / 16 = (q : Int) := by omega
    have hd2 : (t : Int).tdiv 16 = (q : Int) := by rw [Int.tdiv_eq_ediv_of_nonneg (by omega)]; exact hd1
    have Ht := hid ht
    have b0 := bv_lo bl
    have b1 := bv_hi bl
    clear hb hn hkl hrl hiv hx hy hq ht ebl
    go_enter Try.func5, Try.ntmps5
    go_wp2_with (refine wpList_load_mid rfl 25 (.tmp 3) rfl w.heap.size 0 rfl (kcells K long IV) _ h0.whole Try.underlying25 rfl hsz ?_)
    change Calls _ _ _ (w.alloc (.cells (kcells K long IV).toArray tKy8)) _
    generalize w.alloc (.cells (kcells K long IV).toArray tKy8) = w1 at *
    refine (keys8_any w1 K long IV hK hI).mono ?_
    rintro e w2 ⟨kb, rfl, hKA, hB2⟩
    have h0 := h0.below hB2 h0.lt
    have hb0 := hb0.below hB2
    have hB := hB0.trans (hB2.mono hB0.size)
    have hkv : KeyV w2 (some ⟨kb, 0, none⟩) (enc (rkK K long)) := .inr ⟨kb, _, rfl, hKA, rfl, Hrl.out.2⟩
    clear hB2 hB0 hKA
    have Hm := hid hm
    clear hm
    go_upto_region 6 with fail
    go_cut [9] (fun s9 wx => s9 = .int .i64 t ∧ w2 = wx)
    case first =>
      go_wp2_with fail
      all_goals
        go_meet
        refine ⟨?_, rfl⟩
        congr 1
        have := Hm.out
        omega
    case rest =>
      obtain ⟨rfl, rfl⟩ := hcut
      have htc : (t : Int) ≤ (cap : Int) := by omega
      have ht0 : 0 ≤ (t : Int) := by omega
      have htn' : (t : Int) ≤ (n : Int) := by omega
      have hqw : IntKind.u64.wrap (q : Int) = (q : Int) := by rw [IntKind.wrap_u64]; omega
      have hqw0 : IntKind.i64.wrap (q : Int) = (q : Int) := by rw [IntKind.wrap_i64]; omega
      have hq64 : q < 18446744073709551616 := by omega
      have h0 := h0.drew
      have hb0 := hb0.drew
      have hB := hB.drew
      have hkv := hkv.drew
      have hcat := xk_cut (enc (rkK K long)) IV b q (by rw [Hn.out, Ht.out]; exact htn)
      rw [Ht.out] at hcat
      obtain ⟨X, hX⟩ : ∃ X, xk (enc (rkK K long)) IV 0 (b.take t) = X := ⟨_, rfl⟩
      obtain ⟨Y, hY⟩ : ∃ Y, xk (enc (rkK K long)) (cnt IV q) 0 (b.drop t) = Y := ⟨_, rfl⟩
      obtain ⟨Z, hZ⟩ : ∃ Z, xk (enc (rkK K long)) IV 0 b = Z := ⟨_, rfl⟩
      rw [hX, hY, hZ] at hcat
      have HX := hid hX
      have HY := hid hY
      have HZ := hid hZ
      have Hcat := hid hcat
      have hct : (b.take t).length = t := by rw [List.length_take, Hn.out]; omega
      have hcd : (b.drop t).length = n - t := by rw [List.length_drop, Hn.out]
      have Hct := hid hct
      have Hcd := hid hcd
      have hXYl : X.length + Y.length ≤ 9223372036854775807 := by rw [← hX, ← hY, xk_len, xk_len, hct, hcd]; omega
      clear hX hY hZ hcat hct hcd
      go_wp2_with fail
      try simp only [Act.put]
      refine tkR (fun w' => Below w2.drew.heap.size w2.drew w') [] (by kernel_rfl) (fun c a d v w h => by cases d <;> exact h) (Below.refl _ _) (fun hPF hHeld => ?_)
      refine tkB 0 (.some 31) _ _ rfl rfl (by kernel_rfl) (by kernel_rfl) (by kernel_rfl) (by kernel_rfl) hPF rfl (fun w' => by (go_simp; try with_reducible rfl)) hHeld (fun hHeld => ?_)
      simp only [Act.put, List.setIfInBounds_toArray, List.set_cons_zero, List.set_cons_succ]
      refine tkB 1 (.some 32) _ _ rfl rfl (by kernel_rfl) (by kernel_rfl) (by kernel_rfl) (by kernel_rfl) hPF rfl (fun w' => by (go_simp; try with_reducible rfl)) hHeld (fun hHeld => ?_)
      simp only [Act.put, List.setIfInBounds_toArray, List.set_cons_zero, List.set_cons_succ]
      refine tkL 2 (.some 33) _ rfl rfl 23 (.tmp 32) rfl w.heap.size 33 (bys IV) _ (by kernel_rfl) (by kernel_rfl) (by kernel_rfl) (by kernel_rfl) (by kernel_rfl) hPF rfl rfl (fun w' hw' => Hiv.out _ (h0.below hw' h0.lt)) under54 rfl hszi hHeld (fun hHeld => ?_)
      simp only [Act.put, List.setIfInBounds_toArray, List.set_cons_zero, List.set_cons_succ]
      refine tkB 3 (.some 34) _ _ rfl rfl (by kernel_rfl) (by kernel_rfl) (by kernel_rfl) (by kernel_rfl) hPF rfl (fun w' => by (go_simp; try with_reducible rfl)) hHeld (fun hHeld => ?_)
      simp only [Act.put, List.setIfInBounds_toArray, List.set_cons_zero, List.set_cons_succ]
      refine tkB 4 (.some 35) _ _ rfl rfl (by kernel_rfl) (by kernel_rfl) (by kernel_rfl) (by kernel_rfl) hPF rfl (fun w' => by (go_simp; try with_reducible rfl)) hHeld (fun hHeld => ?_)
      simp only [Act.put, List.setIfInBounds_toArray, List.set_cons_zero, List.set_cons_succ]
      refine tkA 5 (.some 36) _ (.slice pb t cap) rfl rfl (by kernel_rfl) (by kernel_rfl) (by kernel_rfl) (by kernel_rfl) (by kernel_rfl) hPF rfl (fun w' hw' => by (go_simp)) hHeld (fun hHeld => ?_)
      simp only [Act.put, List.setIfInBounds_toArray, List.set_cons_zero, List.set_cons_succ]
      have hS := hHeld (by kernel_rfl)
      refine tkW (rs := [6]) (by kernel_rfl) (by simp) (AllK.cons (o := _) rfl (fun KC hKC => ?_) AllK.nil)
      go_simp
      (with_reducible refine (crypt_any _ _ (enc (rkK K long)) IV hkv hI pb t cap (b.take t) (hb0.take t) Hct.out (by omega) (by omega)).mono ?_)
      rintro e w3 ⟨v3, rfl, hown, hB3⟩
      have hS3 := hS.trans (hB3.mono hS.size)
      have h0 := h0.below hB3 h0.lt
      have hb0 := hb0.below hB3
      have hkv := hkv.below hB3
      have hB := hB.trans (hB3.mono hB.size)
      rw [HX.out] at hown
      obtain ⟨p3, c3, rfl, _, hr3⟩ := hown.row
      refine hKC.out _ _ (hS3) (fun hHeld => ?_)
      clear hKC KC
      try simp only [Act.put, List.setIfInBounds_toArray, List.set_cons_zero, List.set_cons_succ]
      refine tkS (fun w' => Below w3.heap.size w3 w') (fun w' h => Below.trans hS3 (Below.mono h (Below.size hS3))) (Below.refl _ _) (fun hHeld => ?_)
      refine tkB 7 (.some 10) _ _ rfl rfl (by kernel_rfl) (by kernel_rfl) (by kernel_rfl) (by kernel_rfl) hPF rfl (fun w' => by (go_simp; try with_reducible rfl)) hHeld (fun hHeld => ?_)
      simp only [Act.put, List.setIfInBounds_toArray, List.set_cons_zero, List.set_cons_succ]
      refine tkD (by kernel_rfl) ?_ _
      have h0 := h0.drew
      have hb0 := hb0.drew
      have hB := hB.drew
      have hkv := hkv.drew
      have hr3 := hr3.drew
      have hbd : ∃ pd, (∀ W, (Instr.sliceAt 26 (.slice pb n cap) (some (.int .i64 t)) none none).run Try.prog W = .ok (.slice pd (n - t) (cap - t)) W) ∧ RowAt w3.drew pd (b.drop t) := by
        refine ⟨sfrom pb cap t, fun W => ?_, sfrom_row hb0 Hn.out hcap⟩
        go_simp
        simp [sfrom]
      obtain ⟨pd, hsl, hbd⟩ := hbd
      go_wp2_with fail
      try simp only [Act.put]
      refine tkR (fun w' => Below w3.drew.heap.size w3.drew w') [] (by kernel_rfl) (fun c a d v w h => by cases d <;> exact h) (Below.refl _ _) (fun hPF hHeld => ?_)
      refine tkB 0 (.some 38) _ _ rfl rfl (by kernel_rfl) (by kernel_rfl) (by kernel_rfl) (by kernel_rfl) hPF rfl (fun w' => by (go_simp; try with_reducible rfl)) hHeld (fun hHeld => ?_)
      simp only [Act.put, List.setIfInBounds_toArray, List.set_cons_zero, List.set_cons_succ]
      refine tkB 1 (.some 39) _ _ rfl rfl (by kernel_rfl) (by kernel_rfl) (by kernel_rfl) (by kernel_rfl) hPF rfl (fun w' => by (go_simp; try with_reducible rfl)) hHeld (fun hHeld => ?_)
      simp only [Act.put, List.setIfInBounds_toArray, List.set_cons_zero, List.set_cons_succ]
      refine tkL 2 (.some 40) _ rfl rfl 23 (.tmp 39) rfl w.heap.size 33 (bys IV) _ (by kernel_rfl) (by kernel_rfl) (by kernel_rfl) (by kernel_rfl) (by kernel_rfl) hPF rfl rfl (fun w' hw' => Hiv.out _ (h0.below hw' h0.lt)) under54 rfl hszi hHeld (fun hHeld => ?_)
      simp only [Act.put, List.setIfInBounds_toArray, List.set_cons_zero, List.set_cons_succ]
      refine tkB 3 (.some 41) _ _ rfl rfl (by kernel_rfl) (by kernel_rfl) (by kernel_rfl) (by kernel_rfl) hPF rfl (fun w' => by (go_simp; try with_reducible rfl)) hHeld (fun hHeld => ?_)
      simp only [Act.put, List.setIfInBounds_toArray, List.set_cons_zero, List.set_cons_succ]
      refine tkB 4 (.some 42) _ _ rfl rfl (by kernel_rfl) (by kernel_rfl) (by kernel_rfl) (by kernel_rfl) hPF rfl (fun w' => by (go_simp; try with_reducible rfl)) hHeld (fun hHeld => ?_)
      simp only [Act.put, List.setIfInBounds_toArray, List.set_cons_zero, List.set_cons_succ]
      refine tkB 5 (.some 43) _ _ rfl rfl (by kernel_rfl) (by kernel_rfl) (by kernel_rfl) (by kernel_rfl) hPF rfl (fun w' => by (go_simp; try with_reducible rfl)) hHeld (fun hHeld => ?_)
      simp only [Act.put, List.setIfInBounds_toArray, List.set_cons_zero, List.set_cons_succ]
      refine tkB 7 (.some 45) _ _ rfl rfl (by kernel_rfl) (by kernel_rfl) (by kernel_rfl) (by kernel_rfl) hPF rfl (fun w' => by (go_simp; try with_reducible rfl)) hHeld (fun hHeld => ?_)
      simp only [Act.put, List.setIfInBounds_toArray, List.set_cons_zero, List.set_cons_succ]
      refine tkB 8 (.some 46) _ _ rfl rfl (by kernel_rfl) (by kernel_rfl) (by kernel_rfl) (by kernel_rfl) hPF rfl (fun w' => by (go_simp; try with_reducible rfl)) hHeld (fun hHeld => ?_)
      simp only [Act.put, List.setIfInBounds_toArray, List.set_cons_zero, List.set_cons_succ]
      refine tkA 9 (.some 47) _ (.slice pd (n - t) (cap - t)) rfl rfl (by kernel_rfl) (by kernel_rfl) (by kernel_rfl) (by kernel_rfl) (by kernel_rfl) hPF rfl (fun w' hw' => by (go_simp)) hHeld (fun hHeld => ?_)
      simp only [Act.put, List.setIfInBounds_toArray, List.set_cons_zero, List.set_cons_succ]
      have hS := hHeld (by kernel_rfl)
      refine tkW (rs := [6]) (by kernel_rfl) (by simp) (AllK.cons (o := _) rfl (fun KC hKC => ?_) AllK.nil)
      go_simp
      (with_reducible refine (count_any _ IV q hI hq64).mono ?_)
      rintro e w4 ⟨rfl, hB4⟩
      have hS4 := hS.trans (hB4.mono hS.size)
      have h0 := h0.below hB4 h0.lt
      have hb0 := hb0.below hB4
      have hbd := hbd.below hB4
      have hkv := hkv.below hB4
      have hr3 := hr3.below hB4
      have hB := hB.trans (hB4.mono hB.size)
      refine hKC.out _ _ (hS4) (fun hHeld => ?_)
      clear hKC KC
      try simp only [Act.put, List.setIfInBounds_toArray, List.set_cons_zero, List.set_cons_succ]
      refine tkS (fun w' => Below w4.heap.size w4 w') (fun w' h => Below.trans hS4 (Below.mono h (Below.size hS4))) (Below.refl _ _) (fun hHeld => ?_)
      have hS := hHeld (by kernel_rfl)
      refine tkW (rs := [10]) (by kernel_rfl) (by simp) (AllK.cons (o := _) rfl (fun KC hKC => ?_) AllK.nil)
      go_simp
      (with_reducible refine (crypt_any _ _ (enc (rkK K long)) (cnt IV q) hkv (cnt_len _ _) pd (n - t) (cap - t) (b.drop t) hbd Hcd.out (by omega) (by omega)).mono ?_)
      rintro e w5 ⟨v5, rfl, hown5, hB5⟩
      have hS5 := hS.trans (hB5.mono hS.size)
      have h0 := h0.below hB5 h0.lt
      have hb0 := hb0.below hB5
      have hkv := hkv.below hB5
      have hr3 := hr3.below hB5
      have hB := hB.trans (hB5.mono hB.size)
      rw [HY.out] at hown5
      obtain ⟨p5, c5, rfl, _, hr5⟩ := hown5.row
      refine hKC.out _ _ (hS5) (fun hHeld => ?_)
      clear hKC KC
      try simp only [Act.put, List.setIfInBounds_toArray, List.set_cons_zero, List.set_cons_succ]
      refine tkS (fun w' => Below w5.heap.size w5 w') (fun w' h => Below.trans hS5 (Below.mono h (Below.size hS5))) (Below.refl _ _) (fun hHeld => ?_)
      refine tkB 11 (.some 11) _ _ rfl rfl (by kernel_rfl) (by kernel_rfl) (by kernel_rfl) (by kernel_rfl) hPF rfl (fun w' => by (go_simp; try with_reducible rfl)) hHeld (fun hHeld => ?_)
      simp only [Act.put, List.setIfInBounds_toArray, List.set_cons_zero, List.set_cons_succ]
      refine tkD (by kernel_rfl) ?_ _
      have h0 := h0.drew
      have hb0 := hb0.drew
      have hB := hB.drew
      have hkv := hkv.drew
      have hr3 := hr3.drew
      have hr5 := hr5.drew
      go_wp2_with fail
      try simp only [Act.put]
      refine tkR (fun w' => Below w5.drew.heap.size w5.drew w') [] (by kernel_rfl) (fun c a d v w h => by cases d <;> exact h) (Below.refl _ _) (fun hPF hHeld => ?_)
      refine tkB 0 (.some 49) _ _ rfl rfl (by kernel_rfl) (by kernel_rfl) (by kernel_rfl) (by kernel_rfl) hPF rfl (fun w' => by (go_simp; try with_reducible rfl)) hHeld (fun hHeld => ?_)
      simp only [Act.put, List.setIfInBounds_toArray, List.set_cons_zero, List.set_cons_succ]
      refine tkA 1 (.some 50) _ _ rfl rfl (by kernel_rfl) (by kernel_rfl) (by kernel_rfl) (by kernel_rfl) (by kernel_rfl) hPF rfl (fun w' hw' => by (have h1 := str_row (n := X.length) (c := c3) (hr3.below hw') rfl; go_simp; try with_reducible rfl)) hHeld (fun hHeld => ?_)
      simp only [Act.put, List.setIfInBounds_toArray, List.set_cons_zero, List.set_cons_succ]
      refine tkB 2 (.some 51) _ _ rfl rfl (by kernel_rfl) (by kernel_rfl) (by kernel_rfl) (by kernel_rfl) hPF rfl (fun w' => by (go_simp; try with_reducible rfl)) hHeld (fun hHeld => ?_)
      simp only [Act.put, List.setIfInBounds_toArray, List.set_cons_zero, List.set_cons_succ]
      refine tkA 3 (.some 52) _ _ rfl rfl (by kernel_rfl) (by kernel_rfl) (by kernel_rfl) (by kernel_rfl) (by kernel_rfl) hPF rfl (fun w' hw' => by (have h1 := str_row (n := Y.length) (c := c5) (hr5.below hw') rfl; go_simp; try with_reducible rfl)) hHeld (fun hHeld => ?_)
      simp only [Act.put, List.setIfInBounds_toArray, List.set_cons_zero, List.set_cons_succ]
      refine tkA 4 (.some 53) _ (.string (str Z)) rfl rfl (by kernel_rfl) (by kernel_rfl) (by kernel_rfl) (by kernel_rfl) (by kernel_rfl) hPF rfl (fun w' hw' => by (have h1 := str_append X Y; rw [Hcat.out] at h1; go_simp)) hHeld (fun hHeld => ?_)
      simp only [Act.put, List.setIfInBounds_toArray, List.set_cons_zero, List.set_cons_succ]
      refine tkB 5 (.some 54) _ _ rfl rfl (by kernel_rfl) (by kernel_rfl) (by kernel_rfl) (by kernel_rfl) hPF rfl (fun w' => by (go_simp; try with_reducible rfl)) hHeld (fun hHeld => ?_)
      simp only [Act.put, List.setIfInBounds_toArray, List.set_cons_zero, List.set_cons_succ]
      refine tkB 6 (.some 55) _ _ rfl rfl (by kernel_rfl) (by kernel_rfl) (by kernel_rfl) (by kernel_rfl) hPF rfl (fun w' => by (go_simp; try with_reducible rfl)) hHeld (fun hHeld => ?_)
      simp only [Act.put, List.setIfInBounds_toArray, List.set_cons_zero, List.set_cons_succ]
      refine tkL 7 (.some 56) _ rfl rfl 23 (.tmp 55) rfl w.heap.size 33 (bys IV) _ (by kernel_rfl) (by kernel_rfl) (by kernel_rfl) (by kernel_rfl) (by kernel_rfl) hPF rfl rfl (fun w' hw' => Hiv.out _ (h0.below hw' h0.lt)) under54 rfl hszi hHeld (fun hHeld => ?_)
      simp only [Act.put, List.setIfInBounds_toArray, List.set_cons_zero, List.set_cons_succ]
      refine tkB 8 (.some 57) _ _ rfl rfl (by kernel_rfl) (by kernel_rfl) (by kernel_rfl) (by kernel_rfl) hPF rfl (fun w' => by (go_simp; try with_reducible rfl)) hHeld (fun hHeld => ?_)
      simp only [Act.put, List.setIfInBounds_toArray, List.set_cons_zero, List.set_cons_succ]
      have hS := hHeld (by kernel_rfl)
      refine tkW (rs := [9]) (by kernel_rfl) (by simp) (AllK.cons (o := _) rfl (fun KC hKC => ?_) AllK.nil)
      go_simp
      (with_reducible refine (crypt_any _ _ (enc (rkK K long)) IV hkv hI pb n cap b hb0 Hn.out hcap (by omega)).mono ?_)
      rintro e w6 ⟨v6, rfl, hown6, hB6⟩
      have hS6 := hS.trans (hB6.mono hS.size)
      have hB := hB.trans (hB6.mono hB.size)
      rw [HZ.out] at hown6
      obtain ⟨p6, c6, rfl, _, hr6⟩ := hown6.row
      refine hKC.out _ _ (hS6) (fun hHeld => ?_)
      clear hKC KC
      try simp only [Act.put, List.setIfInBounds_toArray, List.set_cons_zero, List.set_cons_succ]
      refine tkS (fun w' => Below w6.heap.size w6 w') (fun w' h => Below.trans hS6 (Below.mono h (Below.size hS6))) (Below.refl _ _) (fun hHeld => ?_)
      refine tkA 10 (.some 59) _ _ rfl rfl (by kernel_rfl) (by kernel_rfl) (by kernel_rfl) (by kernel_rfl) (by kernel_rfl) hPF rfl (fun w' hw' => by (have h1 := str_row (n := Z.length) (c := c6) (hr6.below hw') rfl; go_simp; try with_reducible rfl)) hHeld (fun hHeld => ?_)
      simp only [Act.put, List.setIfInBounds_toArray, List.set_cons_zero, List.set_cons_succ]
      refine tkA 11 (.some 60) _ (.bool true) rfl rfl (by kernel_rfl) (by kernel_rfl) (by kernel_rfl) (by kernel_rfl) (by kernel_rfl) hPF rfl (fun w' hw' => by (go_simp)) hHeld (fun hHeld => ?_)
      simp only [Act.put, List.setIfInBounds_toArray, List.set_cons_zero, List.set_cons_succ]
      refine tkB 12 (.some 61) _ _ rfl rfl (by kernel_rfl) (by kernel_rfl) (by kernel_rfl) (by kernel_rfl) hPF rfl (fun w' => by (go_simp; try with_reducible rfl)) hHeld (fun hHeld => ?_)
      simp only [Act.put, List.setIfInBounds_toArray, List.set_cons_zero, List.set_cons_succ]
      have hS := hHeld (by kernel_rfl)
      refine tkW (rs := [13]) (by kernel_rfl) (by simp) (AllK.cons (o := _) rfl (fun KC hKC => ?_) AllK.nil)
      go_simp
      (with_reducible refine (awake8_any _).mono ?_)
      rintro e w7 ⟨rfl, hB7⟩
      have hS7 := hS.trans (hB7.mono hS.size)
      have hB := hB.trans (hB7.mono hB.size)
      refine hKC.out _ _ (hS7) (fun hHeld => ?_)
      clear hKC KC
      try simp only [Act.put, List.setIfInBounds_toArray, List.set_cons_zero, List.set_cons_succ]
      refine tkS (fun w' => Below w7.heap.size w7 w') (fun w' h => Below.trans hS7 (Below.mono h (Below.size hS7))) (Below.refl _ _) (fun hHeld => ?_)
      refine tkB 14 (.some 63) _ _ rfl rfl (by kernel_rfl) (by kernel_rfl) (by kernel_rfl) (by kernel_rfl) hPF rfl (fun w' => by (go_simp; try with_reducible rfl)) hHeld (fun hHeld => ?_)
      simp only [Act.put, List.setIfInBounds_toArray, List.set_cons_zero, List.set_cons_succ]
      refine tkB 15 (.some 6) _ _ rfl rfl (by kernel_rfl) (by kernel_rfl) (by kernel_rfl) (by kernel_rfl) hPF rfl (fun w' => by (go_simp; try with_reducible rfl)) hHeld (fun hHeld => ?_)
      simp only [Act.put, List.setIfInBounds_toArray, List.set_cons_zero, List.set_cons_succ]
      refine tkD (by kernel_rfl) ?_ _
      go_wp2_with fail
      go_ret
      exact ⟨rfl, hB⟩
  ·
    go_enter Try.func5, Try.ntmps5
    go_wp2_with fail
    go_ret
    exact ⟨rfl, hB0⟩
end Go.Proofs.Ytlgeebnmonmdaaa
