/- cbc: CbcSeals, walked -/
import Derived.Test.YtlgeebnmonmdaaaK9
import Derived.Test.YtlgeebnmonmdaaaSl
import Derived.Test.YtlgeebnmonmdaaaRs
import Derived.Test.YtlgeebnmonmdaaaApp
import Derived.Deep.DeepCutAuto
namespace Go.Proofs.Ytlgeebnmonmdaaa
open Go.RowKit

set_option maxRecDepth 100000 in
set_option maxHeartbeats 4000000 in
theorem cbcSeals_walk (K : List UInt8) (long : Bool) (IV : List UInt8) (pb : Option Addr) (n cap : Nat) (b : List UInt8) (w : World) (hK : K.length = 32) (hI : IV.length = 16) (hb : RowAt w pb b) (hn : b.length = n) (hcap : n ≤ cap) :
    Calls Try.prog 9 #[.agg (kcells K long IV).toArray, .slice pb n cap] w fun e w' => e = .returned (.bool true) ∧ Below w.heap.size w w' := by
  have h0 := Blk.new w (kcells K long IV) tKy9
  have hB0 : Below w.heap.size w (w.alloc (.cells (kcells K long IV).toArray tKy9)) := (Below.refl _ _).alloc (Nat.le_refl _) _
  by_cases h100 : n ≤ 100
  · have hsz : (Try.prog.info? 48).map (·.size) = some (kcells K long IV).length := by rw [sizeK9, kcells_len _ _ _ hK hI]
    have hszi : (Try.prog.info? 23).map (·.size) = some (bys IV).length := by rw [size54, bys_length, hI]
    have hb0 := hb.below hB0
    have HK := hid (kn_km long)
    have hkl : (K.take (kn long)).length = kn long := by rw [List.length_take, hK]; have := (kn_km long).2.2; omega
    have Hkl := hid hkl
    have Hn := hid hn
    have hrl := rkOf_len (km long) (K.take (kn long)) (hkl.trans HK.out.1) HK.out.2.1
    have Hrl := hid hrl
    have hiv : ∀ (w' : World), Blk w' w.heap.size (kcells K long IV) tKy9 → w'.rangeAt w.heap.size 33 (bys IV) := fun w' h => kcells_iv h hK
    have Hiv := hid hiv
    clear hb hn hkl hrl hiv
    go_enter Try.func9, Try.ntmps9
    go_wp2_with (refine wpList_load_mid rfl 48 (.tmp 2) rfl w.heap.size 0 rfl (kcells K long IV) _ h0.whole Try.underlying48 rfl hsz ?_)
    change Calls _ _ _ (w.alloc (.cells (kcells K long IV).toArray tKy9)) _
    generalize w.alloc (.cells (kcells K long IV).toArray tKy9) = w1 at *
    refine (keys9_any w1 K long IV hK hI).mono ?_
    rintro e w2 ⟨kb, rfl, hKA, hB2⟩
    have h0 := (h0.below hB2 h0.lt).drew
    have hb0 := (hb0.below hB2).drew
    have hB := (hB0.trans (hB2.mono hB0.size)).drew
    have hKA := hKA.drew
    clear hB2 hB0
    obtain ⟨s6, hs6⟩ : ∃ s, str b = s := ⟨_, rfl⟩
    go_wp2_with fail
    try simp only [Act.put]
    refine tkR (fun w' => Below w2.drew.heap.size w2.drew w') [] (by kernel_rfl) (fun c a d v w h => by cases d <;> exact h) (Below.refl _ _) (fun hPF hHeld => ?_)
    refine tkB 0 (.some 17) _ _ rfl rfl (by kernel_rfl) (by kernel_rfl) (by kernel_rfl) (by kernel_rfl) hPF rfl (fun w' => by (go_simp; try with_reducible rfl)) hHeld (fun hHeld => ?_)
    simp only [Act.put, List.setIfInBounds_toArray, List.set_cons_zero, List.set_cons_succ]
    refine tkB 1 (.some 18) _ _ rfl rfl (by kernel_rfl) (by kernel_rfl) (by kernel_rfl) (by kernel_rfl) hPF rfl (fun w' => by (go_simp; try with_reducible rfl)) hHeld (fun hHeld => ?_)
    simp only [Act.put, List.setIfInBounds_toArray, List.set_cons_zero, List.set_cons_succ]
    refine tkL 2 (.some 19) _ rfl rfl 23 (.tmp 18) rfl w.heap.size 33 (bys IV) _ (by kernel_rfl) (by kernel_rfl) (by kernel_rfl) (by kernel_rfl) (by kernel_rfl) hPF rfl rfl (fun w' hw' => Hiv.out _ (h0.below hw' h0.lt)) under54 rfl hszi hHeld (fun hHeld => ?_)
    simp only [Act.put, List.setIfInBounds_toArray, List.set_cons_zero, List.set_cons_succ]
    refine tkB 3 (.some 20) _ _ rfl rfl (by kernel_rfl) (by kernel_rfl) (by kernel_rfl) (by kernel_rfl) hPF rfl (fun w' => by (go_simp; try with_reducible rfl)) hHeld (fun hHeld => ?_)
    simp only [Act.put, List.setIfInBounds_toArray, List.set_cons_zero, List.set_cons_succ]
    refine tkL 6 (.some 23) _ rfl rfl 48 (.tmp 2) rfl w.heap.size 0 (kcells K long IV) _ (by kernel_rfl) (by kernel_rfl) (by kernel_rfl) (by kernel_rfl) (by kernel_rfl) hPF rfl rfl (fun w' hw' => (h0.below hw' h0.lt).whole) Try.underlying48 rfl hsz hHeld (fun hHeld => ?_)
    simp only [Act.put, List.setIfInBounds_toArray, List.set_cons_zero, List.set_cons_succ]
    refine tkB 8 (.some 25) _ _ rfl rfl (by kernel_rfl) (by kernel_rfl) (by kernel_rfl) (by kernel_rfl) hPF rfl (fun w' => by (go_simp; try with_reducible rfl)) hHeld (fun hHeld => ?_)
    simp only [Act.put, List.setIfInBounds_toArray, List.set_cons_zero, List.set_cons_succ]
    refine tkL 9 (.some 26) _ rfl rfl 23 (.tmp 25) rfl w.heap.size 33 (bys IV) _ (by kernel_rfl) (by kernel_rfl) (by kernel_rfl) (by kernel_rfl) (by kernel_rfl) hPF rfl rfl (fun w' hw' => Hiv.out _ (h0.below hw' h0.lt)) under54 rfl hszi hHeld (fun hHeld => ?_)
    simp only [Act.put, List.setIfInBounds_toArray, List.set_cons_zero, List.set_cons_succ]
    refine tkB 10 (.some 27) _ _ rfl rfl (by kernel_rfl) (by kernel_rfl) (by kernel_rfl) (by kernel_rfl) hPF rfl (fun w' => by (go_simp; try with_reducible rfl)) hHeld (fun hHeld => ?_)
    simp only [Act.put, List.setIfInBounds_toArray, List.set_cons_zero, List.set_cons_succ]
    have hS := hHeld (by kernel_rfl)
    refine tkW (rs := [4]) (by kernel_rfl) (by simp) (AllK.cons (o := _) rfl (fun KC hKC => ?_) AllK.nil)
    go_simp
    have hkv : KeyV w2.drew (some ⟨kb, 0, none⟩) (enc (rkK K long)) := .inr ⟨kb, _, rfl, hKA, rfl, Hrl.out.2⟩
    (with_reducible refine (seal_any _ _ (enc (rkK K long)) IV hkv hI pb n cap b hb0 Hn.out hcap (by omega)).mono ?_)
    rintro e w3 ⟨v3, rfl, hown, hB3⟩
    have hS3 := hS.trans (hB3.mono hS.size)
    have h0 := h0.below hB3 h0.lt
    have hb0 := hb0.below hB3
    have hB := hB.trans (hB3.mono hB.size)
    obtain ⟨p3, c3, rfl, _, hr3⟩ := hown.row
    obtain ⟨y3, hy3⟩ : ∃ y, sealF (enc (rkK K long)) IV (b ++ padF n) (n / 16 + 1) = y := ⟨_, rfl⟩
    rw [hy3] at hr3 ⊢
    obtain ⟨s3, hs3⟩ : ∃ s, str y3 = s := ⟨_, rfl⟩
    obtain ⟨n3, hl3⟩ : ∃ n3, y3.length = n3 := ⟨_, rfl⟩
    rw [hl3]
    refine hKC.out _ _ (hS3) (fun hHeld => ?_)
    clear hKC KC
    try simp only [Act.put, List.setIfInBounds_toArray, List.set_cons_zero, List.set_cons_succ]
    refine tkS (fun w' => Below w3.heap.size w3 w') (fun w' h => Below.trans hS3 (Below.mono h (Below.size hS3))) (Below.refl _ _) (fun hHeld => ?_)
    refine tkA 5 (.some 22) _ _ rfl rfl (by kernel_rfl) (by kernel_rfl) (by kernel_rfl) (by kernel_rfl) (by kernel_rfl) hPF rfl (fun w' hw' => by (have h1 := str_row (n := n3) (c := c3) (hr3.below hw') hl3; rw [hs3] at h1; go_simp; try with_reducible rfl)) hHeld (fun hHeld => ?_)
    simp only [Act.put, List.setIfInBounds_toArray, List.set_cons_zero, List.set_cons_succ]
    have hS := hHeld (by kernel_rfl)
    refine tkW (rs := [7]) (by kernel_rfl) (by simp) (AllK.cons (o := _) rfl (fun KC hKC => ?_) AllK.nil)
    go_simp
    (with_reducible refine (bytes9_any w3 K long IV hK).mono ?_)
    rintro e w4 ⟨rfl, hkb, hB4⟩
    have hS4 := hS.trans (hB4.mono hS.size)
    have h0 := h0.below hB4 h0.lt
    have hb0 := hb0.below hB4
    have hB := hB.trans (hB4.mono hB.size)
    have hrk := kcells_row hkb (kn long) (by rw [hK]; exact HK.out.2.2)
    refine hKC.out _ _ (hS4) (fun hHeld => ?_)
    clear hKC KC
    try simp only [Act.put, List.setIfInBounds_toArray, List.set_cons_zero, List.set_cons_succ]
    refine tkS (fun w' => Below w4.heap.size w4 w') (fun w' h => Below.trans hS4 (Below.mono h (Below.size hS4))) (Below.refl _ _) (fun hHeld => ?_)
    have hS := hHeld (by kernel_rfl)
    refine tkW (rs := [11]) (by kernel_rfl) (by simp) (AllK.cons (o := _) rfl (fun KC hKC => ?_) AllK.nil)
    go_simp
    (with_reducible refine (refseal_any w4 _ (kn long) 32 (km long) (K.take (kn long)) IV pb n cap b hrk Hkl.out HK.out.2.1 HK.out.1 hI hb0 Hn.out (by omega)).mono ?_)
    rintro e w5 ⟨v5, rfl, hown5, hB5⟩
    have hS5 := hS.trans (hB5.mono hS.size)
    have h0 := h0.below hB5 h0.lt
    have hb0 := hb0.below hB5
    have hB := hB.trans (hB5.mono hB.size)
    change OwnR _ _ _ (sealF (enc (rkK K long)) IV (b ++ padF n) (n / 16 + 1)) at hown5
    rw [hy3] at hown5
    obtain ⟨p5, c5, rfl, _, hr5⟩ := hown5.row
    rw [hl3]
    refine hKC.out _ _ (hS5) (fun hHeld => ?_)
    clear hKC KC
    try simp only [Act.put, List.setIfInBounds_toArray, List.set_cons_zero, List.set_cons_succ]
    refine tkS (fun w' => Below w5.heap.size w5 w') (fun w' h => Below.trans hS5 (Below.mono h (Below.size hS5))) (Below.refl _ _) (fun hHeld => ?_)
    refine tkA 12 (.some 29) _ _ rfl rfl (by kernel_rfl) (by kernel_rfl) (by kernel_rfl) (by kernel_rfl) (by kernel_rfl) hPF rfl (fun w' hw' => by (have h1 := str_row (n := n3) (c := c5) (hr5.below hw') hl3; rw [hs3] at h1; go_simp; try with_reducible rfl)) hHeld (fun hHeld => ?_)
    simp only [Act.put, List.setIfInBounds_toArray, List.set_cons_zero, List.set_cons_succ]
    refine tkA 13 (.some 30) _ (.bool true) rfl rfl (by kernel_rfl) (by kernel_rfl) (by kernel_rfl) (by kernel_rfl) (by kernel_rfl) hPF rfl (fun w' hw' => by (go_simp)) hHeld (fun hHeld => ?_)
    simp only [Act.put, List.setIfInBounds_toArray, List.set_cons_zero, List.set_cons_succ]
    refine tkB 14 (.some 31) _ _ rfl rfl (by kernel_rfl) (by kernel_rfl) (by kernel_rfl) (by kernel_rfl) hPF rfl (fun w' => by (go_simp; try with_reducible rfl)) hHeld (fun hHeld => ?_)
    simp only [Act.put, List.setIfInBounds_toArray, List.set_cons_zero, List.set_cons_succ]
    have hS := hHeld (by kernel_rfl)
    refine tkW (rs := [15]) (by kernel_rfl) (by simp) (AllK.cons (o := _) rfl (fun KC hKC => ?_) AllK.nil)
    go_simp
    (with_reducible refine (awake09_any _).mono ?_)
    rintro e w7 ⟨rfl, hB7⟩
    have hS7 := hS.trans (hB7.mono hS.size)
    have hB := hB.trans (hB7.mono hB.size)
    refine hKC.out _ _ (hS7) (fun hHeld => ?_)
    clear hKC KC
    try simp only [Act.put, List.setIfInBounds_toArray, List.set_cons_zero, List.set_cons_succ]
    refine tkS (fun w' => Below w7.heap.size w7 w') (fun w' h => Below.trans hS7 (Below.mono h (Below.size hS7))) (Below.refl _ _) (fun hHeld => ?_)
    refine tkB 16 (.some 33) _ _ rfl rfl (by kernel_rfl) (by kernel_rfl) (by kernel_rfl) (by kernel_rfl) hPF rfl (fun w' => by (go_simp; try with_reducible rfl)) hHeld (fun hHeld => ?_)
    simp only [Act.put, List.setIfInBounds_toArray, List.set_cons_zero, List.set_cons_succ]
    refine tkB 17 (.some 4) _ _ rfl rfl (by kernel_rfl) (by kernel_rfl) (by kernel_rfl) (by kernel_rfl) hPF rfl (fun w' => by (go_simp; try with_reducible rfl)) hHeld (fun hHeld => ?_)
    simp only [Act.put, List.setIfInBounds_toArray, List.set_cons_zero, List.set_cons_succ]
    refine tkD (by kernel_rfl) ?_ _
    go_wp2_with fail
    go_ret
    exact ⟨rfl, hB⟩
  ·
    go_enter Try.func9, Try.ntmps9
    go_wp2_with fail
    go_ret
    exact ⟨rfl, hB0⟩
end Go.Proofs.Ytlgeebnmonmdaaa
