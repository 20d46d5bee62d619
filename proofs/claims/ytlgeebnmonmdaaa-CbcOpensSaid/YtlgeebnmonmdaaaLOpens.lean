/- cbc: CbcOpens, walked -/
import Derived.Test.YtlgeebnmonmdaaaK9
import Derived.Test.YtlgeebnmonmdaaaRo
import Derived.Test.YtlgeebnmonmdaaaApp
import Derived.Deep.DeepCutAuto
namespace Go.Proofs.Ytlgeebnmonmdaaa
open Go.RowKit

set_option maxRecDepth 100000 in
set_option maxHeartbeats 4000000 in
theorem cbcOpens_walk (K : List UInt8) (long : Bool) (IV : List UInt8) (pb : Option Addr) (n cap : Nat) (b : List UInt8) (w : World) (hK : K.length = 32) (hI : IV.length = 16) (hb : RowAt w pb b) (hn : b.length = n) (hcap : n ≤ cap) :
    Calls Try.prog 7 #[.agg (kcells K long IV).toArray, .slice pb n cap] w fun e w' => e = .returned (.bool true) ∧ Below w.heap.size w w' := by
  have h0 := Blk.new w (kcells K long IV) tKy9
  have hB0 : Below w.heap.size w (w.alloc (.cells (kcells K long IV).toArray tKy9)) := (Below.refl _ _).alloc (Nat.le_refl _) _
  by_cases h100 : n ≤ 100
  · have hsz : (Try.prog.info? 48).map (·.size) = some (kcells K long IV).length := by rw [sizeK9, kcells_len _ _ _ hK hI]
    have hszi : (Try.prog.info? 23).map (·.size) = some (bys IV).length := by rw [size54, bys_length, hI]
    have hb0 := hb.below hB0
    have HK := hid (kn_km long)
    have hkl : (K.take (kn long)).length = kn long := by rw [List.length_take, hK]; have := (kn_km long).2.2; omega
    have Hkl := hid hkl
    have Hn := hid hn
    have hrl := rkOf_len (km long) (K.take (kn long)) (hkl.trans HK.out.1) HK.out.2.1
    have Hrl := hid hrl
    have hiv : ∀ (w' : World), Blk w' w.heap.size (kcells K long IV) tKy9 → w'.rangeAt w.heap.size 33 (bys IV) := fun w' h => kcells_iv h hK
    have Hiv := hid hiv
    clear hb hn hkl hrl hiv
    go_enter Try.func7, Try.ntmps7
    go_wp2_with (refine wpList_load_mid rfl 48 (.tmp 2) rfl w.heap.size 0 rfl (kcells K long IV) _ h0.whole Try.underlying48 rfl hsz ?_)
    change Calls _ _ _ (w.alloc (.cells (kcells K long IV).toArray tKy9)) _
    generalize w.alloc (.cells (kcells K long IV).toArray tKy9) = w1 at *
    refine (keys9_any w1 K long IV hK hI).mono ?_
    rintro e w2 ⟨kb, rfl, hKA, hB2⟩
    have h0 := h0.below hB2 h0.lt
    have hb0 := (hb0.below hB2)
    have hB := (hB0.trans (hB2.mono hB0.size))
    clear hB2 hB0
    have hrl2 : 16 * roundsOf (rkK K long) + 16 ≤ (rkK K long).length := Hrl.out.2
    have h0 := h0.drew
    have hb0 := hb0.drew
    have hKA := hKA.drew
    have hB := hB.drew
    go_wp2_with fail
    try simp only [Act.put]
    refine tkR (fun w' => Below w2.drew.heap.size w2.drew w') [] (by kernel_rfl) (fun c a d v w h => by cases d <;> exact h) (Below.refl _ _) (fun hPF hHeld => ?_)
    refine tkB 0 (.some 22) _ _ rfl rfl (by kernel_rfl) (by kernel_rfl) (by kernel_rfl) (by kernel_rfl) hPF rfl (fun w' => by (go_simp; try with_reducible rfl)) hHeld (fun hHeld => ?_)
    simp only [Act.put, List.setIfInBounds_toArray, List.set_cons_zero, List.set_cons_succ]
    refine tkB 1 (.some 23) _ _ rfl rfl (by kernel_rfl) (by kernel_rfl) (by kernel_rfl) (by kernel_rfl) hPF rfl (fun w' => by (go_simp; try with_reducible rfl)) hHeld (fun hHeld => ?_)
    simp only [Act.put, List.setIfInBounds_toArray, List.set_cons_zero, List.set_cons_succ]
    refine tkL 2 (.some 24) _ rfl rfl 23 (.tmp 23) rfl w.heap.size 33 (bys IV) _ (by kernel_rfl) (by kernel_rfl) (by kernel_rfl) (by kernel_rfl) (by kernel_rfl) hPF rfl rfl (fun w' hw' => Hiv.out _ (h0.below hw' h0.lt)) under54 rfl hszi hHeld (fun hHeld => ?_)
    simp only [Act.put, List.setIfInBounds_toArray, List.set_cons_zero, List.set_cons_succ]
    refine tkB 4 (.some 26) _ _ rfl rfl (by kernel_rfl) (by kernel_rfl) (by kernel_rfl) (by kernel_rfl) hPF rfl (fun w' => by (go_simp; try with_reducible rfl)) hHeld (fun hHeld => ?_)
    simp only [Act.put, List.setIfInBounds_toArray, List.set_cons_zero, List.set_cons_succ]
    have hS := hHeld (by kernel_rfl)
    refine tkW (rs := [3]) (by kernel_rfl) (by simp) (AllK.cons (o := _) rfl (fun KC hKC => ?_) AllK.nil)
    go_simp
    have h3 := hS.alloc hS.size (.cells #[] 5)
    have hbm := hb0.below h3
    have hmade : OwnR w2.heap.size (w2.alloc (.cells #[] 5)).drew (.slice (some ⟨w2.heap.size, 0, none⟩) 0 0) [] := (OwnR.made w2).drew
    refine hKC.out _ _ (h3) (fun hHeld => ?_)
    clear hKC KC
    try simp only [Act.put, List.setIfInBounds_toArray, List.set_cons_zero, List.set_cons_succ]
    have hS := hHeld (by kernel_rfl)
    refine tkW (rs := [5]) (by kernel_rfl) (by simp) (AllK.cons (o := _) rfl (fun KC hKC => ?_) AllK.nil)
    refine wantIt rfl (wp_add (.some 27) rfl (.tmp 25) (.tmp 26) rfl w2.heap.size _ _ rfl hmade pb n cap b rfl hbm Hn.out (by simp; omega) h3.size ?_)
    intro v5 w5 hown5 hgrow5 _
    have h5 : Below w2.drew.heap.size w2.drew w5 := h3.grown hgrow5 h3.size (fun j e => (hmade.lt j e).1)
    rw [List.nil_append] at hown5
    obtain ⟨p5, c5, rfl, hc5, hr5⟩ := hown5.row
    rw [Hn.out] at hc5 ⊢
    refine hKC.out _ _ (h5) (fun hHeld => ?_)
    clear hKC KC
    try simp only [Act.put, List.setIfInBounds_toArray, List.set_cons_zero, List.set_cons_succ]
    have hS := hHeld (by kernel_rfl)
    refine tkW (rs := [6]) (by kernel_rfl) (by simp) (AllK.cons (o := _) rfl (fun KC hKC => ?_) AllK.nil)
    go_simp
    (with_reducible refine (open_any _ kb (rkK K long) IV (hKA.below h5) hrl2 hI p5 n c5 b hr5 Hn.out hc5 (by omega)).mono ?_)
    rintro e w6 ⟨v6, rfl, hB6, hA⟩
    have h6 := hS.trans (hB6.mono hS.size)
    have h0 := h0.below h6 h0.lt
    have hb0 := hb0.below h6
    have hB := hB.trans (h6.mono hB.size)
    obtain ⟨x6, e6, hv6⟩ : ∃ x e, v6 = .tuple #[x, .int .i64 e] := by
      revert hA
      cases openF (dec (rkK K long)) IV b with
      | none => exact fun h => ⟨_, _, h⟩
      | some l => exact fun ⟨pa, c, h, _⟩ => ⟨_, _, h⟩
    subst hv6
    refine hKC.out _ _ (h6) (fun hHeld => ?_)
    clear hKC KC
    try simp only [Act.put, List.setIfInBounds_toArray, List.set_cons_zero, List.set_cons_succ]
    refine tkS (fun w' => Below w6.heap.size w6 w') (fun w' h => Below.trans h6 (Below.mono h (Below.size h6))) (Below.refl _ _) (fun hHeld => ?_)
    refine tkB 7 (.some 21) _ _ rfl rfl (by kernel_rfl) (by kernel_rfl) (by kernel_rfl) (by kernel_rfl) hPF rfl (fun w' => by (go_simp; try with_reducible rfl)) hHeld (fun hHeld => ?_)
    simp only [Act.put, List.setIfInBounds_toArray, List.set_cons_zero, List.set_cons_succ]
    refine tkB 8 (.some 29) _ _ rfl rfl (by kernel_rfl) (by kernel_rfl) (by kernel_rfl) (by kernel_rfl) hPF rfl (fun w' => by (go_simp; try with_reducible rfl)) hHeld (fun hHeld => ?_)
    simp only [Act.put, List.setIfInBounds_toArray, List.set_cons_zero, List.set_cons_succ]
    refine tkB 9 (.some 30) _ _ rfl rfl (by kernel_rfl) (by kernel_rfl) (by kernel_rfl) (by kernel_rfl) hPF rfl (fun w' => by (go_simp; try with_reducible rfl)) hHeld (fun hHeld => ?_)
    simp only [Act.put, List.setIfInBounds_toArray, List.set_cons_zero, List.set_cons_succ]
    refine tkB 10 (.some 7) _ _ rfl rfl (by kernel_rfl) (by kernel_rfl) (by kernel_rfl) (by kernel_rfl) hPF rfl (fun w' => by (go_simp; try with_reducible rfl)) hHeld (fun hHeld => ?_)
    simp only [Act.put, List.setIfInBounds_toArray, List.set_cons_zero, List.set_cons_succ]
    refine tkB 11 (.some 8) _ _ rfl rfl (by kernel_rfl) (by kernel_rfl) (by kernel_rfl) (by kernel_rfl) hPF rfl (fun w' => by (go_simp; try with_reducible rfl)) hHeld (fun hHeld => ?_)
    simp only [Act.put, List.setIfInBounds_toArray, List.set_cons_zero, List.set_cons_succ]
    refine tkD (by kernel_rfl) ?_ _
    go_wp2_with fail
    have hBx := hB
    cases ho : openF (dec (rkK K long)) IV b with
    | none =>
      rw [ho] at hA
      have hA : Value.tuple #[x6, .int .i64 e6] = .tuple #[.slice none 0 0, .int .i64 16] := hA
      cases hA
      try simp only [Act.put]
      refine tkR (fun w' => Below w6.drew.heap.size w6.drew w') [] (by kernel_rfl) (fun c a d v w h => by cases d <;> exact h) (Below.refl _ _) (fun hPF hHeld => ?_)
      refine tkL 0 (.some 32) _ rfl rfl 48 (.tmp 2) rfl w.heap.size 0 (kcells K long IV) _ (by kernel_rfl) (by kernel_rfl) (by kernel_rfl) (by kernel_rfl) (by kernel_rfl) hPF rfl rfl (fun w' hw' => (h0.drew.below hw' h0.lt).whole) Try.underlying48 rfl hsz hHeld (fun hHeld => ?_)
      simp only [Act.put, List.setIfInBounds_toArray, List.set_cons_zero, List.set_cons_succ]
      refine tkB 2 (.some 34) _ _ rfl rfl (by kernel_rfl) (by kernel_rfl) (by kernel_rfl) (by kernel_rfl) hPF rfl (fun w' => by (go_simp; try with_reducible rfl)) hHeld (fun hHeld => ?_)
      simp only [Act.put, List.setIfInBounds_toArray, List.set_cons_zero, List.set_cons_succ]
      refine tkL 3 (.some 35) _ rfl rfl 23 (.tmp 34) rfl w.heap.size 33 (bys IV) _ (by kernel_rfl) (by kernel_rfl) (by kernel_rfl) (by kernel_rfl) (by kernel_rfl) hPF rfl rfl (fun w' hw' => Hiv.out _ (h0.drew.below hw' h0.lt)) under54 rfl hszi hHeld (fun hHeld => ?_)
      simp only [Act.put, List.setIfInBounds_toArray, List.set_cons_zero, List.set_cons_succ]
      refine tkB 4 (.some 36) _ _ rfl rfl (by kernel_rfl) (by kernel_rfl) (by kernel_rfl) (by kernel_rfl) hPF rfl (fun w' => by (go_simp; try with_reducible rfl)) hHeld (fun hHeld => ?_)
      simp only [Act.put, List.setIfInBounds_toArray, List.set_cons_zero, List.set_cons_succ]
      have hS := hHeld (by kernel_rfl)
      refine tkW (rs := [1]) (by kernel_rfl) (by simp) (AllK.cons (o := _) rfl (fun KC hKC => ?_) AllK.nil)
      go_simp
      (with_reducible refine (bytes9_any _ K long IV hK).mono ?_)
      rintro e w7 ⟨rfl, hkb, hB7⟩
      have h1 := hS.trans (hB7.mono hS.size)
      have h0 := (h0.drew).below h1 h0.lt
      have hb0 := (hb0.drew).below h1
      have hB := (hB.drew).trans (h1.mono hB.drew.size)
      have hrk : RowAt w7 (some ⟨w6.heap.size, 0, none⟩) (K.take (kn long)) := kcells_row hkb (kn long) (by rw [hK]; exact HK.out.2.2)
      refine hKC.out _ _ (h1) (fun hHeld => ?_)
      clear hKC KC
      try simp only [Act.put, List.setIfInBounds_toArray, List.set_cons_zero, List.set_cons_succ]
      refine tkS (fun w' => Below w7.heap.size w7 w') (fun w' h => Below.trans h1 (Below.mono h (Below.size h1))) (Below.refl _ _) (fun hHeld => ?_)
      have hS := hHeld (by kernel_rfl)
      refine tkW (rs := [5]) (by kernel_rfl) (by simp) (AllK.cons (o := _) rfl (fun KC hKC => ?_) AllK.nil)
      go_simp
      (with_reducible refine (refopen_any _ _ (kn long) 32 (km long) (K.take (kn long)) IV pb n cap b hrk Hkl.out HK.out.2.1 HK.out.1 hI hb0 Hn.out (by omega) hcap).mono ?_)
      rintro e w8 ⟨v8, rfl, hB8, hR⟩
      have h5 := hS.trans (hB8.mono hS.size)
      have hB := hB.trans (hB8.mono hB.size)
      change ROpenAns _ _ (openF (dec (rkK K long)) IV b) at hR
      rw [ho] at hR
      have hR : v8 = .tuple #[.slice none 0 0, .bool false] := hR
      subst hR
      refine hKC.out _ _ (h5) (fun hHeld => ?_)
      clear hKC KC
      try simp only [Act.put, List.setIfInBounds_toArray, List.set_cons_zero, List.set_cons_succ]
      refine tkS (fun w' => Below w8.heap.size w8 w') (fun w' h => Below.trans h5 (Below.mono h (Below.size h5))) (Below.refl _ _) (fun hHeld => ?_)
      refine tkB 6 (.some 31) _ _ rfl rfl (by kernel_rfl) (by kernel_rfl) (by kernel_rfl) (by kernel_rfl) hPF rfl (fun w' => by (go_simp; try with_reducible rfl)) hHeld (fun hHeld => ?_)
      simp only [Act.put, List.setIfInBounds_toArray, List.set_cons_zero, List.set_cons_succ]
      refine tkB 7 (.some 38) _ _ rfl rfl (by kernel_rfl) (by kernel_rfl) (by kernel_rfl) (by kernel_rfl) hPF rfl (fun w' => by (go_simp; try with_reducible rfl)) hHeld (fun hHeld => ?_)
      simp only [Act.put, List.setIfInBounds_toArray, List.set_cons_zero, List.set_cons_succ]
      refine tkB 8 (.some 39) _ _ rfl rfl (by kernel_rfl) (by kernel_rfl) (by kernel_rfl) (by kernel_rfl) hPF rfl (fun w' => by (go_simp; try with_reducible rfl)) hHeld (fun hHeld => ?_)
      simp only [Act.put, List.setIfInBounds_toArray, List.set_cons_zero, List.set_cons_succ]
      refine tkB 9 (.some 9) _ _ rfl rfl (by kernel_rfl) (by kernel_rfl) (by kernel_rfl) (by kernel_rfl) hPF rfl (fun w' => by (go_simp; try with_reducible rfl)) hHeld (fun hHeld => ?_)
      simp only [Act.put, List.setIfInBounds_toArray, List.set_cons_zero, List.set_cons_succ]
      refine tkB 10 (.some 10) _ _ rfl rfl (by kernel_rfl) (by kernel_rfl) (by kernel_rfl) (by kernel_rfl) hPF rfl (fun w' => by (go_simp; try with_reducible rfl)) hHeld (fun hHeld => ?_)
      simp only [Act.put, List.setIfInBounds_toArray, List.set_cons_zero, List.set_cons_succ]
      refine tkD (by kernel_rfl) ?_ _
      have s1 := str_row (w := w8) (pa := none) (l := []) (n := 0) (c := 0) (RowAt.nilW _ _) rfl
      go_wp2_with fail
      refine (awake09_any _).mono ?_
      rintro e w9 ⟨rfl, hB9⟩
      go_wp2_with fail
      go_ret
      exact ⟨rfl, hB.trans (hB9.mono hB.size)⟩
    | some lo =>
      rw [ho] at hA
      obtain ⟨pa, ca, e1, hra⟩ := hA
      cases e1
      try simp only [Act.put]
      refine tkR (fun w' => Below w6.drew.heap.size w6.drew w') [] (by kernel_rfl) (fun c a d v w h => by cases d <;> exact h) (Below.refl _ _) (fun hPF hHeld => ?_)
      refine tkL 0 (.some 32) _ rfl rfl 48 (.tmp 2) rfl w.heap.size 0 (kcells K long IV) _ (by kernel_rfl) (by kernel_rfl) (by kernel_rfl) (by kernel_rfl) (by kernel_rfl) hPF rfl rfl (fun w' hw' => (h0.drew.below hw' h0.lt).whole) Try.underlying48 rfl hsz hHeld (fun hHeld => ?_)
      simp only [Act.put, List.setIfInBounds_toArray, List.set_cons_zero, List.set_cons_succ]
      refine tkB 2 (.some 34) _ _ rfl rfl (by kernel_rfl) (by kernel_rfl) (by kernel_rfl) (by kernel_rfl) hPF rfl (fun w' => by (go_simp; try with_reducible rfl)) hHeld (fun hHeld => ?_)
      simp only [Act.put, List.setIfInBounds_toArray, List.set_cons_zero, List.set_cons_succ]
      refine tkL 3 (.some 35) _ rfl rfl 23 (.tmp 34) rfl w.heap.size 33 (bys IV) _ (by kernel_rfl) (by kernel_rfl) (by kernel_rfl) (by kernel_rfl) (by kernel_rfl) hPF rfl rfl (fun w' hw' => Hiv.out _ (h0.drew.below hw' h0.lt)) under54 rfl hszi hHeld (fun hHeld => ?_)
      simp only [Act.put, List.setIfInBounds_toArray, List.set_cons_zero, List.set_cons_succ]
      refine tkB 4 (.some 36) _ _ rfl rfl (by kernel_rfl) (by kernel_rfl) (by kernel_rfl) (by kernel_rfl) hPF rfl (fun w' => by (go_simp; try with_reducible rfl)) hHeld (fun hHeld => ?_)
      simp only [Act.put, List.setIfInBounds_toArray, List.set_cons_zero, List.set_cons_succ]
      have hS := hHeld (by kernel_rfl)
      refine tkW (rs := [1]) (by kernel_rfl) (by simp) (AllK.cons (o := _) rfl (fun KC hKC => ?_) AllK.nil)
      go_simp
      (with_reducible refine (bytes9_any _ K long IV hK).mono ?_)
      rintro e w7 ⟨rfl, hkb, hB7⟩
      have h1 := hS.trans (hB7.mono hS.size)
      have h0 := (h0.drew).below h1 h0.lt
      have hb0 := (hb0.drew).below h1
      have hra := hra.drew.below h1
      have hB := (hB.drew).trans (h1.mono hB.drew.size)
      have hrk : RowAt w7 (some ⟨w6.heap.size, 0, none⟩) (K.take (kn long)) := kcells_row hkb (kn long) (by rw [hK]; exact HK.out.2.2)
      refine hKC.out _ _ (h1) (fun hHeld => ?_)
      clear hKC KC
      try simp only [Act.put, List.setIfInBounds_toArray, List.set_cons_zero, List.set_cons_succ]
      refine tkS (fun w' => Below w7.heap.size w7 w') (fun w' h => Below.trans h1 (Below.mono h (Below.size h1))) (Below.refl _ _) (fun hHeld => ?_)
      have hS := hHeld (by kernel_rfl)
      refine tkW (rs := [5]) (by kernel_rfl) (by simp) (AllK.cons (o := _) rfl (fun KC hKC => ?_) AllK.nil)
      go_simp
      (with_reducible refine (refopen_any _ _ (kn long) 32 (km long) (K.take (kn long)) IV pb n cap b hrk Hkl.out HK.out.2.1 HK.out.1 hI hb0 Hn.out (by omega) hcap).mono ?_)
      rintro e w8 ⟨v8, rfl, hB8, hR⟩
      have h5x := hS.trans (hB8.mono hS.size)
      have h5 := h5x
      have hB := hB.trans (hB8.mono hB.size)
      change ROpenAns _ _ (openF (dec (rkK K long)) IV b) at hR
      rw [ho] at hR
      obtain ⟨pc, cc, rfl, hrc⟩ := hR
      have hra := hra.below h5x
      refine hKC.out _ _ (h5) (fun hHeld => ?_)
      clear hKC KC
      try simp only [Act.put, List.setIfInBounds_toArray, List.set_cons_zero, List.set_cons_succ]
      refine tkB 6 (.some 31) _ _ rfl rfl (by kernel_rfl) (by kernel_rfl) (by kernel_rfl) (by kernel_rfl) hPF rfl (fun w' => by (go_simp; try with_reducible rfl)) hHeld (fun hHeld => ?_)
      simp only [Act.put, List.setIfInBounds_toArray, List.set_cons_zero, List.set_cons_succ]
      refine tkB 7 (.some 38) _ _ rfl rfl (by kernel_rfl) (by kernel_rfl) (by kernel_rfl) (by kernel_rfl) hPF rfl (fun w' => by (go_simp; try with_reducible rfl)) hHeld (fun hHeld => ?_)
      simp only [Act.put, List.setIfInBounds_toArray, List.set_cons_zero, List.set_cons_succ]
      refine tkB 8 (.some 39) _ _ rfl rfl (by kernel_rfl) (by kernel_rfl) (by kernel_rfl) (by kernel_rfl) hPF rfl (fun w' => by (go_simp; try with_reducible rfl)) hHeld (fun hHeld => ?_)
      simp only [Act.put, List.setIfInBounds_toArray, List.set_cons_zero, List.set_cons_succ]
      refine tkB 9 (.some 9) _ _ rfl rfl (by kernel_rfl) (by kernel_rfl) (by kernel_rfl) (by kernel_rfl) hPF rfl (fun w' => by (go_simp; try with_reducible rfl)) hHeld (fun hHeld => ?_)
      simp only [Act.put, List.setIfInBounds_toArray, List.set_cons_zero, List.set_cons_succ]
      refine tkB 10 (.some 10) _ _ rfl rfl (by kernel_rfl) (by kernel_rfl) (by kernel_rfl) (by kernel_rfl) hPF rfl (fun w' => by (go_simp; try with_reducible rfl)) hHeld (fun hHeld => ?_)
      simp only [Act.put, List.setIfInBounds_toArray, List.set_cons_zero, List.set_cons_succ]
      refine tkD (by kernel_rfl) ?_ _
      have s1 := str_row (n := lo.length) (c := ca) hra rfl
      have s2 := str_row (n := lo.length) (c := cc) hrc rfl
      obtain ⟨st, hst⟩ : ∃ s, str lo = s := ⟨_, rfl⟩
      rw [hst] at s1 s2
      go_wp2_with fail
      refine (awake09_any _).mono ?_
      rintro e w9 ⟨rfl, hB9⟩
      go_wp2_with fail
      go_ret
      exact ⟨rfl, hB.trans (hB9.mono hB.size)⟩
  ·
    go_enter Try.func7, Try.ntmps7
    go_wp2_with fail
    go_ret
    exact ⟨rfl, hB0⟩
end Go.Proofs.Ytlgeebnmonmdaaa
