/- ctr: CtrBack, walked -/
import Derived.Test.YtlgeebnmonmdaaaLCrypts
namespace Go.Proofs.Ytlgeebnmonmdaaa
open Go.RowKit

theorem xk_set (E : List UInt8 → List UInt8) (iv b : List UInt8) (n : Nat) (y : UInt8) (h : n < b.length) : xk E iv 0 (b.set n (b.getD n 0 ^^^ y)) = (xk E iv 0 b).set n ((xk E iv 0 b).getD n 0 ^^^ y) := by
  apply ext_getD
  · simp [xk]
  · intro j hj
    rw [xk_len, List.length_set] at hj
    rw [xk_get _ _ _ _ _ (by rw [List.length_set]; exact hj), getD_set _ _ _ _ h, getD_set _ _ _ _ (by rw [xk_len]; exact h), xk_get _ _ _ _ _ h, xk_get _ _ _ _ _ hj]
    by_cases e : n = j
    · subst e
      rw [if_pos rfl, if_pos rfl, UInt8.xor_assoc, UInt8.xor_assoc, UInt8.xor_comm y]
    · rw [if_neg e, if_neg e]
abbrev tTurned : TypeId := 37
def tcells (K : List UInt8) (long : Bool) (IV : List UInt8) (pb : Option Addr) (n cap : Nat) (a : Nat) (y : UInt8) : List Value := kcells K long IV ++ [.slice pb n cap, .int .u16 a, .int .u8 (bv y)]

theorem KeyV.setU8 {w : World} {v : Option Addr} {E : List UInt8 → List UInt8} {g : Nat} {cs : List Value} (h : KeyV w v E) (hs : Blk w g cs tU8) (i : Nat) (u : Value) : KeyV (w.setCell ⟨g, i, none⟩ u) v E := by
  rcases h with h | ⟨kb, rk, h1, h2, h3⟩
  · exact .inl h
  · exact .inr ⟨kb, rk, h1, h2.chg ((Chg.refl w.heap.size [g] w).setCell (p := ⟨g, i, none⟩) (.inl (by simp)) u) (Nat.le_refl _) hs (by decide) (by decide) (by decide), h3⟩

set_option maxRecDepth 100000 in
set_option maxHeartbeats 4000000 in
theorem ctrBack_walk (K : List UInt8) (long : Bool) (IV : List UInt8) (pb : Option Addr) (n cap a : Nat) (y : UInt8) (b : List UInt8) (w : World) (hK : K.length = 32) (hI : IV.length = 16) (hb : RowAt w pb b) (hn : b.length = n) (hcap : n ≤ cap) (ha : a < 65536) :
    Calls Try.prog 4 #[.agg (tcells K long IV pb n cap a y).toArray] w fun e w' => e = .returned (.bool true) ∧ Below w.heap.size w w' := by
  have h0 := Blk.new w (tcells K long IV pb n cap a y) tTurned
  have hB0 : Below w.heap.size w (w.alloc (.cells (tcells K long IV pb n cap a y).toArray tTurned)) := (Below.refl _ _).alloc (Nat.le_refl _) _
  have hsz : (Try.prog.info? 25).map (·.size) = some (kcells K long IV).length := by rw [sizeK8, kcells_len _ _ _ hK hI]
  have hszi : (Try.prog.info? 23).map (·.size) = some (bys IV).length := by rw [size54, bys_length, hI]
  have hkl49 := kcells_len K long IV hK hI
  have hz1 : (w.alloc (.cells (tcells K long IV pb n cap a y).toArray tTurned)).heap.size = w.heap.size + 1 := by simp
  have hb0 := (hb.below hB0).drew
  have h0 := h0.drew
  have hB0 := hB0.drew
  have c49 : ∀ w', Blk w' w.heap.size (tcells K long IV pb n cap a y) tTurned → w'.cell? ⟨w.heap.size, 49, none⟩ = some (.slice pb n cap) := fun w' h => by
    rw [h.cell]; unfold tcells; rw [List.getElem?_append_right (by omega), hkl49]; rfl
  have c50 : ∀ w', Blk w' w.heap.size (tcells K long IV pb n cap a y) tTurned → w'.cell? ⟨w.heap.size, 50, none⟩ = some (.int .u16 a) := fun w' h => by
    rw [h.cell]; unfold tcells; rw [List.getElem?_append_right (by omega), hkl49]; rfl
  have c51 : ∀ w', Blk w' w.heap.size (tcells K long IV pb n cap a y) tTurned → w'.cell? ⟨w.heap.size, 51, none⟩ = some (.int .u8 (bv y)) := fun w' h => by
    rw [h.cell]; unfold tcells; rw [List.getElem?_append_right (by omega), hkl49]; rfl
  have r0 : ∀ w', Blk w' w.heap.size (tcells K long IV pb n cap a y) tTurned → w'.rangeAt w.heap.size 0 (kcells K long IV) := fun w' h => by
    have := h.whole
    unfold tcells at this
    exact rangeAt_sub (A := []) this 0 rfl
  have C49 := hid c49
  have C50 := hid c50
  have C51 := hid c51
  have R0 := hid r0
  have hZl : (kcells (List.replicate 32 0) false z16).length = 49 := rfl
  have HZl := hid hZl
  have Hkl49 := hid hkl49
  clear c49 c50 c51 r0 hb hZl hkl49
  go_enter Try.func4, Try.ntmps4
  go_wp2_with fail
  change Code.wp _ _ _ _ (w.alloc (.cells (tcells K long IV pb n cap a y).toArray tTurned))
  generalize w.alloc (.cells (tcells K long IV pb n cap a y).toArray tTurned) = w1 at *
  try simp only [Act.put]
  refine tkR (fun w' => Below w1.drew.heap.size w1.drew w') [] (by kernel_rfl) (fun c a d v w h => by cases d <;> exact h) (Below.refl _ _) (fun hPF hHeld => ?_)
  refine tkB 0 (.some 12) _ _ rfl rfl (by kernel_rfl) (by kernel_rfl) (by kernel_rfl) (by kernel_rfl) hPF rfl (fun w' => by (go_simp; try with_reducible rfl)) hHeld (fun hHeld => ?_)
  simp only [Act.put, List.setIfInBounds_toArray, List.set_cons_zero, List.set_cons_succ]
  refine tkL 1 (.some 13) _ rfl rfl 25 (.tmp 12) rfl w.heap.size 0 (kcells K long IV) _ (by kernel_rfl) (by kernel_rfl) (by kernel_rfl) (by kernel_rfl) (by kernel_rfl) hPF rfl rfl (fun w' hw' => R0.out _ (h0.below hw' h0.lt)) Try.underlying25 rfl hsz hHeld (fun hHeld => ?_)
  simp only [Act.put, List.setIfInBounds_toArray, List.set_cons_zero, List.set_cons_succ]
  refine tkB 2 (.some 14) _ _ rfl rfl (by kernel_rfl) (by kernel_rfl) (by kernel_rfl) (by kernel_rfl) hPF rfl (fun w' => by (go_simp; try with_reducible rfl)) hHeld (fun hHeld => ?_)
  simp only [Act.put, List.setIfInBounds_toArray, List.set_cons_zero, List.set_cons_succ]
  refine tkA 3 (.some 15) _ _ rfl rfl (by kernel_rfl) (by kernel_rfl) (by kernel_rfl) (by kernel_rfl) (by kernel_rfl) hPF rfl (fun w' hw' => by (have h1 := C49.out _ (h0.below hw' h0.lt); go_simp; try with_reducible rfl)) hHeld (fun hHeld => ?_)
  simp only [Act.put, List.setIfInBounds_toArray, List.set_cons_zero, List.set_cons_succ]
  refine tkB 4 (.some 16) _ _ rfl rfl (by kernel_rfl) (by kernel_rfl) (by kernel_rfl) (by kernel_rfl) hPF rfl (fun w' => by (go_simp; try with_reducible rfl)) hHeld (fun hHeld => ?_)
  simp only [Act.put, List.setIfInBounds_toArray, List.set_cons_zero, List.set_cons_succ]
  refine tkA 5 (.some 17) _ _ rfl rfl (by kernel_rfl) (by kernel_rfl) (by kernel_rfl) (by kernel_rfl) (by kernel_rfl) hPF rfl (fun w' hw' => by (have h1 := C50.out _ (h0.below hw' h0.lt); go_simp; try with_reducible rfl)) hHeld (fun hHeld => ?_)
  simp only [Act.put, List.setIfInBounds_toArray, List.set_cons_zero, List.set_cons_succ]
  refine tkB 6 (.some 18) _ _ rfl rfl (by kernel_rfl) (by kernel_rfl) (by kernel_rfl) (by kernel_rfl) hPF rfl (fun w' => by (go_simp; try with_reducible rfl)) hHeld (fun hHeld => ?_)
  simp only [Act.put, List.setIfInBounds_toArray, List.set_cons_zero, List.set_cons_succ]
  refine tkA 7 (.some 19) _ _ rfl rfl (by kernel_rfl) (by kernel_rfl) (by kernel_rfl) (by kernel_rfl) (by kernel_rfl) hPF rfl (fun w' hw' => by (have h1 := C51.out _ (h0.below hw' h0.lt); go_simp; try with_reducible rfl)) hHeld (fun hHeld => ?_)
  simp only [Act.put, List.setIfInBounds_toArray, List.set_cons_zero, List.set_cons_succ]
  have hS := hHeld (by kernel_rfl)
  refine tkW (rs := [8]) (by kernel_rfl) (by simp) (AllK.cons (o := _) rfl (fun KC hKC => ?_) AllK.nil)
  go_simp
  have hS2 : Below w1.drew.heap.size w1.drew (w1.drew.alloc (.cells (kcells (List.replicate 32 0) false z16).toArray tKy8)) := hS.alloc hS.size _
  have hG : Blk (w1.drew.alloc (.cells (kcells (List.replicate 32 0) false z16).toArray tKy8)) (w.heap.size + 1) (kcells (List.replicate 32 0) false z16) tKy8 := by
    have := Blk.new w1.drew (kcells (List.replicate 32 0) false z16) tKy8
    rw [show w1.drew.heap.size = w.heap.size + 1 from hz1] at this; exact this
  refine hKC.out _ _ (hS2) (fun hHeld => ?_)
  clear hKC KC
  try simp only [Act.put, List.setIfInBounds_toArray, List.set_cons_zero, List.set_cons_succ]
  have hS := hHeld (by kernel_rfl)
  refine tkW (rs := [9]) (by kernel_rfl) (by simp) (AllK.cons (o := _) rfl (fun KC hKC => ?_) AllK.nil)
  refine wantIt rfl (wp_storeD .none rfl 25 (.tmp 3) (.tmp 13) rfl (w.heap.size + 1) 0 (kcells K long IV).toArray rfl rfl (hG.there 0 _ (by rw [List.size_toArray, Hkl49.out, HZl.out]; decide)) (by rw [sizeK8, List.size_toArray, Hkl49.out]) (all_oneCell_toArray (kcells_one _ _ _)) ?_)
  have hG4 := hG.setCells (kcells K long IV) 0 (by rw [Hkl49.out, HZl.out]; decide)
  rw [splice_whole _ _ (by rw [Hkl49.out, HZl.out])] at hG4
  have hC4 := (Chg.refl (w1.drew.alloc (.cells (kcells (List.replicate 32 0) false z16).toArray tKy8)).heap.size [w.heap.size + 1] (w1.drew.alloc (.cells (kcells (List.replicate 32 0) false z16).toArray tKy8))).setCells (b := w.heap.size + 1) (.inl (by simp)) (kcells K long IV) 0
  have hS3 := hS2.trans (hC4.below (M := w1.drew.heap.size) hS2.size (fun k hk => by simp at hk; have : w1.drew.heap.size = w.heap.size + 1 := hz1; omega))
  refine hKC.out _ _ (hS3) (fun hHeld => ?_)
  clear hKC KC
  try simp only [Act.put]
  refine tkB 10 (.some 4) _ _ rfl rfl (by kernel_rfl) (by kernel_rfl) (by kernel_rfl) (by kernel_rfl) hPF rfl (fun w' => by (go_simp; try with_reducible rfl)) hHeld (fun hHeld => ?_)
  simp only [Act.put, List.setIfInBounds_toArray, List.set_cons_zero, List.set_cons_succ]
  refine tkB 11 (.some 5) _ _ rfl rfl (by kernel_rfl) (by kernel_rfl) (by kernel_rfl) (by kernel_rfl) hPF rfl (fun w' => by (go_simp; try with_reducible rfl)) hHeld (fun hHeld => ?_)
  simp only [Act.put, List.setIfInBounds_toArray, List.set_cons_zero, List.set_cons_succ]
  refine tkB 12 (.some 6) _ _ rfl rfl (by kernel_rfl) (by kernel_rfl) (by kernel_rfl) (by kernel_rfl) hPF rfl (fun w' => by (go_simp; try with_reducible rfl)) hHeld (fun hHeld => ?_)
  simp only [Act.put, List.setIfInBounds_toArray, List.set_cons_zero, List.set_cons_succ]
  refine tkD (by kernel_rfl) ?_ _
  have hb1 := hb0.below hS3
  have hBB := hB0.trans (hS3.mono hB0.size)
  change Exit.then _ _ _ _ ((w1.drew.alloc (.cells (kcells (List.replicate 32 0) false z16).toArray tKy8)).setCells (w.heap.size + 1) 0 (kcells K long IV))
  generalize (w1.drew.alloc (.cells (kcells (List.replicate 32 0) false z16).toArray tKy8)).setCells (w.heap.size + 1) 0 (kcells K long IV) = w2 at *
  clear hS2 hG hC4 hS3 hHeld hPF h0 hB0 hb0 hz1
  obtain ⟨zb, hzb⟩ : ∃ zb, w.heap.size + 1 = zb := ⟨_, rfl⟩
  rw [hzb] at hG4 ⊢
  have Hzb := hid hzb
  clear hzb
  by_cases h300 : 300 < n
  · go_wp2_with fail
    go_ret
    exact ⟨rfl, hBB⟩
  by_cases hn0 : n = 0
  · subst hn0
    go_wp2_with fail
    go_ret
    exact ⟨rfl, hBB⟩
  have hn0b : ((n : Int) == 0) = false := by rw [beq_eq_false_iff_ne]; omega
  have hn3b : decide ((300 : Int) < (n : Int)) = false := decide_eq_false (by omega)
  have HK := hid (kn_km long)
  have hkl : (K.take (kn long)).length = kn long := by rw [List.length_take, hK]; have := (kn_km long).2.2; omega
  have hrl := rkOf_len (km long) (K.take (kn long)) (hkl.trans HK.out.1) HK.out.2.1
  have Hrl := hid hrl
  have hiv : ∀ (w' : World), Blk w' zb (kcells K long IV) tKy8 → w'.rangeAt zb 33 (bys IV) := fun w' h => kcells_iv h hK
  have Hiv := hid hiv
  have Hn := hid hn
  obtain ⟨r, hr⟩ : ∃ r, a % n = r := ⟨_, rfl⟩
  have hrn : r < n := by rw [← hr]; exact Nat.mod_lt _ (by omega)
  have hr1 : (a : Int) % (n : Int) = (r : Int) := by rw [← hr]; omega
  have hr2 : (a : Int).tmod (n : Int) = (r : Int) := by rw [Int.tmod_eq_emod_of_nonneg (by omega)]; exact hr1
  have hn00 : ¬ ((n : Int) = 0) := by omega
  clear hkl hrl hiv hn hr
  go_wp2_with (refine wpList_load_mid rfl 25 (.tmp 3) rfl zb 0 rfl (kcells K long IV) _ hG4.whole Try.underlying25 rfl hsz ?_)
  refine (keys8_any w2 K long IV hK hI).mono ?_
  rintro e w3 ⟨kb, rfl, hKA, hB3⟩
  have hG := hG4.below hB3 hG4.lt
  have hb := hb1.below hB3
  have hB := hBB.trans (hB3.mono hBB.size)
  have hBw3 := hB.size
  have hkv : KeyV w3 (some ⟨kb, 0, none⟩) (enc (rkK K long)) := .inr ⟨kb, _, rfl, hKA, rfl, Hrl.out.2⟩
  obtain ⟨E, hE⟩ : ∃ E, enc (rkK K long) = E := ⟨_, rfl⟩
  rw [hE] at hkv
  have hxs := xk_set E IV b r y (by rw [Hn.out]; exact hrn)
  have hxx := xk_xk E IV 0 b
  have hcl := xk_len E IV 0 b
  obtain ⟨c, hc⟩ : ∃ c, xk E IV 0 b = c := ⟨_, rfl⟩
  rw [hc] at hxs hxx hcl
  have Hc := hid hc
  have Hxs := hid hxs
  have Hxx := hid hxx
  rw [Hn.out] at hcl
  have Hcl := hid hcl
  clear hE hxs hxx hcl hc hBB hb1 hG4 hB3 hKA
  go_wp2_with (first | (refine wpList_load_mid rfl 23 (.tmp 36) rfl zb 33 rfl (bys IV) _ (Hiv.out _ hG) under54 rfl hszi ?_) | (with_reducible refine (crypt_any _ _ E IV hkv hI pb n cap b hb Hn.out hcap (by omega)).mono ?_); rintro e w4 ⟨v4, rfl, hown, hB4⟩)
  rw [Hc.out] at hown
  have hG := (hG.below hB4 hG.lt).drew
  have hb := (hb.below hB4).drew
  have hkv := (hkv.below hB4).drew
  have hB := (hB.trans (hB4.mono hB.size)).drew
  obtain ⟨g, c4, rest4, rfl, hc4, hg4, hC⟩ := hown.blk (by rw [Hcl.out]; omega)
  rw [Hcl.out] at hc4
  rw [Hcl.out]
  have hC := hC.drew
  have hgl := hC.lt
  obtain ⟨sb, hsb⟩ : ∃ s, str b = s := ⟨_, rfl⟩
  clear hown hB4
  go_wp2_with fail
  try simp only [Act.put]
  refine tkR (fun w' => Below w4.drew.heap.size w4.drew w') [] (by kernel_rfl) (fun c a d v w h => by cases d <;> exact h) (Below.refl _ _) (fun hPF hHeld => ?_)
  refine tkB 0 (.some 40) _ _ rfl rfl (by kernel_rfl) (by kernel_rfl) (by kernel_rfl) (by kernel_rfl) hPF rfl (fun w' => by (go_simp; try with_reducible rfl)) hHeld (fun hHeld => ?_)
  simp only [Act.put, List.setIfInBounds_toArray, List.set_cons_zero, List.set_cons_succ]
  refine tkB 1 (.some 41) _ _ rfl rfl (by kernel_rfl) (by kernel_rfl) (by kernel_rfl) (by kernel_rfl) hPF rfl (fun w' => by (go_simp; try with_reducible rfl)) hHeld (fun hHeld => ?_)
  simp only [Act.put, List.setIfInBounds_toArray, List.set_cons_zero, List.set_cons_succ]
  refine tkB 2 (.some 42) _ _ rfl rfl (by kernel_rfl) (by kernel_rfl) (by kernel_rfl) (by kernel_rfl) hPF rfl (fun w' => by (go_simp; try with_reducible rfl)) hHeld (fun hHeld => ?_)
  simp only [Act.put, List.setIfInBounds_toArray, List.set_cons_zero, List.set_cons_succ]
  refine tkB 3 (.some 43) _ _ rfl rfl (by kernel_rfl) (by kernel_rfl) (by kernel_rfl) (by kernel_rfl) hPF rfl (fun w' => by (go_simp; try with_reducible rfl)) hHeld (fun hHeld => ?_)
  simp only [Act.put, List.setIfInBounds_toArray, List.set_cons_zero, List.set_cons_succ]
  refine tkA 4 (.some 44) _ (.bool false) rfl rfl (by kernel_rfl) (by kernel_rfl) (by kernel_rfl) (by kernel_rfl) (by kernel_rfl) hPF rfl (fun w' hw' => by (go_simp)) hHeld (fun hHeld => ?_)
  simp only [Act.put, List.setIfInBounds_toArray, List.set_cons_zero, List.set_cons_succ]
  refine tkB 5 (.some 45) _ _ rfl rfl (by kernel_rfl) (by kernel_rfl) (by kernel_rfl) (by kernel_rfl) hPF rfl (fun w' => by (go_simp; try with_reducible rfl)) hHeld (fun hHeld => ?_)
  simp only [Act.put, List.setIfInBounds_toArray, List.set_cons_zero, List.set_cons_succ]
  refine tkB 6 (.some 46) _ _ rfl rfl (by kernel_rfl) (by kernel_rfl) (by kernel_rfl) (by kernel_rfl) hPF rfl (fun w' => by (go_simp; try with_reducible rfl)) hHeld (fun hHeld => ?_)
  simp only [Act.put, List.setIfInBounds_toArray, List.set_cons_zero, List.set_cons_succ]
  refine tkB 7 (.some 47) _ _ rfl rfl (by kernel_rfl) (by kernel_rfl) (by kernel_rfl) (by kernel_rfl) hPF rfl (fun w' => by (go_simp; try with_reducible rfl)) hHeld (fun hHeld => ?_)
  simp only [Act.put, List.setIfInBounds_toArray, List.set_cons_zero, List.set_cons_succ]
  refine tkL 8 (.some 48) _ rfl rfl 23 (.tmp 47) rfl zb 33 (bys IV) _ (by kernel_rfl) (by kernel_rfl) (by kernel_rfl) (by kernel_rfl) (by kernel_rfl) hPF rfl rfl (fun w' hw' => Hiv.out _ (hG.below hw' hG.lt)) under54 rfl hszi hHeld (fun hHeld => ?_)
  simp only [Act.put, List.setIfInBounds_toArray, List.set_cons_zero, List.set_cons_succ]
  refine tkB 9 (.some 49) _ _ rfl rfl (by kernel_rfl) (by kernel_rfl) (by kernel_rfl) (by kernel_rfl) hPF rfl (fun w' => by (go_simp; try with_reducible rfl)) hHeld (fun hHeld => ?_)
  simp only [Act.put, List.setIfInBounds_toArray, List.set_cons_zero, List.set_cons_succ]
  refine tkB 12 (.some 52) _ _ rfl rfl (by kernel_rfl) (by kernel_rfl) (by kernel_rfl) (by kernel_rfl) hPF rfl (fun w' => by (go_simp; try with_reducible rfl)) hHeld (fun hHeld => ?_)
  simp only [Act.put, List.setIfInBounds_toArray, List.set_cons_zero, List.set_cons_succ]
  refine tkA 13 (.some 53) _ _ rfl rfl (by kernel_rfl) (by kernel_rfl) (by kernel_rfl) (by kernel_rfl) (by kernel_rfl) hPF rfl (fun w' hw' => by (have h1 := str_row (n := n) (c := cap) (hb.below hw') Hn.out; rw [hsb] at h1; go_simp; try with_reducible rfl)) hHeld (fun hHeld => ?_)
  simp only [Act.put, List.setIfInBounds_toArray, List.set_cons_zero, List.set_cons_succ]
  have hS := hHeld (by kernel_rfl)
  refine tkW (rs := [10]) (by kernel_rfl) (by simp) (AllK.cons (o := _) rfl (fun KC hKC => ?_) AllK.nil)
  go_simp
  (with_reducible refine (crypt_any _ _ E IV hkv hI _ n c4 c hC.headRow Hcl.out hc4 (by omega)).mono ?_)
  rintro e w5 ⟨v5, rfl, hown5, hB5⟩
  have hS5 := hS.trans (hB5.mono hS.size)
  rw [Hxx.out] at hown5
  obtain ⟨p5, c5, rfl, _, hr5⟩ := hown5.row
  have hG := hG.below hB5 hG.lt
  have hC := hC.below hB5 hC.lt
  have hb := hb.below hB5
  have hkv := hkv.below hB5
  have hB := hB.trans (hB5.mono hB.size)
  refine hKC.out _ _ (hS5) (fun hHeld => ?_)
  clear hKC KC
  try simp only [Act.put, List.setIfInBounds_toArray, List.set_cons_zero, List.set_cons_succ]
  refine tkS (fun w' => Below w5.heap.size w5 w') (fun w' h => Below.trans hS5 (Below.mono h (Below.size hS5))) (Below.refl _ _) (fun hHeld => ?_)
  refine tkA 11 (.some 51) _ _ rfl rfl (by kernel_rfl) (by kernel_rfl) (by kernel_rfl) (by kernel_rfl) (by kernel_rfl) hPF rfl (fun w' hw' => by (have h1 := str_row (n := b.length) (c := c5) (hr5.below hw') rfl; rw [hsb] at h1; go_simp; try with_reducible rfl)) hHeld (fun hHeld => ?_)
  simp only [Act.put, List.setIfInBounds_toArray, List.set_cons_zero, List.set_cons_succ]
  refine tkA 14 (.some 54) _ (.bool false) rfl rfl (by kernel_rfl) (by kernel_rfl) (by kernel_rfl) (by kernel_rfl) (by kernel_rfl) hPF rfl (fun w' hw' => by (go_simp)) hHeld (fun hHeld => ?_)
  simp only [Act.put, List.setIfInBounds_toArray, List.set_cons_zero, List.set_cons_succ]
  refine tkB 15 (.some 55) _ _ rfl rfl (by kernel_rfl) (by kernel_rfl) (by kernel_rfl) (by kernel_rfl) hPF rfl (fun w' => by (go_simp; try with_reducible rfl)) hHeld (fun hHeld => ?_)
  simp only [Act.put, List.setIfInBounds_toArray, List.set_cons_zero, List.set_cons_succ]
  refine tkD (by kernel_rfl) ?_ _
  have hOM := OwnR.made w5
  have hBa : Below w5.heap.size w5 (w5.alloc (.cells #[] 5)) := (Below.refl _ _).alloc (Nat.le_refl _) _
  have hba := hb.below hBa
  have Hsz5 := hid hS5.size
  have HBa := hid hBa
  have hba5 : (w5.alloc (.cells #[] 5)).heap.size = w5.heap.size + 1 := by simp
  have hba6 : w5.heap.size ≤ (w5.alloc (.cells #[] 5)).heap.size := by omega
  clear hba5
  go_upto_region 12 with (refine wpList_addO hOM rfl (.tmp 61) (.tmp 62) rfl rfl pb n cap b rfl hba Hn.out (by simp; omega) hba6 ?_; intro v7 w7 hown7 hgrow7 _)
  have hgrow7 : (w5.alloc (.cells #[] 5)).grownBy w7 (some w5.heap.size) := hgrow7
  have hB57 := HBa.out.grown hgrow7 hba6 (fun j e => by have e := Option.some.inj e; omega)
  have hown7 : OwnR w5.heap.size w7 v7 b := hown7
  obtain ⟨gd, cd, restd, rfl, hcd, hgd, hD⟩ := hown7.blk (by rw [Hn.out]; omega)
  rw [Hn.out] at hcd
  have hC7 := hC.below hB57 hC.lt
  have hG7 := hG.below hB57 hG.lt
  have hkv7 := hkv.below hB57
  have hB7 := hB.trans (hB57.mono hB.size)
  have hCl7 := hC.lt
  have hdc := hD.headCell r (by rw [Hn.out]; exact hrn)
  have hdf := hD.frozen r
  have hcc := hC7.headCell r (by rw [Hcl.out]; exact hrn)
  have hcf := hC7.frozen r
  have hD8 := hD.set r (.int .u8 (bv (b.getD r 0 ^^^ y)))
  rw [bys_setAt _ _ _ _ (by rw [Hn.out]; exact hrn)] at hD8
  have hneg : gd ≠ g := by omega
  rw [Hn.out]
  clear hown7 hgrow7 hB57 hOM hba
  have q1 : (r : Int) < (n : Int) := by omega
  have q0 : 0 ≤ (r : Int) := by omega
  obtain ⟨dx, hdx⟩ : ∃ x, b.getD r 0 = x := ⟨_, rfl⟩
  obtain ⟨cx, hcx⟩ : ∃ x, c.getD r 0 = x := ⟨_, rfl⟩
  rw [hdx] at hdc hD8
  rw [hcx] at hcc
  have Hdx := hid hdx
  have Hcx := hid hcx
  clear hdx hcx
  have hneg2 : ¬ g = gd := fun e => hneg e.symm
  go_wp2_with fail
  have hD9 : Blk ((w7.setCell ⟨gd, r, none⟩ (.int .u8 (bv (dx ^^^ y)))).setCell ⟨g, r, none⟩ (.int .u8 (bv (cx ^^^ y)))) gd (bys (b.set r (dx ^^^ y)) ++ restd) tU8 := hD8.setNe (by simpa using hneg) _
  have hC9 : Blk ((w7.setCell ⟨gd, r, none⟩ (.int .u8 (bv (dx ^^^ y)))).setCell ⟨g, r, none⟩ (.int .u8 (bv (cx ^^^ y)))) g (bys (c.set r (cx ^^^ y)) ++ rest4) tU8 := by
    have := (hC7.setNe (a := ⟨gd, r, none⟩) (by simpa using hneg2) (.int .u8 (bv (dx ^^^ y)))).set r (.int .u8 (bv (cx ^^^ y)))
    rw [bys_setAt _ _ _ _ (by rw [Hcl.out]; exact hrn)] at this
    exact this
  have hk9 : KeyV ((w7.setCell ⟨gd, r, none⟩ (.int .u8 (bv (dx ^^^ y)))).setCell ⟨g, r, none⟩ (.int .u8 (bv (cx ^^^ y)))) (some ⟨kb, 0, none⟩) E :=
    (hkv7.setU8 hD r _).setU8 (hC7.setNe (a := ⟨gd, r, none⟩) (by simpa using hneg2) _) r _
  have hG9 : Blk ((w7.setCell ⟨gd, r, none⟩ (.int .u8 (bv (dx ^^^ y)))).setCell ⟨g, r, none⟩ (.int .u8 (bv (cx ^^^ y)))) zb (kcells K long IV) tKy8 :=
    (hG7.setNe (a := ⟨gd, r, none⟩) (hG7.ne hD (by decide)) _).setNe (a := ⟨g, r, none⟩) (hG7.ne hC7 (by decide)) _
  have hB9 : Below w.heap.size w ((w7.setCell ⟨gd, r, none⟩ (.int .u8 (bv (dx ^^^ y)))).setCell ⟨g, r, none⟩ (.int .u8 (bv (cx ^^^ y)))) :=
    (hB7.setCell (p := ⟨gd, r, none⟩) (by have := hB.size; show w.heap.size ≤ gd; omega) _).setCell (p := ⟨g, r, none⟩) (by have := hBw3; show w.heap.size ≤ g; omega) _
  generalize (w7.setCell ⟨gd, r, none⟩ (.int .u8 (bv (dx ^^^ y)))).setCell ⟨g, r, none⟩ (.int .u8 (bv (cx ^^^ y))) = w9 at *
  have hD9 := hD9.drew
  have hC9 := hC9.drew
  have hk9 := hk9.drew
  have hG9 := hG9.drew
  have hB9 := hB9.drew
  have hxs := Hxs.out
  rw [Hdx.out, Hcx.out] at hxs
  obtain ⟨D, hDe⟩ : ∃ D, b.set r (dx ^^^ y) = D := ⟨_, rfl⟩
  obtain ⟨C, hCe⟩ : ∃ C, c.set r (cx ^^^ y) = C := ⟨_, rfl⟩
  have hDl : D.length = n := by rw [← hDe, List.length_set, Hn.out]
  have hClen : C.length = n := by rw [← hCe, List.length_set, Hcl.out]
  rw [hDe] at hD9
  rw [hCe] at hC9
  rw [hDe, hCe] at hxs
  have HXS := hid hxs
  have HDl := hid hDl
  have HClen := hid hClen
  clear hDe hCe hxs hDl hClen hC7 hD hD8 hG7 hkv7 hB7 hdc hdf hcc hcf
  obtain ⟨sc, hsc⟩ : ∃ s, str C = s := ⟨_, rfl⟩
  try simp only [Act.put]
  refine tkR (fun w' => Below w9.drew.heap.size w9.drew w') [] (by kernel_rfl) (fun c a d v w h => by cases d <;> exact h) (Below.refl _ _) (fun hPF hHeld => ?_)
  refine tkB 0 (.some 78) _ _ rfl rfl (by kernel_rfl) (by kernel_rfl) (by kernel_rfl) (by kernel_rfl) hPF rfl (fun w' => by (go_simp; try with_reducible rfl)) hHeld (fun hHeld => ?_)
  simp only [Act.put, List.setIfInBounds_toArray, List.set_cons_zero, List.set_cons_succ]
  refine tkB 1 (.some 79) _ _ rfl rfl (by kernel_rfl) (by kernel_rfl) (by kernel_rfl) (by kernel_rfl) hPF rfl (fun w' => by (go_simp; try with_reducible rfl)) hHeld (fun hHeld => ?_)
  simp only [Act.put, List.setIfInBounds_toArray, List.set_cons_zero, List.set_cons_succ]
  refine tkL 2 (.some 80) _ rfl rfl 23 (.tmp 79) rfl zb 33 (bys IV) _ (by kernel_rfl) (by kernel_rfl) (by kernel_rfl) (by kernel_rfl) (by kernel_rfl) hPF rfl rfl (fun w' hw' => Hiv.out _ (hG9.below hw' hG9.lt)) under54 rfl hszi hHeld (fun hHeld => ?_)
  simp only [Act.put, List.setIfInBounds_toArray, List.set_cons_zero, List.set_cons_succ]
  refine tkB 3 (.some 81) _ _ rfl rfl (by kernel_rfl) (by kernel_rfl) (by kernel_rfl) (by kernel_rfl) hPF rfl (fun w' => by (go_simp; try with_reducible rfl)) hHeld (fun hHeld => ?_)
  simp only [Act.put, List.setIfInBounds_toArray, List.set_cons_zero, List.set_cons_succ]
  refine tkB 6 (.some 84) _ _ rfl rfl (by kernel_rfl) (by kernel_rfl) (by kernel_rfl) (by kernel_rfl) hPF rfl (fun w' => by (go_simp; try with_reducible rfl)) hHeld (fun hHeld => ?_)
  simp only [Act.put, List.setIfInBounds_toArray, List.set_cons_zero, List.set_cons_succ]
  refine tkA 7 (.some 85) _ _ rfl rfl (by kernel_rfl) (by kernel_rfl) (by kernel_rfl) (by kernel_rfl) (by kernel_rfl) hPF rfl (fun w' hw' => by (have h1 := str_row (n := n) (c := c4) ((hC9.below hw' hC9.lt).headRow) HClen.out; rw [hsc] at h1; go_simp; try with_reducible rfl)) hHeld (fun hHeld => ?_)
  simp only [Act.put, List.setIfInBounds_toArray, List.set_cons_zero, List.set_cons_succ]
  have hS := hHeld (by kernel_rfl)
  refine tkW (rs := [4]) (by kernel_rfl) (by simp) (AllK.cons (o := _) rfl (fun KC hKC => ?_) AllK.nil)
  go_simp
  (with_reducible refine (crypt_any _ _ E IV hk9 hI _ n cd D hD9.headRow HDl.out hcd (by omega)).mono ?_)
  rintro e wa ⟨va, rfl, howna, hBa⟩
  have hS5 := hS.trans (hBa.mono hS.size)
  rw [HXS.out] at howna
  obtain ⟨pa, ca, rfl, _, hra⟩ := howna.row
  have hC9 := hC9.below hBa hC9.lt
  have hB := hB9.trans (hBa.mono hB9.size)
  refine hKC.out _ _ (hS5) (fun hHeld => ?_)
  clear hKC KC
  try simp only [Act.put, List.setIfInBounds_toArray, List.set_cons_zero, List.set_cons_succ]
  refine tkS (fun w' => Below wa.heap.size wa w') (fun w' h => Below.trans hS5 (Below.mono h (Below.size hS5))) (Below.refl _ _) (fun hHeld => ?_)
  refine tkA 5 (.some 83) _ _ rfl rfl (by kernel_rfl) (by kernel_rfl) (by kernel_rfl) (by kernel_rfl) (by kernel_rfl) hPF rfl (fun w' hw' => by (have h1 := str_row (n := C.length) (c := ca) (hra.below hw') rfl; rw [hsc] at h1; go_simp; try with_reducible rfl)) hHeld (fun hHeld => ?_)
  simp only [Act.put, List.setIfInBounds_toArray, List.set_cons_zero, List.set_cons_succ]
  refine tkA 8 (.some 86) _ (.bool true) rfl rfl (by kernel_rfl) (by kernel_rfl) (by kernel_rfl) (by kernel_rfl) (by kernel_rfl) hPF rfl (fun w' hw' => by (go_simp)) hHeld (fun hHeld => ?_)
  simp only [Act.put, List.setIfInBounds_toArray, List.set_cons_zero, List.set_cons_succ]
  refine tkB 9 (.some 87) _ _ rfl rfl (by kernel_rfl) (by kernel_rfl) (by kernel_rfl) (by kernel_rfl) hPF rfl (fun w' => by (go_simp; try with_reducible rfl)) hHeld (fun hHeld => ?_)
  simp only [Act.put, List.setIfInBounds_toArray, List.set_cons_zero, List.set_cons_succ]
  have hS := hHeld (by kernel_rfl)
  refine tkW (rs := [10]) (by kernel_rfl) (by simp) (AllK.cons (o := _) rfl (fun KC hKC => ?_) AllK.nil)
  go_simp
  (with_reducible refine (awake8_any _).mono ?_)
  rintro e wb ⟨rfl, hBb⟩
  have hS7 := hS.trans (hBb.mono hS.size)
  have hB := hB.trans (hBb.mono hB.size)
  refine hKC.out _ _ (hS7) (fun hHeld => ?_)
  clear hKC KC
  try simp only [Act.put, List.setIfInBounds_toArray, List.set_cons_zero, List.set_cons_succ]
  refine tkS (fun w' => Below wb.heap.size wb w') (fun w' h => Below.trans hS7 (Below.mono h (Below.size hS7))) (Below.refl _ _) (fun hHeld => ?_)
  refine tkB 11 (.some 89) _ _ rfl rfl (by kernel_rfl) (by kernel_rfl) (by kernel_rfl) (by kernel_rfl) hPF rfl (fun w' => by (go_simp; try with_reducible rfl)) hHeld (fun hHeld => ?_)
  simp only [Act.put, List.setIfInBounds_toArray, List.set_cons_zero, List.set_cons_succ]
  refine tkB 12 (.some 2) _ _ rfl rfl (by kernel_rfl) (by kernel_rfl) (by kernel_rfl) (by kernel_rfl) hPF rfl (fun w' => by (go_simp; try with_reducible rfl)) hHeld (fun hHeld => ?_)
  simp only [Act.put, List.setIfInBounds_toArray, List.set_cons_zero, List.set_cons_succ]
  refine tkD (by kernel_rfl) ?_ _
  go_wp2_with fail
  go_ret
  exact ⟨rfl, hB⟩
end Go.Proofs.Ytlgeebnmonmdaaa
