/- cbc: CbcShort, walked -/
import Derived.Test.YtlgeebnmonmdaaaK9
import Derived.Test.YtlgeebnmonmdaaaOp
import Derived.Deep.DeepCutAuto
namespace Go.Proofs.Ytlgeebnmonmdaaa
open Go.RowKit

theorem blkAt_len (b : List UInt8) (q k : Nat) (h : q < k) (hb : 16 * k ≤ b.length) : (blkAt b q).length = 16 := by
  unfold blkAt; rw [List.length_take, List.length_drop]; omega
theorem openO_len (D : List UInt8 → List UInt8) (iv b : List UInt8) (k : Nat) (hD : ∀ s : List UInt8, s.length = 16 → (D s).length = 16) (hiv : iv.length = 16) (hb : 16 * k ≤ b.length) : ∀ j, j ≤ k → (openO D iv b j).length = 16 * j
  | 0, _ => rfl
  | j + 1, h => by
    have h1 : (prevO iv b j).length = 16 := by
      cases j with
      | zero => exact hiv
      | succ j => exact blkAt_len b j k (by omega) hb
    rw [openO, List.length_append, openO_len D iv b k hD hiv hb j (by omega), List.length_zipWith, hD _ (blkAt_len b j k (by omega) hb), h1]; omega
theorem unpadF_bounds {l : List UInt8} {m : Nat} (h : unpadF l = some m) : m < l.length ∧ l.length ≤ m + 16 := by
  unfold unpadF at h
  split at h
  · cases h
  · split at h
    · cases h
    · split at h
      · injection h with h; omega
      · cases h
theorem openF_some {D : List UInt8 → List UInt8} {iv b l : List UInt8} (hD : ∀ s : List UInt8, s.length = 16 → (D s).length = 16) (hiv : iv.length = 16) (h : openF D iv b = some l) :
    b.length % 16 = 0 ∧ l.length < b.length ∧ b.length ≤ l.length + 16 := by
  unfold openF at h
  split at h
  · cases h
  · have hl := openO_len D iv b (b.length / 16) hD hiv (by omega) (b.length / 16) (Nat.le_refl _)
    rw [Option.map_eq_some_iff] at h
    obtain ⟨m, hm, rfl⟩ := h
    have := unpadF_bounds hm
    rw [List.length_take]
    omega

set_option maxRecDepth 100000 in
set_option maxHeartbeats 4000000 in
theorem cbcShort_walk (K : List UInt8) (long : Bool) (IV : List UInt8) (pb : Option Addr) (n cap : Nat) (b : List UInt8) (w : World) (hK : K.length = 32) (hI : IV.length = 16) (hb : RowAt w pb b) (hn : b.length = n) (hcap : n ≤ cap) :
    Calls Try.prog 8 #[.agg (kcells K long IV).toArray, .slice pb n cap] w fun e w' => e = .returned (.bool true) ∧ Below w.heap.size w w' := by
  have h0 := Blk.new w (kcells K long IV) tKy9
  have hB0 : Below w.heap.size w (w.alloc (.cells (kcells K long IV).toArray tKy9)) := (Below.refl _ _).alloc (Nat.le_refl _) _
  by_cases h300 : n ≤ 300
  · have hsz : (Try.prog.info? 48).map (·.size) = some (kcells K long IV).length := by rw [sizeK9, kcells_len _ _ _ hK hI]
    have hszi : (Try.prog.info? 23).map (·.size) = some (bys IV).length := by rw [size54, bys_length, hI]
    have hb0 := hb.below hB0
    have HK := hid (kn_km long)
    have hkl : (K.take (kn long)).length = kn long := by rw [List.length_take, hK]; have := (kn_km long).2.2; omega
    have Hkl := hid hkl
    have Hn := hid hn
    have hrl := rkOf_len (km long) (K.take (kn long)) (hkl.trans HK.out.1) HK.out.2.1
    have Hrl := hid hrl
    have hiv : ∀ (w' : World), Blk w' w.heap.size (kcells K long IV) tKy9 → w'.rangeAt w.heap.size 33 (bys IV) := fun w' h => kcells_iv h hK
    have Hiv := hid hiv
    clear hb hn hkl hrl hiv
    go_enter Try.func8, Try.ntmps8
    go_wp2_with (refine wpList_load_mid rfl 48 (.tmp 2) rfl w.heap.size 0 rfl (kcells K long IV) _ h0.whole Try.underlying48 rfl hsz ?_)
    change Calls _ _ _ (w.alloc (.cells (kcells K long IV).toArray tKy9)) _
    generalize w.alloc (.cells (kcells K long IV).toArray tKy9) = w1 at *
    refine (keys9_any w1 K long IV hK hI).mono ?_
    rintro e w2 ⟨kb, rfl, hKA, hB2⟩
    have h0 := h0.below hB2 h0.lt
    have hb0 := (hb0.below hB2)
    have hB := (hB0.trans (hB2.mono hB0.size))
    clear hB2 hB0
    have hrl2 := Hrl.out.2
    have hszi2 := hszi
    go_wp2_with (refine wpList_load_mid rfl 23 (.tmp 21) rfl w.heap.size 33 rfl (bys IV) _ (Hiv.out _ h0) under54 rfl hszi2 ?_)
    refine (open_any w2 kb (rkK K long) IV hKA hrl2 hI pb n cap b hb0 Hn.out hcap (by omega)).mono ?_
    rintro e w3 ⟨v, rfl, hB3, hA⟩
    have hB := hB.trans (hB3.mono hB.size)
    obtain ⟨r, hr⟩ : ∃ r : Int, ((n % 16 : Nat) : Int) = r := ⟨_, rfl⟩
    have hmod : ((n : Int)).tmod 16 = r := by rw [Int.tmod_eq_emod_of_nonneg (by omega), ← hr]; omega
    have hmod' : ((n : Int)) % 16 = r := by omega
    clear h0 hb0 hKA hB3
    cases ho : openF (dec (rkK K long)) IV b with
    | none =>
      rw [ho] at hA
      have hA : v = .tuple #[.slice none 0 0, .int .i64 16] := hA
      subst hA
      clear ho
      by_cases hn0 : n = 0
      · subst hn0
        go_wp2_with fail
        refine (awake09_any _).mono ?_
        rintro e w7 ⟨rfl, hB7⟩
        go_wp2_with fail
        go_ret
        exact ⟨rfl, hB.trans (hB7.mono hB.size)⟩
      · by_cases hr0 : r = 0
        · subst hr0
          clear hr
          go_wp2_with fail
          refine (awake09_any _).mono ?_
          rintro e w7 ⟨rfl, hB7⟩
          go_wp2_with fail
          go_ret
          exact ⟨rfl, hB.trans (hB7.mono hB.size)⟩
        · clear hr
          have hb1 : ((n : Int) == 0) = false := by rw [beq_eq_false_iff_ne]; omega
          have hb2 : (r != 0) = true := by rw [bne_iff_ne]; exact hr0
          go_wp2_with fail
          refine (awake09_any _).mono ?_
          rintro e w7 ⟨rfl, hB7⟩
          go_wp2_with fail
          go_ret
          exact ⟨rfl, hB.trans (hB7.mono hB.size)⟩
    | some l =>
      rw [ho] at hA
      obtain ⟨pa, c, rfl, hrow⟩ := hA
      obtain ⟨h1, h2, h3⟩ := openF_some (fun s hs => dec_l16 _ s hrl2 hs) hI ho
      rw [Hn.out] at h1 h2 h3
      obtain ⟨m, hm⟩ : ∃ m, l.length = m := ⟨_, rfl⟩
      rw [hm] at h2 h3 ⊢
      obtain rfl : r = 0 := by omega
      have hn0 : ¬ n = 0 := by omega
      have q1 : (m : Int) < (n : Int) := by omega
      have q2 : (n : Int) - 16 ≤ (m : Int) := by omega
      clear ho hr h1 h2 h3 hm hrow
      go_wp2_with fail
      refine (awake09_any _).mono ?_
      rintro e w7 ⟨rfl, hB7⟩
      go_wp2_with fail
      go_ret
      exact ⟨rfl, hB.trans (hB7.mono hB.size)⟩
  ·
    go_enter Try.func8, Try.ntmps8
    go_wp2_with fail
    go_ret
    exact ⟨rfl, hB0⟩
end Go.Proofs.Ytlgeebnmonmdaaa
