/- cbc: CbcBack, walked -/
import Derived.Test.YtlgeebnmonmdaaaLShort
import Derived.Test.YtlgeebnmonmdaaaPure
import Derived.Test.YtlgeebnmonmdaaaApp
namespace Go.Proofs.Ytlgeebnmonmdaaa
open Go.RowKit

theorem xor_back (a b : List UInt8) (n : Nat) (ha : a.length = n) (hb : b.length = n) : List.zipWith (· ^^^ ·) (List.zipWith (· ^^^ ·) a b) a = b := by
  apply List.ext_getElem
  · simp; omega
  · intro i h1 h2
    simp only [List.getElem_zipWith]
    rw [UInt8.xor_comm (a[i]'_) (b[i]'_), UInt8.xor_assoc, UInt8.xor_self, UInt8.xor_zero]
theorem blkAt_seal (E : List UInt8 → List UInt8) (iv p : List UInt8) (k : Nat) (hE : ∀ s : List UInt8, s.length = 16 → (E s).length = 16) (hiv : iv.length = 16) (hp : 16 * k ≤ p.length) : ∀ j q, j ≤ k → q < j → blkAt (sealF E iv p j) q = lastF E iv p (q + 1)
  | 0, _, _, h => absurd h (Nat.not_lt_zero _)
  | j + 1, q, hj, hq => by
    have hl := sealF_len E iv p k hE hiv hp j (by omega)
    have hll := lastF_len E iv p k hE hiv hp (j + 1) hj
    unfold blkAt
    rw [sealF]
    by_cases h : q < j
    · rw [List.drop_append_of_le_length (by omega), List.take_append_of_le_length (by rw [List.length_drop]; omega)]
      exact blkAt_seal E iv p k hE hiv hp j q (by omega) h
    · obtain rfl : q = j := by omega
      rw [← hl, List.drop_left, List.take_of_length_le (by omega)]
theorem openO_seal (D E : List UInt8 → List UInt8) (iv p : List UInt8) (k : Nat) (hE : ∀ s : List UInt8, s.length = 16 → (E s).length = 16) (hDE : ∀ s : List UInt8, s.length = 16 → D (E s) = s) (hiv : iv.length = 16) (hp : 16 * k ≤ p.length) :
    ∀ j, j ≤ k → openO D iv (sealF E iv p k) j = p.take (16 * j)
  | 0, _ => by simp [openO]
  | j + 1, hj => by
    have hpr : prevO iv (sealF E iv p k) j = lastF E iv p j := by
      cases j with
      | zero => rfl
      | succ j => exact blkAt_seal E iv p k hE hiv hp k j (Nat.le_refl _) (by omega)
    have hcl : ((p.drop (16 * j)).take 16).length = 16 := by rw [List.length_take, List.length_drop]; omega
    have hlj := lastF_len E iv p k hE hiv hp j (by omega)
    rw [openO, openO_seal D E iv p k hE hDE hiv hp j (by omega), blkAt_seal E iv p k hE hiv hp k j (Nat.le_refl _) (by omega), hpr, lastF,
      hDE _ (by rw [List.length_zipWith, hlj, hcl]; rfl), xor_back _ _ 16 hlj hcl, ← List.take_add]
    rfl
theorem unpad_pad (b : List UInt8) : unpadF (b ++ padF b.length) = some b.length := by
  obtain ⟨m, hm⟩ : ∃ m, 16 - b.length % 16 = m := ⟨_, rfl⟩
  have hm1 : 1 ≤ m := by omega
  have hm16 : m ≤ 16 := by omega
  have hpf : padF b.length = List.replicate m (UInt8.ofNat m) := by unfold padF; rw [hm]
  have hl : (b ++ padF b.length).length = b.length + m := by rw [hpf]; simp
  have hlast : lastB (b ++ padF b.length) = UInt8.ofNat m := by
    unfold lastB
    rw [hl, hpf, List.getD, List.getElem?_append_right (by omega), List.getElem?_replicate, if_pos (by omega)]
    rfl
  have hn : (UInt8.ofNat m).toNat = m := by simp; omega
  unfold unpadF
  rw [hlast, hn, hl, if_neg (by omega), if_neg (by omega), if_pos]
  · congr 1; omega
  · rw [Nat.add_sub_cancel, List.drop_left, hpf]
theorem open_seal (D E : List UInt8 → List UInt8) (iv b : List UInt8) (hE : ∀ s : List UInt8, s.length = 16 → (E s).length = 16) (hDE : ∀ s : List UInt8, s.length = 16 → D (E s) = s) (hiv : iv.length = 16) :
    openF D iv (sealF E iv (b ++ padF b.length) (b.length / 16 + 1)) = some b := by
  have hpl : (b ++ padF b.length).length = 16 * (b.length / 16 + 1) := by rw [List.length_append, padF_len]; omega
  have hsl := sealF_len E iv (b ++ padF b.length) (b.length / 16 + 1) hE hiv (by omega) (b.length / 16 + 1) (Nat.le_refl _)
  unfold openF
  rw [hsl, if_neg (by omega), Nat.mul_div_cancel_left _ (by omega), openO_seal D E iv _ _ hE hDE hiv (by omega) _ (Nat.le_refl _), ← hpl, List.take_length, unpad_pad]
  simp

set_option maxRecDepth 100000 in
set_option maxHeartbeats 4000000 in
theorem cbcBack_walk (K : List UInt8) (long : Bool) (IV : List UInt8) (pb : Option Addr) (n cap : Nat) (b : List UInt8) (w : World) (hK : K.length = 32) (hI : IV.length = 16) (hb : RowAt w pb b) (hn : b.length = n) (hcap : n ≤ cap) :
    Calls Try.prog 12 #[.agg (kcells K long IV).toArray, .slice pb n cap] w fun e w' => e = .returned (.bool true) ∧ Below w.heap.size w w' := by
  have h0 := Blk.new w (kcells K long IV) tKy9
  have hB0 : Below w.heap.size w (w.alloc (.cells (kcells K long IV).toArray tKy9)) := (Below.refl _ _).alloc (Nat.le_refl _) _
  by_cases h300 : n ≤ 300
  · have hsz : (Try.prog.info? 48).map (·.size) = some (kcells K long IV).length := by rw [sizeK9, kcells_len _ _ _ hK hI]
    have hszi : (Try.prog.info? 23).map (·.size) = some (bys IV).length := by rw [size54, bys_length, hI]
    have hb0 := hb.below hB0
    have HK := hid (kn_km long)
    have hkl : (K.take (kn long)).length = kn long := by rw [List.length_take, hK]; have := (kn_km long).2.2; omega
    have Hkl := hid hkl
    have Hn := hid hn
    have hrl := rkOf_len (km long) (K.take (kn long)) (hkl.trans HK.out.1) HK.out.2.1
    have Hrl := hid hrl
    have hiv : ∀ (w' : World), Blk w' w.heap.size (kcells K long IV) tKy9 → w'.rangeAt w.heap.size 33 (bys IV) := fun w' h => kcells_iv h hK
    have Hiv := hid hiv
    clear hb hn hkl hrl hiv
    go_enter Try.func12, Try.ntmps12
    go_wp2_with (refine wpList_load_mid rfl 48 (.tmp 2) rfl w.heap.size 0 rfl (kcells K long IV) _ h0.whole Try.underlying48 rfl hsz ?_)
    change Calls _ _ _ (w.alloc (.cells (kcells K long IV).toArray tKy9)) _
    generalize w.alloc (.cells (kcells K long IV).toArray tKy9) = w1 at *
    refine (keys9_any w1 K long IV hK hI).mono ?_
    rintro e w2 ⟨kb, rfl, hKA, hB2⟩
    have h0 := h0.below hB2 h0.lt
    have hb0 := (hb0.below hB2)
    have hB := (hB0.trans (hB2.mono hB0.size))
    clear hB2 hB0
    have hrl2 := Hrl.out.2
    have hrl1 := Hrl.out.1
    have hR : 0 < roundsOf (rkK K long) := by
      have h1 : (rkK K long).length = 16 * (km long + 7) := hrl1
      unfold roundsOf
      omega
    have hE : ∀ s : List UInt8, s.length = 16 → (enc (rkK K long) s).length = 16 := fun s hs => by unfold enc; exact encTo_len _ _ _ _ hrl2 hs
    have hDE : ∀ s : List UInt8, s.length = 16 → dec (rkK K long) (enc (rkK K long) s) = s := fun s hs => dec_enc _ s hrl2 hR hs
    have hos := open_seal (dec (rkK K long)) (enc (rkK K long)) IV b hE hDE hI
    have hsl := sealF_len (enc (rkK K long)) IV (b ++ padF n) (n / 16 + 1) hE hI (by rw [List.length_append, padF_len, Hn.out]; omega) (n / 16 + 1) (Nat.le_refl _)
    rw [Hn.out] at hos
    have hkv : KeyV w2 (some ⟨kb, 0, none⟩) (enc (rkK K long)) := .inr ⟨kb, _, rfl, hKA, rfl, hrl2⟩
    have hszi2 := hszi
    have Hos := hid hos
    have Hsl := hid hsl
    clear hos hsl hrl1
    go_wp2_with (refine wpList_load_mid rfl 23 (.tmp 21) rfl w.heap.size 33 rfl (bys IV) _ (Hiv.out _ h0) under54 rfl hszi2 ?_)
    refine (seal_any w2 _ (enc (rkK K long)) IV hkv hI pb n cap b hb0 Hn.out hcap (by omega)).mono ?_
    rintro e w3 ⟨v, rfl, hown, hB3⟩
    have h0 := h0.below hB3 h0.lt
    have hb0 := hb0.below hB3
    have hKA := hKA.below hB3
    have hB := hB.trans (hB3.mono hB.size)
    obtain ⟨y, hy⟩ : ∃ y, sealF (enc (rkK K long)) IV (b ++ padF n) (n / 16 + 1) = y := ⟨_, rfl⟩
    rw [hy] at hown Hos Hsl
    obtain ⟨p3, c3, rfl, hc3, hr3⟩ := hown.row
    obtain ⟨n3, hn3⟩ : ∃ n3, y.length = n3 := ⟨_, rfl⟩
    rw [hn3] at hc3 Hsl ⊢
    have Hn3 := hid hn3
    have Hr3 := hid hr3
    have hn39 : n3 < 1000000 := by have := Hsl.out; omega
    clear hy hn3 hown hr3 hkv hB3
    go_wp2_with (refine wpList_load_mid rfl 23 (.tmp 27) rfl w.heap.size 33 rfl (bys IV) _ (Hiv.out _ h0) under54 rfl hszi2 ?_)
    refine (open_any w3 kb (rkK K long) IV hKA hrl2 hI p3 n3 c3 y Hr3.out Hn3.out hc3 hn39).mono ?_
    rintro e w4 ⟨v, rfl, hB4, hA⟩
    have hb0 := hb0.below hB4
    have hB := hB.trans (hB4.mono hB.size)
    rw [Hos.out] at hA
    obtain ⟨pa, c4, rfl, hr4⟩ := hA
    rw [Hn.out]
    have s1 := str_row (n := n) (c := c4) hr4 Hn.out
    have s2 := str_row (n := n) (c := cap) hb0 Hn.out
    obtain ⟨st, hst⟩ : ∃ s, str b = s := ⟨_, rfl⟩
    rw [hst] at s1 s2
    obtain ⟨q, hq⟩ : ∃ q, n / 16 = q := ⟨_, rfl⟩
    obtain ⟨t, ht⟩ : ∃ t, q * 16 = t := ⟨_, rfl⟩
    have hs3 := Hsl.out
    rw [hq] at hs3
    have q1 : (n : Int).tdiv 16 = (q : Int) := by rw [Int.tdiv_eq_ediv_of_nonneg (by omega)]; omega
    have q2 : (n : Int) / 16 = (q : Int) := by omega
    have q3 : (q : Int) * 16 = (t : Int) := by omega
    have q4 : (t : Int) + 16 = (n3 : Int) := by omega
    have q5 : (n3 : Int) ≤ 1000000000 := by omega
    have q6 : (t : Int) ≤ 1000000000 := by omega
    have q7 : (q : Int) ≤ 1000000000 := by omega
    have q8 : 0 ≤ (q : Int) := by omega
    have q9 : 0 ≤ (t : Int) := by omega
    have q10 : 0 ≤ (n3 : Int) := by omega
    clear hs3 hq ht hst hr4 hb0 hKA hB4 h0
    go_wp2_with fail
    refine (awake09_any _).mono ?_
    rintro e w7 ⟨rfl, hB7⟩
    go_wp2_with fail
    go_ret
    exact ⟨rfl, hB.trans (hB7.mono hB.size)⟩
  ·
    go_enter Try.func12, Try.ntmps12
    go_wp2_with fail
    go_ret
    exact ⟨rfl, hB0⟩
end Go.Proofs.Ytlgeebnmonmdaaa
