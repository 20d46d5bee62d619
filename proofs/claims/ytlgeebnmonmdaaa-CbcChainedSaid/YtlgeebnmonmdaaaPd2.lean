/- cbc: Pad -/
import Derived.Test.YtlgeebnmonmdaaaPd0
import Derived.Test.YtlgeebnmonmdaaaPd3
import Derived.Test.YtlgeebnmonmdaaaReg
namespace Go.Proofs.Ytlgeebnmonmdaaa
open Go.RowKit

set_option maxRecDepth 100000 in
set_option maxHeartbeats 1000000 in
theorem pad_any (w : World) (n : Nat) (hn : n ≤ 9223372036854775807) :
    Calls Try.prog 29 #[.int .i64 n] w fun e w' => ∃ g, e = .returned (.slice (some ⟨g, 0, none⟩) (16 - n % 16) (16 - n % 16)) ∧ w.heap.size ≤ g ∧ (∃ rest, Blk w' g (bys (padF n) ++ rest) tU8) ∧ Below w.heap.size w w' := by
  obtain ⟨m, hm⟩ : ∃ m, 16 - n % 16 = m := ⟨_, rfl⟩
  have hm1 : 1 ≤ m := by omega
  have hm16 : m ≤ 16 := by omega
  have hpf : padF n = List.replicate m (UInt8.ofNat m) := by unfold padF; rw [hm]
  obtain ⟨r, hr⟩ : ∃ r : Int, ((n % 16 : Nat) : Int) = r := ⟨_, rfl⟩
  have h1 : (n : Int).tmod 16 = r := by rw [Int.tmod_eq_emod_of_nonneg (by omega), ← hr]; omega
  have h1' : (n : Int) % 16 = r := by omega
  have hr0 : 0 ≤ r := by omega
  have hr1 : r ≤ 15 := by omega
  have h2 : (16 : Int) - r = (m : Int) := by omega
  have h4 : bv (UInt8.ofNat m) = (m : Int) := bv_lit m (by omega)
  clear hr
  rw [hpf, hm]
  have hb := Blk.new w [.int .u8 (bv (UInt8.ofNat m))] tU8
  have hB : Below w.heap.size w (w.alloc (.cells [Value.int .u8 (bv (UInt8.ofNat m))].toArray tU8)) := (Below.refl _ _).alloc (Nat.le_refl _) _
  have hrep := repeat_any (w.alloc (.cells [Value.int .u8 (bv (UInt8.ofNat m))].toArray tU8)) w.heap.size 1 (UInt8.ofNat m) tU8 hb m hm1 hm16
  rw [h4] at hb hB hrep
  clear hpf hm h4
  go_enter Try.func29, Try.ntmps29
  go_wp2_with fail
  refine hrep.mono ?_
  rintro e w2 ⟨rfl, ⟨rest, hblk⟩, hB2⟩
  have hBB := hB.trans (Below.mono hB2 hB.size)
  go_wp2_with fail
  go_ret
  refine ⟨w.heap.size + 1, ?_, by omega, ⟨rest, ?_⟩, hBB⟩
  · simp
  · simpa using hblk
set_option maxRecDepth 100000 in
theorem pad_neg (w : World) (n : Int) (hn : n < 0) :
    Calls Try.prog 29 #[.int .i64 n] w fun e w' => e = .returned (.slice none 0 0) ∧ w = w' := by
  go_enter Try.func29, Try.ntmps29
  go_wp2_with fail
  go_ret
  exact ⟨rfl, rfl⟩
theorem rowAt_pad {w : World} {g : Nat} {l : List UInt8} {rest : List Value} {T : TypeId} (h : Blk w g (bys l ++ rest) T) : RowAt w (some ⟨g, 0, none⟩) l := fun k hk => by
  refine ⟨g, 0, rfl, h.lt, ?_⟩
  rw [Nat.zero_add, h.cell, List.getElem?_append_left (by rw [bys_length]; exact hk), bys_get l k hk]

set_option maxRecDepth 100000 in
set_option maxHeartbeats 1000000 in
theorem awake09_any (w : World) : Calls Try.prog 26 #[] w fun e w' => e = .returned (.bool true) ∧ Below w.heap.size w w' := by
  go_enter Try.func26, Try.ntmps26
  go_wp2_with fail
  refine (pad_any _ 14 (by omega)).mono ?_
  rintro e w2 ⟨g, rfl, hg, ⟨rest, hblk⟩, hB2⟩
  have kc := str_row (n := 2) (c := 2) (rowAt_pad hblk) (by decide)
  have ks : (str (padF 14)).toList = [2, 2] := by rw [ByteArray.toList_eq]; decide
  generalize str (padF 14) = s at *
  go_wp2_with fail
  refine (pad_any _ 16 (by omega)).mono ?_
  rintro e w3 ⟨g3, rfl, hg3, _, hB3⟩
  have hB := hB2.trans (Below.mono hB3 hB2.size)
  go_wp2_with fail
  go_ret
  exact ⟨rfl, hB⟩

theorem rowAt_drop {w : World} {b o : Nat} {l : List UInt8} (h : RowAt w (some ⟨b, o, none⟩) l) (q : Nat) : RowAt w (some ⟨b, o + q, none⟩) (l.drop q) := fun k hk => by
  rw [List.length_drop] at hk
  obtain ⟨b', o', e, h1, h2⟩ := h (q + k) (by omega)
  injection e with e; injection e with e1 e2; subst e1 e2
  refine ⟨b, o + q, rfl, h1, ?_⟩
  rw [Nat.add_assoc, h2]
  simp [List.getD]

def unpadV (l : List UInt8) : Value := match unpadF l with | some n => .tuple #[.int .i64 n, .int .i64 0] | none => .tuple #[.int .i64 0, .int .i64 16]
set_option maxRecDepth 100000 in
set_option maxHeartbeats 2000000 in
theorem unpad_any (w : World) (pa : Option Addr) (n cap : Nat) (l : List UInt8) (hl : RowAt w pa l) (hn : l.length = n) (hm : n ≤ 140737488355328) (hcap : n ≤ cap) :
    Calls Try.prog 44 #[.slice pa n cap] w fun e w' => e = .returned (unpadV l) ∧ Below w.heap.size w w' := by
  have hmod : ((n : Int)).tmod 16 = ((n % 16 : Nat) : Int) := by rw [Int.tmod_eq_emod_of_nonneg (by omega)]; omega
  have hmod' : ((n : Int)) % 16 = ((n % 16 : Nat) : Int) := by omega
  by_cases h0 : n = 0
  · have HU := hid (show unpadV l = .tuple #[.int .i64 0, .int .i64 16] by unfold unpadV unpadF; rw [if_pos (.inl (by omega))])
    subst h0
    go_enter Try.func44, Try.ntmps44
    go_wp2_with fail
    go_ret2
    exact ⟨by rw [HU.out]; rfl, Below.refl _ _⟩
  · by_cases h16 : n % 16 = 0
    · have H16 := hid h16
      obtain ⟨b, o, rfl, hb, hc⟩ := hl (n - 1) (by omega)
      have hx : l.getD (n - 1) 0 = lastB l := by unfold lastB; rw [hn]
      rw [hx] at hc
      replace hc : w.cell? ⟨b, o + (n - 1), none⟩ = some (.int .u8 (bv (lastB l))) := hc
      have hU1 : (lastB l).toNat < 1 ∨ 16 < (lastB l).toNat → unpadV l = .tuple #[.int .i64 0, .int .i64 16] := fun h => by
        unfold unpadV unpadF; rw [if_neg (by omega), if_pos h]
      have hU2 : ¬ ((lastB l).toNat < 1 ∨ 16 < (lastB l).toNat) → l.drop (n - (lastB l).toNat) = List.replicate (lastB l).toNat (lastB l) → unpadV l = .tuple #[.int .i64 ((n - (lastB l).toNat : Nat) : Int), .int .i64 0] := fun h h' => by
        unfold unpadV unpadF; rw [if_neg (by omega), if_neg h, hn, if_pos h']
      have hU3 : ¬ ((lastB l).toNat < 1 ∨ 16 < (lastB l).toNat) → ¬ l.drop (n - (lastB l).toNat) = List.replicate (lastB l).toNat (lastB l) → unpadV l = .tuple #[.int .i64 0, .int .i64 16] := fun h h' => by
        unfold unpadV unpadF; rw [if_neg (by omega), if_neg h, hn, if_neg h']
      have hbt : bv (lastB l) = ((lastB l).toNat : Int) := rfl
      have hof : UInt8.ofNat (lastB l).toNat = lastB l := by simp
      have hlt := (lastB l).toNat_lt
      generalize lastB l = x at *
      generalize hxn : x.toNat = xn at *
      rw [hbt] at hc
      have HU1 := hid hU1
      have HU2 := hid hU2
      have HU3 := hid hU3
      have Hof := hid hof
      clear hU1 hU2 hU3 hx hmod hmod' hxn hbt hof
      have hmod : ((n : Int)).tmod 16 = 0 := by rw [Int.tmod_eq_emod_of_nonneg (by omega)]; omega
      have hmod' : ((n : Int)) % 16 = 0 := by omega
      have hB : Below w.heap.size w w := Below.refl _ _
      by_cases h2 : xn < 1
      · obtain rfl : xn = 0 := by omega
        have HU := hid (HU1.out (.inl h2))
        obtain ⟨m6, hm6⟩ : ∃ m6 : Int, (n : Int) - 16 = m6 := ⟨_, rfl⟩
        have hm7 : -9223372036854775808 ≤ m6 ∧ m6 ≤ 9223372036854775807 := by omega
        have hm8 : IntKind.i64.wrap m6 = m6 := by rw [IntKind.wrap_i64]; omega
        have hm9 : wrap64 m6 = m6 := by unfold wrap64; omega
        have q1 : ¬ ((n : Int) < m6) := by omega
        go_enter Try.func44, Try.ntmps44
        go_wp2_with fail
        go_quiet (fail)
        go_wp2_with fail
        go_ret2
        exact ⟨by rw [HU.out]; rfl, by first | exact hB | exact hB.drew | exact below_drewN hB _⟩
      · by_cases h3 : 16 < xn
        · have HU := hid (HU1.out (.inr h3))
          obtain ⟨m6, hm6⟩ : ∃ m6 : Int, (n : Int) - 16 = m6 := ⟨_, rfl⟩
          have hm7 : -9223372036854775808 ≤ m6 ∧ m6 ≤ 9223372036854775807 := by omega
          have hm8 : IntKind.i64.wrap m6 = m6 := by rw [IntKind.wrap_i64]; omega
          have hm9 : wrap64 m6 = m6 := by unfold wrap64; omega
          obtain ⟨nx, hnx⟩ : ∃ nx : Int, (n : Int) - (xn : Int) = nx := ⟨_, rfl⟩
          have q1 : nx < m6 := by omega
          go_enter Try.func44, Try.ntmps44
          go_wp2_with fail
          go_quiet (fail)
          go_wp2_with fail
          go_ret2
          exact ⟨by rw [HU.out]; rfl, by first | exact hB | exact hB.drew | exact below_drewN hB _⟩
        · have h4 : xn ≤ n := by have := H16.out; omega
          obtain ⟨q, hq⟩ : ∃ q, n - xn = q := ⟨_, rfl⟩
          have hqi : (n : Int) - (xn : Int) = (q : Int) := by omega
          have hq16 : 16 - q % 16 = xn := by have := H16.out; omega
          have hRq := rowAt_drop hl q
          have hql : (l.drop q).length = n - q := by rw [List.length_drop, hn]
          have hpq : padF q = List.replicate xn x := by unfold padF; rw [hq16, Hof.out]
          have HU2 := hid (HU2.out (by omega))
          have HU3 := hid (HU3.out (by omega))
          rw [hq] at HU2 HU3
          obtain ⟨m6, hm6⟩ : ∃ m6 : Int, (n : Int) - 16 = m6 := ⟨_, rfl⟩
          have hm7 : -9223372036854775808 ≤ m6 ∧ m6 ≤ 9223372036854775807 := by omega
          have hm8 : IntKind.i64.wrap m6 = m6 := by rw [IntKind.wrap_i64]; omega
          have hm9 : wrap64 m6 = m6 := by unfold wrap64; omega
          have q4 : q ≤ n := by omega
          have q1 : ¬ ((q : Int) < m6) := by omega
          have q1b : decide ((q : Int) < m6) = false := decide_eq_false q1
          have q2 : ¬ ((q : Int) = (n : Int)) := by omega
          have q2b : ((q : Int) == (n : Int)) = false := by rw [beq_eq_false_iff_ne]; exact q2
          have q3 : ¬ (cap = q) := by omega
          go_enter Try.func44, Try.ntmps44
          go_wp2_with fail
          refine tk_region (fun w' => RowAt w' (some ⟨b, o + q, none⟩) (l.drop q)) (by kernel_rfl) (fun c a d v w h => by cases d <;> exact h) hRq (fun hPF hHeld => ?_)
          refine tk 0 (.some 24) _ _ rfl rfl (by kernel_rfl) (by kernel_rfl) (by kernel_rfl) hPF rfl (fun w' hw' => by (go_simp; try with_reducible rfl)) hHeld ?_
          simp only [Act.put, List.setIfInBounds_toArray, List.set_cons_zero, List.set_cons_succ]
          refine tk 1 (.some 25) _ _ rfl rfl (by kernel_rfl) (by kernel_rfl) (by kernel_rfl) hPF rfl (fun w' hw' => by (go_simp; try with_reducible rfl)) hHeld ?_
          simp only [Act.put, List.setIfInBounds_toArray, List.set_cons_zero, List.set_cons_succ]
          refine tk 2 (.some 26) _ _ rfl rfl (by kernel_rfl) (by kernel_rfl) (by kernel_rfl) hPF rfl (fun w' hw' => by (go_simp; try with_reducible rfl)) hHeld ?_
          simp only [Act.put, List.setIfInBounds_toArray, List.set_cons_zero, List.set_cons_succ]
          refine tk 3 (.some 27) _ _ rfl rfl (by kernel_rfl) (by kernel_rfl) (by kernel_rfl) hPF rfl (fun w' hw' => by (go_simp; try with_reducible rfl)) hHeld ?_
          simp only [Act.put, List.setIfInBounds_toArray, List.set_cons_zero, List.set_cons_succ]
          refine tk 4 (.some 28) _ _ rfl rfl (by kernel_rfl) (by kernel_rfl) (by kernel_rfl) hPF rfl (fun w' hw' => by (go_simp; try with_reducible rfl)) hHeld ?_
          simp only [Act.put, List.setIfInBounds_toArray, List.set_cons_zero, List.set_cons_succ]
          refine tk 5 (.some 29) _ _ rfl rfl (by kernel_rfl) (by kernel_rfl) (by kernel_rfl) hPF rfl (fun w' hw' => by (go_simp; try with_reducible rfl)) hHeld ?_
          simp only [Act.put, List.setIfInBounds_toArray, List.set_cons_zero, List.set_cons_succ]
          refine tk 6 (.some 30) _ _ rfl rfl (by kernel_rfl) (by kernel_rfl) (by kernel_rfl) hPF rfl (fun w' hw' => by (go_simp; try with_reducible rfl)) hHeld ?_
          simp only [Act.put, List.setIfInBounds_toArray, List.set_cons_zero, List.set_cons_succ]
          refine tk 7 (.some 31) _ _ rfl rfl (by kernel_rfl) (by kernel_rfl) (by kernel_rfl) hPF rfl (fun w' hw' => by (go_simp; try with_reducible rfl)) hHeld ?_
          simp only [Act.put, List.setIfInBounds_toArray, List.set_cons_zero, List.set_cons_succ]
          refine tk 8 (.some 32) _ _ rfl rfl (by kernel_rfl) (by kernel_rfl) (by kernel_rfl) hPF rfl (fun w' hw' => by (go_simp; try with_reducible rfl)) hHeld ?_
          simp only [Act.put, List.setIfInBounds_toArray, List.set_cons_zero, List.set_cons_succ]
          refine tk 9 (.some 33) _ _ rfl rfl (by kernel_rfl) (by kernel_rfl) (by kernel_rfl) hPF rfl (fun w' hw' => by (go_simp; try with_reducible rfl)) hHeld ?_
          simp only [Act.put, List.setIfInBounds_toArray, List.set_cons_zero, List.set_cons_succ]
          refine tk 10 (.some 34) _ _ rfl rfl (by kernel_rfl) (by kernel_rfl) (by kernel_rfl) hPF rfl (fun w' hw' => by (go_simp; try with_reducible rfl)) hHeld ?_
          simp only [Act.put, List.setIfInBounds_toArray, List.set_cons_zero, List.set_cons_succ]
          refine tk 11 (.some 35) _ _ rfl rfl (by kernel_rfl) (by kernel_rfl) (by kernel_rfl) hPF rfl (fun w' hw' => by (go_simp; try with_reducible rfl)) hHeld ?_
          simp only [Act.put, List.setIfInBounds_toArray, List.set_cons_zero, List.set_cons_succ]
          refine tk 12 (.some 36) _ _ rfl rfl (by kernel_rfl) (by kernel_rfl) (by kernel_rfl) hPF rfl (fun w' hw' => by (go_simp; try with_reducible rfl)) hHeld ?_
          simp only [Act.put, List.setIfInBounds_toArray, List.set_cons_zero, List.set_cons_succ]
          refine tk 13 (.some 37) _ _ rfl rfl (by kernel_rfl) (by kernel_rfl) (by kernel_rfl) hPF rfl (fun w' hw' => by (go_simp; try with_reducible rfl)) hHeld ?_
          simp only [Act.put, List.setIfInBounds_toArray, List.set_cons_zero, List.set_cons_succ]
          refine tk 14 (.some 38) _ _ rfl rfl (by kernel_rfl) (by kernel_rfl) (by kernel_rfl) hPF rfl (fun w' hw' => by (go_simp; try with_reducible rfl)) hHeld ?_
          simp only [Act.put, List.setIfInBounds_toArray, List.set_cons_zero, List.set_cons_succ]
          refine tk 15 (.some 39) _ _ rfl rfl (by kernel_rfl) (by kernel_rfl) (by kernel_rfl) hPF rfl (fun w' hw' => by (go_simp; try with_reducible rfl)) hHeld ?_
          simp only [Act.put, List.setIfInBounds_toArray, List.set_cons_zero, List.set_cons_succ]
          refine wpAnyH_ready (rs := [16]) (by kernel_rfl) (by simp) (AllReadyH.cons (o := _) rfl (fun K hK => ?_) AllReadyH.nil)
          go_simp
          refine (pad_any _ q (by omega)).mono ?_
          rintro e w4 ⟨g, rfl, hg, ⟨rest, hblk⟩, hB4⟩
          rw [hq16]
          have hHeld := RowAt.below hHeld hB4
          have hB := hB.drew.trans (Below.mono hB4 (Nat.le_refl _))
          have hpad := rowAt_pad hblk
          refine hK.out _ _ hHeld (fun hHeld => ?_)
          clear hK K
          try simp only [Act.put, List.setIfInBounds_toArray, List.set_cons_zero, List.set_cons_succ]
          refine wpAnyH_ready (rs := [17]) (by kernel_rfl) (by simp) (AllReadyH.cons (o := _) rfl (fun K hK => ?_) AllReadyH.nil)
          go_simp
          refine (eql_any _ _ _ _ _ _ _ _ _ hHeld hpad hql (by rw [padF_len, hq16])).mono ?_
          rintro e w5 ⟨rfl, rfl⟩
          rw [hpq]
          refine hK.out _ _ hHeld (fun hHeld => ?_)
          clear hK K
          try simp only [Act.put, List.setIfInBounds_toArray, List.set_cons_zero, List.set_cons_succ]
          refine tk 18 (.some 42) _ _ rfl rfl (by kernel_rfl) (by kernel_rfl) (by kernel_rfl) hPF rfl (fun w' hw' => by (go_simp; try with_reducible rfl)) hHeld ?_
          simp only [Act.put, List.setIfInBounds_toArray, List.set_cons_zero, List.set_cons_succ]
          refine tk 19 (.some 43) _ _ rfl rfl (by kernel_rfl) (by kernel_rfl) (by kernel_rfl) hPF rfl (fun w' hw' => by (go_simp; try with_reducible rfl)) hHeld ?_
          simp only [Act.put, List.setIfInBounds_toArray, List.set_cons_zero, List.set_cons_succ]
          refine wpAnyH_done (by kernel_rfl) ?_ _
          obtain ⟨bb, hbb⟩ : ∃ bb, (l.drop q == List.replicate xn x) = bb := ⟨_, rfl⟩
          rw [hbb]
          cases bb with
          | true =>
            have HU := hid (HU2.out (by simpa using hbb))
            clear hbb
            go_wp2_with fail
            go_ret2
            exact ⟨by rw [HU.out]; rfl, hB⟩
          | false =>
            have HU := hid (HU3.out (by simpa using hbb))
            clear hbb
            go_wp2_with fail
            go_ret2
            exact ⟨by rw [HU.out]; rfl, hB⟩
    · have HU := hid (show unpadV l = .tuple #[.int .i64 0, .int .i64 16] by unfold unpadV unpadF; rw [if_pos (.inr (by omega))])
      have hb : ¬ (((n % 16 : Nat) : Int) = 0) := by omega
      have hb2 : ¬ ((n : Int) = 0) := by omega
      generalize ((n % 16 : Nat) : Int) = r at *
      have hb3 : (r != 0) = true := by rw [bne_iff_ne]; exact hb
      clear h16
      go_enter Try.func44, Try.ntmps44
      go_wp2_with fail
      go_ret2
      exact ⟨by rw [HU.out]; rfl, Below.refl _ _⟩
end Go.Proofs.Ytlgeebnmonmdaaa
