/- cbc: CbcPads, walked -/
import Derived.Test.YtoffpchabpfhkaaPd2
import Derived.Test.YtoffpchabpfhkaaPd4
import Derived.Deep.DeepCutAuto
import Derived.Deep.CutRange
namespace Go.Proofs.Ytoffpchabpfhkaa
open Go.RowKit

theorem pad_all (w : World) (n : Int) (hn : n ≤ 9223372036854775807) :
    Calls Try.prog 30 #[.int .i64 n] w fun e w' => ∃ fa fl, e = .returned (.slice fa fl fl) ∧ ((n < 0 ∧ fa = none ∧ fl = 0) ∨ ∃ k : Nat, n = k ∧ fl = 16 - k % 16 ∧ ∃ g, fa = some ⟨g, 0, none⟩ ∧ w'.cell? ⟨g, 0, none⟩ = some (.int .u8 fl)) ∧ Below w.heap.size w w' := by
  by_cases h : n < 0
  · refine (pad_neg w n h).mono ?_
    rintro e w' ⟨rfl, rfl⟩
    exact ⟨none, 0, rfl, .inl ⟨h, rfl, rfl⟩, Below.refl _ _⟩
  · obtain ⟨k, rfl⟩ : ∃ k : Nat, n = k := ⟨n.toNat, by omega⟩
    refine (pad_any w k (by omega)).mono ?_
    rintro e w' ⟨g, rfl, hg, ⟨rest, hb⟩, hB⟩
    refine ⟨_, _, rfl, .inr ⟨k, rfl, rfl, g, rfl, ?_⟩, hB⟩
    obtain ⟨b', o', e', _, hc⟩ := rowAt_pad hb 0 (by rw [padF_len]; omega)
    injection e' with e'; injection e' with e1 e2; subst e1 e2
    rw [hc]
    have : (padF k).getD 0 0 = UInt8.ofNat (16 - k % 16) := by
      unfold padF
      simp [List.getD, show 0 < 16 - k % 16 by omega]
    rw [this, bv_lit _ (by omega)]

set_option maxRecDepth 100000 in
set_option maxHeartbeats 4000000 in
theorem cbcPads_walk (pa : Option Addr) (n cap : Nat) (l : List UInt8) (z : Int) (w : World) (hl : RowAt w pa l) (hn : l.length = n) (hcap : n ≤ cap) (hz : z ≤ 9223372036854775807) :
    Calls Try.prog 6 #[.slice pa n cap, .int .i64 z] w fun e w' => e = .returned (.bool true) ∧ Below w.heap.size w w' := by
  by_cases h300 : n ≤ 300
  · go_enter Try.func6, Try.ntmps6
    go_wp2_with fail
    refine (unpad_any _ pa n cap l hl hn (by omega) hcap).mono ?_
    rintro e w1 ⟨rfl, hB⟩
    have hl := hl.below hB
    have hup := unpadded_any w1 pa n cap l hl hn (by omega)
    have hpd := padded_any w1 pa n cap l hl hn (by omega)
    have Hl := hid hl
    clear hl
    obtain ⟨u, hu⟩ : ∃ u, unpadF l = u := ⟨_, rfl⟩
    cases u with
    | none =>
      have hV : unpadV l = .tuple #[.int .i64 0, .int .i64 16] := by unfold unpadV; rw [hu]
      have hI : unpadI l = -1 := by unfold unpadI; rw [hu]
      rw [hV]
      rw [hI] at hup
      clear hV hI hu
      go_wp2_with fail
      refine hup.mono ?_
      rintro e w2 ⟨rfl, rfl⟩
      go_wp2_with fail
      refine hpd.mono ?_
      rintro e w3 ⟨v, rfl, hown, hB3⟩
      obtain ⟨pp, pcap, rfl, hpc, hRP⟩ := own_rowAt hown
      obtain ⟨g, o, rfl, _, _⟩ := hRP 0 (by rw [List.length_append, padF_len]; omega)
      have hB := hB.trans (Below.mono hB3 hB.size)
      obtain ⟨pl, hpl⟩ : ∃ pl, (l ++ padF n).length = pl := ⟨_, rfl⟩
      have hpl2 : pl = n + (16 - n % 16) := by rw [← hpl, List.length_append, padF_len, hn]
      rw [hpl] at hpc
      rw [hpl]
      have Hpl2 := hid hpl2
      clear hpl2
      have hRp : RowAt w3 (some ⟨g, o + n, none⟩) (padF n) := by
        have := rowAt_drop hRP n
        rw [List.drop_append, List.drop_of_length_le (by omega), hn, Nat.sub_self] at this
        simpa using this
      clear hown hRP hup hpd hB3
      go_wp2_with fail
      refine (pad_all _ z hz).mono ?_
      rintro e w4 ⟨fa, fl, rfl, hf, hB4⟩
      have hRp := hRp.below hB4
      have hB := hB.trans (Below.mono hB4 hB.size)
      have HRp := hid hRp
      clear hB4 hRp hpl
      go_upto_region 7 with fail
      go_cut [51] (fun s51 wx => s51 = .bool false ∧ w4 = wx)
      case first =>
        rcases hf with ⟨h, rfl, hfl⟩ | ⟨k1, hk1, hm1, g1, rfl, hc1⟩
        · have q1 : ¬ (0 ≤ z) := by omega
          have hfl0 : (fl : Int) = 0 := by omega
          have hflb : ((fl : Int) != 0) = false := by rw [hfl0]; rfl
          clear hfl
          go_wp2_with fail
          go_meet
          exact ⟨rfl, rfl⟩
        · obtain ⟨r, hr⟩ : ∃ r : Int, ((k1 % 16 : Nat) : Int) = r := ⟨_, rfl⟩
          have h1 : z.tmod 16 = r := by rw [Int.tmod_eq_emod_of_nonneg (by omega), ← hr]; omega
          have h1' : z % 16 = r := by omega
          have h2 : (16 : Int) - r = (fl : Int) := by omega
          have hm2 : 1 ≤ fl := by omega
          have hm3 : fl ≤ 16 := by omega
          have q1 : 0 ≤ z := by omega
          have q2 : ¬ (z < 0) := by omega
          clear hr hm1 hk1
          go_wp2_with fail
          go_meet
          exact ⟨rfl, rfl⟩
      case rest =>
        obtain ⟨rfl, rfl⟩ := hcut
        have hRp := HRp.out
        obtain ⟨s, hs⟩ : ∃ s, str (padF n) = s := ⟨_, rfl⟩
        obtain ⟨m, hm⟩ : ∃ m, 16 - n % 16 = m := ⟨_, rfl⟩
        have hpp := Hpl2.out
        have hpc2 : ¬ pcap = n := by omega
        have hpm : pl - n = m := by omega
        have hpn : n ≤ pl := by omega
        clear hpp
        clear HRp hf Hpl2
        go_wp2_with fail
        refine tk_region (fun w' => RowAt w' (some ⟨g, o + n, none⟩) (padF n)) (by kernel_rfl) (fun c a d v w h => by cases d <;> exact h) hRp (fun hPF hHeld => ?_)
        refine tk 0 (.some 52) _ _ rfl rfl (by kernel_rfl) (by kernel_rfl) (by kernel_rfl) hPF rfl (fun w' hw' => by (go_simp; try with_reducible rfl)) hHeld ?_
        simp only [Act.put, List.setIfInBounds_toArray, List.set_cons_zero, List.set_cons_succ]
        refine tk 1 (.some 53) _ _ rfl rfl (by kernel_rfl) (by kernel_rfl) (by kernel_rfl) hPF rfl (fun w' hw' => by (go_simp; try with_reducible rfl)) hHeld ?_
        simp only [Act.put, List.setIfInBounds_toArray, List.set_cons_zero, List.set_cons_succ]
        refine tk 2 (.some 54) _ _ rfl rfl (by kernel_rfl) (by kernel_rfl) (by kernel_rfl) hPF rfl (fun w' hw' => by (go_simp; try with_reducible rfl)) hHeld ?_
        simp only [Act.put, List.setIfInBounds_toArray, List.set_cons_zero, List.set_cons_succ]
        refine tk 3 (.some 55) _ _ rfl rfl (by kernel_rfl) (by kernel_rfl) (by kernel_rfl) hPF rfl (fun w' hw' => by (go_simp; try with_reducible rfl)) hHeld ?_
        simp only [Act.put, List.setIfInBounds_toArray, List.set_cons_zero, List.set_cons_succ]
        refine tk 4 (.some 56) _ _ rfl rfl (by kernel_rfl) (by kernel_rfl) (by kernel_rfl) hPF rfl (fun w' hw' => by (go_simp; try with_reducible rfl)) hHeld ?_
        simp only [Act.put, List.setIfInBounds_toArray, List.set_cons_zero, List.set_cons_succ]
        refine tk 5 (.some 57) _ _ rfl rfl (by kernel_rfl) (by kernel_rfl) (by kernel_rfl) hPF rfl (fun w' hw' => by (go_simp; try with_reducible rfl)) hHeld ?_
        simp only [Act.put, List.setIfInBounds_toArray, List.set_cons_zero, List.set_cons_succ]
        refine tk 6 (.some 58) _ _ rfl rfl (by kernel_rfl) (by kernel_rfl) (by kernel_rfl) hPF rfl (fun w' hw' => by (go_simp; try with_reducible rfl)) hHeld ?_
        simp only [Act.put, List.setIfInBounds_toArray, List.set_cons_zero, List.set_cons_succ]
        refine tk 7 (.some 59) _ _ rfl rfl (by kernel_rfl) (by kernel_rfl) (by kernel_rfl) hPF rfl (fun w' hw' => by (go_simp; try with_reducible rfl)) hHeld ?_
        simp only [Act.put, List.setIfInBounds_toArray, List.set_cons_zero, List.set_cons_succ]
        refine tk 8 (.some 60) _ _ rfl rfl (by kernel_rfl) (by kernel_rfl) (by kernel_rfl) hPF rfl (fun w' hw' => by (go_simp; try with_reducible rfl)) hHeld ?_
        simp only [Act.put, List.setIfInBounds_toArray, List.set_cons_zero, List.set_cons_succ]
        refine tk 9 (.some 61) _ _ rfl rfl (by kernel_rfl) (by kernel_rfl) (by kernel_rfl) hPF rfl (fun w' hw' => by (go_simp; try with_reducible rfl)) hHeld ?_
        simp only [Act.put, List.setIfInBounds_toArray, List.set_cons_zero, List.set_cons_succ]
        refine tk 10 (.some 62) _ _ rfl rfl (by kernel_rfl) (by kernel_rfl) (by kernel_rfl) hPF rfl (fun w' hw' => by (go_simp; try with_reducible rfl)) hHeld ?_
        simp only [Act.put, List.setIfInBounds_toArray, List.set_cons_zero, List.set_cons_succ]
        refine tk 11 (.some 63) _ _ rfl rfl (by kernel_rfl) (by kernel_rfl) (by kernel_rfl) hPF rfl (fun w' hw' => by (go_simp; try with_reducible rfl)) hHeld ?_
        simp only [Act.put, List.setIfInBounds_toArray, List.set_cons_zero, List.set_cons_succ]
        refine tk 12 (.some 64) _ _ rfl rfl (by kernel_rfl) (by kernel_rfl) (by kernel_rfl) hPF rfl (fun w' hw' => by (go_simp; try with_reducible rfl)) hHeld ?_
        simp only [Act.put, List.setIfInBounds_toArray, List.set_cons_zero, List.set_cons_succ]
        refine tk 13 (.some 65) _ _ rfl rfl (by kernel_rfl) (by kernel_rfl) (by kernel_rfl) hPF rfl (fun w' hw' => by (go_simp; try with_reducible rfl)) hHeld ?_
        simp only [Act.put, List.setIfInBounds_toArray, List.set_cons_zero, List.set_cons_succ]
        refine tk 14 (.some 66) _ _ rfl rfl (by kernel_rfl) (by kernel_rfl) (by kernel_rfl) hPF rfl (fun w' hw' => by (go_simp; try with_reducible rfl)) hHeld ?_
        simp only [Act.put, List.setIfInBounds_toArray, List.set_cons_zero, List.set_cons_succ]
        refine tk 15 (.some 67) _ _ rfl rfl (by kernel_rfl) (by kernel_rfl) (by kernel_rfl) hPF rfl (fun w' hw' => by (go_simp; try with_reducible rfl)) hHeld ?_
        simp only [Act.put, List.setIfInBounds_toArray, List.set_cons_zero, List.set_cons_succ]
        refine tk 16 (.some 68) _ _ rfl rfl (by kernel_rfl) (by kernel_rfl) (by kernel_rfl) hPF rfl (fun w' hw' => by (go_simp; try with_reducible rfl)) hHeld ?_
        simp only [Act.put, List.setIfInBounds_toArray, List.set_cons_zero, List.set_cons_succ]
        refine tk 17 (.some 69) _ _ rfl rfl (by kernel_rfl) (by kernel_rfl) (by kernel_rfl) hPF rfl (fun w' hw' => by (go_simp; try with_reducible rfl)) hHeld ?_
        simp only [Act.put, List.setIfInBounds_toArray, List.set_cons_zero, List.set_cons_succ]
        refine tk 18 (.some 70) _ _ rfl rfl (by kernel_rfl) (by kernel_rfl) (by kernel_rfl) hPF rfl (fun w' hw' => by (go_simp; try with_reducible rfl)) hHeld ?_
        simp only [Act.put, List.setIfInBounds_toArray, List.set_cons_zero, List.set_cons_succ]
        refine tk 19 (.some 71) _ _ rfl rfl (by kernel_rfl) (by kernel_rfl) (by kernel_rfl) hPF rfl (fun w' hw' => by (go_simp; try with_reducible rfl)) hHeld ?_
        simp only [Act.put, List.setIfInBounds_toArray, List.set_cons_zero, List.set_cons_succ]
        refine tk 20 (.some 72) _ _ rfl rfl (by kernel_rfl) (by kernel_rfl) (by kernel_rfl) hPF rfl (fun w' hw' => by (go_simp; try with_reducible rfl)) hHeld ?_
        simp only [Act.put, List.setIfInBounds_toArray, List.set_cons_zero, List.set_cons_succ]
        refine tk 21 (.some 73) _ _ rfl rfl (by kernel_rfl) (by kernel_rfl) (by kernel_rfl) hPF rfl (fun w' hw' => by (go_simp; try with_reducible rfl)) hHeld ?_
        simp only [Act.put, List.setIfInBounds_toArray, List.set_cons_zero, List.set_cons_succ]
        refine tk 24 (.some 76) _ _ rfl rfl (by kernel_rfl) (by kernel_rfl) (by kernel_rfl) hPF rfl (fun w' hw' => by (go_simp; try with_reducible rfl)) hHeld ?_
        simp only [Act.put, List.setIfInBounds_toArray, List.set_cons_zero, List.set_cons_succ]
        refine tk 25 (.some 77) _ _ rfl rfl (by kernel_rfl) (by kernel_rfl) (by kernel_rfl) hPF rfl (fun w' hw' => by (go_simp; try with_reducible rfl)) hHeld ?_
        simp only [Act.put, List.setIfInBounds_toArray, List.set_cons_zero, List.set_cons_succ]
        refine tk 26 (.some 78) _ _ rfl rfl (by kernel_rfl) (by kernel_rfl) (by kernel_rfl) hPF rfl (fun w' hw' => by (go_simp; try with_reducible rfl)) hHeld ?_
        simp only [Act.put, List.setIfInBounds_toArray, List.set_cons_zero, List.set_cons_succ]
        refine tk 27 (.some 79) _ _ rfl rfl (by kernel_rfl) (by kernel_rfl) (by kernel_rfl) hPF rfl (fun w' hw' => by (go_simp; try with_reducible rfl)) hHeld ?_
        simp only [Act.put, List.setIfInBounds_toArray, List.set_cons_zero, List.set_cons_succ]
        refine tk 28 (.some 80) _ _ rfl rfl (by kernel_rfl) (by kernel_rfl) (by kernel_rfl) hPF rfl (fun w' hw' => by (have kc := str_row (n := m) (c := pcap - n) hw' (by rw [padF_len]; exact hm); rw [hs] at kc; go_simp; try with_reducible rfl)) hHeld ?_
        simp only [Act.put, List.setIfInBounds_toArray, List.set_cons_zero, List.set_cons_succ]
        refine wpAnyH_ready (rs := [22]) (by kernel_rfl) (by simp) (AllReadyH.cons (o := _) rfl (fun K hK => ?_) AllReadyH.nil)
        go_simp
        refine (pad_any _ n (by omega)).mono ?_
        rintro e w6 ⟨g6, rfl, hg6, ⟨rest6, hblk6⟩, hB6⟩
        have hHeld := RowAt.below hHeld hB6
        have hB := hB.drew.trans (Below.mono hB6 (by simpa using hB.size))
        have kc6 := str_row (n := m) (c := m) (rowAt_pad hblk6) (by rw [padF_len]; exact hm)
        rw [hs] at kc6
        clear hblk6
        rw [hm]
        refine hK.out _ _ hHeld (fun hHeld => ?_)
        clear hK K
        try simp only [Act.put, List.setIfInBounds_toArray, List.set_cons_zero, List.set_cons_succ]
        refine wpAnyH_ready (rs := [23]) (by kernel_rfl) (by simp) (AllReadyH.cons (o := _) rfl (fun K hK => ?_) AllReadyH.nil)
        go_simp
        refine hK.out _ _ hHeld (fun hHeld => ?_)
        clear hK K
        try simp only [Act.put, List.setIfInBounds_toArray, List.set_cons_zero, List.set_cons_succ]
        refine tk 29 (.some 81) _ _ rfl rfl (by kernel_rfl) (by kernel_rfl) (by kernel_rfl) hPF rfl (fun w' hw' => by (go_simp; try with_reducible rfl)) hHeld ?_
        simp only [Act.put, List.setIfInBounds_toArray, List.set_cons_zero, List.set_cons_succ]
        refine tk 30 (.some 82) _ _ rfl rfl (by kernel_rfl) (by kernel_rfl) (by kernel_rfl) hPF rfl (fun w' hw' => by (go_simp; try with_reducible rfl)) hHeld ?_
        simp only [Act.put, List.setIfInBounds_toArray, List.set_cons_zero, List.set_cons_succ]
        refine tk 31 (.some 83) _ _ rfl rfl (by kernel_rfl) (by kernel_rfl) (by kernel_rfl) hPF rfl (fun w' hw' => by (go_simp; try with_reducible rfl)) hHeld ?_
        simp only [Act.put, List.setIfInBounds_toArray, List.set_cons_zero, List.set_cons_succ]
        refine wpAnyH_ready (rs := [32]) (by kernel_rfl) (by simp) (AllReadyH.cons (o := _) rfl (fun K hK => ?_) AllReadyH.nil)
        go_simp
        refine (awake09_any _).mono ?_
        rintro e w7 ⟨rfl, hB7⟩
        have hHeld := RowAt.below hHeld hB7
        have hB := hB.trans (Below.mono hB7 hB.size)
        refine hK.out _ _ hHeld (fun hHeld => ?_)
        clear hK K
        try simp only [Act.put, List.setIfInBounds_toArray, List.set_cons_zero, List.set_cons_succ]
        refine tk 33 (.some 85) _ _ rfl rfl (by kernel_rfl) (by kernel_rfl) (by kernel_rfl) hPF rfl (fun w' hw' => by (go_simp; try with_reducible rfl)) hHeld ?_
        simp only [Act.put, List.setIfInBounds_toArray, List.set_cons_zero, List.set_cons_succ]
        refine tk 34 (.some 4) _ _ rfl rfl (by kernel_rfl) (by kernel_rfl) (by kernel_rfl) hPF rfl (fun w' hw' => by (go_simp; try with_reducible rfl)) hHeld ?_
        simp only [Act.put, List.setIfInBounds_toArray, List.set_cons_zero, List.set_cons_succ]
        refine wpAnyH_done (by kernel_rfl) ?_ _
        go_wp2_with fail
        go_ret
        exact ⟨rfl, hB⟩

    | some k =>
      have hV : unpadV l = .tuple #[.int .i64 k, .int .i64 0] := by unfold unpadV; rw [hu]
      have hI : unpadI l = k := by unfold unpadI; rw [hu]
      rw [hV]
      rw [hI] at hup
      clear hV hI hu
      go_wp2_with fail
      refine hup.mono ?_
      rintro e w2 ⟨rfl, rfl⟩
      go_wp2_with fail
      refine hpd.mono ?_
      rintro e w3 ⟨v, rfl, hown, hB3⟩
      obtain ⟨pp, pcap, rfl, hpc, hRP⟩ := own_rowAt hown
      obtain ⟨g, o, rfl, _, _⟩ := hRP 0 (by rw [List.length_append, padF_len]; omega)
      have hB := hB.trans (Below.mono hB3 hB.size)
      obtain ⟨pl, hpl⟩ : ∃ pl, (l ++ padF n).length = pl := ⟨_, rfl⟩
      have hpl2 : pl = n + (16 - n % 16) := by rw [← hpl, List.length_append, padF_len, hn]
      rw [hpl] at hpc
      rw [hpl]
      have Hpl2 := hid hpl2
      clear hpl2
      have hRp : RowAt w3 (some ⟨g, o + n, none⟩) (padF n) := by
        have := rowAt_drop hRP n
        rw [List.drop_append, List.drop_of_length_le (by omega), hn, Nat.sub_self] at this
        simpa using this
      clear hown hRP hup hpd hB3
      go_wp2_with fail
      refine (pad_all _ z hz).mono ?_
      rintro e w4 ⟨fa, fl, rfl, hf, hB4⟩
      have hRp := hRp.below hB4
      have hB := hB.trans (Below.mono hB4 hB.size)
      have HRp := hid hRp
      clear hB4 hRp hpl
      go_upto_region 7 with fail
      go_cut [51] (fun s51 wx => s51 = .bool false ∧ w4 = wx)
      case first =>
        rcases hf with ⟨h, rfl, hfl⟩ | ⟨k1, hk1, hm1, g1, rfl, hc1⟩
        · have q1 : ¬ (0 ≤ z) := by omega
          have hfl0 : (fl : Int) = 0 := by omega
          have hflb : ((fl : Int) != 0) = false := by rw [hfl0]; rfl
          clear hfl
          go_wp2_with fail
          go_meet
          exact ⟨rfl, rfl⟩
        · obtain ⟨r, hr⟩ : ∃ r : Int, ((k1 % 16 : Nat) : Int) = r := ⟨_, rfl⟩
          have h1 : z.tmod 16 = r := by rw [Int.tmod_eq_emod_of_nonneg (by omega), ← hr]; omega
          have h1' : z % 16 = r := by omega
          have h2 : (16 : Int) - r = (fl : Int) := by omega
          have hm2 : 1 ≤ fl := by omega
          have hm3 : fl ≤ 16 := by omega
          have q1 : 0 ≤ z := by omega
          have q2 : ¬ (z < 0) := by omega
          clear hr hm1 hk1
          go_wp2_with fail
          go_meet
          exact ⟨rfl, rfl⟩
      case rest =>
        obtain ⟨rfl, rfl⟩ := hcut
        have hRp := HRp.out
        obtain ⟨s, hs⟩ : ∃ s, str (padF n) = s := ⟨_, rfl⟩
        obtain ⟨m, hm⟩ : ∃ m, 16 - n % 16 = m := ⟨_, rfl⟩
        have hpp := Hpl2.out
        have hpc2 : ¬ pcap = n := by omega
        have hpm : pl - n = m := by omega
        have hpn : n ≤ pl := by omega
        clear hpp
        have hk0 : 0 ≤ (k : Int) := by omega
        have hk1 : ¬ ((k : Int) < 0) := by omega
        have hkm : max (k : Int) 0 = (k : Int) := Int.max_eq_left hk0
        have hkk : ((k : Int) == (k : Int)) = true := beq_self_eq_true _
        clear HRp hf Hpl2
        go_wp2_with fail
        refine tk_region (fun w' => RowAt w' (some ⟨g, o + n, none⟩) (padF n)) (by kernel_rfl) (fun c a d v w h => by cases d <;> exact h) hRp (fun hPF hHeld => ?_)
        refine tk 0 (.some 52) _ _ rfl rfl (by kernel_rfl) (by kernel_rfl) (by kernel_rfl) hPF rfl (fun w' hw' => by (go_simp; try with_reducible rfl)) hHeld ?_
        simp only [Act.put, List.setIfInBounds_toArray, List.set_cons_zero, List.set_cons_succ]
        refine tk 1 (.some 53) _ _ rfl rfl (by kernel_rfl) (by kernel_rfl) (by kernel_rfl) hPF rfl (fun w' hw' => by (go_simp; try with_reducible rfl)) hHeld ?_
        simp only [Act.put, List.setIfInBounds_toArray, List.set_cons_zero, List.set_cons_succ]
        refine tk 2 (.some 54) _ (.int .i64 k) rfl rfl (by kernel_rfl) (by kernel_rfl) (by kernel_rfl) hPF rfl (fun w' hw' => by (go_simp; intro h; omega)) hHeld ?_
        simp only [Act.put, List.setIfInBounds_toArray, List.set_cons_zero, List.set_cons_succ]
        refine tk 3 (.some 55) _ (.bool true) rfl rfl (by kernel_rfl) (by kernel_rfl) (by kernel_rfl) hPF rfl (fun w' hw' => by (go_simp; try with_reducible rfl)) hHeld ?_
        simp only [Act.put, List.setIfInBounds_toArray, List.set_cons_zero, List.set_cons_succ]
        refine tk 4 (.some 56) _ _ rfl rfl (by kernel_rfl) (by kernel_rfl) (by kernel_rfl) hPF rfl (fun w' hw' => by (go_simp; try with_reducible rfl)) hHeld ?_
        simp only [Act.put, List.setIfInBounds_toArray, List.set_cons_zero, List.set_cons_succ]
        refine tk 5 (.some 57) _ _ rfl rfl (by kernel_rfl) (by kernel_rfl) (by kernel_rfl) hPF rfl (fun w' hw' => by (go_simp; try with_reducible rfl)) hHeld ?_
        simp only [Act.put, List.setIfInBounds_toArray, List.set_cons_zero, List.set_cons_succ]
        refine tk 6 (.some 58) _ _ rfl rfl (by kernel_rfl) (by kernel_rfl) (by kernel_rfl) hPF rfl (fun w' hw' => by (go_simp; try with_reducible rfl)) hHeld ?_
        simp only [Act.put, List.setIfInBounds_toArray, List.set_cons_zero, List.set_cons_succ]
        refine tk 7 (.some 59) _ _ rfl rfl (by kernel_rfl) (by kernel_rfl) (by kernel_rfl) hPF rfl (fun w' hw' => by (go_simp; try with_reducible rfl)) hHeld ?_
        simp only [Act.put, List.setIfInBounds_toArray, List.set_cons_zero, List.set_cons_succ]
        refine tk 8 (.some 60) _ _ rfl rfl (by kernel_rfl) (by kernel_rfl) (by kernel_rfl) hPF rfl (fun w' hw' => by (go_simp; try with_reducible rfl)) hHeld ?_
        simp only [Act.put, List.setIfInBounds_toArray, List.set_cons_zero, List.set_cons_succ]
        refine tk 9 (.some 61) _ _ rfl rfl (by kernel_rfl) (by kernel_rfl) (by kernel_rfl) hPF rfl (fun w' hw' => by (go_simp; try with_reducible rfl)) hHeld ?_
        simp only [Act.put, List.setIfInBounds_toArray, List.set_cons_zero, List.set_cons_succ]
        refine tk 10 (.some 62) _ _ rfl rfl (by kernel_rfl) (by kernel_rfl) (by kernel_rfl) hPF rfl (fun w' hw' => by (go_simp; try with_reducible rfl)) hHeld ?_
        simp only [Act.put, List.setIfInBounds_toArray, List.set_cons_zero, List.set_cons_succ]
        refine tk 11 (.some 63) _ _ rfl rfl (by kernel_rfl) (by kernel_rfl) (by kernel_rfl) hPF rfl (fun w' hw' => by (go_simp; try with_reducible rfl)) hHeld ?_
        simp only [Act.put, List.setIfInBounds_toArray, List.set_cons_zero, List.set_cons_succ]
        refine tk 12 (.some 64) _ _ rfl rfl (by kernel_rfl) (by kernel_rfl) (by kernel_rfl) hPF rfl (fun w' hw' => by (go_simp; try with_reducible rfl)) hHeld ?_
        simp only [Act.put, List.setIfInBounds_toArray, List.set_cons_zero, List.set_cons_succ]
        refine tk 13 (.some 65) _ _ rfl rfl (by kernel_rfl) (by kernel_rfl) (by kernel_rfl) hPF rfl (fun w' hw' => by (go_simp; try with_reducible rfl)) hHeld ?_
        simp only [Act.put, List.setIfInBounds_toArray, List.set_cons_zero, List.set_cons_succ]
        refine tk 14 (.some 66) _ _ rfl rfl (by kernel_rfl) (by kernel_rfl) (by kernel_rfl) hPF rfl (fun w' hw' => by (go_simp; try with_reducible rfl)) hHeld ?_
        simp only [Act.put, List.setIfInBounds_toArray, List.set_cons_zero, List.set_cons_succ]
        refine tks 15 (.some 67) _ rfl rfl (by kernel_rfl) (by kernel_rfl) (by kernel_rfl) hPF rfl hHeld ?_
        simp only [Act.put, List.setIfInBounds_toArray, List.set_cons_zero, List.set_cons_succ]
        refine tks 16 (.some 68) _ rfl rfl (by kernel_rfl) (by kernel_rfl) (by kernel_rfl) hPF rfl hHeld ?_
        simp only [Act.put, List.setIfInBounds_toArray, List.set_cons_zero, List.set_cons_succ]
        refine tk 17 (.some 69) _ _ rfl rfl (by kernel_rfl) (by kernel_rfl) (by kernel_rfl) hPF rfl (fun w' hw' => by (go_simp; try with_reducible rfl)) hHeld ?_
        simp only [Act.put, List.setIfInBounds_toArray, List.set_cons_zero, List.set_cons_succ]
        refine tk 18 (.some 70) _ _ rfl rfl (by kernel_rfl) (by kernel_rfl) (by kernel_rfl) hPF rfl (fun w' hw' => by (go_simp; try with_reducible rfl)) hHeld ?_
        simp only [Act.put, List.setIfInBounds_toArray, List.set_cons_zero, List.set_cons_succ]
        refine tk 19 (.some 71) _ _ rfl rfl (by kernel_rfl) (by kernel_rfl) (by kernel_rfl) hPF rfl (fun w' hw' => by (go_simp; try with_reducible rfl)) hHeld ?_
        simp only [Act.put, List.setIfInBounds_toArray, List.set_cons_zero, List.set_cons_succ]
        refine tk 20 (.some 72) _ _ rfl rfl (by kernel_rfl) (by kernel_rfl) (by kernel_rfl) hPF rfl (fun w' hw' => by (go_simp; try with_reducible rfl)) hHeld ?_
        simp only [Act.put, List.setIfInBounds_toArray, List.set_cons_zero, List.set_cons_succ]
        refine tk 21 (.some 73) _ _ rfl rfl (by kernel_rfl) (by kernel_rfl) (by kernel_rfl) hPF rfl (fun w' hw' => by (go_simp; try with_reducible rfl)) hHeld ?_
        simp only [Act.put, List.setIfInBounds_toArray, List.set_cons_zero, List.set_cons_succ]
        refine tk 24 (.some 76) _ _ rfl rfl (by kernel_rfl) (by kernel_rfl) (by kernel_rfl) hPF rfl (fun w' hw' => by (go_simp; try with_reducible rfl)) hHeld ?_
        simp only [Act.put, List.setIfInBounds_toArray, List.set_cons_zero, List.set_cons_succ]
        refine tk 25 (.some 77) _ _ rfl rfl (by kernel_rfl) (by kernel_rfl) (by kernel_rfl) hPF rfl (fun w' hw' => by (go_simp; try with_reducible rfl)) hHeld ?_
        simp only [Act.put, List.setIfInBounds_toArray, List.set_cons_zero, List.set_cons_succ]
        refine tk 26 (.some 78) _ _ rfl rfl (by kernel_rfl) (by kernel_rfl) (by kernel_rfl) hPF rfl (fun w' hw' => by (go_simp; try with_reducible rfl)) hHeld ?_
        simp only [Act.put, List.setIfInBounds_toArray, List.set_cons_zero, List.set_cons_succ]
        refine tk 27 (.some 79) _ _ rfl rfl (by kernel_rfl) (by kernel_rfl) (by kernel_rfl) hPF rfl (fun w' hw' => by (go_simp; try with_reducible rfl)) hHeld ?_
        simp only [Act.put, List.setIfInBounds_toArray, List.set_cons_zero, List.set_cons_succ]
        refine tk 28 (.some 80) _ _ rfl rfl (by kernel_rfl) (by kernel_rfl) (by kernel_rfl) hPF rfl (fun w' hw' => by (have kc := str_row (n := m) (c := pcap - n) hw' (by rw [padF_len]; exact hm); rw [hs] at kc; go_simp; try with_reducible rfl)) hHeld ?_
        simp only [Act.put, List.setIfInBounds_toArray, List.set_cons_zero, List.set_cons_succ]
        refine wpAnyH_ready (rs := [22]) (by kernel_rfl) (by simp) (AllReadyH.cons (o := _) rfl (fun K hK => ?_) AllReadyH.nil)
        go_simp
        refine (pad_any _ n (by omega)).mono ?_
        rintro e w6 ⟨g6, rfl, hg6, ⟨rest6, hblk6⟩, hB6⟩
        have hHeld := RowAt.below hHeld hB6
        have hB := hB.drew.trans (Below.mono hB6 (by simpa using hB.size))
        have kc6 := str_row (n := m) (c := m) (rowAt_pad hblk6) (by rw [padF_len]; exact hm)
        rw [hs] at kc6
        clear hblk6
        rw [hm]
        refine hK.out _ _ hHeld (fun hHeld => ?_)
        clear hK K
        try simp only [Act.put, List.setIfInBounds_toArray, List.set_cons_zero, List.set_cons_succ]
        refine wpAnyH_ready (rs := [23]) (by kernel_rfl) (by simp) (AllReadyH.cons (o := _) rfl (fun K hK => ?_) AllReadyH.nil)
        go_simp
        refine hK.out _ _ hHeld (fun hHeld => ?_)
        clear hK K
        try simp only [Act.put, List.setIfInBounds_toArray, List.set_cons_zero, List.set_cons_succ]
        refine tk 29 (.some 81) _ _ rfl rfl (by kernel_rfl) (by kernel_rfl) (by kernel_rfl) hPF rfl (fun w' hw' => by (go_simp; try with_reducible rfl)) hHeld ?_
        simp only [Act.put, List.setIfInBounds_toArray, List.set_cons_zero, List.set_cons_succ]
        refine tk 30 (.some 82) _ _ rfl rfl (by kernel_rfl) (by kernel_rfl) (by kernel_rfl) hPF rfl (fun w' hw' => by (go_simp; try with_reducible rfl)) hHeld ?_
        simp only [Act.put, List.setIfInBounds_toArray, List.set_cons_zero, List.set_cons_succ]
        refine tk 31 (.some 83) _ _ rfl rfl (by kernel_rfl) (by kernel_rfl) (by kernel_rfl) hPF rfl (fun w' hw' => by (go_simp; try with_reducible rfl)) hHeld ?_
        simp only [Act.put, List.setIfInBounds_toArray, List.set_cons_zero, List.set_cons_succ]
        refine wpAnyH_ready (rs := [32]) (by kernel_rfl) (by simp) (AllReadyH.cons (o := _) rfl (fun K hK => ?_) AllReadyH.nil)
        go_simp
        refine (awake09_any _).mono ?_
        rintro e w7 ⟨rfl, hB7⟩
        have hHeld := RowAt.below hHeld hB7
        have hB := hB.trans (Below.mono hB7 hB.size)
        refine hK.out _ _ hHeld (fun hHeld => ?_)
        clear hK K
        try simp only [Act.put, List.setIfInBounds_toArray, List.set_cons_zero, List.set_cons_succ]
        refine tk 33 (.some 85) _ _ rfl rfl (by kernel_rfl) (by kernel_rfl) (by kernel_rfl) hPF rfl (fun w' hw' => by (go_simp; try with_reducible rfl)) hHeld ?_
        simp only [Act.put, List.setIfInBounds_toArray, List.set_cons_zero, List.set_cons_succ]
        refine tk 34 (.some 4) _ _ rfl rfl (by kernel_rfl) (by kernel_rfl) (by kernel_rfl) hPF rfl (fun w' hw' => by (go_simp; try with_reducible rfl)) hHeld ?_
        simp only [Act.put, List.setIfInBounds_toArray, List.set_cons_zero, List.set_cons_succ]
        refine wpAnyH_done (by kernel_rfl) ?_ _
        go_wp2_with fail
        go_ret
        exact ⟨rfl, hB⟩

  · go_enter Try.func6, Try.ntmps6
    go_wp2_with fail
    go_ret
    exact ⟨rfl, Below.refl _ _⟩
end Go.Proofs.Ytoffpchabpfhkaa
