/- AlgoChecks, walked (printed by gen_lc.py) -/
import Derived.Test.YtnmmnlffobnbfaaGreatDoorLb
namespace Go.Proofs.YtnmmnlffobnbfaaGreatDoor
open Go.RowKit

/-- Of which class an algorithm is. -/
def classF (alg : Int) : Int := if alg < 1 ∨ 6 < alg then 0 else if alg = 1 then 1 else alg - 1
theorem kind_none {W : World} {b g k1 k2 : Nat} (hm : MapAt W b (kindsL g k1 k2)) (alg : Int) (h : getM (kindsL g k1 k2) alg = none) :
    (Instr.lookup tKinds (.map (some b)) (.int .i64 alg) false).run Tryz.prog W = .ok noKind W := by
  have hl := run_look_ents underK .i64 fk rfl false (zeroK W) hm alg
  rw [h] at hl
  simpa using hl
theorem field_none (W : World) : (Instr.field tKind noKind 0).run Tryz.prog W = .ok (.int .i64 0) W := by kernel_rfl
set_option maxRecDepth 100000 in
set_option maxHeartbeats 4000000 in
theorem class_one (w : World) (alg c : Int) (v : Nat → Nat → Nat → Value) (hl : ∀ W b g k1 k2, MapAt W b (kindsL g k1 k2) → (Instr.lookup tKinds (.map (some b)) (.int .i64 alg) false).run Tryz.prog W = .ok (v g k1 k2) W)
    (hf : ∀ W g k1 k2, (Instr.field tKind (v g k1 k2) 0).run Tryz.prog W = .ok (.int .i64 c) W) :
    Calls Tryz.prog 27 #[.int .i64 alg] w fun e w' => e = .returned (.int .i64 c) ∧ Below w.heap.size w w' := by
  have HL := hid hl
  have HF := hid hf
  clear hl hf
  go_enter Tryz.func27, Tryz.ntmps27
  go_wp2_with fail
  refine (kinds_any _).mono ?_
  rintro e w2 ⟨b, g, k1, k2, rfl, hm, _, _, _, hB⟩
  have h1 := HL.out w2 b g k1 k2 hm
  have h2 := HF.out w2 g k1 k2
  generalize v g k1 k2 = V at *
  go_wp2_with fail
  go_ret
  exact ⟨rfl, hB⟩
theorem class_any (w : World) (alg : Int) : Calls Tryz.prog 27 #[.int .i64 alg] w fun e w' => e = .returned (.int .i64 (classF alg)) ∧ Below w.heap.size w w' := by
  by_cases hr : alg < 1 ∨ 6 < alg
  · have e : classF alg = 0 := by unfold classF; rw [if_pos hr]
    rw [e]
    exact class_one w alg 0 (fun _ _ _ => noKind) (fun W b g k1 k2 hm => kind_none hm alg (getM_none alg hr g k1 k2)) (fun W _ _ _ => field_none W)
  · have h6 : alg = 1 ∨ alg = 2 ∨ alg = 3 ∨ alg = 4 ∨ alg = 5 ∨ alg = 6 := by omega
    rcases h6 with rfl | rfl | rfl | rfl | rfl | rfl
    · exact class_one w 1 1 (fun g k1 k2 => kindV 1 true (sl1 k1) 0 0 0 74 75) (fun W b g k1 k2 hm => kind_do hm 1 _ rfl) (fun W g k1 k2 => field_class _ _ _ _ _ _ _ _ W)
    · exact class_one w 2 1 (fun g k1 k2 => kindV 1 true (sl1 k2) 0 0 0 74 77) (fun W b g k1 k2 hm => kind_do hm 2 _ rfl) (fun W g k1 k2 => field_class _ _ _ _ _ _ _ _ W)
    · exact class_one w 3 2 (fun g k1 k2 => kindV 2 false (sl2 g) 16 16 0 79 80) (fun W b g k1 k2 hm => kind_do hm 3 _ rfl) (fun W g k1 k2 => field_class _ _ _ _ _ _ _ _ W)
    · exact class_one w 4 3 (fun g k1 k2 => kindV 3 false (sl2 g) 16 16 0 84 85) (fun W b g k1 k2 hm => kind_do hm 4 _ rfl) (fun W g k1 k2 => field_class _ _ _ _ _ _ _ _ W)
    · exact class_one w 5 4 (fun g k1 k2 => kindV 4 false (sl2 g) 1 64 1000 89 90) (fun W b g k1 k2 hm => kind_do hm 5 _ rfl) (fun W g k1 k2 => field_class _ _ _ _ _ _ _ _ W)
    · exact class_one w 6 5 (fun g k1 k2 => kindV 5 false (.slice (some ⟨g, 2, none⟩) 1 1) 12 12 1000 89 94) (fun W b g k1 k2 hm => kind_do hm 6 _ rfl) (fun W g k1 k2 => field_class _ _ _ _ _ _ _ _ W)
set_option maxRecDepth 100000 in
set_option maxHeartbeats 4000000 in
theorem refclass_any (w : World) (alg : Int) : Calls Tryz.prog 28 #[.int .i64 alg] w fun e w' => e = .returned (.int .i64 (classF alg)) ∧ w = w' := by
  by_cases h1 : alg < 1
  · have e : classF alg = 0 := by unfold classF; rw [if_pos (.inl h1)]
    rw [e]
    go_enter Tryz.func28, Tryz.ntmps28
    go_wp2_with fail
    go_ret
    exact ⟨rfl, rfl⟩
  by_cases h2 : 6 < alg
  · have e : classF alg = 0 := by unfold classF; rw [if_pos (.inr h2)]
    rw [e]
    go_enter Tryz.func28, Tryz.ntmps28
    go_wp2_with fail
    go_ret
    exact ⟨rfl, rfl⟩
  by_cases h3 : alg = 1
  · subst h3
    have e : classF 1 = 1 := rfl
    rw [e]
    go_enter Tryz.func28, Tryz.ntmps28
    go_wp2_with fail
    go_ret
    exact ⟨rfl, rfl⟩
  · have e : classF alg = alg - 1 := by unfold classF; rw [if_neg (by omega), if_neg h3]
    have hw : IntKind.i64.wrap (alg - 1) = alg - 1 := by rw [IntKind.wrap_i64]; omega
    rw [e]
    go_enter Tryz.func28, Tryz.ntmps28
    go_wp2_with fail
    go_ret
    exact ⟨rfl, rfl⟩
theorem roomA_le (alg : Int) (op : Bool) (n : Int) (h : n ≤ 4611686018427387904) : ((roomA alg op n).1 : Int) ≤ 4611686018427387920 := by
  unfold roomA roomF
  (repeat' split) <;> simp <;> omega
set_option maxRecDepth 100000 in
set_option maxHeartbeats 8000000 in
theorem refroom_any (w : World) (alg : Int) (op : Bool) (n : Int) (h9 : n ≤ 4611686018427387904) : Calls Tryz.prog 25 #[.int .i64 alg, .bool op, .int .i64 n] w fun e w' => e = .returned (.tuple #[.int .i64 ((roomA alg op n).1 : Nat), .int .i64 ((roomA alg op n).2 : Nat)]) ∧ w = w' := by
  by_cases h1 : alg < 1
  · have e : roomA alg op n = (0, 4) := by unfold roomA; rw [if_pos (.inl h1)]
    rw [e]
    go_enter Tryz.func25, Tryz.ntmps25
    go_wp2_with fail
    go_ret2
    exact ⟨rfl, rfl⟩
  by_cases h2 : 6 < alg
  · have e : roomA alg op n = (0, 4) := by unfold roomA; rw [if_pos (.inr (.inl h2))]
    rw [e]
    go_enter Tryz.func25, Tryz.ntmps25
    go_wp2_with fail
    go_ret2
    exact ⟨rfl, rfl⟩
  by_cases h3 : op = true ∧ alg ≤ 2
  · obtain ⟨rfl, h3⟩ := h3
    have e : roomA alg true n = (0, 4) := by unfold roomA; rw [if_pos (.inr (.inr ⟨rfl, h3⟩))]
    rw [e]
    go_enter Tryz.func25, Tryz.ntmps25
    go_wp2_with fail
    go_ret2
    exact ⟨rfl, rfl⟩
  have hg : ¬ (alg < 1 ∨ 6 < alg ∨ (op = true ∧ alg ≤ 2)) := fun h => h.elim h1 (fun h => h.elim h2 h3)
  by_cases h4 : n < 0
  · cases op
    · have e : roomA alg false n = (0, 1) := by unfold roomA; rw [if_neg hg, if_pos h4]
      rw [e]
      go_enter Tryz.func25, Tryz.ntmps25
      go_wp2_with fail
      go_ret2
      exact ⟨rfl, rfl⟩
    · have h3' : ¬ alg ≤ 2 := fun h => h3 ⟨rfl, h⟩
      have e : roomA alg true n = (0, 1) := by unfold roomA; rw [if_neg hg, if_pos h4]
      rw [e]
      go_enter Tryz.func25, Tryz.ntmps25
      go_wp2_with fail
      go_ret2
      exact ⟨rfl, rfl⟩
  obtain ⟨N, rfl⟩ : ∃ N : Nat, n = (N : Int) := ⟨n.toNat, (Int.toNat_of_nonneg (by omega)).symm⟩
  have er : roomA alg op (N : Int) = roomF alg op N := by unfold roomA; rw [if_neg hg, if_neg h4]; rfl
  rw [er]
  clear er
  have h6 : alg = 1 ∨ alg = 2 ∨ alg = 3 ∨ alg = 4 ∨ alg = 5 ∨ alg = 6 := by omega
  obtain ⟨r, hr⟩ : ∃ r, N % 16 = r := ⟨_, rfl⟩
  have m1 : ((N : Int)).tmod 16 = (r : Int) := by rw [Int.tmod_eq_emod_of_nonneg (by omega)]; omega
  have m2 : (N : Int) % 16 = (r : Int) := by omega
  clear h1 h2 hg
  rcases h6 with rfl | rfl | rfl | rfl | rfl | rfl
  · obtain rfl : op = false := by cases op; rfl; exact absurd ⟨rfl, by decide⟩ h3
    have e : roomF 1 false N = (32, 0) := by rfl
    rw [e]
    clear e
    go_enter Tryz.func25, Tryz.ntmps25
    go_wp2_with fail
    go_ret2
    exact ⟨rfl, rfl⟩
  · obtain rfl : op = false := by cases op; rfl; exact absurd ⟨rfl, by decide⟩ h3
    have e : roomF 2 false N = (32, 0) := by rfl
    rw [e]
    clear e
    go_enter Tryz.func25, Tryz.ntmps25
    go_wp2_with fail
    go_ret2
    exact ⟨rfl, rfl⟩
  · cases op
    · have e : roomF 3 false N = (N, 0) := by rfl
      rw [e]
      clear e
      go_enter Tryz.func25, Tryz.ntmps25
      go_wp2_with fail
      go_ret2
      exact ⟨rfl, rfl⟩
    · have e : roomF 3 true N = (N, 0) := by rfl
      rw [e]
      clear e
      go_enter Tryz.func25, Tryz.ntmps25
      go_wp2_with fail
      go_ret2
      exact ⟨rfl, rfl⟩
  · cases op
    · obtain ⟨d, hd⟩ : ∃ d, N - r = d := ⟨_, rfl⟩
      have m3 : (N : Int) - (r : Int) = (d : Int) := by omega
      obtain ⟨s, hs⟩ : ∃ s, d + 16 = s := ⟨_, rfl⟩
      have m4 : (d : Int) + 16 = (s : Int) := by omega
      have w1 : IntKind.i64.wrap (d : Int) = d := by rw [IntKind.wrap_i64]; omega
      have w2 : IntKind.i64.wrap (s : Int) = s := by rw [IntKind.wrap_i64]; omega
      have e : roomF 4 false N = (s, 0) := by
        show (N / 16 * 16 + 16, 0) = _
        rw [show N / 16 * 16 + 16 = s by omega]
      clear hd hs hr m2
      rw [e]
      clear e
      go_enter Tryz.func25, Tryz.ntmps25
      go_wp2_with fail
      go_ret2
      exact ⟨rfl, rfl⟩
    · by_cases h0 : N = 0
      · subst h0
        have e : roomF 4 true 0 = (0, 17) := by rfl
        rw [e]
        clear e
        go_enter Tryz.func25, Tryz.ntmps25
        go_wp2_with fail
        go_ret2
        exact ⟨rfl, rfl⟩
      · have q0 : ¬ (N : Int) = 0 := by omega
        by_cases hr0 : r = 0
        · have q1 : (r : Int) = 0 := by omega
          have e : roomF 4 true N = (N, 0) := by unfold roomF; rw [if_neg (by decide), if_neg (by decide), if_pos rfl, if_pos rfl, if_pos (by omega)]
          rw [e]
          clear e
          go_enter Tryz.func25, Tryz.ntmps25
          go_wp2_with fail
          go_ret2
          exact ⟨rfl, rfl⟩
        · have q1 : ((r : Int) != 0) = true := by rw [bne_iff_ne]; omega
          have e : roomF 4 true N = (0, 17) := by unfold roomF; rw [if_neg (by decide), if_neg (by decide), if_pos rfl, if_pos rfl, if_neg (by omega)]
          rw [e]
          clear e
          go_enter Tryz.func25, Tryz.ntmps25
          go_wp2_with fail
          go_ret2
          exact ⟨rfl, rfl⟩
  · cases op
    · obtain ⟨s, hs⟩ : ∃ s, N + 16 = s := ⟨_, rfl⟩
      have m4 : (N : Int) + 16 = (s : Int) := by omega
      have w2 : IntKind.i64.wrap (s : Int) = s := by rw [IntKind.wrap_i64]; omega
      have e : roomF 5 false N = (s, 0) := by rw [← hs]; rfl
      rw [e]
      clear e
      go_enter Tryz.func25, Tryz.ntmps25
      go_wp2_with fail
      go_ret2
      exact ⟨rfl, rfl⟩
    · by_cases h0 : N < 16
      · have q0 : (N : Int) < 16 := by omega
        have e : roomF 5 true N = (0, 17) := by unfold roomF; rw [if_neg (by decide), if_neg (by decide), if_neg (by decide), if_pos rfl, if_neg (by omega)]
        rw [e]
        clear e
        go_enter Tryz.func25, Tryz.ntmps25
        go_wp2_with fail
        go_ret2
        exact ⟨rfl, rfl⟩
      · have q0 : ¬ (N : Int) < 16 := by omega
        obtain ⟨s, hs⟩ : ∃ s, N - 16 = s := ⟨_, rfl⟩
        have m4 : (N : Int) - 16 = (s : Int) := by omega
        have w2 : IntKind.i64.wrap (s : Int) = s := by rw [IntKind.wrap_i64]; omega
        have e : roomF 5 true N = (s, 0) := by unfold roomF; rw [if_neg (by decide), if_neg (by decide), if_neg (by decide), if_pos rfl, if_pos (by omega), hs]
        rw [e]
        clear e
        go_enter Tryz.func25, Tryz.ntmps25
        go_wp2_with fail
        go_ret2
        exact ⟨rfl, rfl⟩
  · cases op
    · obtain ⟨s, hs⟩ : ∃ s, N + 16 = s := ⟨_, rfl⟩
      have m4 : (N : Int) + 16 = (s : Int) := by omega
      have w2 : IntKind.i64.wrap (s : Int) = s := by rw [IntKind.wrap_i64]; omega
      have e : roomF 6 false N = (s, 0) := by rw [← hs]; rfl
      rw [e]
      clear e
      go_enter Tryz.func25, Tryz.ntmps25
      go_wp2_with fail
      go_ret2
      exact ⟨rfl, rfl⟩
    · by_cases h0 : N < 16
      · have q0 : (N : Int) < 16 := by omega
        have e : roomF 6 true N = (0, 17) := by unfold roomF; rw [if_neg (by decide), if_neg (by decide), if_neg (by decide), if_pos rfl, if_neg (by omega)]
        rw [e]
        clear e
        go_enter Tryz.func25, Tryz.ntmps25
        go_wp2_with fail
        go_ret2
        exact ⟨rfl, rfl⟩
      · have q0 : ¬ (N : Int) < 16 := by omega
        obtain ⟨s, hs⟩ : ∃ s, N - 16 = s := ⟨_, rfl⟩
        have m4 : (N : Int) - 16 = (s : Int) := by omega
        have w2 : IntKind.i64.wrap (s : Int) = s := by rw [IntKind.wrap_i64]; omega
        have e : roomF 6 true N = (s, 0) := by unfold roomF; rw [if_neg (by decide), if_neg (by decide), if_neg (by decide), if_pos rfl, if_pos (by omega), hs]
        rw [e]
        clear e
        go_enter Tryz.func25, Tryz.ntmps25
        go_wp2_with fail
        go_ret2
        exact ⟨rfl, rfl⟩
set_option maxRecDepth 100000 in
set_option maxHeartbeats 16000000 in
theorem refcheck_any (w : World) (alg : Int) (op : Bool) (pk : Option Addr) (k ck : Nat) (pv : Option Addr) (v cv : Nat) (pa : Option Addr) (a ca : Nat) :
    Calls Tryz.prog 26 #[.agg (parC alg op pk k ck pv v cv pa a ca).toArray] w fun e w' => e = .returned (.int .i64 (checkF alg op k v a : Nat)) ∧ Below w.heap.size w w' := by
  have hb := Blk.new w (parC alg op pk k ck pv v cv pa a ca) tRP
  have hB : Below w.heap.size w (w.alloc (.cells (parC alg op pk k ck pv v cv pa a ca).toArray tRP)) := (Below.refl _ _).alloc (Nat.le_refl _) _
  obtain ⟨w1, hw1⟩ : ∃ w1, w.alloc (.cells (parC alg op pk k ck pv v cv pa a ca).toArray tRP) = w1 := ⟨_, rfl⟩
  rw [hw1] at hb hB
  have HW1 := hid hw1
  have d0 : w1.cell? ⟨w.heap.size, 0, none⟩ = some (.int .i64 alg) := hb.cell 0
  have d1 : w1.cell? ⟨w.heap.size, 1, none⟩ = some (.bool op) := hb.cell 1
  have Hb := hid hb
  have HB := hid hB
  clear hw1 hb hB
  by_cases h1 : alg < 1
  · have e : checkF alg op k v a = 4 := by unfold checkF; rw [if_pos (.inl h1)]
    rw [e]
    go_enter Tryz.func26, Tryz.ntmps26
    go_upto_region 1 with fail
    change Code.wp _ _ _ _ (w.alloc (.cells (parC alg op pk k ck pv v cv pa a ca).toArray tRP))
    rw [HW1.out]
    go_wp2_with fail
    go_ret
    exact ⟨rfl, HB.out⟩
  by_cases h2 : 6 < alg
  · have e : checkF alg op k v a = 4 := by unfold checkF; rw [if_pos (.inr (.inl h2))]
    rw [e]
    go_enter Tryz.func26, Tryz.ntmps26
    go_upto_region 1 with fail
    change Code.wp _ _ _ _ (w.alloc (.cells (parC alg op pk k ck pv v cv pa a ca).toArray tRP))
    rw [HW1.out]
    go_wp2_with fail
    go_ret
    exact ⟨rfl, HB.out⟩
  by_cases h3 : op = true ∧ alg ≤ 2
  · obtain ⟨rfl, h3⟩ := h3
    have e : checkF alg true k v a = 4 := by unfold checkF; rw [if_pos (.inr (.inr ⟨rfl, h3⟩))]
    rw [e]
    go_enter Tryz.func26, Tryz.ntmps26
    go_upto_region 1 with fail
    change Code.wp _ _ _ _ (w.alloc (.cells (parC alg true pk k ck pv v cv pa a ca).toArray tRP))
    rw [HW1.out]
    go_wp2_with fail
    go_ret
    exact ⟨rfl, HB.out⟩
  have hg : ¬ (alg < 1 ∨ 6 < alg ∨ (op = true ∧ alg ≤ 2)) := fun h => h.elim h1 (fun h => h.elim h2 h3)
  have ha : (if alg < 5 then 0 else 1000) < a ↔ (if alg < 5 then (0 : Int) else 1000) < (a : Int) := by split <;> omega
  have hq0 : (op && decide (alg ≤ 2)) = false := by
    cases op
    · rfl
    · have : ¬ alg ≤ 2 := fun h => h3 ⟨rfl, h⟩
      simp [this]
  have h6 : alg = 1 ∨ alg = 2 ∨ alg = 3 ∨ alg = 4 ∨ alg = 5 ∨ alg = 6 := by omega
  have HC := hid (show checkF alg op k v a = checkF alg op k v a from rfl)
  obtain ⟨C, hC⟩ : ∃ C, checkF alg op k v a = C := ⟨_, rfl⟩
  rw [hC]
  have HC := hid hC.symm
  clear hC
  clear hq0 ha
  cases op
  · have h3b : ¬ (false = true ∧ alg ≤ 2) := h3
    go_enter Tryz.func26, Tryz.ntmps26
    go_upto_region 1 with fail
    change Code.wp _ _ _ _ (w.alloc (.cells (parC alg false pk k ck pv v cv pa a ca).toArray tRP))
    rw [HW1.out]
    go_upto_region 3 with fail
    clear d0 d1
    try simp only [Act.put]
    refine tkR (fun w' => Below w1.heap.size w1 w') [] (by kernel_rfl) (fun c a d v w h => by cases d <;> exact h) ((Below.refl _ _).drew) (fun hPF hHeld => ?_)
    refine tkB 0 (.some 25) _ _ rfl rfl (by kernel_rfl) (by kernel_rfl) (by kernel_rfl) (by kernel_rfl) hPF rfl (fun w' => by (go_simp; try with_reducible rfl)) hHeld (fun hHeld => ?_)
    simp only [Act.put, List.setIfInBounds_toArray, List.set_cons_zero, List.set_cons_succ]
    refine tkA 1 (.some 26) _ _ rfl rfl (by kernel_rfl) (by kernel_rfl) (by kernel_rfl) (by kernel_rfl) (by kernel_rfl) hPF rfl (fun w' hw' => by (have h1 := (Hb.out.below hw' Hb.out.lt).cell 2; go_simp; try with_reducible rfl)) hHeld (fun hHeld => ?_)
    simp only [Act.put, List.setIfInBounds_toArray, List.set_cons_zero, List.set_cons_succ]
    refine tkB 2 (.some 27) _ _ rfl rfl (by kernel_rfl) (by kernel_rfl) (by kernel_rfl) (by kernel_rfl) hPF rfl (fun w' => by (go_simp; try with_reducible rfl)) hHeld (fun hHeld => ?_)
    simp only [Act.put, List.setIfInBounds_toArray, List.set_cons_zero, List.set_cons_succ]
    refine tkB 3 (.some 28) _ _ rfl rfl (by kernel_rfl) (by kernel_rfl) (by kernel_rfl) (by kernel_rfl) hPF rfl (fun w' => by (go_simp; try with_reducible rfl)) hHeld (fun hHeld => ?_)
    simp only [Act.put, List.setIfInBounds_toArray, List.set_cons_zero, List.set_cons_succ]
    refine tkA 4 (.some 29) _ _ rfl rfl (by kernel_rfl) (by kernel_rfl) (by kernel_rfl) (by kernel_rfl) (by kernel_rfl) hPF rfl (fun w' hw' => by (have h1 := (Hb.out.below hw' Hb.out.lt).cell 3; go_simp; try with_reducible rfl)) hHeld (fun hHeld => ?_)
    simp only [Act.put, List.setIfInBounds_toArray, List.set_cons_zero, List.set_cons_succ]
    refine tkB 5 (.some 30) _ _ rfl rfl (by kernel_rfl) (by kernel_rfl) (by kernel_rfl) (by kernel_rfl) hPF rfl (fun w' => by (go_simp; try with_reducible rfl)) hHeld (fun hHeld => ?_)
    simp only [Act.put, List.setIfInBounds_toArray, List.set_cons_zero, List.set_cons_succ]
    refine tkB 6 (.some 3) _ _ rfl rfl (by kernel_rfl) (by kernel_rfl) (by kernel_rfl) (by kernel_rfl) hPF rfl (fun w' => by (go_simp; try with_reducible rfl)) hHeld (fun hHeld => ?_)
    simp only [Act.put, List.setIfInBounds_toArray, List.set_cons_zero, List.set_cons_succ]
    refine tkB 7 (.some 4) _ _ rfl rfl (by kernel_rfl) (by kernel_rfl) (by kernel_rfl) (by kernel_rfl) hPF rfl (fun w' => by (go_simp; try with_reducible rfl)) hHeld (fun hHeld => ?_)
    simp only [Act.put, List.setIfInBounds_toArray, List.set_cons_zero, List.set_cons_succ]
    refine tkD (by kernel_rfl) ?_ _
    have e0 : w1.drew.cell? ⟨w.heap.size, 0, none⟩ = some (.int .i64 alg) := (Hb.out.drew).cell 0
    have e4 : w1.drew.cell? ⟨w.heap.size, 4, none⟩ = some (.slice pa a ca) := (Hb.out.drew).cell 4
    have HB' : Hid (Below w.heap.size w w1.drew) := hid HB.out.drew
    generalize w1.drew = wd at *
    clear hHeld hPF HB Hb
    clear h1 h2
    rcases h6 with rfl | rfl | rfl | rfl | rfl | rfl
    · by_cases hk : k = 0
      · subst hk
        by_cases hv : v = 0
        · subst hv
          by_cases ha : 0 < a
          · have qa : (0 : Int) < (a : Int) := by omega
            have HC2 := HC.out
            unfold checkF at HC2
            rw [if_neg hg] at HC2
            simp [ha] at HC2
            subst HC2
            clear HC hg
            go_wp2_with fail
            all_goals (go_ret; exact ⟨rfl, HB'.out⟩)
          · have qa : ¬ (0 : Int) < (a : Int) := by omega
            have HC2 := HC.out
            unfold checkF at HC2
            rw [if_neg hg] at HC2
            simp [ha] at HC2
            subst HC2
            clear HC hg
            go_wp2_with fail
            all_goals (go_ret; exact ⟨rfl, HB'.out⟩)
        · have qv : ¬ (v : Int) = 0 := by omega
          have qvb : ((v : Int) == 0) = false := by rw [beq_eq_false_iff_ne]; exact qv
          have HC2 := HC.out
          unfold checkF at HC2
          rw [if_neg hg] at HC2
          simp [hv] at HC2
          subst HC2
          clear HC hg
          go_wp2_with fail
          all_goals (go_ret; exact ⟨rfl, HB'.out⟩)
      · have qk : ¬ (k : Int) = 0 := by omega
        have qkb : ((k : Int) == 0) = false := by rw [beq_eq_false_iff_ne]; exact qk
        have HC2 := HC.out
        unfold checkF at HC2
        rw [if_neg hg] at HC2
        simp [hk] at HC2
        subst HC2
        clear HC hg
        go_wp2_with fail
        all_goals (go_ret; exact ⟨rfl, HB'.out⟩)
    · by_cases hk1 : k < 1
      · obtain rfl : k = 0 := by omega
        have HC2 := HC.out
        unfold checkF at HC2
        rw [if_neg hg] at HC2
        simp at HC2
        subst HC2
        clear HC hg
        go_wp2_with fail
        all_goals (go_ret; exact ⟨rfl, HB'.out⟩)
      · by_cases hk2 : 100 < k
        · have qk1 : (1 : Int) ≤ (k : Int) := by omega
          have qk2 : ¬ (k : Int) ≤ 100 := by omega
          have hk3 : ¬ k ≤ 100 := by omega
          have hk4 : 1 ≤ k := by omega
          have HC2 := HC.out
          unfold checkF at HC2
          rw [if_neg hg] at HC2
          simp [hk3, hk4] at HC2
          subst HC2
          clear HC hg
          go_wp2_with fail
          all_goals (go_ret; exact ⟨rfl, HB'.out⟩)
        · have qk1 : (1 : Int) ≤ (k : Int) := by omega
          have qk2 : (k : Int) ≤ 100 := by omega
          have hk3 : k ≤ 100 := by omega
          have hk4 : 1 ≤ k := by omega
          by_cases hv : v = 0
          · subst hv
            by_cases ha : 0 < a
            · have qa : (0 : Int) < (a : Int) := by omega
              have HC2 := HC.out
              unfold checkF at HC2
              rw [if_neg hg] at HC2
              simp [hk3, hk4, ha] at HC2
              subst HC2
              clear HC hg
              go_wp2_with fail
              all_goals (go_ret; exact ⟨rfl, HB'.out⟩)
            · have qa : ¬ (0 : Int) < (a : Int) := by omega
              have HC2 := HC.out
              unfold checkF at HC2
              rw [if_neg hg] at HC2
              simp [hk3, hk4, ha] at HC2
              subst HC2
              clear HC hg
              go_wp2_with fail
              all_goals (go_ret; exact ⟨rfl, HB'.out⟩)
          · have qv : ¬ (v : Int) = 0 := by omega
            have qvb : ((v : Int) == 0) = false := by rw [beq_eq_false_iff_ne]; exact qv
            have HC2 := HC.out
            unfold checkF at HC2
            rw [if_neg hg] at HC2
            simp [hk3, hk4, hv] at HC2
            subst HC2
            clear HC hg
            go_wp2_with fail
            all_goals (go_ret; exact ⟨rfl, HB'.out⟩)
    · by_cases hk : k = 16
      · subst hk
        by_cases hv : v = 16
        · subst hv
          by_cases ha : 0 < a
          · have qa : (0 : Int) < (a : Int) := by omega
            have HC2 := HC.out
            unfold checkF at HC2
            rw [if_neg hg] at HC2
            simp [ha] at HC2
            subst HC2
            clear HC hg
            go_wp2_with fail
            all_goals (go_ret; exact ⟨rfl, HB'.out⟩)
          · have qa : ¬ (0 : Int) < (a : Int) := by omega
            have HC2 := HC.out
            unfold checkF at HC2
            rw [if_neg hg] at HC2
            simp [ha] at HC2
            subst HC2
            clear HC hg
            go_wp2_with fail
            all_goals (go_ret; exact ⟨rfl, HB'.out⟩)
        · have qv : ¬ (v : Int) = 16 := by omega
          have qvb : ((v : Int) == 16) = false := by rw [beq_eq_false_iff_ne]; exact qv
          have HC2 := HC.out
          unfold checkF at HC2
          rw [if_neg hg] at HC2
          simp [hv] at HC2
          subst HC2
          clear HC hg
          go_wp2_with fail
          all_goals (go_ret; exact ⟨rfl, HB'.out⟩)
      · by_cases hk2 : k = 32
        · subst hk2
          by_cases hv : v = 16
          · subst hv
            by_cases ha : 0 < a
            · have qa : (0 : Int) < (a : Int) := by omega
              have HC2 := HC.out
              unfold checkF at HC2
              rw [if_neg hg] at HC2
              simp [ha] at HC2
              subst HC2
              clear HC hg
              go_wp2_with fail
              all_goals (go_ret; exact ⟨rfl, HB'.out⟩)
            · have qa : ¬ (0 : Int) < (a : Int) := by omega
              have HC2 := HC.out
              unfold checkF at HC2
              rw [if_neg hg] at HC2
              simp [ha] at HC2
              subst HC2
              clear HC hg
              go_wp2_with fail
              all_goals (go_ret; exact ⟨rfl, HB'.out⟩)
          · have qv : ¬ (v : Int) = 16 := by omega
            have qvb : ((v : Int) == 16) = false := by rw [beq_eq_false_iff_ne]; exact qv
            have HC2 := HC.out
            unfold checkF at HC2
            rw [if_neg hg] at HC2
            simp [hv] at HC2
            subst HC2
            clear HC hg
            go_wp2_with fail
            all_goals (go_ret; exact ⟨rfl, HB'.out⟩)
        · have qk : ¬ (k : Int) = 16 := by omega
          have qk2 : ¬ (k : Int) = 32 := by omega
          have qkb : ((k : Int) == 16) = false := by rw [beq_eq_false_iff_ne]; exact qk
          have qkb2 : ((k : Int) == 32) = false := by rw [beq_eq_false_iff_ne]; exact qk2
          have HC2 := HC.out
          unfold checkF at HC2
          rw [if_neg hg] at HC2
          simp [hk, hk2] at HC2
          subst HC2
          clear HC hg
          go_wp2_with fail
          all_goals (go_ret; exact ⟨rfl, HB'.out⟩)
    · by_cases hk : k = 16
      · subst hk
        by_cases hv : v = 16
        · subst hv
          by_cases ha : 0 < a
          · have qa : (0 : Int) < (a : Int) := by omega
            have HC2 := HC.out
            unfold checkF at HC2
            rw [if_neg hg] at HC2
            simp [ha] at HC2
            subst HC2
            clear HC hg
            go_wp2_with fail
            all_goals (go_ret; exact ⟨rfl, HB'.out⟩)
          · have qa : ¬ (0 : Int) < (a : Int) := by omega
            have HC2 := HC.out
            unfold checkF at HC2
            rw [if_neg hg] at HC2
            simp [ha] at HC2
            subst HC2
            clear HC hg
            go_wp2_with fail
            all_goals (go_ret; exact ⟨rfl, HB'.out⟩)
        · have qv : ¬ (v : Int) = 16 := by omega
          have qvb : ((v : Int) == 16) = false := by rw [beq_eq_false_iff_ne]; exact qv
          have HC2 := HC.out
          unfold checkF at HC2
          rw [if_neg hg] at HC2
          simp [hv] at HC2
          subst HC2
          clear HC hg
          go_wp2_with fail
          all_goals (go_ret; exact ⟨rfl, HB'.out⟩)
      · by_cases hk2 : k = 32
        · subst hk2
          by_cases hv : v = 16
          · subst hv
            by_cases ha : 0 < a
            · have qa : (0 : Int) < (a : Int) := by omega
              have HC2 := HC.out
              unfold checkF at HC2
              rw [if_neg hg] at HC2
              simp [ha] at HC2
              subst HC2
              clear HC hg
              go_wp2_with fail
              all_goals (go_ret; exact ⟨rfl, HB'.out⟩)
            · have qa : ¬ (0 : Int) < (a : Int) := by omega
              have HC2 := HC.out
              unfold checkF at HC2
              rw [if_neg hg] at HC2
              simp [ha] at HC2
              subst HC2
              clear HC hg
              go_wp2_with fail
              all_goals (go_ret; exact ⟨rfl, HB'.out⟩)
          · have qv : ¬ (v : Int) = 16 := by omega
            have qvb : ((v : Int) == 16) = false := by rw [beq_eq_false_iff_ne]; exact qv
            have HC2 := HC.out
            unfold checkF at HC2
            rw [if_neg hg] at HC2
            simp [hv] at HC2
            subst HC2
            clear HC hg
            go_wp2_with fail
            all_goals (go_ret; exact ⟨rfl, HB'.out⟩)
        · have qk : ¬ (k : Int) = 16 := by omega
          have qk2 : ¬ (k : Int) = 32 := by omega
          have qkb : ((k : Int) == 16) = false := by rw [beq_eq_false_iff_ne]; exact qk
          have qkb2 : ((k : Int) == 32) = false := by rw [beq_eq_false_iff_ne]; exact qk2
          have HC2 := HC.out
          unfold checkF at HC2
          rw [if_neg hg] at HC2
          simp [hk, hk2] at HC2
          subst HC2
          clear HC hg
          go_wp2_with fail
          all_goals (go_ret; exact ⟨rfl, HB'.out⟩)
    · by_cases hk : k = 16
      · subst hk
        by_cases hv1 : v < 1
        · obtain rfl : v = 0 := by omega
          have HC2 := HC.out
          unfold checkF at HC2
          rw [if_neg hg] at HC2
          simp at HC2
          subst HC2
          clear HC hg
          go_wp2_with fail
          all_goals (go_ret; exact ⟨rfl, HB'.out⟩)
        · by_cases hv2 : 64 < v
          · have qv1 : (1 : Int) ≤ (v : Int) := by omega
            have qv2 : ¬ (v : Int) ≤ 64 := by omega
            have hv3 : ¬ v ≤ 64 := by omega
            have hv4 : 1 ≤ v := by omega
            have HC2 := HC.out
            unfold checkF at HC2
            rw [if_neg hg] at HC2
            simp [hv3, hv4] at HC2
            subst HC2
            clear HC hg
            go_wp2_with fail
            all_goals (go_ret; exact ⟨rfl, HB'.out⟩)
          · have qv1 : (1 : Int) ≤ (v : Int) := by omega
            have qv2 : (v : Int) ≤ 64 := by omega
            have hv3 : v ≤ 64 := by omega
            have hv4 : 1 ≤ v := by omega
            by_cases ha : 1000 < a
            · have qa : (1000 : Int) < (a : Int) := by omega
              have HC2 := HC.out
              unfold checkF at HC2
              rw [if_neg hg] at HC2
              simp [hv3, hv4, ha] at HC2
              subst HC2
              clear HC hg
              go_wp2_with fail
              all_goals (go_ret; exact ⟨rfl, HB'.out⟩)
            · have qa : ¬ (1000 : Int) < (a : Int) := by omega
              have HC2 := HC.out
              unfold checkF at HC2
              rw [if_neg hg] at HC2
              simp [hv3, hv4, ha] at HC2
              subst HC2
              clear HC hg
              go_wp2_with fail
              all_goals (go_ret; exact ⟨rfl, HB'.out⟩)
      · by_cases hk2 : k = 32
        · subst hk2
          by_cases hv1 : v < 1
          · obtain rfl : v = 0 := by omega
            have HC2 := HC.out
            unfold checkF at HC2
            rw [if_neg hg] at HC2
            simp at HC2
            subst HC2
            clear HC hg
            go_wp2_with fail
            all_goals (go_ret; exact ⟨rfl, HB'.out⟩)
          · by_cases hv2 : 64 < v
            · have qv1 : (1 : Int) ≤ (v : Int) := by omega
              have qv2 : ¬ (v : Int) ≤ 64 := by omega
              have hv3 : ¬ v ≤ 64 := by omega
              have hv4 : 1 ≤ v := by omega
              have HC2 := HC.out
              unfold checkF at HC2
              rw [if_neg hg] at HC2
              simp [hv3, hv4] at HC2
              subst HC2
              clear HC hg
              go_wp2_with fail
              all_goals (go_ret; exact ⟨rfl, HB'.out⟩)
            · have qv1 : (1 : Int) ≤ (v : Int) := by omega
              have qv2 : (v : Int) ≤ 64 := by omega
              have hv3 : v ≤ 64 := by omega
              have hv4 : 1 ≤ v := by omega
              by_cases ha : 1000 < a
              · have qa : (1000 : Int) < (a : Int) := by omega
                have HC2 := HC.out
                unfold checkF at HC2
                rw [if_neg hg] at HC2
                simp [hv3, hv4, ha] at HC2
                subst HC2
                clear HC hg
                go_wp2_with fail
                all_goals (go_ret; exact ⟨rfl, HB'.out⟩)
              · have qa : ¬ (1000 : Int) < (a : Int) := by omega
                have HC2 := HC.out
                unfold checkF at HC2
                rw [if_neg hg] at HC2
                simp [hv3, hv4, ha] at HC2
                subst HC2
                clear HC hg
                go_wp2_with fail
                all_goals (go_ret; exact ⟨rfl, HB'.out⟩)
        · have qk : ¬ (k : Int) = 16 := by omega
          have qk2 : ¬ (k : Int) = 32 := by omega
          have qkb : ((k : Int) == 16) = false := by rw [beq_eq_false_iff_ne]; exact qk
          have qkb2 : ((k : Int) == 32) = false := by rw [beq_eq_false_iff_ne]; exact qk2
          have HC2 := HC.out
          unfold checkF at HC2
          rw [if_neg hg] at HC2
          simp [hk, hk2] at HC2
          subst HC2
          clear HC hg
          go_wp2_with fail
          all_goals (go_ret; exact ⟨rfl, HB'.out⟩)
    · by_cases hk : k = 32
      · subst hk
        by_cases hv : v = 12
        · subst hv
          by_cases ha : 1000 < a
          · have qa : (1000 : Int) < (a : Int) := by omega
            have HC2 := HC.out
            unfold checkF at HC2
            rw [if_neg hg] at HC2
            simp [ha] at HC2
            subst HC2
            clear HC hg
            go_wp2_with fail
            all_goals (go_ret; exact ⟨rfl, HB'.out⟩)
          · have qa : ¬ (1000 : Int) < (a : Int) := by omega
            have HC2 := HC.out
            unfold checkF at HC2
            rw [if_neg hg] at HC2
            simp [ha] at HC2
            subst HC2
            clear HC hg
            go_wp2_with fail
            all_goals (go_ret; exact ⟨rfl, HB'.out⟩)
        · have qv : ¬ (v : Int) = 12 := by omega
          have qvb : ((v : Int) == 12) = false := by rw [beq_eq_false_iff_ne]; exact qv
          have HC2 := HC.out
          unfold checkF at HC2
          rw [if_neg hg] at HC2
          simp [hv] at HC2
          subst HC2
          clear HC hg
          go_wp2_with fail
          all_goals (go_ret; exact ⟨rfl, HB'.out⟩)
      · have qk : ¬ (k : Int) = 32 := by omega
        have qkb : ((k : Int) == 32) = false := by rw [beq_eq_false_iff_ne]; exact qk
        have HC2 := HC.out
        unfold checkF at HC2
        rw [if_neg hg] at HC2
        simp [hk] at HC2
        subst HC2
        clear HC hg
        go_wp2_with fail
        all_goals (go_ret; exact ⟨rfl, HB'.out⟩)
  · have h3b : ¬ (true = true ∧ alg ≤ 2) := h3
    have h3' : ¬ alg ≤ 2 := fun h => h3 ⟨rfl, h⟩
    go_enter Tryz.func26, Tryz.ntmps26
    go_upto_region 1 with fail
    change Code.wp _ _ _ _ (w.alloc (.cells (parC alg true pk k ck pv v cv pa a ca).toArray tRP))
    rw [HW1.out]
    go_upto_region 3 with fail
    clear d0 d1
    try simp only [Act.put]
    refine tkR (fun w' => Below w1.heap.size w1 w') [] (by kernel_rfl) (fun c a d v w h => by cases d <;> exact h) ((Below.refl _ _).drew) (fun hPF hHeld => ?_)
    refine tkB 0 (.some 25) _ _ rfl rfl (by kernel_rfl) (by kernel_rfl) (by kernel_rfl) (by kernel_rfl) hPF rfl (fun w' => by (go_simp; try with_reducible rfl)) hHeld (fun hHeld => ?_)
    simp only [Act.put, List.setIfInBounds_toArray, List.set_cons_zero, List.set_cons_succ]
    refine tkA 1 (.some 26) _ _ rfl rfl (by kernel_rfl) (by kernel_rfl) (by kernel_rfl) (by kernel_rfl) (by kernel_rfl) hPF rfl (fun w' hw' => by (have h1 := (Hb.out.below hw' Hb.out.lt).cell 2; go_simp; try with_reducible rfl)) hHeld (fun hHeld => ?_)
    simp only [Act.put, List.setIfInBounds_toArray, List.set_cons_zero, List.set_cons_succ]
    refine tkB 2 (.some 27) _ _ rfl rfl (by kernel_rfl) (by kernel_rfl) (by kernel_rfl) (by kernel_rfl) hPF rfl (fun w' => by (go_simp; try with_reducible rfl)) hHeld (fun hHeld => ?_)
    simp only [Act.put, List.setIfInBounds_toArray, List.set_cons_zero, List.set_cons_succ]
    refine tkB 3 (.some 28) _ _ rfl rfl (by kernel_rfl) (by kernel_rfl) (by kernel_rfl) (by kernel_rfl) hPF rfl (fun w' => by (go_simp; try with_reducible rfl)) hHeld (fun hHeld => ?_)
    simp only [Act.put, List.setIfInBounds_toArray, List.set_cons_zero, List.set_cons_succ]
    refine tkA 4 (.some 29) _ _ rfl rfl (by kernel_rfl) (by kernel_rfl) (by kernel_rfl) (by kernel_rfl) (by kernel_rfl) hPF rfl (fun w' hw' => by (have h1 := (Hb.out.below hw' Hb.out.lt).cell 3; go_simp; try with_reducible rfl)) hHeld (fun hHeld => ?_)
    simp only [Act.put, List.setIfInBounds_toArray, List.set_cons_zero, List.set_cons_succ]
    refine tkB 5 (.some 30) _ _ rfl rfl (by kernel_rfl) (by kernel_rfl) (by kernel_rfl) (by kernel_rfl) hPF rfl (fun w' => by (go_simp; try with_reducible rfl)) hHeld (fun hHeld => ?_)
    simp only [Act.put, List.setIfInBounds_toArray, List.set_cons_zero, List.set_cons_succ]
    refine tkB 6 (.some 3) _ _ rfl rfl (by kernel_rfl) (by kernel_rfl) (by kernel_rfl) (by kernel_rfl) hPF rfl (fun w' => by (go_simp; try with_reducible rfl)) hHeld (fun hHeld => ?_)
    simp only [Act.put, List.setIfInBounds_toArray, List.set_cons_zero, List.set_cons_succ]
    refine tkB 7 (.some 4) _ _ rfl rfl (by kernel_rfl) (by kernel_rfl) (by kernel_rfl) (by kernel_rfl) hPF rfl (fun w' => by (go_simp; try with_reducible rfl)) hHeld (fun hHeld => ?_)
    simp only [Act.put, List.setIfInBounds_toArray, List.set_cons_zero, List.set_cons_succ]
    refine tkD (by kernel_rfl) ?_ _
    have e0 : w1.drew.cell? ⟨w.heap.size, 0, none⟩ = some (.int .i64 alg) := (Hb.out.drew).cell 0
    have e4 : w1.drew.cell? ⟨w.heap.size, 4, none⟩ = some (.slice pa a ca) := (Hb.out.drew).cell 4
    have HB' : Hid (Below w.heap.size w w1.drew) := hid HB.out.drew
    generalize w1.drew = wd at *
    clear hHeld hPF HB Hb
    clear h1 h2
    rcases h6 with rfl | rfl | rfl | rfl | rfl | rfl
    · exact absurd (by decide) h3'
    · exact absurd (by decide) h3'
    · by_cases hk : k = 16
      · subst hk
        by_cases hv : v = 16
        · subst hv
          by_cases ha : 0 < a
          · have qa : (0 : Int) < (a : Int) := by omega
            have HC2 := HC.out
            unfold checkF at HC2
            rw [if_neg hg] at HC2
            simp [ha] at HC2
            subst HC2
            clear HC hg
            go_wp2_with fail
            all_goals (go_ret; exact ⟨rfl, HB'.out⟩)
          · have qa : ¬ (0 : Int) < (a : Int) := by omega
            have HC2 := HC.out
            unfold checkF at HC2
            rw [if_neg hg] at HC2
            simp [ha] at HC2
            subst HC2
            clear HC hg
            go_wp2_with fail
            all_goals (go_ret; exact ⟨rfl, HB'.out⟩)
        · have qv : ¬ (v : Int) = 16 := by omega
          have qvb : ((v : Int) == 16) = false := by rw [beq_eq_false_iff_ne]; exact qv
          have HC2 := HC.out
          unfold checkF at HC2
          rw [if_neg hg] at HC2
          simp [hv] at HC2
          subst HC2
          clear HC hg
          go_wp2_with fail
          all_goals (go_ret; exact ⟨rfl, HB'.out⟩)
      · by_cases hk2 : k = 32
        · subst hk2
          by_cases hv : v = 16
          · subst hv
            by_cases ha : 0 < a
            · have qa : (0 : Int) < (a : Int) := by omega
              have HC2 := HC.out
              unfold checkF at HC2
              rw [if_neg hg] at HC2
              simp [ha] at HC2
              subst HC2
              clear HC hg
              go_wp2_with fail
              all_goals (go_ret; exact ⟨rfl, HB'.out⟩)
            · have qa : ¬ (0 : Int) < (a : Int) := by omega
              have HC2 := HC.out
              unfold checkF at HC2
              rw [if_neg hg] at HC2
              simp [ha] at HC2
              subst HC2
              clear HC hg
              go_wp2_with fail
              all_goals (go_ret; exact ⟨rfl, HB'.out⟩)
          · have qv : ¬ (v : Int) = 16 := by omega
            have qvb : ((v : Int) == 16) = false := by rw [beq_eq_false_iff_ne]; exact qv
            have HC2 := HC.out
            unfold checkF at HC2
            rw [if_neg hg] at HC2
            simp [hv] at HC2
            subst HC2
            clear HC hg
            go_wp2_with fail
            all_goals (go_ret; exact ⟨rfl, HB'.out⟩)
        · have qk : ¬ (k : Int) = 16 := by omega
          have qk2 : ¬ (k : Int) = 32 := by omega
          have qkb : ((k : Int) == 16) = false := by rw [beq_eq_false_iff_ne]; exact qk
          have qkb2 : ((k : Int) == 32) = false := by rw [beq_eq_false_iff_ne]; exact qk2
          have HC2 := HC.out
          unfold checkF at HC2
          rw [if_neg hg] at HC2
          simp [hk, hk2] at HC2
          subst HC2
          clear HC hg
          go_wp2_with fail
          all_goals (go_ret; exact ⟨rfl, HB'.out⟩)
    · by_cases hk : k = 16
      · subst hk
        by_cases hv : v = 16
        · subst hv
          by_cases ha : 0 < a
          · have qa : (0 : Int) < (a : Int) := by omega
            have HC2 := HC.out
            unfold checkF at HC2
            rw [if_neg hg] at HC2
            simp [ha] at HC2
            subst HC2
            clear HC hg
            go_wp2_with fail
            all_goals (go_ret; exact ⟨rfl, HB'.out⟩)
          · have qa : ¬ (0 : Int) < (a : Int) := by omega
            have HC2 := HC.out
            unfold checkF at HC2
            rw [if_neg hg] at HC2
            simp [ha] at HC2
            subst HC2
            clear HC hg
            go_wp2_with fail
            all_goals (go_ret; exact ⟨rfl, HB'.out⟩)
        · have qv : ¬ (v : Int) = 16 := by omega
          have qvb : ((v : Int) == 16) = false := by rw [beq_eq_false_iff_ne]; exact qv
          have HC2 := HC.out
          unfold checkF at HC2
          rw [if_neg hg] at HC2
          simp [hv] at HC2
          subst HC2
          clear HC hg
          go_wp2_with fail
          all_goals (go_ret; exact ⟨rfl, HB'.out⟩)
      · by_cases hk2 : k = 32
        · subst hk2
          by_cases hv : v = 16
          · subst hv
            by_cases ha : 0 < a
            · have qa : (0 : Int) < (a : Int) := by omega
              have HC2 := HC.out
              unfold checkF at HC2
              rw [if_neg hg] at HC2
              simp [ha] at HC2
              subst HC2
              clear HC hg
              go_wp2_with fail
              all_goals (go_ret; exact ⟨rfl, HB'.out⟩)
            · have qa : ¬ (0 : Int) < (a : Int) := by omega
              have HC2 := HC.out
              unfold checkF at HC2
              rw [if_neg hg] at HC2
              simp [ha] at HC2
              subst HC2
              clear HC hg
              go_wp2_with fail
              all_goals (go_ret; exact ⟨rfl, HB'.out⟩)
          · have qv : ¬ (v : Int) = 16 := by omega
            have qvb : ((v : Int) == 16) = false := by rw [beq_eq_false_iff_ne]; exact qv
            have HC2 := HC.out
            unfold checkF at HC2
            rw [if_neg hg] at HC2
            simp [hv] at HC2
            subst HC2
            clear HC hg
            go_wp2_with fail
            all_goals (go_ret; exact ⟨rfl, HB'.out⟩)
        · have qk : ¬ (k : Int) = 16 := by omega
          have qk2 : ¬ (k : Int) = 32 := by omega
          have qkb : ((k : Int) == 16) = false := by rw [beq_eq_false_iff_ne]; exact qk
          have qkb2 : ((k : Int) == 32) = false := by rw [beq_eq_false_iff_ne]; exact qk2
          have HC2 := HC.out
          unfold checkF at HC2
          rw [if_neg hg] at HC2
          simp [hk, hk2] at HC2
          subst HC2
          clear HC hg
          go_wp2_with fail
          all_goals (go_ret; exact ⟨rfl, HB'.out⟩)
    · by_cases hk : k = 16
      · subst hk
        by_cases hv1 : v < 1
        · obtain rfl : v = 0 := by omega
          have HC2 := HC.out
          unfold checkF at HC2
          rw [if_neg hg] at HC2
          simp at HC2
          subst HC2
          clear HC hg
          go_wp2_with fail
          all_goals (go_ret; exact ⟨rfl, HB'.out⟩)
        · by_cases hv2 : 64 < v
          · have qv1 : (1 : Int) ≤ (v : Int) := by omega
            have qv2 : ¬ (v : Int) ≤ 64 := by omega
            have hv3 : ¬ v ≤ 64 := by omega
            have hv4 : 1 ≤ v := by omega
            have HC2 := HC.out
            unfold checkF at HC2
            rw [if_neg hg] at HC2
            simp [hv3, hv4] at HC2
            subst HC2
            clear HC hg
            go_wp2_with fail
            all_goals (go_ret; exact ⟨rfl, HB'.out⟩)
          · have qv1 : (1 : Int) ≤ (v : Int) := by omega
            have qv2 : (v : Int) ≤ 64 := by omega
            have hv3 : v ≤ 64 := by omega
            have hv4 : 1 ≤ v := by omega
            by_cases ha : 1000 < a
            · have qa : (1000 : Int) < (a : Int) := by omega
              have HC2 := HC.out
              unfold checkF at HC2
              rw [if_neg hg] at HC2
              simp [hv3, hv4, ha] at HC2
              subst HC2
              clear HC hg
              go_wp2_with fail
              all_goals (go_ret; exact ⟨rfl, HB'.out⟩)
            · have qa : ¬ (1000 : Int) < (a : Int) := by omega
              have HC2 := HC.out
              unfold checkF at HC2
              rw [if_neg hg] at HC2
              simp [hv3, hv4, ha] at HC2
              subst HC2
              clear HC hg
              go_wp2_with fail
              all_goals (go_ret; exact ⟨rfl, HB'.out⟩)
      · by_cases hk2 : k = 32
        · subst hk2
          by_cases hv1 : v < 1
          · obtain rfl : v = 0 := by omega
            have HC2 := HC.out
            unfold checkF at HC2
            rw [if_neg hg] at HC2
            simp at HC2
            subst HC2
            clear HC hg
            go_wp2_with fail
            all_goals (go_ret; exact ⟨rfl, HB'.out⟩)
          · by_cases hv2 : 64 < v
            · have qv1 : (1 : Int) ≤ (v : Int) := by omega
              have qv2 : ¬ (v : Int) ≤ 64 := by omega
              have hv3 : ¬ v ≤ 64 := by omega
              have hv4 : 1 ≤ v := by omega
              have HC2 := HC.out
              unfold checkF at HC2
              rw [if_neg hg] at HC2
              simp [hv3, hv4] at HC2
              subst HC2
              clear HC hg
              go_wp2_with fail
              all_goals (go_ret; exact ⟨rfl, HB'.out⟩)
            · have qv1 : (1 : Int) ≤ (v : Int) := by omega
              have qv2 : (v : Int) ≤ 64 := by omega
              have hv3 : v ≤ 64 := by omega
              have hv4 : 1 ≤ v := by omega
              by_cases ha : 1000 < a
              · have qa : (1000 : Int) < (a : Int) := by omega
                have HC2 := HC.out
                unfold checkF at HC2
                rw [if_neg hg] at HC2
                simp [hv3, hv4, ha] at HC2
                subst HC2
                clear HC hg
                go_wp2_with fail
                all_goals (go_ret; exact ⟨rfl, HB'.out⟩)
              · have qa : ¬ (1000 : Int) < (a : Int) := by omega
                have HC2 := HC.out
                unfold checkF at HC2
                rw [if_neg hg] at HC2
                simp [hv3, hv4, ha] at HC2
                subst HC2
                clear HC hg
                go_wp2_with fail
                all_goals (go_ret; exact ⟨rfl, HB'.out⟩)
        · have qk : ¬ (k : Int) = 16 := by omega
          have qk2 : ¬ (k : Int) = 32 := by omega
          have qkb : ((k : Int) == 16) = false := by rw [beq_eq_false_iff_ne]; exact qk
          have qkb2 : ((k : Int) == 32) = false := by rw [beq_eq_false_iff_ne]; exact qk2
          have HC2 := HC.out
          unfold checkF at HC2
          rw [if_neg hg] at HC2
          simp [hk, hk2] at HC2
          subst HC2
          clear HC hg
          go_wp2_with fail
          all_goals (go_ret; exact ⟨rfl, HB'.out⟩)
    · by_cases hk : k = 32
      · subst hk
        by_cases hv : v = 12
        · subst hv
          by_cases ha : 1000 < a
          · have qa : (1000 : Int) < (a : Int) := by omega
            have HC2 := HC.out
            unfold checkF at HC2
            rw [if_neg hg] at HC2
            simp [ha] at HC2
            subst HC2
            clear HC hg
            go_wp2_with fail
            all_goals (go_ret; exact ⟨rfl, HB'.out⟩)
          · have qa : ¬ (1000 : Int) < (a : Int) := by omega
            have HC2 := HC.out
            unfold checkF at HC2
            rw [if_neg hg] at HC2
            simp [ha] at HC2
            subst HC2
            clear HC hg
            go_wp2_with fail
            all_goals (go_ret; exact ⟨rfl, HB'.out⟩)
        · have qv : ¬ (v : Int) = 12 := by omega
          have qvb : ((v : Int) == 12) = false := by rw [beq_eq_false_iff_ne]; exact qv
          have HC2 := HC.out
          unfold checkF at HC2
          rw [if_neg hg] at HC2
          simp [hv] at HC2
          subst HC2
          clear HC hg
          go_wp2_with fail
          all_goals (go_ret; exact ⟨rfl, HB'.out⟩)
      · have qk : ¬ (k : Int) = 32 := by omega
        have qkb : ((k : Int) == 32) = false := by rw [beq_eq_false_iff_ne]; exact qk
        have HC2 := HC.out
        unfold checkF at HC2
        rw [if_neg hg] at HC2
        simp [hk] at HC2
        subst HC2
        clear HC hg
        go_wp2_with fail
        all_goals (go_ret; exact ⟨rfl, HB'.out⟩)
set_option maxRecDepth 100000 in
set_option maxHeartbeats 8000000 in
theorem algoChecks_walk (w : World) (T : TabW w) (alg : Int) (op : Bool) (key iv aad : List UInt8) (pk : Option Addr) (ck : Nat) (pv : Option Addr) (cv : Nat) (pa : Option Addr) (ca : Nat) (n : Int) (hA : ArgP w key iv aad [] pk ck pv cv pa ca none 0) :
    Calls Tryz.prog 9 #[.agg (parD alg op key iv aad pk ck pv cv pa ca).toArray, .int .i64 n] w fun e w' => e = .returned (.bool true) ∧ Below w.heap.size w w' := by
  have hb := Blk.new w (parD alg op key iv aad pk ck pv cv pa ca) tRP
  have hB : Below w.heap.size w (w.alloc (.cells (parD alg op key iv aad pk ck pv cv pa ca).toArray tRP)) := (Below.refl _ _).alloc (Nat.le_refl _) _
  obtain ⟨w1, hw1⟩ : ∃ w1, w.alloc (.cells (parD alg op key iv aad pk ck pv cv pa ca).toArray tRP) = w1 := ⟨_, rfl⟩
  rw [hw1] at hb hB
  have hA1 := hA.below hB
  have T1 := T.below hB T.1
  have HW1 := hid hw1
  have hwh := hid hb.whole
  clear hw1 hA
  go_enter Tryz.func9, Tryz.ntmps9
  go_upto_region 1 with fail
  change Code.wp _ _ _ _ (w.alloc (.cells (parD alg op key iv aad pk ck pv cv pa ca).toArray tRP))
  rw [HW1.out]
  go_wp2_with (refine wpList_load_mid rfl tRP (.tmp 2) rfl w.heap.size 0 rfl (parD alg op key iv aad pk ck pv cv pa ca) _ hwh.out Tryz.underlying40 rfl sizeRP ?_)
  refine (pshort_any w1 alg op pk key.length ck pv iv.length cv pa aad.length ca).mono ?_
  rintro e w2 ⟨rfl, hB2⟩
  have hb2 := hb.below hB2 hb.lt
  have hA2 := hA1.below hB2
  have T2 := T1.below hB2 T1.1
  have hB12 := hB.trans (hB2.mono hB.size)
  clear hwh HW1 hb hA1 hB2 hB T1
  by_cases hs : key.length ≤ 120 ∧ iv.length ≤ 100 ∧ aad.length ≤ 1100
  · rw [decide_eq_true hs]
    by_cases hn : 4611686018427387904 < n
    · go_wp2_with fail
      go_ret
      exact ⟨rfl, hB12⟩
    have c0 : w2.cell? ⟨w.heap.size, 0, none⟩ = some (.int .i64 alg) := hb2.cell 0
    have c1 : w2.cell? ⟨w.heap.size, 1, none⟩ = some (.bool op) := hb2.cell 1
    have HR := hid (room_any w2 alg op n (by omega))
    have HR2 := hid (fun W => refroom_any W alg op n (by omega))
    generalize (roomA alg op n).1 = x1 at *
    generalize (roomA alg op n).2 = x2 at *
    go_wp2_with fail
    refine HR.out.mono ?_
    rintro e w3 ⟨rfl, hB3⟩
    have hb3 := hb2.below hB3 hb2.lt
    have hA3 := hA2.below hB3
    have T3 := T2.below hB3 T2.1
    have hB13 := hB12.trans (hB3.mono hB12.size)
    have d0 : w3.cell? ⟨w.heap.size, 0, none⟩ = some (.int .i64 alg) := hb3.cell 0
    have d1 : w3.cell? ⟨w.heap.size, 1, none⟩ = some (.bool op) := hb3.cell 1
    clear HR c0 c1 hb2 hA2 T2 hB3 hB12
    go_wp2_with fail
    refine (HR2.out _).mono ?_
    rintro e w4 ⟨rfl, rfl⟩
    clear HR2 d0 d1
    go_upto_region 5 with fail
    have Hb3 := hid hb3
    have HA3 := hid hA3
    have HT3 := hid T3
    have HB13 := hid hB13
    have HC := hid (fun W pk3 ck3 pv3 cv3 pa3 ca3 => check_any W alg op pk3 key.length ck3 pv3 iv.length cv3 pa3 aad.length ca3)
    have HC2 := hid (fun W => refcheck_any W alg op pk key.length ck pv iv.length cv pa aad.length ca)
    have HK := hid (fun W => class_any W alg)
    have HK2 := hid (fun W => refclass_any W alg)
    generalize checkF alg op key.length iv.length aad.length = x3 at *
    generalize classF alg = x4 at *
    clear hb3 hA3 T3 hB13 hn
    try simp only [Act.put]
    refine tkR (fun w' => Below w3.heap.size w3 w') [26] (by kernel_rfl) (fun c a d v w h => by cases d <;> exact h) ((Below.refl _ _).drew) (fun hPF hHeld => ?_)
    refine tkL 0 (.some 34) _ rfl rfl 40 (.tmp 2) rfl w.heap.size 0 (parD alg op key iv aad pk ck pv cv pa ca) _ (by kernel_rfl) (by kernel_rfl) (by kernel_rfl) (by kernel_rfl) (by kernel_rfl) hPF rfl rfl (fun w' hw' => (Hb3.out.below hw' Hb3.out.lt).whole) Tryz.underlying40 rfl sizeRP hHeld (fun hHeld => ?_)
    simp only [Act.put, List.setIfInBounds_toArray, List.set_cons_zero, List.set_cons_succ]
    refine tkL 3 (.some 37) _ rfl rfl 40 (.tmp 2) rfl w.heap.size 0 (parD alg op key iv aad pk ck pv cv pa ca) _ (by kernel_rfl) (by kernel_rfl) (by kernel_rfl) (by kernel_rfl) (by kernel_rfl) hPF rfl rfl (fun w' hw' => (Hb3.out.below hw' Hb3.out.lt).whole) Tryz.underlying40 rfl sizeRP hHeld (fun hHeld => ?_)
    simp only [Act.put, List.setIfInBounds_toArray, List.set_cons_zero, List.set_cons_succ]
    have hS := hHeld (by kernel_rfl)
    refine tkW (rs := [1]) (by kernel_rfl) (by simp) (AllK.cons (o := _) rfl (fun KC hKC => ?_) AllK.nil)
    go_simp
    refine (pof_any _ alg op key iv aad pk ck pv cv pa ca ((HA3.out.below hS).par op (by omega)) (by omega) (by omega)).mono ?_
    rintro e w5 ⟨pk3, ck3, pv3, cv3, pa3, ca3, rfl, _, hB5⟩
    have h1 := hS.trans (hB5.mono hS.size)
    refine hKC.out _ _ (h1) (fun hHeld => ?_)
    clear hKC KC
    try simp only [Act.put, List.setIfInBounds_toArray, List.set_cons_zero, List.set_cons_succ]
    have hS := hHeld (by kernel_rfl)
    refine tkW (rs := [2]) (by kernel_rfl) (by simp) (AllK.cons (o := _) rfl (fun KC hKC => ?_) AllK.nil)
    go_simp
    refine (HC.out _ pk3 ck3 pv3 cv3 pa3 ca3).mono ?_
    rintro e w6 ⟨rfl, hB6⟩
    have h2 := hS.trans (hB6.mono hS.size)
    refine hKC.out _ _ (h2) (fun hHeld => ?_)
    clear hKC KC
    try simp only [Act.put, List.setIfInBounds_toArray, List.set_cons_zero, List.set_cons_succ]
    have hS := hHeld (by kernel_rfl)
    refine tkW (rs := [4]) (by kernel_rfl) (by simp) (AllK.cons (o := _) rfl (fun KC hKC => ?_) AllK.nil)
    go_simp
    refine (HC2.out _).mono ?_
    rintro e w7 ⟨rfl, hB7⟩
    have h4 := hS.trans (hB7.mono hS.size)
    refine hKC.out _ _ (h4) (fun hHeld => ?_)
    clear hKC KC
    try simp only [Act.put, List.setIfInBounds_toArray, List.set_cons_zero, List.set_cons_succ]
    refine tkB 5 (.some 39) _ _ rfl rfl (by kernel_rfl) (by kernel_rfl) (by kernel_rfl) (by kernel_rfl) hPF rfl (fun w' => by (go_simp; try with_reducible rfl)) hHeld (fun hHeld => ?_)
    simp only [Act.put, List.setIfInBounds_toArray, List.set_cons_zero, List.set_cons_succ]
    refine tkB 6 (.some 40) _ _ rfl rfl (by kernel_rfl) (by kernel_rfl) (by kernel_rfl) (by kernel_rfl) hPF rfl (fun w' => by (go_simp; try with_reducible rfl)) hHeld (fun hHeld => ?_)
    simp only [Act.put, List.setIfInBounds_toArray, List.set_cons_zero, List.set_cons_succ]
    refine tkB 7 (.some 41) _ _ rfl rfl (by kernel_rfl) (by kernel_rfl) (by kernel_rfl) (by kernel_rfl) hPF rfl (fun w' => by (go_simp; try with_reducible rfl)) hHeld (fun hHeld => ?_)
    simp only [Act.put, List.setIfInBounds_toArray, List.set_cons_zero, List.set_cons_succ]
    refine tkB 8 (.some 42) _ _ rfl rfl (by kernel_rfl) (by kernel_rfl) (by kernel_rfl) (by kernel_rfl) hPF rfl (fun w' => by (go_simp; try with_reducible rfl)) hHeld (fun hHeld => ?_)
    simp only [Act.put, List.setIfInBounds_toArray, List.set_cons_zero, List.set_cons_succ]
    refine tkB 9 (.some 43) _ _ rfl rfl (by kernel_rfl) (by kernel_rfl) (by kernel_rfl) (by kernel_rfl) hPF rfl (fun w' => by (go_simp; try with_reducible rfl)) hHeld (fun hHeld => ?_)
    simp only [Act.put, List.setIfInBounds_toArray, List.set_cons_zero, List.set_cons_succ]
    refine tkB 10 (.some 44) _ _ rfl rfl (by kernel_rfl) (by kernel_rfl) (by kernel_rfl) (by kernel_rfl) hPF rfl (fun w' => by (go_simp; try with_reducible rfl)) hHeld (fun hHeld => ?_)
    simp only [Act.put, List.setIfInBounds_toArray, List.set_cons_zero, List.set_cons_succ]
    refine tkB 11 (.some 45) _ _ rfl rfl (by kernel_rfl) (by kernel_rfl) (by kernel_rfl) (by kernel_rfl) hPF rfl (fun w' => by (go_simp; try with_reducible rfl)) hHeld (fun hHeld => ?_)
    simp only [Act.put, List.setIfInBounds_toArray, List.set_cons_zero, List.set_cons_succ]
    refine tkB 12 (.some 46) _ _ rfl rfl (by kernel_rfl) (by kernel_rfl) (by kernel_rfl) (by kernel_rfl) hPF rfl (fun w' => by (go_simp; try with_reducible rfl)) hHeld (fun hHeld => ?_)
    simp only [Act.put, List.setIfInBounds_toArray, List.set_cons_zero, List.set_cons_succ]
    refine tkB 13 (.some 47) _ _ rfl rfl (by kernel_rfl) (by kernel_rfl) (by kernel_rfl) (by kernel_rfl) hPF rfl (fun w' => by (go_simp; try with_reducible rfl)) hHeld (fun hHeld => ?_)
    simp only [Act.put, List.setIfInBounds_toArray, List.set_cons_zero, List.set_cons_succ]
    refine tkB 14 (.some 48) _ _ rfl rfl (by kernel_rfl) (by kernel_rfl) (by kernel_rfl) (by kernel_rfl) hPF rfl (fun w' => by (go_simp; try with_reducible rfl)) hHeld (fun hHeld => ?_)
    simp only [Act.put, List.setIfInBounds_toArray, List.set_cons_zero, List.set_cons_succ]
    refine tkB 15 (.some 49) _ _ rfl rfl (by kernel_rfl) (by kernel_rfl) (by kernel_rfl) (by kernel_rfl) hPF rfl (fun w' => by (go_simp; try with_reducible rfl)) hHeld (fun hHeld => ?_)
    simp only [Act.put, List.setIfInBounds_toArray, List.set_cons_zero, List.set_cons_succ]
    refine tkB 16 (.some 50) _ _ rfl rfl (by kernel_rfl) (by kernel_rfl) (by kernel_rfl) (by kernel_rfl) hPF rfl (fun w' => by (go_simp; try with_reducible rfl)) hHeld (fun hHeld => ?_)
    simp only [Act.put, List.setIfInBounds_toArray, List.set_cons_zero, List.set_cons_succ]
    refine tkB 17 (.some 51) _ _ rfl rfl (by kernel_rfl) (by kernel_rfl) (by kernel_rfl) (by kernel_rfl) hPF rfl (fun w' => by (go_simp; try with_reducible rfl)) hHeld (fun hHeld => ?_)
    simp only [Act.put, List.setIfInBounds_toArray, List.set_cons_zero, List.set_cons_succ]
    refine tkA 18 (.some 52) _ _ rfl rfl (by kernel_rfl) (by kernel_rfl) (by kernel_rfl) (by kernel_rfl) (by kernel_rfl) hPF rfl (fun w' hw' => by (have h1 := (Hb3.out.below hw' Hb3.out.lt).cell 0; go_simp; try with_reducible rfl)) hHeld (fun hHeld => ?_)
    simp only [Act.put, List.setIfInBounds_toArray, List.set_cons_zero, List.set_cons_succ]
    refine tkB 20 (.some 54) _ _ rfl rfl (by kernel_rfl) (by kernel_rfl) (by kernel_rfl) (by kernel_rfl) hPF rfl (fun w' => by (go_simp; try with_reducible rfl)) hHeld (fun hHeld => ?_)
    simp only [Act.put, List.setIfInBounds_toArray, List.set_cons_zero, List.set_cons_succ]
    refine tkA 21 (.some 55) _ _ rfl rfl (by kernel_rfl) (by kernel_rfl) (by kernel_rfl) (by kernel_rfl) (by kernel_rfl) hPF rfl (fun w' hw' => by (have h1 := (Hb3.out.below hw' Hb3.out.lt).cell 0; go_simp; try with_reducible rfl)) hHeld (fun hHeld => ?_)
    simp only [Act.put, List.setIfInBounds_toArray, List.set_cons_zero, List.set_cons_succ]
    have hS := hHeld (by kernel_rfl)
    refine tkW (rs := [19]) (by kernel_rfl) (by simp) (AllK.cons (o := _) rfl (fun KC hKC => ?_) AllK.nil)
    go_simp
    refine (HK.out _).mono ?_
    rintro e w8 ⟨rfl, hB8⟩
    have h19 := hS.trans (hB8.mono hS.size)
    refine hKC.out _ _ (h19) (fun hHeld => ?_)
    clear hKC KC
    try simp only [Act.put, List.setIfInBounds_toArray, List.set_cons_zero, List.set_cons_succ]
    have hS := hHeld (by kernel_rfl)
    refine tkW (rs := [22]) (by kernel_rfl) (by simp) (AllK.cons (o := _) rfl (fun KC hKC => ?_) AllK.nil)
    go_simp
    refine (HK2.out _).mono ?_
    rintro e w9 ⟨rfl, rfl⟩
    have h22 := hS
    refine hKC.out _ _ (h22) (fun hHeld => ?_)
    clear hKC KC
    try simp only [Act.put, List.setIfInBounds_toArray, List.set_cons_zero, List.set_cons_succ]
    refine tkB 23 (.some 57) _ _ rfl rfl (by kernel_rfl) (by kernel_rfl) (by kernel_rfl) (by kernel_rfl) hPF rfl (fun w' => by (go_simp; try with_reducible rfl)) hHeld (fun hHeld => ?_)
    simp only [Act.put, List.setIfInBounds_toArray, List.set_cons_zero, List.set_cons_succ]
    refine tkB 24 (.some 58) _ _ rfl rfl (by kernel_rfl) (by kernel_rfl) (by kernel_rfl) (by kernel_rfl) hPF rfl (fun w' => by (go_simp; try with_reducible rfl)) hHeld (fun hHeld => ?_)
    simp only [Act.put, List.setIfInBounds_toArray, List.set_cons_zero, List.set_cons_succ]
    refine tkB 25 (.some 59) _ _ rfl rfl (by kernel_rfl) (by kernel_rfl) (by kernel_rfl) (by kernel_rfl) hPF rfl (fun w' => by (go_simp; try with_reducible rfl)) hHeld (fun hHeld => ?_)
    simp only [Act.put, List.setIfInBounds_toArray, List.set_cons_zero, List.set_cons_succ]
    refine tkW (rs := [26]) (by kernel_rfl) (by simp) (AllK.close (o := _) rfl (by kernel_rfl) (fun KC hKC => ?_) AllK.nil)
    go_simp
    have hS26 := hHeld (by kernel_rfl)
    refine (awake12_any _ (HT3.out.below hS26 HT3.out.1)).mono ?_
    rintro e w10 ⟨rfl, hB10⟩
    refine hKC.out _ _ (fun hHeld => ?_)
    clear hKC KC
    try simp only [Act.put, List.setIfInBounds_toArray, List.set_cons_zero, List.set_cons_succ]
    refine tkB 27 (.some 61) _ _ rfl rfl (by kernel_rfl) (by kernel_rfl) (by kernel_rfl) (by kernel_rfl) hPF rfl (fun w' => by (go_simp; try with_reducible rfl)) hHeld (fun hHeld => ?_)
    simp only [Act.put, List.setIfInBounds_toArray, List.set_cons_zero, List.set_cons_succ]
    refine tkB 28 (.some 4) _ _ rfl rfl (by kernel_rfl) (by kernel_rfl) (by kernel_rfl) (by kernel_rfl) hPF rfl (fun w' => by (go_simp; try with_reducible rfl)) hHeld (fun hHeld => ?_)
    simp only [Act.put, List.setIfInBounds_toArray, List.set_cons_zero, List.set_cons_succ]
    refine tkD (by kernel_rfl) ?_ _
    have hfin := hid (HB13.out.trans ((hS26.trans (hB10.mono hS26.size)).mono HB13.out.size))
    clear hHeld hPF hS26
    go_wp2_with fail
    go_ret
    exact ⟨rfl, hfin.out⟩
  · rw [decide_eq_false hs]
    go_wp2_with fail
    go_ret
    exact ⟨rfl, hB12⟩
end Go.Proofs.YtnmmnlffobnbfaaGreatDoor
