/- sessions: Get -/
import Derived.Test.YtnmmnlffobnbfaaGreatDoorSo
namespace Go.Proofs.YtnmmnlffobnbfaaGreatDoor
open Go.RowKit

set_option maxRecDepth 100000 in
set_option maxHeartbeats 4000000 in
theorem getc_any (w : World) (ob o tb n cv : Nat) (alg : Int) (pv : Option Addr) (key : List UInt8) (x0 : Int) (x1 : Value) (c0 : w.cell? ⟨ob, o, none⟩ = some (.int .i64 alg)) (c1 : w.cell? ⟨ob, o + 1, none⟩ = some (.slice pv n cv)) (hob : ob < w.heap.size) (hr : RowAt w pv key) (hl : key.length = n) (h9 : n < 1000000000)
    (ht : Blk w tb [.int .i64 x0, x1] tSes) (hne : tb ≠ ob) :
    Calls Tryz.prog 64 #[.pointer (some ⟨ob, o, none⟩), .pointer (some ⟨tb, 0, none⟩)] w fun e w' => ∃ v, e = .returned (.tuple #[]) ∧ Blk w' tb [.int .i64 alg, v] tSes ∧ OwnR w.heap.size w' v key ∧ Chg w.heap.size [tb] w w' := by
  subst hl
  have htl : tb < w.heap.size := ht.lt
  have hS0 : w.cell? ⟨ob, o, none⟩ = some (.int .i64 alg) ∧ w.cell? ⟨ob, o + 1, none⟩ = some (.slice pv key.length cv) := ⟨c0, c1⟩
  clear c0 c1
  go_enter Tryz.func64, Tryz.ntmps64
  go_upto_region 0 with (fail)
  try simp only [Act.put]
  refine tkR (fun w' => w'.cell? ⟨ob, o, none⟩ = some (.int .i64 alg) ∧ w'.cell? ⟨ob, o + 1, none⟩ = some (.slice pv key.length cv)) [13] (by kernel_rfl) (fun c a d v w h => by cases d <;> exact h) (hS0) (fun hPF hHeld => ?_)
  refine tkB 0 (.some 3) _ _ rfl rfl (by kernel_rfl) (by kernel_rfl) (by kernel_rfl) (by kernel_rfl) hPF rfl (fun w' => by (go_simp; try with_reducible rfl)) hHeld (fun hHeld => ?_)
  simp only [Act.put, List.setIfInBounds_toArray, List.set_cons_zero, List.set_cons_succ]
  refine tkB 1 (.some 4) _ _ rfl rfl (by kernel_rfl) (by kernel_rfl) (by kernel_rfl) (by kernel_rfl) hPF rfl (fun w' => by (go_simp; try with_reducible rfl)) hHeld (fun hHeld => ?_)
  simp only [Act.put, List.setIfInBounds_toArray, List.set_cons_zero, List.set_cons_succ]
  refine tkB 2 (.some 5) _ _ rfl rfl (by kernel_rfl) (by kernel_rfl) (by kernel_rfl) (by kernel_rfl) hPF rfl (fun w' => by (go_simp; try with_reducible rfl)) hHeld (fun hHeld => ?_)
  simp only [Act.put, List.setIfInBounds_toArray, List.set_cons_zero, List.set_cons_succ]
  refine tkA 3 (.some 6) _ _ rfl rfl (by kernel_rfl) (by kernel_rfl) (by kernel_rfl) (by kernel_rfl) (by kernel_rfl) hPF rfl (fun w' hw' => by (go_simp; try with_reducible rfl)) hHeld (fun hHeld => ?_)
  simp only [Act.put, List.setIfInBounds_toArray, List.set_cons_zero, List.set_cons_succ]
  refine tkB 4 (.some 7) _ _ rfl rfl (by kernel_rfl) (by kernel_rfl) (by kernel_rfl) (by kernel_rfl) hPF rfl (fun w' => by (go_simp; try with_reducible rfl)) hHeld (fun hHeld => ?_)
  simp only [Act.put, List.setIfInBounds_toArray, List.set_cons_zero, List.set_cons_succ]
  refine tkB 5 (.some 8) _ _ rfl rfl (by kernel_rfl) (by kernel_rfl) (by kernel_rfl) (by kernel_rfl) hPF rfl (fun w' => by (go_simp; try with_reducible rfl)) hHeld (fun hHeld => ?_)
  simp only [Act.put, List.setIfInBounds_toArray, List.set_cons_zero, List.set_cons_succ]
  refine tkB 6 (.some 9) _ _ rfl rfl (by kernel_rfl) (by kernel_rfl) (by kernel_rfl) (by kernel_rfl) hPF rfl (fun w' => by (go_simp; try with_reducible rfl)) hHeld (fun hHeld => ?_)
  simp only [Act.put, List.setIfInBounds_toArray, List.set_cons_zero, List.set_cons_succ]
  refine tkA 7 (.some 10) _ _ rfl rfl (by kernel_rfl) (by kernel_rfl) (by kernel_rfl) (by kernel_rfl) (by kernel_rfl) hPF rfl (fun w' hw' => by (go_simp; try with_reducible rfl)) hHeld (fun hHeld => ?_)
  simp only [Act.put, List.setIfInBounds_toArray, List.set_cons_zero, List.set_cons_succ]
  have hS := hHeld (by kernel_rfl)
  refine tkW (rs := [8]) (by kernel_rfl) (by simp) (AllK.cons (o := _) rfl (fun KC hKC => ?_) AllK.nil)
  go_simp
  refine (clone_any _ pv key.length cv key hr.drew rfl h9).mono ?_
  rintro e w5 ⟨v, rfl, hO, hB5⟩
  obtain ⟨pv', cv', rfl, hcv', hrv'⟩ := hO.row
  have ht5 := ht.drew.below hB5 ht.lt
  have hC5 := (Chg.ofBelow (F := [tb]) hB5)
  have hb5 := hB5.block ob hob
  have e5 : ∀ i, w5.cell? ⟨ob, i, none⟩ = w.drew.cell? ⟨ob, i, none⟩ := fun i => by simp [World.cell?, hb5]
  have hS8 : w5.cell? ⟨ob, o, none⟩ = some (.int .i64 alg) ∧ w5.cell? ⟨ob, o + 1, none⟩ = some (.slice pv key.length cv) := ⟨(e5 _).trans hS0.1, (e5 _).trans hS0.2⟩
  have k0 : w5.cell? ⟨tb, 0, none⟩ = some (.int .i64 x0) := ht5.cell 0
  have k1 : w5.cell? ⟨tb, 1, none⟩ = some x1 := ht5.cell 1
  have f0 := ht5.frozen 0
  have f1 := ht5.frozen 1
  refine hKC.out _ _ (hS8) (fun hHeld => ?_)
  clear hKC KC
  try simp only [Act.put, List.setIfInBounds_toArray, List.set_cons_zero, List.set_cons_succ]
  have hS := hHeld (by kernel_rfl)
  refine tkW (rs := [9]) (by kernel_rfl) (by simp) (AllK.cons (o := _) rfl (fun KC hKC => ?_) AllK.nil)
  go_simp
  have hc6 : Chg w5.heap.size [tb] w5 ((w5.setCell ⟨tb, 0, none⟩ (.int .i64 0)).setCell ⟨tb, 1, none⟩ (.slice none 0 0)) := ((Chg.refl _ _ _).setCell (p := ⟨tb, 0, none⟩) (.inl (by simp)) _).setCell (p := ⟨tb, 1, none⟩) (.inl (by simp)) _
  have ht6 := (ht5.set 0 (.int .i64 0)).set 1 (.slice none 0 0)
  generalize (w5.setCell ⟨tb, 0, none⟩ (.int .i64 0)).setCell ⟨tb, 1, none⟩ (.slice none 0 0) = w6 at *
  have hob5 : ob < w5.heap.size := by have := hB5.size; simp at this; omega
  have hb6 := hc6.block ob hob5 (by simpa using hne.symm)
  have e6 : ∀ i, w6.cell? ⟨ob, i, none⟩ = w5.cell? ⟨ob, i, none⟩ := fun i => by simp [World.cell?, hb6]
  have hS9 : w6.cell? ⟨ob, o, none⟩ = some (.int .i64 alg) ∧ w6.cell? ⟨ob, o + 1, none⟩ = some (.slice pv key.length cv) := ⟨(e6 _).trans hS8.1, (e6 _).trans hS8.2⟩
  have j0 : w6.cell? ⟨tb, 0, none⟩ = some (.int .i64 0) := ht6.cell 0
  have g0 := ht6.frozen 0
  refine hKC.out _ _ (hS9) (fun hHeld => ?_)
  clear hKC KC
  try simp only [Act.put]
  refine tkB 10 (.some 12) _ _ rfl rfl (by kernel_rfl) (by kernel_rfl) (by kernel_rfl) (by kernel_rfl) hPF rfl (fun w' => by (go_simp; try with_reducible rfl)) hHeld (fun hHeld => ?_)
  simp only [Act.put, List.setIfInBounds_toArray, List.set_cons_zero, List.set_cons_succ]
  have hS := hHeld (by kernel_rfl)
  refine tkW (rs := [11]) (by kernel_rfl) (by simp) (AllK.cons (o := _) rfl (fun KC hKC => ?_) AllK.nil)
  go_simp
  have hc7 : Chg w6.heap.size [tb] w6 (w6.setCell ⟨tb, 0, none⟩ (.int .i64 alg)) := (Chg.refl _ _ _).setCell (p := ⟨tb, 0, none⟩) (.inl (by simp)) _
  have ht7 := ht6.set 0 (.int .i64 alg)
  generalize w6.setCell ⟨tb, 0, none⟩ (.int .i64 alg) = w7 at *
  have hob6 : ob < w6.heap.size := Nat.lt_of_lt_of_le hob5 hc6.size
  have hb7 := hc7.block ob hob6 (by simpa using hne.symm)
  have e7 : ∀ i, w7.cell? ⟨ob, i, none⟩ = w6.cell? ⟨ob, i, none⟩ := fun i => by simp [World.cell?, hb7]
  have hS11 : w7.cell? ⟨ob, o, none⟩ = some (.int .i64 alg) ∧ w7.cell? ⟨ob, o + 1, none⟩ = some (.slice pv key.length cv) := ⟨(e7 _).trans hS9.1, (e7 _).trans hS9.2⟩
  have j1 : w7.cell? ⟨tb, 1, none⟩ = some (.slice none 0 0) := ht7.cell 1
  have g1 := ht7.frozen 1
  refine hKC.out _ _ (hS11) (fun hHeld => ?_)
  clear hKC KC
  try simp only [Act.put]
  refine tkB 12 (.some 13) _ _ rfl rfl (by kernel_rfl) (by kernel_rfl) (by kernel_rfl) (by kernel_rfl) hPF rfl (fun w' => by (go_simp; try with_reducible rfl)) hHeld (fun hHeld => ?_)
  simp only [Act.put, List.setIfInBounds_toArray, List.set_cons_zero, List.set_cons_succ]
  refine tkW (rs := [13]) (by kernel_rfl) (by simp) (AllK.close (o := _) rfl (by kernel_rfl) (fun KC hKC => ?_) AllK.nil)
  go_simp
  refine hKC.out _ _ (fun hHeld => ?_)
  clear hKC KC
  try simp only [Act.put]
  refine tkD (by kernel_rfl) ?_ _
  have hc8 : Chg w7.heap.size [tb] w7 (w7.setCell ⟨tb, 1, none⟩ (.slice pv' key.length cv')) := (Chg.refl _ _ _).setCell (p := ⟨tb, 1, none⟩) (.inl (by simp)) _
  have ht8 := ht7.set 1 (.slice pv' key.length cv')
  have hsz5 : w.heap.size ≤ w5.heap.size := by have := hB5.size; simpa using this
  have hC : Chg w5.heap.size [tb] w5 (w7.setCell ⟨tb, 1, none⟩ (.slice pv' key.length cv')) := (hc6.trans (hc7.mono hc6.size (fun _ _ h => h))).trans (hc8.mono (hc6.trans (hc7.mono hc6.size (fun _ _ h => h))).size (fun _ _ h => h))
  go_end0
  refine ⟨.slice pv' key.length cv', rfl, ht8, hO.chg hC (Nat.le_refl _) (fun b e => by
    have h2 : w.heap.size ≤ b := (hO.lt b e).1
    simp
    omega), ?_⟩
  exact ((Chg.refl w.heap.size [tb] w).drew.trans (Chg.ofBelow (F := [tb]) hB5)).trans (hC.mono hsz5 (fun _ _ h => h))
set_option maxRecDepth 100000 in
set_option maxHeartbeats 4000000 in
theorem sget_any (w : World) (s t pb ob : Nat) (st : List Pl) (own : List Ses) (h : Int) (i : Nat) (hS : SesAt w s t pb ob st own) (hn : st.length ≤ 64) (hi : i < st.length) (hc : ∀ j, j < st.length → (st.getD j (false, 0)).2 < 1000000) (hh : -9223372036854775808 ≤ h ∧ h ≤ 9223372036854775807)
    (hlk : lookF st h = some i) (alg : Int) (pv : Option Addr) (n cv : Nat) (key : List UInt8) (ho : own.getD i noSes = (alg, .slice pv n cv)) (hr : RowAt w pv key) (hl : key.length = n) (h9 : n < 1000000000) :
    Calls Tryz.prog 31 #[.pointer (some ⟨s, 0, none⟩), .int .i64 h] w fun e w' => ∃ v, e = .returned (.tuple #[.agg #[.int .i64 alg, v], .int .i64 0]) ∧ OwnR w.heap.size w' v key ∧ Below w.heap.size w w' := by
  subst hl
  have HLV := hid (show lookV st h = .tuple #[.int .i64 (i : Int), .int .i64 0] by unfold lookV; rw [hlk])
  have hol := hS.len
  obtain ⟨a0, a1⟩ := sess_at own i (by omega)
  rw [ho] at a0 a1
  have b1 := Blk.new w [.int .i64 0, .slice none 0 0] tSes
  have hB1 : Below w.heap.size w (w.alloc (.cells [.int .i64 0, .slice none 0 0].toArray tSes)) := (Below.refl _ _).alloc (Nat.le_refl _) _
  have hs1 : (w.alloc (.cells [.int .i64 0, .slice none 0 0].toArray tSes)).heap.size = w.heap.size + 1 := by simp
  obtain ⟨w1, hw1⟩ : ∃ w1, w.alloc (.cells [.int .i64 0, .slice none 0 0].toArray tSes) = w1 := ⟨_, rfl⟩
  rw [hw1] at b1 hB1 hs1
  have b2 := Blk.new w1 [.int .i64 0, .slice none 0 0] tSes
  have b12 := b1.alloc (.cells [.int .i64 0, .slice none 0 0].toArray tSes)
  have hB2 := hB1.alloc hB1.size (.cells [.int .i64 0, .slice none 0 0].toArray tSes)
  rw [hs1] at b2
  have hs2 : (w1.alloc (.cells [.int .i64 0, .slice none 0 0].toArray tSes)).heap.size = w.heap.size + 1 + 1 := by simp [hs1]
  obtain ⟨w2, hw2⟩ : ∃ w2, w1.alloc (.cells [.int .i64 0, .slice none 0 0].toArray tSes) = w2 := ⟨_, rfl⟩
  rw [hw2] at b2 b12 hB2 hs2
  have hS2 := hS.below hB2
  have hr2 := hr.chg (Chg.ofBelow (F := []) hB2) (Nat.le_refl _) (fun _ _ => by simp)
  have HLK := hid (look_any w2 0 t st h hS2.tab.tabAt hn (by omega) hc hh)
  have HW1 := hid hw1
  have HW2 := hid hw2
  have hsl := hS.top.lt
  have hol2 := hS.row.lt
  have c0 : w2.cell? ⟨s, 0, none⟩ = some (.pointer (some ⟨t, 0, none⟩)) := hS2.top.cell 0
  clear hw1 hw2 b1 hB1 hs1
  go_enter Tryz.func31, Tryz.ntmps31
  go_upto_region 2 with (fail)
  change Code.wp _ _ _ _ ((w.alloc (.cells [.int .i64 0, .slice none 0 0].toArray tSes)).alloc (.cells [.int .i64 0, .slice none 0 0].toArray tSes))
  rw [HW1.out, HW2.out]
  clear HW1 HW2
  go_wp2_with fail
  go_enter Tryz.func63, Tryz.ntmps63
  go_wp2_with fail
  refine HLK.out.mono ?_
  rintro e w3 ⟨rfl, m, rfl⟩
  rw [HLV.out]
  have htop3 := hS2.top.drewN m
  have hrow3 := hS2.row.drewN m
  have hr3 := hr2.drewN m
  have b3 := b2.drewN m
  have b13 := b12.drewN m
  have hB3 := below_drewN hB2 m
  have hs3 : (w2.drewN m).heap.size = w.heap.size + 1 + 1 := hs2
  generalize w2.drewN m = w3 at *
  clear HLK HLV b2 b12 hB2 hS2 hr2 c0 hs2
  have c1 : w3.cell? ⟨s, 1, none⟩ = some (.slice (some ⟨ob, 0, none⟩) st.length st.length) := htop3.cell 1
  have k0 := hrow3.cellAt a0
  have k1 := hrow3.cellAt a1
  have HG := hid (getc_any w3 ob (i * 2) (w.heap.size + 1) key.length cv alg pv key 0 (.slice none 0 0) k0 k1 hrow3.lt hr3 rfl h9 b3 (by omega))
  clear k0 k1
  go_wp2_with fail
  refine HG.out.mono ?_
  rintro e w4 ⟨v, rfl, ht4, hO4, hC4⟩
  obtain ⟨pv', cv', rfl, hcv', hrv'⟩ := hO4.row
  have b14 := b13.chg hC4 b13.lt (by simp)
  have k0 : w4.cell? ⟨w.heap.size + 1, 0, none⟩ = some (.int .i64 alg) := ht4.cell 0
  have k1 : w4.cell? ⟨w.heap.size + 1, 1, none⟩ = some (.slice pv' key.length cv') := ht4.cell 1
  have j0 : w4.cell? ⟨w.heap.size, 0, none⟩ = some (.int .i64 0) := b14.cell 0
  have j1 : w4.cell? ⟨w.heap.size, 1, none⟩ = some (.slice none 0 0) := b14.cell 1
  have f0 := b14.frozen 0
  have f1 := b14.frozen 1
  have hB4 := hB3.trans (hC4.below (M := w.heap.size) hB3.size (fun k hk => by simp at hk; omega))
  have hO5 := hO4.mono hB3.size
  have hC5 : Chg w4.heap.size [w.heap.size] w4 ((w4.setCell ⟨w.heap.size, 0, none⟩ (.int .i64 alg)).setCell ⟨w.heap.size, 1, none⟩ (.slice pv' key.length cv')) := ((Chg.refl _ _ _).setCell (p := ⟨w.heap.size, 0, none⟩) (.inl (by simp)) _).setCell (p := ⟨w.heap.size, 1, none⟩) (.inl (by simp)) _
  have hN := (b14.set 0 (.int .i64 alg)).set 1 (.slice pv' key.length cv')
  have hO6 := hO5.chg hC5 (Nat.le_refl _) (fun b e => by
    have h2 : w3.heap.size ≤ b := (hO4.lt b e).1
    simp
    omega)
  have hB5 := hB4.trans (hC5.below hB4.size (fun k hk => by simp at hk; omega))
  have Hf := hid (And.intro hO6 hB5)
  have HN := hid hN
  clear hO6 hB5 hN hC5 hO5 hB4 hO4 hC4 ht4 b14 hB3 b3 b13 hr3 hrow3 htop3 c1 HG hrv' hcv'
  go_wp2_with fail
  refine bodyPost_ret (results_cell_two (P := Tryz.prog) (p := 4) (q := 5) (ty := tSes) rfl _ _ w.heap.size tSes _ (0, 0) _ (.int .i64 0) rfl rfl HN.out Tryz.underlying62 rfl (by kernel_rfl)) rfl ⟨_, rfl, Hf.out.1, Hf.out.2⟩
end Go.Proofs.YtnmmnlffobnbfaaGreatDoor
