/- sessions: End, Handles, and a Get that misses -/
import Derived.Test.YtnmmnlffobnbfaaGreatDoorSp
import Derived.Test.YtnmmnlffobnbfaaGreatDoorTb4
import Derived.Lib.SliceRun
import Derived.Deep.DeepCutAuto
namespace Go.Proofs.YtnmmnlffobnbfaaGreatDoor
open Go.RowKit

theorem run_clear_bytes (w : World) (b n c : Nat) (hn : 0 < n) (cs : List Value) (hb : Blk w b cs tU8) (hl : n ≤ cs.length) (ty : TypeId) :
    (Builtin.clear_ #[23] ty #[.slice (some ⟨b, 0, none⟩) n c]).run Tryz.prog w = .ok (.tuple #[]) (w.setCells b 0 (List.replicate n (.int .u8 0))) :=
  Lib.run_clear_slice w 23 5 ty (.int .u8 0) under33b (fun _ => by kernel_rfl) rfl rfl b 0 n c hn (fun j hj => by rw [hb.cell, List.getElem?_eq_getElem (by omega)]; rfl) (fun j _ => hb.frozen _)

theorem SesAt.chg2 {w w' : World} {s t pb ob : Nat} {st : List Pl} {own : List Ses} {N : Nat} {F : List Nat} (h : SesAt w s t pb ob st own) (hC : Chg N F w w') (hN : w.heap.size ≤ N) (hs : s ∉ F) (ht : t ∉ F) (hp : pb ∉ F) (ho : ob ∉ F) : SesAt w' s t pb ob st own :=
  ⟨h.top.chg hC (Nat.lt_of_lt_of_le h.top.lt hN) hs, ⟨h.tab.1.chg hC (Nat.lt_of_lt_of_le h.tab.1.lt hN) ht, h.tab.2.chg hC (Nat.lt_of_lt_of_le h.tab.2.lt hN) hp⟩, h.row.chg hC (Nat.lt_of_lt_of_le h.row.lt hN) ho, h.len⟩
set_option maxRecDepth 100000 in
set_option maxHeartbeats 4000000 in
theorem send_any (w : World) (s t pb ob : Nat) (st : List Pl) (own : List Ses) (h : Int) (i : Nat) (hS : SesAt w s t pb ob st own) (hn : st.length ≤ 64) (hi : i < st.length) (hc : ∀ j, j < st.length → (st.getD j (false, 0)).2 < 1000000) (hh : -9223372036854775808 ≤ h ∧ h ≤ 9223372036854775807)
    (hlk : lookF st h = some i) (alg : Int) (kb n cv : Nat) (cs : List Value) (ho : own.getD i noSes = (alg, .slice (some ⟨kb, 0, none⟩) n cv)) (hn0 : 0 < n) (hk : Blk w kb cs tU8) (hcs : n ≤ cs.length) :
    Calls Tryz.prog 33 #[.pointer (some ⟨s, 0, none⟩), .int .i64 h] w fun e w' => e = .returned (.int .i64 0) ∧ SesAt w' s t pb ob (closeF st h) (own.set i noSes) ∧ Chg w.heap.size [pb, ob, kb] w w' := by
  have HLV := hid (show lookV st h = .tuple #[.int .i64 (i : Int), .int .i64 0] by unfold lookV; rw [hlk])
  have hol := hS.len
  obtain ⟨a0, a1⟩ := sess_at own i (by omega)
  rw [ho] at a0 a1
  have b1 := Blk.new w [.pointer (some ⟨s, 0, none⟩)] 57
  have hB1 : Below w.heap.size w (w.alloc (.cells [.pointer (some ⟨s, 0, none⟩)].toArray 57)) := (Below.refl _ _).alloc (Nat.le_refl _) _
  have hs1 : (w.alloc (.cells [.pointer (some ⟨s, 0, none⟩)].toArray 57)).heap.size = w.heap.size + 1 := by simp
  obtain ⟨w1, hw1⟩ : ∃ w1, w.alloc (.cells [.pointer (some ⟨s, 0, none⟩)].toArray 57) = w1 := ⟨_, rfl⟩
  rw [hw1] at b1 hB1 hs1
  have b2 := Blk.new w1 [.int .i64 h] tInt
  have b12 := b1.alloc (.cells [.int .i64 h].toArray tInt)
  have hB2 := hB1.alloc hB1.size (.cells [.int .i64 h].toArray tInt)
  rw [hs1] at b2
  have hs2 : (w1.alloc (.cells [.int .i64 h].toArray tInt)).heap.size = w.heap.size + 1 + 1 := by simp [hs1]
  obtain ⟨w2, hw2⟩ : ∃ w2, w1.alloc (.cells [.int .i64 h].toArray tInt) = w2 := ⟨_, rfl⟩
  rw [hw2] at b2 b12 hB2 hs2
  have hS2 := hS.below hB2
  have hk2 := hk.below hB2 hk.lt
  have HLK := hid (look_any w2 0 t st h hS2.tab.tabAt hn (by omega) hc hh)
  have HW1 := hid hw1
  have HW2 := hid hw2
  have hsl := hS.top.lt
  have hobl := hS.row.lt
  have hpbl := hS.tab.2.lt
  have htl := hS.tab.1.lt
  have hkl := hk.lt
  have n1 : s ≠ pb := hS.top.ne hS.tab.2 (by decide)
  have n2 : s ≠ ob := hS.top.ne hS.row (by decide)
  have n3 : s ≠ kb := hS.top.ne hk (by decide)
  have n4 : ob ≠ pb := hS.row.ne hS.tab.2 (by decide)
  have n5 : ob ≠ kb := hS.row.ne hk (by decide)
  have n6 : pb ≠ kb := hS.tab.2.ne hk (by decide)
  have n7 : t ≠ kb := hS.tab.1.ne hk (by decide)
  have n8 : t ≠ ob := hS.tab.1.ne hS.row (by decide)
  have c0 : w2.cell? ⟨s, 0, none⟩ = some (.pointer (some ⟨t, 0, none⟩)) := hS2.top.cell 0
  have e0 : w2.cell? ⟨w.heap.size, 0, none⟩ = some (.pointer (some ⟨s, 0, none⟩)) := b12.cell 0
  have e1 : w2.cell? ⟨w.heap.size + 1, 0, none⟩ = some (.int .i64 h) := b2.cell 0
  clear hw1 hw2 b1 hB1 hs1
  go_enter Tryz.func33, Tryz.ntmps33
  go_upto_region 1 with (fail)
  change Code.wp _ _ _ _ ((w.alloc (.cells [.pointer (some ⟨s, 0, none⟩)].toArray 57)).alloc (.cells [.int .i64 h].toArray tInt))
  rw [HW1.out, HW2.out]
  clear HW1 HW2
  go_wp2_with fail
  go_enter Tryz.func63, Tryz.ntmps63
  go_wp2_with fail
  refine HLK.out.mono ?_
  rintro e w3 ⟨rfl, m, rfl⟩
  rw [HLV.out]
  have hS3 : SesAt (w2.drewN m) s t pb ob st own := ⟨hS2.top.drewN m, hS2.tab.drewN m, hS2.row.drewN m, hol⟩
  have hk3 := hk2.drewN m
  have b3 := b2.drewN m
  have b13 := b12.drewN m
  have hB3 := below_drewN hB2 m
  have hs3 : (w2.drewN m).heap.size = w.heap.size + 1 + 1 := hs2
  generalize w2.drewN m = w3 at *
  clear HLK HLV b2 b12 hB2 hS2 hk2 c0 hs2 e0 e1
  have c1 : w3.cell? ⟨s, 1, none⟩ = some (.slice (some ⟨ob, 0, none⟩) st.length st.length) := hS3.top.cell 1
  go_wp2_with fail
  have k1 := hS3.row.cellAt a1
  have hcl := run_clear_bytes w3 kb n cv hn0 cs hk3 hcs
  have hz := hk3.setCells (List.replicate n (.int .u8 0)) 0 (by simp; omega)
  have hC4 : Chg w3.heap.size [kb] w3 (w3.setCells kb 0 (List.replicate n (.int .u8 0))) := (Chg.refl _ _ w3).setCells (.inl (by simp)) _ _
  obtain ⟨w4, hw4⟩ : ∃ w4, w3.setCells kb 0 (List.replicate n (.int .u8 0)) = w4 := ⟨_, rfl⟩
  rw [hw4] at hcl hC4
  clear hz hw4
  have hS4 : SesAt w4 s t pb ob st own := hS3.chg2 hC4 (Nat.le_refl _) (by simpa using n3) (by simpa using n7) (by simpa using n6) (by simpa using n5)
  have b4 := b3.chg hC4 b3.lt (by simp; omega)
  have b14 := b13.chg hC4 b13.lt (by simp; omega)
  have hk0 := hS4.row.cellAt a0
  have hk1 := hS4.row.cellAt a1
  have f0 := hS4.row.frozen (i * 2)
  have f1 := hS4.row.frozen (i * 2 + 1)
  go_enter Tryz.func66, Tryz.ntmps66
  go_upto_region 1 with (fail)
  have hps := sess_set own i (by omega) 0 (.slice none 0 0)
  have hr5 := (hS4.row.set (i * 2) (.int .i64 0)).set (i * 2 + 1) (.slice none 0 0)
  rw [hps] at hr5
  have hC5 : Chg w4.heap.size [ob] w4 ((w4.setCell ⟨ob, i * 2, none⟩ (.int .i64 0)).setCell ⟨ob, i * 2 + 1, none⟩ (.slice none 0 0)) := ((Chg.refl _ _ _).setCell (p := ⟨ob, i * 2, none⟩) (.inl (by simp)) _).setCell (p := ⟨ob, i * 2 + 1, none⟩) (.inl (by simp)) _
  have HR5 := hid hr5
  have HC5 := hid hC5
  clear hr5 hC5 hps c1 k1 hcl
  go_upto_region 2 with (fail)
  obtain ⟨w5, hw5⟩ : ∃ w5, (w4.setCell ⟨ob, i * 2, none⟩ (.int .i64 0)).setCell ⟨ob, i * 2 + 1, none⟩ (.slice none 0 0) = w5 := ⟨_, rfl⟩
  have hr5 := HR5.out
  have hC5 := HC5.out
  rw [hw5] at hr5 hC5 ⊢
  clear HR5 HC5 hw5 hk0 hk1 f0 f1
  have b5 := b4.chg hC5 b4.lt (by simp; omega)
  have b15 := b14.chg hC5 b14.lt (by simp; omega)
  have hT5 : TabIn w5 t pb st := ⟨hS4.tab.1.chg hC5 hS4.tab.1.lt (by simpa using n8), hS4.tab.2.chg hC5 hS4.tab.2.lt (by simpa using n4.symm)⟩
  have htop5 := hS4.top.chg hC5 hS4.top.lt (by simpa using n2)
  have hSS : w5.cell? ⟨w.heap.size, 0, none⟩ = some (.pointer (some ⟨s, 0, none⟩)) ∧ w5.cell? ⟨s, 0, none⟩ = some (.pointer (some ⟨t, 0, none⟩)) ∧ w5.cell? ⟨w.heap.size + 1, 0, none⟩ = some (.int .i64 h) := ⟨b15.cell 0, htop5.cell 0, b5.cell 0⟩
  have hsz : w.heap.size ≤ w3.heap.size := by omega
  have hC35 : Chg w.heap.size [pb, ob, kb] w w5 := ((Chg.ofBelow (F := [pb, ob, kb]) hB3).trans (hC4.mono hsz (fun j _ hj => by simp at hj ⊢; exact .inr (.inr hj)))).trans (hC5.mono (Nat.le_trans hsz hC4.size) (fun j _ hj => by simp at hj ⊢; exact .inr (.inl hj)))
  clear b4 b14 hS4 hC4 hC5 hB3 b3 b13 hS3 hk3
  try simp only [Act.put]
  refine tkR (fun w' => w'.cell? ⟨w.heap.size, 0, none⟩ = some (.pointer (some ⟨s, 0, none⟩)) ∧ w'.cell? ⟨s, 0, none⟩ = some (.pointer (some ⟨t, 0, none⟩)) ∧ w'.cell? ⟨w.heap.size + 1, 0, none⟩ = some (.int .i64 h)) [5] (by kernel_rfl) (fun c a d v w h => by cases d <;> exact h) (hSS) (fun hPF hHeld => ?_)
  refine tkA 0 (.some 11) _ _ rfl rfl (by kernel_rfl) (by kernel_rfl) (by kernel_rfl) (by kernel_rfl) (by kernel_rfl) hPF rfl (fun w' hw' => by (go_simp; try with_reducible rfl)) hHeld (fun hHeld => ?_)
  simp only [Act.put, List.setIfInBounds_toArray, List.set_cons_zero, List.set_cons_succ]
  refine tkB 1 (.some 12) _ _ rfl rfl (by kernel_rfl) (by kernel_rfl) (by kernel_rfl) (by kernel_rfl) hPF rfl (fun w' => by (go_simp; try with_reducible rfl)) hHeld (fun hHeld => ?_)
  simp only [Act.put, List.setIfInBounds_toArray, List.set_cons_zero, List.set_cons_succ]
  refine tkB 2 (.some 13) _ _ rfl rfl (by kernel_rfl) (by kernel_rfl) (by kernel_rfl) (by kernel_rfl) hPF rfl (fun w' => by (go_simp; try with_reducible rfl)) hHeld (fun hHeld => ?_)
  simp only [Act.put, List.setIfInBounds_toArray, List.set_cons_zero, List.set_cons_succ]
  refine tkA 3 (.some 14) _ _ rfl rfl (by kernel_rfl) (by kernel_rfl) (by kernel_rfl) (by kernel_rfl) (by kernel_rfl) hPF rfl (fun w' hw' => by (go_simp; try with_reducible rfl)) hHeld (fun hHeld => ?_)
  simp only [Act.put, List.setIfInBounds_toArray, List.set_cons_zero, List.set_cons_succ]
  refine tkA 4 (.some 15) _ _ rfl rfl (by kernel_rfl) (by kernel_rfl) (by kernel_rfl) (by kernel_rfl) (by kernel_rfl) hPF rfl (fun w' hw' => by (go_simp; try with_reducible rfl)) hHeld (fun hHeld => ?_)
  simp only [Act.put, List.setIfInBounds_toArray, List.set_cons_zero, List.set_cons_succ]
  refine tkW (rs := [5]) (by kernel_rfl) (by simp) (AllK.close (o := _) rfl (by kernel_rfl) (fun KC hKC => ?_) AllK.nil)
  go_simp
  refine (close_in _ t pb st h ⟨hT5.1.drew, hT5.2.drew⟩ hn (by omega) hc hh).mono ?_
  rintro e w6 ⟨rfl, hT6, hC6⟩
  refine hKC.out _ _ (fun hHeld => ?_)
  clear hKC KC
  try simp only [Act.put, List.setIfInBounds_toArray, List.set_cons_zero, List.set_cons_succ]
  refine tkD (by kernel_rfl) ?_ _
  have hC56 : Chg w5.heap.size [pb] w5 w6 := (Chg.refl w5.heap.size [pb] w5).drew.trans hC6
  have hC36 : Chg w.heap.size [pb, ob, kb] w w6 := hC35.trans (hC56.mono hC35.size (fun j _ hj => by simp at hj ⊢; exact .inl hj))
  have htop6 := htop5.chg hC56 htop5.lt (by simpa using n1)
  have hr6 := hr5.chg hC56 hr5.lt (by simpa using n4)
  have hcl : (closeF st h).length = st.length := by unfold closeF; rw [hlk]; simp
  have HF := hid (And.intro hC36 (SesAt.mk (by rw [hcl]; exact htop6) hT6 hr6 (by rw [List.length_set, hcl]; exact hol)))
  clear hC6 hC56 hC36 hcl htop6 hr6 htop5 hr5 hT5 hT6 hC35 hSS
  go_end0
  go_wp2_with fail
  go_ret
  exact ⟨rfl, HF.out.2, HF.out.1⟩
set_option maxRecDepth 100000 in
set_option maxHeartbeats 4000000 in
theorem sget_none (w : World) (s t pb ob : Nat) (st : List Pl) (own : List Ses) (h : Int) (hS : SesAt w s t pb ob st own) (hn : st.length ≤ 64) (hn0 : 0 < st.length) (hc : ∀ j, j < st.length → (st.getD j (false, 0)).2 < 1000000) (hh : -9223372036854775808 ≤ h ∧ h ≤ 9223372036854775807)
    (hlk : lookF st h = none) :
    Calls Tryz.prog 31 #[.pointer (some ⟨s, 0, none⟩), .int .i64 h] w fun e w' => e = .returned (.tuple #[.agg #[.int .i64 0, .slice none 0 0], .int .i64 3]) ∧ Below w.heap.size w w' := by
  have HLV := hid (show lookV st h = .tuple #[.int .i64 0, .int .i64 3] by unfold lookV; rw [hlk])
  have b1 := Blk.new w [.int .i64 0, .slice none 0 0] tSes
  have hB1 : Below w.heap.size w (w.alloc (.cells [.int .i64 0, .slice none 0 0].toArray tSes)) := (Below.refl _ _).alloc (Nat.le_refl _) _
  have hs1 : (w.alloc (.cells [.int .i64 0, .slice none 0 0].toArray tSes)).heap.size = w.heap.size + 1 := by simp
  obtain ⟨w1, hw1⟩ : ∃ w1, w.alloc (.cells [.int .i64 0, .slice none 0 0].toArray tSes) = w1 := ⟨_, rfl⟩
  rw [hw1] at b1 hB1 hs1
  have b2 := Blk.new w1 [.int .i64 0, .slice none 0 0] tSes
  have b12 := b1.alloc (.cells [.int .i64 0, .slice none 0 0].toArray tSes)
  have hB2 := hB1.alloc hB1.size (.cells [.int .i64 0, .slice none 0 0].toArray tSes)
  rw [hs1] at b2
  obtain ⟨w2, hw2⟩ : ∃ w2, w1.alloc (.cells [.int .i64 0, .slice none 0 0].toArray tSes) = w2 := ⟨_, rfl⟩
  rw [hw2] at b2 b12 hB2
  have hS2 := hS.below hB2
  have HLK := hid (look_any w2 0 t st h hS2.tab.tabAt hn (by omega) hc hh)
  have HW1 := hid hw1
  have HW2 := hid hw2
  have c0 : w2.cell? ⟨s, 0, none⟩ = some (.pointer (some ⟨t, 0, none⟩)) := hS2.top.cell 0
  clear hw1 hw2 b1 hB1 hs1
  go_enter Tryz.func31, Tryz.ntmps31
  go_upto_region 2 with (fail)
  change Code.wp _ _ _ _ ((w.alloc (.cells [.int .i64 0, .slice none 0 0].toArray tSes)).alloc (.cells [.int .i64 0, .slice none 0 0].toArray tSes))
  rw [HW1.out, HW2.out]
  clear HW1 HW2
  go_wp2_with fail
  go_enter Tryz.func63, Tryz.ntmps63
  go_wp2_with fail
  refine HLK.out.mono ?_
  rintro e w3 ⟨rfl, m, rfl⟩
  rw [HLV.out]
  have b3 := b2.drewN m
  have b13 := b12.drewN m
  have hB3 := below_drewN hB2 m
  generalize w2.drewN m = w3 at *
  clear HLK HLV b2 b12 hB2 hS2 c0
  have k0 : w3.cell? ⟨w.heap.size + 1, 0, none⟩ = some (.int .i64 0) := b3.cell 0
  have k1 : w3.cell? ⟨w.heap.size + 1, 1, none⟩ = some (.slice none 0 0) := b3.cell 1
  have j0 : w3.cell? ⟨w.heap.size, 0, none⟩ = some (.int .i64 0) := b13.cell 0
  have j1 : w3.cell? ⟨w.heap.size, 1, none⟩ = some (.slice none 0 0) := b13.cell 1
  have f0 := b13.frozen 0
  have f1 := b13.frozen 1
  have hC5 : Chg w3.heap.size [w.heap.size] w3 ((w3.setCell ⟨w.heap.size, 0, none⟩ (.int .i64 0)).setCell ⟨w.heap.size, 1, none⟩ (.slice none 0 0)) := ((Chg.refl _ _ _).setCell (p := ⟨w.heap.size, 0, none⟩) (.inl (by simp)) _).setCell (p := ⟨w.heap.size, 1, none⟩) (.inl (by simp)) _
  have hN := (b13.set 0 (.int .i64 0)).set 1 (.slice none 0 0)
  have Hf := hid (hB3.trans (hC5.below hB3.size (fun k hk => by simp at hk; omega)))
  have HN := hid hN
  clear hC5 hB3 hN b3 b13
  go_wp2_with fail
  refine bodyPost_ret (results_cell_two (P := Tryz.prog) (p := 4) (q := 5) (ty := tSes) rfl _ _ w.heap.size tSes _ (0, 0) _ (.int .i64 3) rfl rfl HN.out Tryz.underlying62 rfl (by kernel_rfl)) rfl ⟨rfl, Hf.out⟩

set_option maxRecDepth 100000 in
set_option maxHeartbeats 2000000 in
theorem shandles_any (w : World) (s t pb ob : Nat) (st : List Pl) (own : List Ses) (hS : SesAt w s t pb ob st own) (hn : st.length ≤ 64) (hc : ∀ j, j < st.length → (st.getD j (false, 0)).2 < 1000000) :
    Calls Tryz.prog 34 #[.pointer (some ⟨s, 0, none⟩)] w fun e w' => ∃ a c, e = .returned (.slice a (hands st st.length).length c) ∧ Below w.heap.size w w' := by
  have c0 : w.cell? ⟨s, 0, none⟩ = some (.pointer (some ⟨t, 0, none⟩)) := hS.top.cell 0
  have HH := hid (handles_len w 0 t st hS.tab.tabAt hn hc)
  go_enter Tryz.func34, Tryz.ntmps34
  go_wp2_with fail
  refine HH.out.mono ?_
  rintro e w2 ⟨a, c, rfl, hB⟩
  go_wp2_with fail
  go_ret
  exact ⟨_, _, rfl, hB⟩
end Go.Proofs.YtnmmnlffobnbfaaGreatDoor
