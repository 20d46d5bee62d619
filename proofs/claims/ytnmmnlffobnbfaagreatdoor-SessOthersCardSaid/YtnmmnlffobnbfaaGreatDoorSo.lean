/- sessions: Add, Get, End, Handles -/
import Derived.Test.YtnmmnlffobnbfaaGreatDoorSn
namespace Go.Proofs.YtnmmnlffobnbfaaGreatDoor
open Go.RowKit

theorem look_hit {st : List Pl} {i : Nat} {h : Int} (hi : i < st.length) (ho : (st.getD i (false, 0)).1 = true) (hh : hnum st i = h) : lookF st h = some i := by
  have e : (h - 1) = ((i + st.length * (st.getD i (false, 0)).2 : Nat) : Int) := by rw [← hh]; unfold hnum; push_cast; omega
  have e2 : ((h - 1) % (st.length : Int)).toNat = i := by
    rw [e, ← Int.natCast_emod]
    rw [Nat.add_mul_mod_self_left, Nat.mod_eq_of_lt hi]; simp
  unfold lookF
  rw [if_neg (by rw [← hh]; unfold hnum; omega), e2, if_pos ⟨ho, hh⟩]
theorem SesAt.put {w w' : World} {s t pb ob : Nat} {st : List Pl} {own : List Ses} (h : SesAt w s t pb ob st own) (hT : TabIn w' t pb st) (hC : Chg w.heap.size [pb] w w') : SesAt w' s t pb ob st own :=
  ⟨h.top.chg hC h.top.lt (by have := h.top.ne h.tab.2 (by decide); simpa using this), hT, h.row.chg hC h.row.lt (by have := h.row.ne h.tab.2 (by decide); simpa using this), h.len⟩

set_option maxRecDepth 100000 in
set_option maxHeartbeats 4000000 in
theorem sadd_any (w : World) (s t pb ob : Nat) (st : List Pl) (own : List Ses) (k : Nat) (hS : SesAt w s t pb ob st own) (hn : st.length ≤ 64) (hk : k < st.length) (hi : idx st = k) (hc : ∀ j, j < st.length → (st.getD j (false, 0)).2 < 1000000)
    (alg : Int) (pa : Option Addr) (n cap : Nat) (key : List UInt8) (hr : RowAt w pa key) (hl : key.length = n) (h9 : n < 1000000000) (hck : checkF alg false n 0 0 = 0) (hoff : Off [pb, ob] pa) :
    Calls Tryz.prog 30 #[.pointer (some ⟨s, 0, none⟩), .int .i64 alg, .slice pa n cap] w fun e w' => ∃ v, e = .returned (.tuple #[.int .i64 (hnum st k), .int .i64 0]) ∧ SesAt w' s t pb ob (st.set k (true, (st.getD k (false, 0)).2)) (own.set k (alg, v)) ∧ OwnR w.heap.size w' v key ∧ Chg w.heap.size [pb, ob] w w' := by
  have Hl := hid hl
  have Hck := hid hck
  have Hi := hid hi
  clear hl hck hi
  go_enter Tryz.func30, Tryz.ntmps30
  go_wp2_with fail
  refine (check_any w alg false pa n cap none 0 0 none 0 0).mono ?_
  rintro e w1 ⟨rfl, hB1⟩
  rw [Hck.out, show ((0 : Nat) : Int) = 0 from rfl]
  have hS1 := hS.below hB1
  have hr1 := hr.chg (Chg.ofBelow (F := []) hB1) (Nat.le_refl _) (fun _ _ => by simp)
  have c0 : w1.cell? ⟨s, 0, none⟩ = some (.pointer (some ⟨t, 0, none⟩)) := hS1.top.cell 0
  go_wp2_with fail
  refine (open_in w1 t pb st k hS1.tab hn hk Hi.out (hc k hk)).mono ?_
  rintro e w2 ⟨rfl, hT2, hC2⟩
  clear c0
  have hl2 : (st.set k (true, (st.getD k (false, 0)).2)).length = st.length := by simp
  have hno : ob ≠ pb := hS1.row.ne hS1.tab.2 (by decide)
  have hns : s ≠ pb := hS1.top.ne hS1.tab.2 (by decide)
  have hnso : s ≠ ob := hS1.top.ne hS1.row (by decide)
  have htop2 := hS1.top.chg hC2 hS1.top.lt (by simpa using hns)
  have hrow2 := hS1.row.chg hC2 hS1.row.lt (by simpa using hno)
  have hr2 := hr1.chg hC2 (Nat.le_refl _) (fun a e => by have := hoff a e; simp at this ⊢; exact this.1)
  have hh2 : hnum (st.set k (true, (st.getD k (false, 0)).2)) k = hnum st k := by unfold hnum; rw [hl2, getD_set_eq st k hk]
  have hlook := look_hit (st := st.set k (true, (st.getD k (false, 0)).2)) (i := k) (h := hnum st k) (by omega) (by rw [getD_set_eq st k hk]) hh2
  have hcl : ∀ j, j < (st.set k (true, (st.getD k (false, 0)).2)).length → ((st.set k (true, (st.getD k (false, 0)).2)).getD j (false, 0)).2 < 1000000 := by
    intro j hj
    by_cases e : j = k
    · subst e; rw [getD_set_eq st j hk]; exact hc j hk
    · rw [getD_set_ne st k j e]; exact hc j (by omega)
  have hck2 := hc k hk
  have hnum0 : 0 ≤ hnum st k ∧ hnum st k ≤ 9223372036854775807 := by
    unfold hnum
    have hb : st.length * (st.getD k (false, 0)).2 ≤ 64 * 1000000 := Nat.mul_le_mul hn (by omega)
    generalize st.length * (st.getD k (false, 0)).2 = q at *
    omega
  obtain ⟨h, hh⟩ : ∃ h, hnum st k = h := ⟨_, rfl⟩
  rw [hh] at hh2 hlook hnum0
  have HH := hid hh
  generalize hst2 : st.set k (true, (st.getD k (false, 0)).2) = st2 at *
  have HST := hid hst2
  clear hst2
  have HLK := hid (look_any w2 0 t st2 h hT2.tabAt (by omega) (by omega) hcl (by omega))
  have hlv : lookV st2 h = .tuple #[.int .i64 (k : Int), .int .i64 0] := by unfold lookV; rw [hlook]
  have HLV := hid hlv
  have c0 : w2.cell? ⟨s, 0, none⟩ = some (.pointer (some ⟨t, 0, none⟩)) := htop2.cell 0
  have hC1 := (Chg.ofBelow (F := [pb, ob]) hB1).trans (hC2.mono hB1.size (fun j _ hj => by simp at hj ⊢; exact .inl hj))
  clear hlv hlook hcl hS1 hB1 hC2 hr1 hr hh2 hck2 hnum0
  rw [hh]
  clear hh
  go_wp2_with fail
  refine HLK.out.mono ?_
  rintro e w3 ⟨rfl, m, rfl⟩
  rw [HLV.out]
  have htop3 := htop2.drewN m
  have hrow3 := hrow2.drewN m
  have hT3 := hT2.drewN m
  have hr3 := hr2.drewN m
  have hC3 := hC1.drewN m
  have hs3 : w.heap.size ≤ (w2.drewN m).heap.size := hC3.size
  generalize w2.drewN m = w3 at *
  clear htop2 hrow2 hT2 hr2 hC1 HLV HLK c0
  go_upto_region 10 with (fail)
  have c1 : w3.cell? ⟨s, 1, none⟩ = some (.slice (some ⟨ob, 0, none⟩) st.length st.length) := htop3.cell 1
  have hol := hS.len
  obtain ⟨at0, at1⟩ := sess_at own k (by omega)
  have hps := hid (sess_set own k (by omega) alg)
  generalize (own.getD k noSes).1 = o0 at *
  generalize (own.getD k noSes).2 = o1 at *
  try simp only [Act.put]
  refine tkR (fun w' => w'.cell? ⟨s, 1, none⟩ = some (.slice (some ⟨ob, 0, none⟩) st.length st.length)) [10] (by kernel_rfl) (fun c a d v w h => by cases d <;> exact h) (c1) (fun hPF hHeld => ?_)
  refine tkB 0 (.some 46) _ _ rfl rfl (by kernel_rfl) (by kernel_rfl) (by kernel_rfl) (by kernel_rfl) hPF rfl (fun w' => by (go_simp; try with_reducible rfl)) hHeld (fun hHeld => ?_)
  simp only [Act.put, List.setIfInBounds_toArray, List.set_cons_zero, List.set_cons_succ]
  refine tkB 1 (.some 47) _ _ rfl rfl (by kernel_rfl) (by kernel_rfl) (by kernel_rfl) (by kernel_rfl) hPF rfl (fun w' => by (go_simp; try with_reducible rfl)) hHeld (fun hHeld => ?_)
  simp only [Act.put, List.setIfInBounds_toArray, List.set_cons_zero, List.set_cons_succ]
  refine tkB 2 (.some 48) _ _ rfl rfl (by kernel_rfl) (by kernel_rfl) (by kernel_rfl) (by kernel_rfl) hPF rfl (fun w' => by (go_simp; try with_reducible rfl)) hHeld (fun hHeld => ?_)
  simp only [Act.put, List.setIfInBounds_toArray, List.set_cons_zero, List.set_cons_succ]
  refine tkA 3 (.some 49) _ _ rfl rfl (by kernel_rfl) (by kernel_rfl) (by kernel_rfl) (by kernel_rfl) (by kernel_rfl) hPF rfl (fun w' hw' => by (go_simp; try with_reducible rfl)) hHeld (fun hHeld => ?_)
  simp only [Act.put, List.setIfInBounds_toArray, List.set_cons_zero, List.set_cons_succ]
  refine tkB 4 (.some 50) _ _ rfl rfl (by kernel_rfl) (by kernel_rfl) (by kernel_rfl) (by kernel_rfl) hPF rfl (fun w' => by (go_simp; try with_reducible rfl)) hHeld (fun hHeld => ?_)
  simp only [Act.put, List.setIfInBounds_toArray, List.set_cons_zero, List.set_cons_succ]
  refine tkB 5 (.some 51) _ _ rfl rfl (by kernel_rfl) (by kernel_rfl) (by kernel_rfl) (by kernel_rfl) hPF rfl (fun w' => by (go_simp; try with_reducible rfl)) hHeld (fun hHeld => ?_)
  simp only [Act.put, List.setIfInBounds_toArray, List.set_cons_zero, List.set_cons_succ]
  refine tkB 6 (.some 52) _ _ rfl rfl (by kernel_rfl) (by kernel_rfl) (by kernel_rfl) (by kernel_rfl) hPF rfl (fun w' => by (go_simp; try with_reducible rfl)) hHeld (fun hHeld => ?_)
  simp only [Act.put, List.setIfInBounds_toArray, List.set_cons_zero, List.set_cons_succ]
  have hS := hHeld (by kernel_rfl)
  refine tkW (rs := [7]) (by kernel_rfl) (by simp) (AllK.cons (o := _) rfl (fun KC hKC => ?_) AllK.nil)
  go_simp
  refine (clone_any _ pa n cap key hr3.drew Hl.out h9).mono ?_
  rintro e w5 ⟨v, rfl, hO, hB5⟩
  obtain ⟨pv, cv, rfl, hcv, hrv⟩ := hO.row
  have hrow5 := hrow3.drew.below hB5 hrow3.lt
  have htop5 := htop3.drew.below hB5 htop3.lt
  have hT5 : TabIn w5 t pb st2 := ⟨hT3.1.drew.below hB5 hT3.1.lt, hT3.2.drew.below hB5 hT3.2.lt⟩
  have hC5 := hC3.drew.trans ((Chg.ofBelow (F := [pb, ob]) hB5).mono (M := w.heap.size) hs3 (fun _ _ h => h))
  have hS5 : w5.cell? ⟨s, 1, none⟩ = some (.slice (some ⟨ob, 0, none⟩) st.length st.length) := htop5.cell 1
  have k0 := hrow5.cellAt at0
  have k1 := hrow5.cellAt at1
  have f0 := hrow5.frozen (k * 2)
  have f1 := hrow5.frozen (k * 2 + 1)
  refine hKC.out _ _ (hS5) (fun hHeld => ?_)
  clear hKC KC
  try simp only [Act.put, List.setIfInBounds_toArray, List.set_cons_zero, List.set_cons_succ]
  refine tkB 8 (.some 54) _ _ rfl rfl (by kernel_rfl) (by kernel_rfl) (by kernel_rfl) (by kernel_rfl) hPF rfl (fun w' => by (go_simp; try with_reducible rfl)) hHeld (fun hHeld => ?_)
  simp only [Act.put, List.setIfInBounds_toArray, List.set_cons_zero, List.set_cons_succ]
  refine tkB 9 (.some 55) _ _ rfl rfl (by kernel_rfl) (by kernel_rfl) (by kernel_rfl) (by kernel_rfl) hPF rfl (fun w' => by (go_simp; try with_reducible rfl)) hHeld (fun hHeld => ?_)
  simp only [Act.put, List.setIfInBounds_toArray, List.set_cons_zero, List.set_cons_succ]
  refine tkW (rs := [10]) (by kernel_rfl) (by simp) (AllK.close (o := _) rfl (by kernel_rfl) (fun KC hKC => ?_) AllK.nil)
  go_simp
  refine hKC.out _ _ (fun hHeld => ?_)
  clear hKC KC
  try simp only [Act.put]
  refine tkD (by kernel_rfl) ?_ _
  go_wp2_with fail
  go_ret2
  have hCs : Chg w5.heap.size [ob] w5 ((w5.setCell ⟨ob, k * 2, none⟩ (.int .i64 alg)).setCell ⟨ob, k * 2 + 1, none⟩ (.slice pv key.length cv)) := ((Chg.refl _ _ _).setCell (p := ⟨ob, k * 2, none⟩) (.inl (by simp)) _).setCell (p := ⟨ob, k * 2 + 1, none⟩) (.inl (by simp)) _
  have hr6 := (hrow5.set (k * 2) (.int .i64 alg)).set (k * 2 + 1) (.slice pv key.length cv)
  rw [hps.out] at hr6
  have htp := htop5.chg hCs htop5.lt (by simpa using hnso)
  rw [← hl2] at htp
  have hs5 : w.heap.size ≤ w5.heap.size := hC5.size
  refine ⟨.slice pv key.length cv, by rw [HH.out]; rfl, ?_, ?_, ?_⟩
  · rw [HST.out]
    exact ⟨htp, ⟨hT5.1.chg hCs hT5.1.lt (by have := hT5.1.ne hrow5 (by decide); simpa using this), hT5.2.chg hCs hT5.2.lt (by simpa using hno.symm)⟩, hr6, by rw [List.length_set, hl2]; exact hol⟩
  · exact ((hO.mono hs3).chg hCs (Nat.le_refl _) (fun b e => by have := (hO.lt b e).1; have := hrow3.lt; simp at *; omega))
  · exact hC5.trans (hCs.mono hs5 (fun j _ hj => by simp at hj ⊢; exact .inr hj))
end Go.Proofs.YtnmmnlffobnbfaaGreatDoor
