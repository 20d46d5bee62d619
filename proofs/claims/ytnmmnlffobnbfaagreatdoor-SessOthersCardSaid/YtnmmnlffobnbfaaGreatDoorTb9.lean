/- sess: Open and Close change the places' row alone -/
import Derived.Test.YtnmmnlffobnbfaaGreatDoorTb3
namespace Go.Proofs.YtnmmnlffobnbfaaGreatDoor
open Go.RowKit

def TabIn (w : World) (t pb : Nat) (st : List Pl) : Prop := Blk w t [.slice (some ⟨pb, 0, none⟩) st.length st.length] tTable ∧ Blk w pb (pls st) tPlace
theorem TabIn.tabAt {w : World} {t pb : Nat} {st : List Pl} (h : TabIn w t pb st) : TabAt 0 w t st := ⟨Nat.zero_le _, pb, Nat.zero_le _, h.1, h.2⟩
theorem TabIn.below {w w' : World} {t pb : Nat} {st : List Pl} (h : TabIn w t pb st) (hB : Below w.heap.size w w') : TabIn w' t pb st := ⟨h.1.below hB h.1.lt, h.2.below hB h.2.lt⟩
theorem TabIn.drewN {w : World} {t pb : Nat} {st : List Pl} (h : TabIn w t pb st) (n : Nat) : TabIn (w.drewN n) t pb st := ⟨h.1.drewN n, h.2.drewN n⟩

set_option maxRecDepth 100000 in
set_option maxHeartbeats 2000000 in
theorem open_in (w : World) (t pb : Nat) (st : List Pl) (k : Nat) (ht : TabIn w t pb st) (hn : st.length ≤ 64) (hk : k < st.length) (hi : idx st = k) (hc : (st.getD k (false, 0)).2 < 1000000) :
    Calls Tryz.prog 60 #[.pointer (some ⟨t, 0, none⟩)] w fun e w' => e = .returned (.tuple #[.int .i64 (hnum st k), .int .i64 0]) ∧ TabIn w' t pb (st.set k (true, (st.getD k (false, 0)).2)) ∧ Chg w.heap.size [pb] w w' := by
  obtain ⟨h2, h3⟩ := ht
  have c0 := h2.cell 0
  simp only [List.getElem?_cons_zero] at c0
  have Hi := hid hi
  go_enter Tryz.func60, Tryz.ntmps60
  go_wp2_with fail
  refine (index_any _ pb st h3 hn).mono ?_
  rintro e w1 ⟨rfl, hB⟩
  rw [Hi.out]
  have h2 := h2.below hB h2.lt
  have h3 := h3.below hB h3.lt
  have hB1 : Chg w.heap.size [pb] w w1 := Chg.ofBelow hB
  have c0 := h2.cell 0
  have c1 := h3.cellAt (pls_at st k hk).1
  have f1 := h3.frozen (k * 2)
  simp only [List.getElem?_cons_zero] at c0
  have hne : t ≠ pb := h2.ne h3 (by decide)
  have h2' : Blk (w1.setCell ⟨pb, k * 2, none⟩ (.bool true)) t [.slice (some ⟨pb, 0, none⟩) st.length st.length] tTable := h2.setNe hne _
  have h3' := h3.set (k * 2) (.bool true)
  rw [pls_set1 st k hk] at h3'
  have hB2 : Chg w.heap.size [pb] w (w1.setCell ⟨pb, k * 2, none⟩ (.bool true)) := hB1.setCell (.inl (by simp)) _
  have hl : (st.set k (true, (st.getD k (false, 0)).2)).length = st.length := by simp
  have hT : TabIn (w1.setCell ⟨pb, k * 2, none⟩ (.bool true)) t pb (st.set k (true, (st.getD k (false, 0)).2)) := ⟨by rw [hl]; exact h2', h3'⟩
  go_wp2_with fail
  refine (handle_any _ 0 t _ k hT.tabAt (by omega) (by omega) (by rw [getD_set_eq st k hk]; exact hc)).mono ?_
  rintro e w2 ⟨rfl, m, rfl⟩
  rw [hl, getD_set_eq st k hk, show ((1 + k + st.length * (st.getD k (false, 0)).2 : Nat) : Int) = hnum st k from rfl]
  go_wp2_with fail
  go_ret2
  exact ⟨rfl, hT.drewN m, hB2.drewN m⟩

set_option maxRecDepth 100000 in
set_option maxHeartbeats 2000000 in
theorem open_in_full (w : World) (t pb : Nat) (st : List Pl) (ht : TabIn w t pb st) (hn : st.length ≤ 64) (hi : idx st = -1) :
    Calls Tryz.prog 60 #[.pointer (some ⟨t, 0, none⟩)] w fun e w' => e = .returned (.tuple #[.int .i64 0, .int .i64 12]) ∧ TabIn w' t pb st ∧ Below w.heap.size w w' := by
  have hT := ht
  obtain ⟨h2, h3⟩ := ht
  have c0 := h2.cell 0
  simp only [List.getElem?_cons_zero] at c0
  have Hi := hid hi
  go_enter Tryz.func60, Tryz.ntmps60
  go_wp2_with fail
  refine (index_any _ pb st h3 hn).mono ?_
  rintro e w1 ⟨rfl, hB⟩
  rw [Hi.out]
  go_wp2_with fail
  go_ret2
  exact ⟨rfl, hT.below hB, hB⟩

set_option maxRecDepth 100000 in
set_option maxHeartbeats 2000000 in
theorem close_in (w : World) (t pb : Nat) (st : List Pl) (h : Int) (ht : TabIn w t pb st) (hn : st.length ≤ 64) (hn0 : 0 < st.length) (hc : ∀ j, j < st.length → (st.getD j (false, 0)).2 < 1000000) (hh : -9223372036854775808 ≤ h ∧ h ≤ 9223372036854775807) :
    Calls Tryz.prog 65 #[.pointer (some ⟨t, 0, none⟩), .int .i64 h] w fun e w' => e = .returned (closeV st h) ∧ TabIn w' t pb (closeF st h) ∧ Chg w.heap.size [pb] w w' := by
  have HL := look_any w 0 t st h ht.tabAt hn hn0 hc hh
  have hBr : Chg w.heap.size [pb] w w := Chg.refl _ _ _
  obtain ⟨r, hr⟩ : ∃ r, lookF st h = r := ⟨_, rfl⟩
  cases r with
  | none =>
    have h1 : lookV st h = .tuple #[.int .i64 0, .int .i64 3] := by unfold lookV; rw [hr]
    have h2 : closeV st h = .int .i64 3 := by unfold closeV; rw [hr]
    have h3 : closeF st h = st := by unfold closeF; rw [hr]
    rw [h1] at HL
    rw [h2, h3]
    clear h1 h2 h3 hr
    go_enter Tryz.func65, Tryz.ntmps65
    go_wp2_with fail
    refine HL.mono ?_
    rintro e w2 ⟨rfl, m, rfl⟩
    go_wp2_with fail
    go_ret
    exact ⟨rfl, ht.drewN m, hBr.drewN m⟩
  | some i =>
    have hil := lookF_lt st h i hn0 hr
    have h1 : lookV st h = .tuple #[.int .i64 (i : Int), .int .i64 0] := by unfold lookV; rw [hr]
    have h2 : closeV st h = .int .i64 0 := by unfold closeV; rw [hr]
    have h3 : closeF st h = st.set i (false, (st.getD i (false, 0)).2 + 1) := by unfold closeF; rw [hr]
    have hci := hc i hil
    rw [h1] at HL
    rw [h2, h3]
    clear h1 h2 h3 hr hc
    obtain ⟨hT, hP⟩ := ht
    have hps := pls_set st i hil false ((st.getD i (false, 0)).2 + 1)
    have hat := pls_at st i hil
    generalize (st.getD i (false, 0)).2 = c at *
    have Hps := hid hps
    have hne : t ≠ pb := hT.ne hP (by decide)
    go_enter Tryz.func65, Tryz.ntmps65
    go_wp2_with fail
    refine HL.mono ?_
    rintro e w2 ⟨rfl, m, rfl⟩
    have hT := hT.drewN m
    have hP := hP.drewN m
    have hBm := hBr.drewN m
    generalize w.drewN m = w3 at *
    have c0 := hT.cell 0
    have c1 := hP.cellAt hat.1
    have c2 := hP.cellAt hat.2
    have f1 := hP.frozen (i * 2)
    have f2 := hP.frozen (i * 2 + 1)
    simp only [List.getElem?_cons_zero] at c0
    clear hps hat HL hBr
    go_wp2_with fail
    go_region
    go_wp2_with fail
    go_ret
    have hP2 := (hP.set (i * 2) (.bool false)).set (i * 2 + 1) (.int .i64 ((c + 1 : Nat) : Int))
    rw [Hps.out] at hP2
    have hT2 := (hT.setNe (a := ⟨pb, i * 2, none⟩) hne (.bool false)).setNe (a := ⟨pb, i * 2 + 1, none⟩) hne (.int .i64 ((c + 1 : Nat) : Int))
    exact ⟨rfl, ⟨by rw [List.length_set]; exact hT2.drew, hP2.drew⟩, ((hBm.setCell (.inl (by simp)) _).setCell (.inl (by simp)) _).drew⟩

end Go.Proofs.YtnmmnlffobnbfaaGreatDoor
