/- sess: Open, Look, Close -/
import Derived.Test.YtnmmnlffobnbfaaGreatDoorTb1
namespace Go.Proofs.YtnmmnlffobnbfaaGreatDoor
open Go.RowKit

def hnum (st : List Pl) (k : Nat) : Int := ((1 + k + st.length * (st.getD k (false, 0)).2 : Nat) : Int)
def lookF (st : List Pl) (h : Int) : Option Nat :=
  if h < 1 then none else if (st.getD ((h - 1) % st.length).toNat (false, 0)).1 = true ∧ hnum st ((h - 1) % st.length).toNat = h then some ((h - 1) % st.length).toNat else none
def lookV (st : List Pl) (h : Int) : Value := match lookF st h with | some i => .tuple #[.int .i64 (i : Int), .int .i64 0] | none => .tuple #[.int .i64 0, .int .i64 3]
theorem getD_set_eq (st : List Pl) (k : Nat) (h : k < st.length) (p : Pl) : (st.set k p).getD k (false, 0) = p := by
  simp [List.getD, h]
theorem getD_set_ne (st : List Pl) (k j : Nat) (h : j ≠ k) (p : Pl) : (st.set k p).getD j (false, 0) = st.getD j (false, 0) := by
  simp [List.getD, List.getElem?_set_ne (fun e => h e.symm)]
theorem TabAt.lo_le {lo t : Nat} {w : World} {st : List Pl} (h : TabAt lo w t st) : lo ≤ w.heap.size := by
  obtain ⟨h0, pb, h1, h2, h3⟩ := h
  have := h2.lt; omega
theorem TabAt.drewN {lo t : Nat} {w : World} {st : List Pl} (h : TabAt lo w t st) (n : Nat) : TabAt lo (w.drewN n) t st := by
  obtain ⟨h0, pb, h1, h2, h3⟩ := h
  exact ⟨h0, pb, h1, h2.drewN n, h3.drewN n⟩

set_option maxRecDepth 100000 in
set_option maxHeartbeats 2000000 in
theorem open_some (w : World) (lo t : Nat) (st : List Pl) (k : Nat) (ht : TabAt lo w t st) (hn : st.length ≤ 64) (hk : k < st.length) (hi : idx st = k) (hc : (st.getD k (false, 0)).2 < 1000000) :
    Calls Tryz.prog 60 #[.pointer (some ⟨t, 0, none⟩)] w fun e w' => e = .returned (.tuple #[.int .i64 (hnum st k), .int .i64 0]) ∧ TabAt lo w' t (st.set k (true, (st.getD k (false, 0)).2)) ∧ Below lo w w' := by
  have hlo := ht.lo_le
  obtain ⟨h0, pb, h1, h2, h3⟩ := ht
  have c0 := h2.cell 0
  simp only [List.getElem?_cons_zero] at c0
  have Hi := hid hi
  go_enter Tryz.func60, Tryz.ntmps60
  go_wp2_with fail
  refine (index_any _ pb st h3 hn).mono ?_
  rintro e w1 ⟨rfl, hB⟩
  rw [Hi.out]
  have h2 := h2.below hB h2.lt
  have h3 := h3.below hB h3.lt
  have hB1 := Below.mono hB hlo
  have c0 := h2.cell 0
  have c1 := h3.cellAt (pls_at st k hk).1
  have f1 := h3.frozen (k * 2)
  simp only [List.getElem?_cons_zero] at c0
  have hne : t ≠ pb := h2.ne h3 (by decide)
  have h2' : Blk (w1.setCell ⟨pb, k * 2, none⟩ (.bool true)) t [.slice (some ⟨pb, 0, none⟩) st.length st.length] tTable := h2.setNe hne _
  have h3' := h3.set (k * 2) (.bool true)
  rw [pls_set1 st k hk] at h3'
  have hB2 : Below lo w (w1.setCell ⟨pb, k * 2, none⟩ (.bool true)) := hB1.setCell h1 _
  have hl : (st.set k (true, (st.getD k (false, 0)).2)).length = st.length := by simp
  have hT : TabAt lo (w1.setCell ⟨pb, k * 2, none⟩ (.bool true)) t (st.set k (true, (st.getD k (false, 0)).2)) := ⟨h0, pb, h1, by rw [hl]; exact h2', h3'⟩
  go_wp2_with fail
  refine (handle_any _ lo t _ k hT (by omega) (by omega) (by rw [getD_set_eq st k hk]; exact hc)).mono ?_
  rintro e w2 ⟨rfl, m, rfl⟩
  rw [hl, getD_set_eq st k hk, show ((1 + k + st.length * (st.getD k (false, 0)).2 : Nat) : Int) = hnum st k from rfl]
  go_wp2_with fail
  go_ret2
  exact ⟨rfl, hT.drewN m, below_drewN hB2 m⟩

set_option maxRecDepth 100000 in
set_option maxHeartbeats 2000000 in
theorem open_full (w : World) (lo t : Nat) (st : List Pl) (ht : TabAt lo w t st) (hn : st.length ≤ 64) (hi : idx st = -1) :
    Calls Tryz.prog 60 #[.pointer (some ⟨t, 0, none⟩)] w fun e w' => e = .returned (.tuple #[.int .i64 0, .int .i64 12]) ∧ TabAt lo w' t st ∧ Below lo w w' := by
  have hlo := ht.lo_le
  have hT := ht
  obtain ⟨h0, pb, h1, h2, h3⟩ := ht
  have c0 := h2.cell 0
  simp only [List.getElem?_cons_zero] at c0
  have Hi := hid hi
  go_enter Tryz.func60, Tryz.ntmps60
  go_wp2_with fail
  refine (index_any _ pb st h3 hn).mono ?_
  rintro e w1 ⟨rfl, hB⟩
  rw [Hi.out]
  go_wp2_with fail
  go_ret2
  exact ⟨rfl, hT.below hB, Below.mono hB hlo⟩

set_option maxRecDepth 100000 in
set_option maxHeartbeats 2000000 in
theorem look_any (w : World) (lo t : Nat) (st : List Pl) (h : Int) (ht : TabAt lo w t st) (hn : st.length ≤ 64) (hn0 : 0 < st.length) (hc : ∀ j, j < st.length → (st.getD j (false, 0)).2 < 1000000) (hh : -9223372036854775808 ≤ h ∧ h ≤ 9223372036854775807) :
    Calls Tryz.prog 61 #[.pointer (some ⟨t, 0, none⟩), .int .i64 h] w fun e w' => e = .returned (lookV st h) ∧ ∃ k, w.drewN k = w' := by
  by_cases hneg : h < 1
  · have HL := hid (show lookV st h = .tuple #[.int .i64 0, .int .i64 3] by unfold lookV lookF; rw [if_pos hneg])
    go_enter Tryz.func61, Tryz.ntmps61
    go_wp2_with fail
    go_ret2
    rw [HL.out]
    exact ⟨rfl, 0, rfl⟩
  · have hL : lookF st h = if (st.getD ((h - 1) % st.length).toNat (false, 0)).1 = true ∧ hnum st ((h - 1) % st.length).toNat = h then some ((h - 1) % st.length).toNat else none := by unfold lookF; rw [if_neg hneg]
    have hT := ht
    obtain ⟨h0, pb, h1, h2, h3⟩ := ht
    have c0 := h2.cell 0
    simp only [List.getElem?_cons_zero] at c0
    obtain ⟨i, hi⟩ : ∃ i : Nat, (h - 1) % (st.length : Int) = i := ⟨((h - 1) % (st.length : Int)).toNat, by have := Int.emod_nonneg (h - 1) (show (st.length : Int) ≠ 0 by omega); omega⟩
    have hil : i < st.length := by have := Int.emod_lt_of_pos (h - 1) (show (0 : Int) < st.length by omega); omega
    rw [hi, Int.toNat_natCast] at hL
    have c1 := h3.cellAt (pls_at st i hil).1
    have hci := hc i hil
    have hm : (h - 1).tmod (st.length : Int) = i := by rw [Int.tmod_eq_emod_of_nonneg (by omega)]; exact hi
    have hw1 : wrap64 (h - 1) = h - 1 := by unfold wrap64; omega
    have Hh := handle_any w lo t st i hT hil hn hci
    have hLt : (st.getD i (false, 0)).1 = true → hnum st i = h → lookV st h = .tuple #[.int .i64 (i : Int), .int .i64 0] := fun a b => by unfold lookV; rw [hL, if_pos ⟨a, b⟩]
    have hLf : ¬ ((st.getD i (false, 0)).1 = true ∧ hnum st i = h) → lookV st h = .tuple #[.int .i64 0, .int .i64 3] := fun a => by unfold lookV; rw [hL, if_neg a]
    have HLt := hid hLt
    have HLf := hid hLf
    have hLn : ((st.length : Int) == 0) = false := by rw [beq_eq_false_iff_ne]; omega
    clear hL hi hc hLt hLf
    by_cases ho : (st.getD i (false, 0)).1 = true
    · rw [ho] at c1
      go_enter Tryz.func61, Tryz.ntmps61
      go_wp2_with fail
      refine Hh.mono ?_
      rintro e w2 ⟨rfl, m, rfl⟩
      rw [show ((1 + i + st.length * (st.getD i (false, 0)).2 : Nat) : Int) = hnum st i from rfl]
      by_cases he : hnum st i = h
      · rw [he]
        go_wp2_with fail
        go_ret2
        rw [HLt.out ho he]
        exact ⟨rfl, m, rfl⟩
      · have he' : (hnum st i != h) = true := bne_iff_ne.2 he
        go_wp2_with fail
        go_ret2
        rw [HLf.out (fun q => he q.2)]
        exact ⟨rfl, m, rfl⟩
    · have ho' : (st.getD i (false, 0)).1 = false := by simpa using ho
      rw [ho'] at c1
      go_enter Tryz.func61, Tryz.ntmps61
      go_wp2_with fail
      go_ret2
      rw [HLf.out (fun q => ho q.1)]
      exact ⟨rfl, 0, rfl⟩
end Go.Proofs.YtnmmnlffobnbfaaGreatDoor
