/- sessions: New, Add -/
import Derived.Test.YtnmmnlffobnbfaaGreatDoorKg
import Derived.Test.YtnmmnlffobnbfaaGreatDoorXa
import Derived.Test.YtnmmnlffobnbfaaGreatDoorTb9
import Derived.Test.YtnmmnlffobnbfaaGreatDoorRk
namespace Go.Proofs.YtnmmnlffobnbfaaGreatDoor
open Go.RowKit

abbrev tSess : TypeId := 115
abbrev tSes : TypeId := 62
abbrev Ses := Int × Value
def ses (x : Ses) : List Value := [.int .i64 x.1, x.2]
def sess (l : List Ses) : List Value := l.flatMap ses
theorem sess_cons (x : Ses) (l : List Ses) : sess (x :: l) = .int .i64 x.1 :: x.2 :: sess l := rfl
theorem sess_len (l : List Ses) : (sess l).length = l.length * 2 := by
  induction l with
  | nil => rfl
  | cons x l ih => rw [sess_cons, List.length_cons, List.length_cons, ih, List.length_cons]; omega
abbrev noSes : Ses := (0, .slice none 0 0)
theorem sess_at (l : List Ses) (i : Nat) (h : i < l.length) : (sess l)[i * 2]? = some (.int .i64 (l.getD i noSes).1) ∧ (sess l)[i * 2 + 1]? = some (l.getD i noSes).2 := by
  induction l generalizing i with
  | nil => simp at h
  | cons x l ih =>
    cases i with
    | zero => exact ⟨rfl, rfl⟩
    | succ i =>
      have := ih i (by simpa using h)
      rw [sess_cons, show (i + 1) * 2 = i * 2 + 1 + 1 by omega]
      simpa using this
theorem sess_set (l : List Ses) (i : Nat) (h : i < l.length) (a : Int) (v : Value) : ((sess l).set (i * 2) (.int .i64 a)).set (i * 2 + 1) v = sess (l.set i (a, v)) := by
  induction l generalizing i with
  | nil => simp at h
  | cons x l ih =>
    cases i with
    | zero => rfl
    | succ i =>
      have := ih i (by simpa using h)
      rw [List.set_cons_succ, sess_cons, sess_cons, show (i + 1) * 2 = i * 2 + 1 + 1 by omega]
      simp only [List.set_cons_succ]
      rw [this]
/-- Sessions: their table, and what each has. -/
structure SesAt (w : World) (s t pb ob : Nat) (st : List Pl) (own : List Ses) : Prop where
  top : Blk w s [.pointer (some ⟨t, 0, none⟩), .slice (some ⟨ob, 0, none⟩) st.length st.length] tSess
  tab : TabIn w t pb st
  row : Blk w ob (sess own) tSes
  len : own.length = st.length
theorem SesAt.below {w w' : World} {s t pb ob : Nat} {st : List Pl} {own : List Ses} (h : SesAt w s t pb ob st own) (hB : Below w.heap.size w w') : SesAt w' s t pb ob st own :=
  ⟨h.top.below hB h.top.lt, h.tab.below hB, h.row.below hB h.row.lt, h.len⟩
theorem under113 : Tryz.prog.underlying 113 = some (.slice tSes) := by kernel_rfl
theorem infoSes : (Tryz.prog.info? tSes).map (fun i => (i.zero, i.size, i.bytes)) = some (some (.agg #[.int .i64 0, .slice none 0 0]), 2, 32) := by kernel_rfl
theorem made_sess (n : Nat) : madeCells #[.int .i64 0, .slice none 0 0] (n * 2) = (sess (List.replicate n noSes)).toArray := by
  apply Array.ext_getElem?
  intro i
  by_cases h : i < n * 2
  · obtain ⟨j, hj⟩ : ∃ j, i = j * 2 ∨ i = j * 2 + 1 := ⟨i / 2, by omega⟩
    have hp := sess_at (List.replicate n noSes) j (by simp; omega)
    rcases hj with rfl | rfl
    · rw [show (sess (List.replicate n noSes)).toArray[j * 2]? = _ from (List.getElem?_toArray ..).trans hp.1]
      have hj' : j < n := by omega
      simp [madeCells, h, hj', List.getD]
    · rw [show (sess (List.replicate n noSes)).toArray[j * 2 + 1]? = _ from (List.getElem?_toArray ..).trans hp.2]
      have e : (j * 2 + 1) % 2 = 1 := by omega
      simp [madeCells, h, e, List.getElem?_replicate]
      split <;> rfl
  · rw [Array.getElem?_eq_none (by rw [size_madeCells]; omega), Array.getElem?_eq_none (by rw [List.size_toArray, sess_len]; simp; omega)]

set_option maxRecDepth 100000 in
set_option maxHeartbeats 1000000 in
theorem sessnew_any (w : World) (n : Nat) (h1 : 1 ≤ n) (h64 : n ≤ 64) :
    Calls Tryz.prog 29 #[.int .i64 n] w fun e w' => ∃ s t pb ob, e = .returned (.tuple #[.pointer (some ⟨s, 0, none⟩), .int .i64 0]) ∧ SesAt w' s t pb ob (List.replicate n (false, 0)) (List.replicate n noSes) ∧ Below w.heap.size w w' ∧ w.heap.size ≤ s ∧ w.heap.size ≤ pb ∧ w.heap.size ≤ ob := by
  go_enter Tryz.func29, Tryz.ntmps29
  go_wp2_with fail
  refine (newtable_any w n h1 h64).mono ?_
  rintro e w1 ⟨t, rfl, ⟨ht0, pb, hpb, hT, hP⟩, hB⟩
  obtain ⟨i0, hi0, hz0, hs0, hb0⟩ := info_parts infoSes
  have hmk := run_make (P := Tryz.prog) (w := w1) 113 tSes i0 (.agg #[.int .i64 0, .slice none 0 0]) under113 hi0 hz0 .i64 .i64 n n (by omega) (Int.le_refl _) (by rw [hb0]; omega) (by omega)
  rw [hs0, Int.toNat_natCast, show (Value.agg #[.int .i64 0, .slice none 0 0]).cells = #[.int .i64 0, .slice none 0 0] by kernel_rfl, made_sess] at hmk
  clear hi0 hz0 hs0 hb0
  have hlen : (List.replicate n ((false, 0) : Pl)).length = n := by simp
  have hlen2 : (List.replicate n noSes).length = n := by simp
  obtain ⟨st, hst⟩ : ∃ st : List Pl, List.replicate n (false, 0) = st := ⟨_, rfl⟩
  obtain ⟨ow, how⟩ : ∃ ow : List Ses, List.replicate n noSes = ow := ⟨_, rfl⟩
  rw [hst] at hT hP hlen
  rw [how] at hmk hlen2
  rw [hlen] at hT
  have Hst := hid hst
  have How := hid how
  have Hl := hid hlen
  have Hl2 := hid hlen2
  clear hst how hlen hlen2
  have hT2 := hT.alloc (.cells (sess ow).toArray tSes)
  have hP2 := hP.alloc (.cells (sess ow).toArray tSes)
  have hO2 := Blk.new w1 (sess ow) tSes
  have hB2 := hB.alloc hB.size (.cells (sess ow).toArray tSes)
  have hsz2 : (w1.alloc (.cells (sess ow).toArray tSes)).heap.size = w1.heap.size + 1 := by simp
  have HB := hid hB.size
  clear hT hP hB
  go_wp2_with fail
  go_ret2
  have hS := Blk.new (w1.alloc (.cells (sess ow).toArray tSes)) [.pointer (some ⟨t, 0, none⟩), .slice (some ⟨w1.heap.size, 0, none⟩) n n] tSess
  rw [Hst.out, How.out]
  have hb1 := HB.out
  refine ⟨(w1.alloc (.cells (sess ow).toArray tSes)).heap.size, t, pb, w1.heap.size, ?_, ⟨?_, ⟨?_, hP2.alloc _⟩, hO2.alloc _, by rw [Hl.out, Hl2.out]⟩, hB2.alloc hB2.size _, by omega, hpb, hb1⟩
  · simp
  · rw [Hl.out]; exact hS
  · rw [Hl.out]; exact hT2.alloc _
end Go.Proofs.YtnmmnlffobnbfaaGreatDoor
