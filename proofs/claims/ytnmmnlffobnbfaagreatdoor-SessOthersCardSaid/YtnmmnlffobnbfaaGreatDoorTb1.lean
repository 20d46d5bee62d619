/- sess: a table of handles, in memory; its small functions -/
import Derived.Test.YtnmmnlffobnbfaaGreatDoorBase
namespace Go.Proofs.YtnmmnlffobnbfaaGreatDoor
open Go.RowKit

abbrev tTable : TypeId := 159
abbrev tPlace : TypeId := 162
abbrev Pl := Bool × Nat
def plc (p : Pl) : List Value := [.bool p.1, .int .i64 (p.2 : Int)]
def pls (st : List Pl) : List Value := st.flatMap plc
theorem pls_nil : pls [] = [] := rfl
theorem pls_cons (p : Pl) (st : List Pl) : pls (p :: st) = .bool p.1 :: .int .i64 (p.2 : Int) :: pls st := rfl
theorem pls_len (st : List Pl) : (pls st).length = st.length * 2 := by
  induction st with
  | nil => rfl
  | cons p st ih => rw [pls_cons]; simp [ih]; omega
theorem pls_at (st : List Pl) (i : Nat) (h : i < st.length) : (pls st)[i * 2]? = some (.bool (st.getD i (false, 0)).1) ∧ (pls st)[i * 2 + 1]? = some (.int .i64 ((st.getD i (false, 0)).2 : Int)) := by
  induction st generalizing i with
  | nil => simp at h
  | cons p st ih =>
    rw [pls_cons]
    cases i with
    | zero => simp
    | succ i =>
      have := ih i (by simpa using h)
      rw [show (i + 1) * 2 = i * 2 + 1 + 1 by omega]
      simpa using this
theorem pls_set (st : List Pl) (i : Nat) (h : i < st.length) (b : Bool) (c : Nat) : ((pls st).set (i * 2) (.bool b)).set (i * 2 + 1) (.int .i64 (c : Int)) = pls (st.set i (b, c)) := by
  induction st generalizing i with
  | nil => simp at h
  | cons p st ih =>
    cases i with
    | zero => simp [pls_cons]
    | succ i =>
      have := ih i (by simpa using h)
      rw [pls_cons, show (i + 1) * 2 = i * 2 + 1 + 1 by omega]
      simp [pls_cons, this]
theorem pls_set1 (st : List Pl) (i : Nat) (h : i < st.length) (b : Bool) : (pls st).set (i * 2) (.bool b) = pls (st.set i (b, (st.getD i (false, 0)).2)) := by
  rw [← pls_set st i h]
  rw [List.set_comm _ _ (by omega)]
  congr 1
  have := (pls_at st i h).2
  refine List.ext_getElem? fun k => ?_
  rw [List.getElem?_set]
  split
  · rename_i e; subst e; split
    · exact this
    · rename_i hh; rw [pls_len] at hh; omega
  · rfl

def TabAt (lo : Nat) (w : World) (t : Nat) (st : List Pl) : Prop := lo ≤ t ∧ ∃ pb, lo ≤ pb ∧ Blk w t [.slice (some ⟨pb, 0, none⟩) st.length st.length] tTable ∧ Blk w pb (pls st) tPlace
theorem TabAt.below {lo t : Nat} {w w' : World} {st : List Pl} (h : TabAt lo w t st) (hB : Below w.heap.size w w') : TabAt lo w' t st := by
  obtain ⟨h0, pb, h1, h2, h3⟩ := h
  exact ⟨h0, pb, h1, h2.below hB h2.lt, h3.below hB h3.lt⟩
theorem TabAt.drew {lo t : Nat} {w : World} {st : List Pl} (h : TabAt lo w t st) : TabAt lo w.drew t st := by
  obtain ⟨h0, pb, h1, h2, h3⟩ := h
  exact ⟨h0, pb, h1, h2.drew, h3.drew⟩

theorem under72 : Tryz.prog.underlying 157 = some (.slice 162) := by kernel_rfl
theorem info78 : (Tryz.prog.info? 162).map (fun i => (i.zero, i.size, i.bytes)) = some (some (.agg #[.bool false, .int .i64 0]), 2, 16) := by kernel_rfl
theorem made_pls (n : Nat) : madeCells #[.bool false, .int .i64 0] (n * 2) = (pls (List.replicate n (false, 0))).toArray := by
  apply Array.ext_getElem?
  intro i
  by_cases h : i < n * 2
  · obtain ⟨j, hj⟩ : ∃ j, i = j * 2 ∨ i = j * 2 + 1 := ⟨i / 2, by omega⟩
    have hp := pls_at (List.replicate n (false, 0)) j (by simp; omega)
    rcases hj with rfl | rfl
    · rw [show (pls (List.replicate n (false, 0))).toArray[j * 2]? = _ from (List.getElem?_toArray ..).trans hp.1]
      have hj' : j < n := by omega
      simp [madeCells, h, hj', List.getD]
    · rw [show (pls (List.replicate n (false, 0))).toArray[j * 2 + 1]? = _ from (List.getElem?_toArray ..).trans hp.2]
      have e : (j * 2 + 1) % 2 = 1 := by omega
      simp [madeCells, h, e, List.getElem?_replicate]
      split <;> rfl
  · rw [Array.getElem?_eq_none (by rw [size_madeCells]; omega), Array.getElem?_eq_none (by rw [List.size_toArray, pls_len]; simp; omega)]

set_option maxRecDepth 100000 in
set_option maxHeartbeats 1000000 in
theorem newtable_any (w : World) (n : Nat) (h1 : 1 ≤ n) (h64 : n ≤ 64) :
    Calls Tryz.prog 59 #[.int .i64 n] w fun e w' => ∃ t, e = .returned (.tuple #[.pointer (some ⟨t, 0, none⟩), .int .i64 0]) ∧ TabAt w.heap.size w' t (List.replicate n (false, 0)) ∧ Below w.heap.size w w' := by
  obtain ⟨i0, hi0, hz0, hs0, hb0⟩ := info_parts info78
  have hmk := run_make (P := Tryz.prog) (w := w) 157 162 i0 (.agg #[.bool false, .int .i64 0]) under72 hi0 hz0 .i64 .i64 n n (by omega) (Int.le_refl _) (by rw [hb0]; omega) (by omega)
  rw [hs0, Int.toNat_natCast, show (Value.agg #[.bool false, .int .i64 0]).cells = #[.bool false, .int .i64 0] by kernel_rfl, made_pls] at hmk
  clear hi0 hz0 hs0 hb0
  have hb1 := Blk.new w (pls (List.replicate n (false, 0))) tPlace
  have hB1 : Below w.heap.size w (w.alloc (.cells (pls (List.replicate n (false, 0))).toArray tPlace)) := (Below.refl _ _).alloc (Nat.le_refl _) _
  have hlen : (List.replicate n ((false, 0) : Pl)).length = n := by simp
  obtain ⟨st, hst⟩ : ∃ st : List Pl, List.replicate n (false, 0) = st := ⟨_, rfl⟩
  rw [hst] at hmk hb1 hB1 hlen ⊢
  clear hst
  go_enter Tryz.func59, Tryz.ntmps59
  go_wp2_with fail
  go_ret2
  have ht := Blk.new (w.alloc (.cells (pls st).toArray tPlace)) [.slice (some ⟨w.heap.size, 0, none⟩) n n] tTable
  refine ⟨w.heap.size + 1, rfl, ⟨by omega, w.heap.size, Nat.le_refl _, ?_, hb1.alloc _⟩, hB1.alloc hB1.size _⟩
  rw [hlen]
  simpa using ht

set_option maxRecDepth 100000 in
set_option maxHeartbeats 1000000 in
theorem handle_any (w : World) (lo t : Nat) (st : List Pl) (i : Nat) (ht : TabAt lo w t st) (hi : i < st.length) (hn : st.length ≤ 64) (hc : (st.getD i (false, 0)).2 < 1000000) :
    Calls Tryz.prog 117 #[.pointer (some ⟨t, 0, none⟩), .int .i64 i] w fun e w' => e = .returned (.int .i64 ((1 + i + st.length * (st.getD i (false, 0)).2 : Nat) : Int)) ∧ ∃ k, w.drewN k = w' := by
  obtain ⟨_, pb, _, h2, h3⟩ := ht
  have c0 := h2.cell 0
  have c1 := h3.cellAt (pls_at st i hi).2
  simp only [List.getElem?_cons_zero] at c0
  generalize (st.getD i (false, 0)).2 = c at *
  generalize st.length = n at *
  go_enter Tryz.func117, Tryz.ntmps117
  go_wp2_with fail
  go_quiet (fail)
  go_wp2_with fail
  go_ret
  refine ⟨?_, _, rfl⟩
  have hb : n * c ≤ 64 * 1000000 := Nat.mul_le_mul hn (by omega)
  have e1 : wrap64 ((n : Int) * (c : Int)) = ((n * c : Nat) : Int) := by
    rw [← Int.natCast_mul]; generalize n * c = M at *; unfold wrap64; omega
  have e2 : wrap64 (1 + (i : Int) + ((n * c : Nat) : Int)) = ((1 + i + n * c : Nat) : Int) := by
    clear e1; generalize n * c = M at *; unfold wrap64; omega
  rw [e1, e2]; rfl

set_option maxRecDepth 100000 in
set_option maxHeartbeats 1000000 in
theorem free_any (w : World) (b : Bool) (c : Nat) :
    Calls Tryz.prog 116 #[.agg #[.bool b, .int .i64 c]] w fun e w' => e = .returned (.bool (!b)) ∧ Below w.heap.size w w' := by
  go_enter Tryz.func116, Tryz.ntmps116
  go_wp2_with fail
  go_ret
  exact ⟨rfl, (Below.refl _ _).alloc (Nat.le_refl _) _⟩

def freeAt (st : List Pl) : Nat := st.findIdx (fun p => !p.1)
def idx (st : List Pl) : Int := if freeAt st < st.length then (freeAt st : Int) else -1
theorem idx_at (st : List Pl) (k : Nat) (h : k < st.length) (ha : ∀ j, j < k → (st.getD j (false, 0)).1 = true) (hk : (st.getD k (false, 0)).1 = false) : idx st = k := by
  have e : freeAt st = k := by
    unfold freeAt
    rw [List.findIdx_eq h]
    refine ⟨by simpa [List.getD, List.getElem?_eq_getElem h] using hk, fun j hj => ?_⟩
    have := ha j hj
    simpa [List.getD, List.getElem?_eq_getElem (show j < st.length by omega)] using this
  unfold idx; rw [e, if_pos h]
theorem idx_none (st : List Pl) (ha : ∀ j, j < st.length → (st.getD j (false, 0)).1 = true) : idx st = -1 := by
  have e : freeAt st = st.length := by
    unfold freeAt
    rw [List.findIdx_eq_length]
    intro x hx
    obtain ⟨j, hj, rfl⟩ := List.getElem_of_mem hx
    have := ha j hj
    simpa [List.getD, List.getElem?_eq_getElem hj] using this
  unfold idx; rw [e, if_neg (by omega)]
set_option maxRecDepth 100000 in
set_option maxHeartbeats 2000000 in
theorem index_any (w : World) (pb : Nat) (st : List Pl) (hb : Blk w pb (pls st) tPlace) (hn : st.length ≤ 64) :
    Calls Tryz.prog 115 #[.slice (some ⟨pb, 0, none⟩) st.length st.length, .func (.func 116) #[] #[]] w fun e w' => e = .returned (.int .i64 (idx st)) ∧ Below w.heap.size w w' := by
  have hlt0 := hb.lt
  go_enter Tryz.func115, Tryz.ntmps115
  go_wp2_with fail
  go_loopw [8] (fun i wr => ∃ k : Nat, k ≤ st.length ∧ i = .int .i64 k ∧ (∀ j, j < k → (st.getD j (false, 0)).1 = true) ∧ Below w.heap.size w wr) (fun i _ => st.length - (intOf i).toNat)
  case atStart => exact ⟨0, by omega, rfl, by omega, Below.refl _ _⟩
  case round =>
    obtain ⟨k, hk, rfl, hall, hB⟩ := hrel
    by_cases hlt : k < st.length
    · have hbk := hb.below hB hlt0
      have c0 := hbk.cellAt (pls_at st k hlt).1
      have c1 := hbk.cellAt (pls_at st k hlt).2
      have Hall := hid hall
      have HF := hid (show (st.getD k (false, 0)).1 = (st.getD k (false, 0)).1 from rfl)
      obtain ⟨p, hp⟩ : ∃ p, st.getD k (false, 0) = p := ⟨_, rfl⟩
      have Hp := hid hp
      rw [hp] at c0 c1
      clear hall hp HF
      obtain ⟨q, c⟩ := p
      go_wp2_with fail
      refine (free_any _ q c).mono ?_
      rintro e w' ⟨rfl, hB2⟩
      have hB3 := hB.trans (Below.mono hB2 hB.size)
      cases q
      · have hix := hid (idx_at st k hlt Hall.out (by rw [Hp.out]))
        go_wp2_with fail
        go_ret
        exact ⟨by rw [hix.out]; rfl, hB3⟩
      · go_wp2_with fail
        go_roundw
        case rel =>
          refine ⟨k + 1, by omega, by go_num, fun j hj => ?_, hB3⟩
          by_cases e : j = k
          · subst e; rw [Hp.out]
          · exact Hall.out j (by omega)
        case measure => simp [intOf]; omega
    · obtain rfl : k = st.length := by omega
      have hix := hid (idx_none st hall)
      clear hall
      go_wp2_with fail
      go_ret
      exact ⟨by rw [hix.out]; rfl, hB⟩
end Go.Proofs.YtnmmnlffobnbfaaGreatDoor
