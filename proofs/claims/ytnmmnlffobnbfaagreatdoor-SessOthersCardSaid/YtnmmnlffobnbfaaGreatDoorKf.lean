/- which params may be: algo.in, algo.Check -/
import Derived.Test.YtnmmnlffobnbfaaGreatDoorKe
namespace Go.Proofs.YtnmmnlffobnbfaaGreatDoor
open Go.RowKit

def inF (sp : List (Int × Int)) (n : Int) : Bool := sp.any fun s => decide (s.1 ≤ n) && decide (n ≤ s.2)
def SpAt (w : World) (g o : Nat) (sp : List (Int × Int)) : Prop := g < w.heap.size ∧ ∀ k, k < sp.length → w.cell? ⟨g, o + k * 2, none⟩ = some (.int .i64 (sp.getD k (0, 0)).1) ∧ w.cell? ⟨g, o + k * 2 + 1, none⟩ = some (.int .i64 (sp.getD k (0, 0)).2)
theorem SpAt.below {w w' : World} {g o : Nat} {sp : List (Int × Int)} {N : Nat} (h : SpAt w g o sp) (hB : Below N w w') (hN : g < N) : SpAt w' g o sp := by
  refine ⟨Nat.lt_of_lt_of_le h.1 hB.size, fun k hk => ?_⟩
  have hb := hB.block g hN
  have e : ∀ i, w'.cell? ⟨g, i, none⟩ = w.cell? ⟨g, i, none⟩ := fun i => by simp [World.cell?, hb]
  rw [e, e]; exact h.2 k hk

set_option maxRecDepth 100000 in
set_option maxHeartbeats 2000000 in
theorem in1_any (w : World) (a b n : Int) (nb : Nat) (hn : w.cell? ⟨nb, 0, none⟩ = some (.int .i64 n)) (hnb : nb < w.heap.size) :
    Calls Tryz.prog 114 #[.agg #[.int .i64 a, .int .i64 b], .pointer (some ⟨nb, 0, none⟩)] w fun e w' => e = .returned (.bool (decide (a ≤ n) && decide (n ≤ b))) ∧ Below w.heap.size w w' := by
  have hB : Below w.heap.size w (w.alloc (.cells #[.int .i64 a, .int .i64 b] tSpan)) := (Below.refl _ _).alloc (Nat.le_refl _) _
  have hn2 : (w.alloc (.cells #[.int .i64 a, .int .i64 b] tSpan)).cell? ⟨nb, 0, none⟩ = some (.int .i64 n) := by
    have e := Below.heap_alloc w (.cells #[.int .i64 a, .int .i64 b] tSpan) nb hnb
    have e2 : (w.alloc (.cells #[.int .i64 a, .int .i64 b] tSpan)).cell? ⟨nb, 0, none⟩ = w.cell? ⟨nb, 0, none⟩ := by simp [World.cell?, e]
    rw [e2]; exact hn
  clear hn
  have HB := hid hB
  clear hB
  by_cases h1 : a ≤ n
  · by_cases h2 : n ≤ b
    · go_enter Tryz.func114, Tryz.ntmps114
      go_wp2_with fail
      go_ret
      exact ⟨by simp [h1, h2], HB.out⟩
    · go_enter Tryz.func114, Tryz.ntmps114
      go_wp2_with fail
      go_ret
      exact ⟨by simp [h2], HB.out⟩
  · go_enter Tryz.func114, Tryz.ntmps114
    go_wp2_with fail
    go_ret
    exact ⟨by rw [show decide (a ≤ n) = false from decide_eq_false (by omega)]; rfl, HB.out⟩

set_option maxRecDepth 100000 in
set_option maxHeartbeats 2000000 in
theorem idxsp_any (w : World) (g o m cap nb : Nat) (n : Int) (sp : List (Int × Int)) (hs : SpAt w g o sp) (hm : sp.length = m) (h9 : m ≤ 64) (hn : w.cell? ⟨nb, 0, none⟩ = some (.int .i64 n)) (hnb : nb < w.heap.size) :
    Calls Tryz.prog 161 #[.slice (some ⟨g, o, none⟩) m cap, .func (.func 114) #[] #[.pointer (some ⟨nb, 0, none⟩)]] w fun e w' => ∃ j : Int, e = .returned (.int .i64 j) ∧ (decide (0 ≤ j)) = inF sp n ∧ Below w.heap.size w w' := by
  have Hm := hid hm
  go_enter Tryz.func161, Tryz.ntmps161
  go_wp2_with fail
  go_loopw [8] (fun i wr => ∃ k : Nat, k ≤ m ∧ i = .int .i64 k ∧ inF (sp.take k) n = false ∧ Below w.heap.size w wr) (fun i _ => m - (intOf i).toNat)
  case atStart => exact ⟨0, by omega, rfl, rfl, Below.refl _ _⟩
  case round =>
    obtain ⟨k, hk, rfl, hall, hB⟩ := hrel
    have Hall := hid hall
    clear hall
    by_cases hlt : k < m
    · have hsk := hs.below hB hs.1
      obtain ⟨c0, c1⟩ := hsk.2 k (by rw [Hm.out]; exact hlt)
      have htk := hid (show sp.take (k + 1) = sp.take k ++ [sp.getD k (0, 0)] by rw [List.take_add_one]; simp [List.getD, List.getElem?_eq_getElem (show k < sp.length by rw [Hm.out]; exact hlt)])
      have hsp := hid (show sp = sp.take k ++ [sp.getD k (0, 0)] ++ sp.drop (k + 1) by rw [← htk.out]; exact (List.take_append_drop _ _).symm)
      obtain ⟨p, hp⟩ : ∃ p, sp.getD k (0, 0) = p := ⟨_, rfl⟩
      have Hp := hid hp
      rw [hp] at c0 c1
      clear hp
      obtain ⟨a, b⟩ := p
      have hnk : wr.cell? ⟨nb, 0, none⟩ = some (.int .i64 n) := by
        have hb := hB.block nb hnb
        have e : wr.cell? ⟨nb, 0, none⟩ = w.cell? ⟨nb, 0, none⟩ := by simp [World.cell?, hb]
        rw [e]; exact hn
      go_wp2_with fail
      refine (in1_any _ a b n nb hnk (Nat.lt_of_lt_of_le hnb hB.size)).mono ?_
      rintro e w' ⟨rfl, hB2⟩
      have hB3 := hB.trans (Below.mono hB2 hB.size)
      obtain ⟨q, hq⟩ : ∃ q, (decide (a ≤ n) && decide (n ≤ b)) = q := ⟨_, rfl⟩
      rw [hq]
      have Hq := hid hq
      clear hq
      cases q
      · go_wp2_with fail
        go_roundw
        case rel =>
          refine ⟨k + 1, by omega, by go_num, ?_, hB3⟩
          have := Hall.out
          unfold inF at this ⊢
          rw [htk.out, List.any_append, this, Hp.out]
          simpa using Hq.out
        case measure => simp [intOf]; omega
      · go_wp2_with fail
        go_ret
        refine ⟨_, rfl, ?_, hB3⟩
        have : inF sp n = true := by
          unfold inF
          rw [hsp.out, List.any_append, List.any_append, Hp.out]
          have := Hq.out
          simp only [List.any_cons, this]
          simp
        rw [this]
        simp
    · obtain rfl : k = m := by omega
      have e : sp.take k = sp := List.take_of_length_le (by rw [Hm.out]; omega)
      go_wp2_with fail
      go_ret
      refine ⟨_, rfl, ?_, hB⟩
      have := Hall.out
      rw [e] at this
      rw [this]; rfl

set_option maxRecDepth 100000 in
set_option maxHeartbeats 2000000 in
theorem in_any (w : World) (g o m cap : Nat) (n : Int) (sp : List (Int × Int)) (hs : SpAt w g o sp) (hm : sp.length = m) (h9 : m ≤ 64) :
    Calls Tryz.prog 58 #[.int .i64 n, .slice (some ⟨g, o, none⟩) m cap] w fun e w' => e = .returned (.bool (inF sp n)) ∧ Below w.heap.size w w' := by
  have hb := Blk.new w [.int .i64 n] tInt
  have hB : Below w.heap.size w (w.alloc (.cells [.int .i64 n].toArray tInt)) := (Below.refl _ _).alloc (Nat.le_refl _) _
  have hs2 := hs.below hB hs.1
  have hsz : (w.alloc (.cells [.int .i64 n].toArray tInt)).heap.size = w.heap.size + 1 := by simp
  have HI := hid (idxsp_any _ g o m cap w.heap.size n sp hs2 hm h9 (hb.cell 0) hb.lt)
  have Hs := hid hsz
  clear hsz hs2 hb hs
  go_enter Tryz.func58, Tryz.ntmps58
  go_wp2_with fail
  go_enter Tryz.func113, Tryz.ntmps113
  go_wp2_with fail
  refine HI.out.mono ?_
  rintro e w2 ⟨j, rfl, hj, hB2⟩
  have HJ := hid hj
  clear hj
  go_wp2_with fail
  go_ret
  exact ⟨by rw [← HJ.out]; rfl, hB.trans (hB2.mono (by rw [Hs.out]; omega))⟩

/-- How many bytes a key, an IV, an aad may have: the errors in their order. -/
def checkF (alg : Int) (op : Bool) (k v a : Nat) : Nat :=
  if alg < 1 ∨ 6 < alg ∨ (op = true ∧ alg ≤ 2) then 4
  else if ¬ (if alg = 1 then k = 0 else if alg = 2 then 1 ≤ k ∧ k ≤ 100 else if alg = 6 then k = 32 else k = 16 ∨ k = 32) then 5
  else if ¬ (if alg ≤ 2 then v = 0 else if alg = 5 then 1 ≤ v ∧ v ≤ 64 else if alg = 6 then v = 12 else v = 16) then 6
  else if (if alg < 5 then 0 else 1000) < a then 10 else 0
/-- A kind that is there: its check. -/
def checkK (key iv : List (Int × Int)) (aad : Int) (k v a : Nat) : Nat :=
  if inF key k = false then 5 else if inF iv v = false then 6 else if aad < (a : Int) then 10 else 0
abbrev parC (alg : Int) (op : Bool) (pk : Option Addr) (k ck : Nat) (pv : Option Addr) (v cv : Nat) (pa : Option Addr) (a ca : Nat) : List Value :=
  [.int .i64 alg, .bool op, .slice pk k ck, .slice pv v cv, .slice pa a ca]
abbrev tPar : TypeId := 31
set_option maxRecDepth 100000 in
set_option maxHeartbeats 4000000 in
theorem check_none (w : World) (alg : Int) (op : Bool) (pk : Option Addr) (k ck : Nat) (pv : Option Addr) (v cv : Nat) (pa : Option Addr) (a ca : Nat) (hf : ∀ W, Calls Tryz.prog 57 #[.int .i64 alg, .bool op] W fun e W' => e = .returned (.tuple #[noKind, .int .i64 4]) ∧ Below W.heap.size W W') :
    Calls Tryz.prog 23 #[.agg (parC alg op pk k ck pv v cv pa a ca).toArray] w fun e w' => e = .returned (.int .i64 4) ∧ Below w.heap.size w w' := by
  have hb := Blk.new w (parC alg op pk k ck pv v cv pa a ca) tPar
  have hB : Below w.heap.size w (w.alloc (.cells (parC alg op pk k ck pv v cv pa a ca).toArray tPar)) := (Below.refl _ _).alloc (Nat.le_refl _) _
  have hs : (w.alloc (.cells (parC alg op pk k ck pv v cv pa a ca).toArray tPar)).heap.size = w.heap.size + 1 := by simp
  go_enter Tryz.func23, Tryz.ntmps23
  go_wp2_with fail
  refine (hf _).mono ?_
  rintro e w2 ⟨rfl, hB2⟩
  have hB3 := hB.trans (hB2.mono hB.size)
  have hN := Blk.new w2 noKindC tKind
  have ht := hN.there 0 8 (Nat.le_refl _)
  have hB4 := hB3.alloc hB3.size (.cells noKindC.toArray tKind)
  obtain ⟨w3, hw3⟩ : ∃ w3, w2.alloc (.cells noKindC.toArray tKind) = w3 := ⟨_, rfl⟩
  rw [hw3] at hN hB4
  obtain ⟨hN4, hC4⟩ := setWhole hN (new := noKindC) rfl
  have hB5 := hB4.trans (hC4.below hB4.size (fun k hk => by simp at hk; have := hB3.size; omega))
  obtain ⟨w4, hw4⟩ : ∃ w4, w3.setCells w2.heap.size 0 noKindC = w4 := ⟨_, rfl⟩
  rw [hw4] at hN4 hB5
  have HW3 := hid hw3
  have HW4 := hid hw4
  have HB := hid hB5
  clear hw3 hw4 hN hC4 hB4 hB3 hB2 hB hs hb hB5
  go_wp2_with (refine wpList_store_mid rfl tKind (.tmp 3) (.tmp 11) rfl w2.heap.size 0 noKindC.toArray rfl rfl ht sizeK (all_oneCell_toArray noOne) ?_; change wpList _ _ _ _ _ ((w2.alloc (.cells noKindC.toArray tKind)).setCells w2.heap.size 0 noKindC); rw [HW3.out, HW4.out]; clear HW3 HW4 ht)
  go_ret
  exact ⟨rfl, HB.out⟩

theorem SpAt.ofBlk {w : World} {g : Nat} {a b : Int} (h : Blk w g [.int .i64 a, .int .i64 b] tSpan) : SpAt w g 0 [(a, b)] := ⟨h.lt, fun k hk => by
  obtain rfl : k = 0 := by simp at hk; exact hk
  exact ⟨h.cell 0, h.cell 1⟩⟩
set_option maxRecDepth 100000 in
set_option maxHeartbeats 4000000 in
theorem check_some (w : World) (alg : Int) (op one : Bool) (cls i0 i1 aad : Int) (ko m cap : Nat) (room do_ : FuncId) (sp : List (Int × Int)) (hm : sp.length = m) (h9 : m ≤ 64) (pk : Option Addr) (k ck : Nat) (pv : Option Addr) (v cv : Nat) (pa : Option Addr) (a ca : Nat)
    (hf : ∀ W, Calls Tryz.prog 57 #[.int .i64 alg, .bool op] W fun e W' => ∃ kb, e = .returned (.tuple #[.agg (kindC cls one (.slice (some ⟨kb, ko, none⟩) m cap) i0 i1 aad room do_).toArray, .int .i64 0]) ∧ SpAt W' kb ko sp ∧ Below W.heap.size W W') :
    Calls Tryz.prog 23 #[.agg (parC alg op pk k ck pv v cv pa a ca).toArray] w fun e w' => e = .returned (.int .i64 (checkK sp [(i0, i1)] aad k v a : Nat)) ∧ Below w.heap.size w w' := by
  have Hm := hid hm
  clear hm
  have hb := Blk.new w (parC alg op pk k ck pv v cv pa a ca) tPar
  have hB : Below w.heap.size w (w.alloc (.cells (parC alg op pk k ck pv v cv pa a ca).toArray tPar)) := (Below.refl _ _).alloc (Nat.le_refl _) _
  obtain ⟨w1, hw1⟩ : ∃ w1, w.alloc (.cells (parC alg op pk k ck pv v cv pa a ca).toArray tPar) = w1 := ⟨_, rfl⟩
  rw [hw1] at hb hB
  have d0 : w1.cell? ⟨w.heap.size, 0, none⟩ = some (.int .i64 alg) := hb.cell 0
  have d1 : w1.cell? ⟨w.heap.size, 1, none⟩ = some (.bool op) := hb.cell 1
  have HW1 := hid hw1
  clear hw1
  go_enter Tryz.func23, Tryz.ntmps23
  go_upto_region 1 with (fail)
  change Code.wp _ _ _ _ (w.alloc (.cells (parC alg op pk k ck pv v cv pa a ca).toArray tPar))
  rw [HW1.out]
  clear HW1
  go_wp2_with fail
  refine (hf _).mono ?_
  rintro e w2 ⟨kb, rfl, hsp, hB2⟩
  clear d0 d1
  have hb2 := hb.below hB2 hb.lt
  have hk1 := kOne cls one (.slice (some ⟨kb, ko, none⟩) m cap) i0 i1 aad room do_ rfl
  have hB3 := hB.trans (hB2.mono hB.size)
  have hN := Blk.new w2 noKindC tKind
  have ht := hN.there 0 8 (Nat.le_refl _)
  have hB4 := hB3.alloc hB3.size (.cells noKindC.toArray tKind)
  have hb3 := hb2.alloc (.cells noKindC.toArray tKind)
  have hsp3 := hsp.below ((Below.refl _ _).alloc (Nat.le_refl _) (.cells noKindC.toArray tKind)) hsp.1
  have hne : w.heap.size ≠ w2.heap.size := by have := hb2.lt; omega
  have hne2 : kb ≠ w2.heap.size := by have := hsp.1; omega
  have hs3 : (w2.alloc (.cells noKindC.toArray tKind)).heap.size = w2.heap.size + 1 := by simp
  obtain ⟨w3, hw3⟩ : ∃ w3, w2.alloc (.cells noKindC.toArray tKind) = w3 := ⟨_, rfl⟩
  rw [hw3] at hN hB4 hb3 hsp3 hs3
  obtain ⟨hN4, hC4⟩ := setWhole hN (new := kindC cls one (.slice (some ⟨kb, ko, none⟩) m cap) i0 i1 aad room do_) rfl
  have hB5 := hB4.trans (hC4.below hB4.size (fun k hk => by simp at hk; have := hB3.size; omega))
  have hb4 := hb3.chg hC4 hb3.lt (by simpa using hne)
  have hsp4 : SpAt (w3.setCells w2.heap.size 0 (kindC cls one (.slice (some ⟨kb, ko, none⟩) m cap) i0 i1 aad room do_)) kb ko sp := by
    refine ⟨Nat.lt_of_lt_of_le hsp3.1 hC4.size, fun j hj => ?_⟩
    have hbk := hC4.block kb hsp3.1 (by simpa using hne2)
    have e : ∀ i, (w3.setCells w2.heap.size 0 (kindC cls one (.slice (some ⟨kb, ko, none⟩) m cap) i0 i1 aad room do_)).cell? ⟨kb, i, none⟩ = w3.cell? ⟨kb, i, none⟩ := fun i => by simp [World.cell?, hbk]
    rw [e, e]; exact hsp3.2 j hj
  obtain ⟨w4, hw4⟩ : ∃ w4, w3.setCells w2.heap.size 0 (kindC cls one (.slice (some ⟨kb, ko, none⟩) m cap) i0 i1 aad room do_) = w4 := ⟨_, rfl⟩
  rw [hw4] at hN4 hB5 hb4 hsp4
  have HW3 := hid hw3
  have HW4 := hid hw4
  have HI := hid (in_any w4 kb ko m cap k sp hsp4 Hm.out h9)
  clear hw3 hw4 hN hC4 hB4 hB3 hB2 hB hb hb2 hb3 hsp hsp3 hsp4 hne2
  have c2 : w4.cell? ⟨w.heap.size, 2, none⟩ = some (.slice pk k ck) := hb4.cell 2
  have k2 : w4.cell? ⟨w2.heap.size, 2, none⟩ = some (.slice (some ⟨kb, ko, none⟩) m cap) := hN4.cell 2
  go_wp2_with (refine wpList_store_mid rfl tKind (.tmp 3) (.tmp 11) rfl w2.heap.size 0 (kindC cls one (.slice (some ⟨kb, ko, none⟩) m cap) i0 i1 aad room do_).toArray rfl rfl ht sizeK (all_oneCell_toArray hk1) ?_; change wpList _ _ _ _ _ ((w2.alloc (.cells noKindC.toArray tKind)).setCells w2.heap.size 0 (kindC cls one (.slice (some ⟨kb, ko, none⟩) m cap) i0 i1 aad room do_)); rw [HW3.out, HW4.out]; clear HW3 HW4 ht)
  refine HI.out.mono ?_
  rintro e w5 ⟨rfl, hB6⟩
  clear HI c2 k2
  have hB7 := hB5.trans (hB6.mono hB5.size)
  have hb5 := hb4.below hB6 hb4.lt
  have hN5 := hN4.below hB6 hN4.lt
  clear hb4 hN4 hB5 hB6
  obtain ⟨q, hq⟩ : ∃ q, inF sp (k : Int) = q := ⟨_, rfl⟩
  rw [hq]
  have HQ := hid hq
  clear hq
  have HB7 := hid hB7
  cases q
  · go_wp2_with fail
    go_ret
    exact ⟨by unfold checkK; rw [HQ.out]; rfl, HB7.out⟩
  · have c3 : w5.cell? ⟨w.heap.size, 3, none⟩ = some (.slice pv v cv) := hb5.cell 3
    have k3 : w5.cell? ⟨w2.heap.size, 3, none⟩ = some (.int .i64 i0) := hN5.cell 3
    have k4 : w5.cell? ⟨w2.heap.size, 4, none⟩ = some (.int .i64 i1) := hN5.cell 4
    have hsb := SpAt.ofBlk (Blk.new w5 [.int .i64 i0, .int .i64 i1] tSpan)
    have HI := hid (in_any _ w5.heap.size 0 1 1 v _ hsb rfl (by omega))
    have hB8 := hB7.alloc hB7.size (.cells [.int .i64 i0, .int .i64 i1].toArray tSpan)
    have hb6 := hb5.alloc (.cells [.int .i64 i0, .int .i64 i1].toArray tSpan)
    have hN6 := hN5.alloc (.cells [.int .i64 i0, .int .i64 i1].toArray tSpan)
    clear hsb hb5 hN5 hB7
    go_wp2_with fail
    refine HI.out.mono ?_
    rintro e w6 ⟨rfl, hB9⟩
    clear HI c3 k3 k4
    have hB10 := hB8.trans (hB9.mono hB8.size)
    have hb7 := hb6.below hB9 hb6.lt
    have hN7 := hN6.below hB9 hN6.lt
    clear hb6 hN6 hB8 hB9
    obtain ⟨r, hr⟩ : ∃ r, inF [(i0, i1)] (v : Int) = r := ⟨_, rfl⟩
    rw [hr]
    have HR := hid hr
    clear hr
    have HB10 := hid hB10
    clear hB10
    cases r
    · go_wp2_with fail
      go_ret
      exact ⟨by unfold checkK; rw [HQ.out, HR.out]; rfl, HB10.out⟩
    · have c4 : w6.cell? ⟨w.heap.size, 4, none⟩ = some (.slice pa a ca) := hb7.cell 4
      have k5 : w6.cell? ⟨w2.heap.size, 5, none⟩ = some (.int .i64 aad) := hN7.cell 5
      clear hb7 hN7
      by_cases hlt : aad < (a : Int)
      · go_wp2_with fail
        go_ret
        exact ⟨by unfold checkK; rw [HQ.out, HR.out, if_neg (by decide), if_neg (by decide), if_pos hlt]; rfl, HB10.out⟩
      · go_wp2_with fail
        go_ret
        exact ⟨by unfold checkK; rw [HQ.out, HR.out, if_neg (by decide), if_neg (by decide), if_neg (by omega)]; rfl, HB10.out⟩
end Go.Proofs.YtnmmnlffobnbfaaGreatDoor
