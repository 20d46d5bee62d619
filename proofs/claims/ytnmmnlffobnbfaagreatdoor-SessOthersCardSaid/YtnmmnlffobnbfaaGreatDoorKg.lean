/- which params may be: algo.Check as one function -/
import Derived.Test.YtnmmnlffobnbfaaGreatDoorKf
namespace Go.Proofs.YtnmmnlffobnbfaaGreatDoor
open Go.RowKit

theorem SpAt.ofBlk0 {w : World} {g : Nat} {cs : List Value} (h : Blk w g cs tSpan) (o : Nat) (sp : List (Int × Int)) (hs : ∀ k, k < sp.length → cs[o + k * 2]? = some (.int .i64 (sp.getD k (0, 0)).1) ∧ cs[o + k * 2 + 1]? = some (.int .i64 (sp.getD k (0, 0)).2)) : SpAt w g o sp :=
  ⟨h.lt, fun k hk => by rw [h.cell, h.cell]; exact hs k hk⟩
theorem two_lt {k : Nat} (h : k < 2) : k = 0 ∨ k = 1 := by omega
theorem sp16 {w : World} {g : Nat} (h : Blk w g (ints' [16, 16, 32, 32]) tSpan) : SpAt w g 0 [(16, 16), (32, 32)] := SpAt.ofBlk0 h 0 _ (fun k hk => by
  rcases two_lt (show k < 2 from hk) with rfl | rfl <;> exact ⟨rfl, rfl⟩)
theorem sp32 {w : World} {g : Nat} (h : Blk w g (ints' [16, 16, 32, 32]) tSpan) : SpAt w g 2 [(32, 32)] := SpAt.ofBlk0 h 2 _ (fun k hk => by
  obtain rfl : k = 0 := by simp at hk; exact hk
  exact ⟨rfl, rfl⟩)
theorem found_no (op : Bool) (alg : Int) (cls i0 i1 aad : Int) (key : Nat → Nat → Nat → Value) (hko : ∀ g k1 k2, (key g k1 k2).oneCell' = true) (room do_ : FuncId) (h : ∀ g k1 k2, getM (kindsL g k1 k2) alg = some (kindV cls true (key g k1 k2) i0 i1 aad room do_)) (ho : op = true) (W : World) :
    Calls Tryz.prog 57 #[.int .i64 alg, .bool op] W fun e W' => e = .returned (.tuple #[noKind, .int .i64 4]) ∧ Below W.heap.size W W' := by
  subst ho
  refine (found_some W alg true true cls i0 i1 aad key hko room do_ h).mono ?_
  rintro e w1 ⟨g, k1, k2, rfl, _, _, _, hB⟩
  exact ⟨rfl, hB⟩
theorem found_yes (op one : Bool) (alg : Int) (cls i0 i1 aad : Int) (kb : Nat → Nat → Nat → Nat) (ko m cap : Nat) (room do_ : FuncId) (h : ∀ g k1 k2, getM (kindsL g k1 k2) alg = some (kindV cls one (.slice (some ⟨kb g k1 k2, ko, none⟩) m cap) i0 i1 aad room do_)) (ho : (op && one) = false) (sp : List (Int × Int))
    (hsp : ∀ W g k1 k2, Blk W g (ints' [16, 16, 32, 32]) tSpan → Blk W k1 (ints' [0, 0]) tSpan → Blk W k2 (ints' [1, 100]) tSpan → SpAt W (kb g k1 k2) ko sp) (W : World) :
    Calls Tryz.prog 57 #[.int .i64 alg, .bool op] W fun e W' => ∃ b, e = .returned (.tuple #[.agg (kindC cls one (.slice (some ⟨b, ko, none⟩) m cap) i0 i1 aad room do_).toArray, .int .i64 0]) ∧ SpAt W' b ko sp ∧ Below W.heap.size W W' := by
  refine (found_some W alg op one cls i0 i1 aad (fun g k1 k2 => .slice (some ⟨kb g k1 k2, ko, none⟩) m cap) (fun _ _ _ => rfl) room do_ h).mono ?_
  rintro e w1 ⟨g, k1, k2, rfl, h0, h1, h2, hB⟩
  exact ⟨kb g k1 k2, by rw [if_neg (by rw [ho]; decide)], hsp w1 g k1 k2 h0 h1 h2, hB⟩
theorem getM_none (alg : Int) (h : alg < 1 ∨ 6 < alg) (g k1 k2 : Nat) : getM (kindsL g k1 k2) alg = none := by
  simp only [kindsL, getM]
  rw [if_neg (by omega), if_neg (by omega), if_neg (by omega), if_neg (by omega), if_neg (by omega), if_neg (by omega)]
theorem inF1 (a b : Int) (k : Nat) : (inF [(a, b)] (k : Int) = false) = ¬ (a ≤ (k : Int) ∧ (k : Int) ≤ b) := by simp [inF]
theorem inF2 (a b c d : Int) (k : Nat) : (inF [(a, b), (c, d)] (k : Int) = false) = ¬ ((a ≤ (k : Int) ∧ (k : Int) ≤ b) ∨ (c ≤ (k : Int) ∧ (k : Int) ≤ d)) := by simp [inF]
theorem check_any (w : World) (alg : Int) (op : Bool) (pk : Option Addr) (k ck : Nat) (pv : Option Addr) (v cv : Nat) (pa : Option Addr) (a ca : Nat) :
    Calls Tryz.prog 23 #[.agg (parC alg op pk k ck pv v cv pa a ca).toArray] w fun e w' => e = .returned (.int .i64 (checkF alg op k v a : Nat)) ∧ Below w.heap.size w w' := by
  by_cases hr : alg < 1 ∨ 6 < alg
  · have e : checkF alg op k v a = 4 := by unfold checkF; rw [if_pos (by omega)]
    rw [e]
    exact check_none w alg op pk k ck pv v cv pa a ca (fun W => found_none W alg op (getM_none alg hr))
  · have h6 : alg = 1 ∨ alg = 2 ∨ alg = 3 ∨ alg = 4 ∨ alg = 5 ∨ alg = 6 := by omega
    have big : ∀ (n i0 i1 aad : Int) (cls : Int) (ko m cap : Nat) (kb : Nat → Nat → Nat → Nat) (room do_ : FuncId) (one : Bool) (sp : List (Int × Int)), alg = n → (op && one) = false → sp.length = m → m ≤ 64 →
        (∀ g k1 k2, getM (kindsL g k1 k2) n = some (kindV cls one (.slice (some ⟨kb g k1 k2, ko, none⟩) m cap) i0 i1 aad room do_)) →
        (∀ W g k1 k2, Blk W g (ints' [16, 16, 32, 32]) tSpan → Blk W k1 (ints' [0, 0]) tSpan → Blk W k2 (ints' [1, 100]) tSpan → SpAt W (kb g k1 k2) ko sp) → checkF n op k v a = checkK sp [(i0, i1)] aad k v a →
        Calls Tryz.prog 23 #[.agg (parC alg op pk k ck pv v cv pa a ca).toArray] w fun e w' => e = .returned (.int .i64 (checkF alg op k v a : Nat)) ∧ Below w.heap.size w w' := by
      intro n i0 i1 aad cls ko m cap kb room do_ one sp e ho hm h9 hg hsp hc
      subst e
      rw [hc]
      exact check_some w alg op one cls i0 i1 aad ko m cap room do_ sp hm h9 pk k ck pv v cv pa a ca (found_yes op one alg cls i0 i1 aad kb ko m cap room do_ hg ho sp hsp)
    rcases h6 with e | e | e | e | e | e
    · cases op
      · refine big 1 0 0 0 1 0 1 1 (fun _ k1 _ => k1) _ _ true [(0, 0)] e rfl rfl (by omega) (fun _ _ _ => rfl) (fun W g k1 k2 _ h1 _ => SpAt.ofBlk h1) ?_
        unfold checkF checkK
        simp [inF1]
      · have e4 : checkF alg true k v a = 4 := by unfold checkF; rw [if_pos (by right; right; exact ⟨rfl, by omega⟩)]
        rw [e4]; subst e
        exact check_none w 1 true pk k ck pv v cv pa a ca (found_no true 1 1 0 0 0 (fun _ k1 _ => sl1 k1) (fun _ _ _ => rfl) _ _ (fun _ _ _ => rfl) rfl)
    · cases op
      · refine big 2 0 0 0 1 0 1 1 (fun _ _ k2 => k2) _ _ true [(1, 100)] e rfl rfl (by omega) (fun _ _ _ => rfl) (fun W g k1 k2 _ _ h2 => SpAt.ofBlk h2) ?_
        unfold checkF checkK
        simp [inF1]
        (repeat' split) <;> omega
      · have e4 : checkF alg true k v a = 4 := by unfold checkF; rw [if_pos (by right; right; exact ⟨rfl, by omega⟩)]
        rw [e4]; subst e
        exact check_none w 2 true pk k ck pv v cv pa a ca (found_no true 2 1 0 0 0 (fun _ _ k2 => sl1 k2) (fun _ _ _ => rfl) _ _ (fun _ _ _ => rfl) rfl)
    · refine big 3 16 16 0 2 0 2 2 (fun g _ _ => g) _ _ false [(16, 16), (32, 32)] e (by cases op <;> rfl) rfl (by omega) (fun _ _ _ => rfl) (fun W g k1 k2 h0 _ _ => sp16 h0) ?_
      unfold checkF checkK
      simp [inF1, inF2]
      (repeat' split) <;> omega
    · refine big 4 16 16 0 3 0 2 2 (fun g _ _ => g) _ _ false [(16, 16), (32, 32)] e (by cases op <;> rfl) rfl (by omega) (fun _ _ _ => rfl) (fun W g k1 k2 h0 _ _ => sp16 h0) ?_
      unfold checkF checkK
      simp [inF1, inF2]
      (repeat' split) <;> omega
    · refine big 5 1 64 1000 4 0 2 2 (fun g _ _ => g) _ _ false [(16, 16), (32, 32)] e (by cases op <;> rfl) rfl (by omega) (fun _ _ _ => rfl) (fun W g k1 k2 h0 _ _ => sp16 h0) ?_
      unfold checkF checkK
      simp [inF1, inF2]
      (repeat' split) <;> omega
    · refine big 6 12 12 1000 5 2 1 1 (fun g _ _ => g) _ _ false [(32, 32)] e (by cases op <;> rfl) rfl (by omega) (fun _ _ _ => rfl) (fun W g k1 k2 h0 _ _ => sp32 h0) ?_
      unfold checkF checkK
      simp [inF1]
      (repeat' split) <;> omega
end Go.Proofs.YtnmmnlffobnbfaaGreatDoor
