/- aes: Wipe; what wiped keys do -/
import Derived.Test.YtoffpchabpfhkaaLBack
namespace Go.Proofs.Ytoffpchabpfhkaa
open Go.RowKit

theorem run_clear_four (w : World) (t e ty : TypeId) (ht : Try.prog.underlying t = some (.slice e)) (hv : ∀ w, (zeroValue e).run Try.prog w = .ok (.agg #[.int .u8 0, .int .u8 0, .int .u8 0, .int .u8 0]) w) (b n c : Nat) (cs : List Value) (T : TypeId) (hb : Blk w b cs T) (hn : 0 < n) (hl : 4 * n ≤ cs.length) :
    (Builtin.clear_ #[t] ty #[.slice (some ⟨b, 0, none⟩) n c]).run Try.prog w = .ok (.tuple #[]) (w.setCells b 0 (bys (List.replicate (4 * n) 0))) := by
  have hzc : (Builtin.zeroCells (Value.agg #[.int .u8 0, .int .u8 0, .int .u8 0, .int .u8 0]).cells n).toList = bys (List.replicate (4 * n) 0) := by
    have e4 : (Value.agg #[.int .u8 0, .int .u8 0, .int .u8 0, .int .u8 0]).cells = #[.int .u8 0, .int .u8 0, .int .u8 0, .int .u8 0] := by kernel_rfl
    rw [e4]
    simp only [Builtin.zeroCells]
    apply List.ext_getElem
    · simp [bys]; omega
    · intro i h1 h2
      have h4 : i % 4 = 0 ∨ i % 4 = 1 ∨ i % 4 = 2 ∨ i % 4 = 3 := by omega
      rcases h4 with h | h | h | h <;> simp [bys, h] <;> rfl
  have hst := run_storeCells_cells (P := Try.prog) b 0 (bys (List.replicate (4 * n) 0)) 0 w (by
      intro j hj
      simp [bys] at hj
      rw [show 0 + 0 + j = j by omega, hb.cell]
      simp; omega) (by intro j hj; rw [show 0 + 0 + j = j by omega]; exact hb.frozen j) (bys_one _)
  simp only [Nat.add_zero] at hst
  obtain ⟨m, rfl⟩ : ∃ m, n = m + 1 := ⟨n - 1, by omega⟩
  simp [Builtin.clear_, run_underlying ht, hv, hzc, hst]

theorem wipe_nil (w : World) : Calls Try.prog 43 #[.pointer none] w fun e w' => e = .returned (.tuple #[]) ∧ w = w' := by
  go_enter Try.func43, Try.ntmps43
  go_wp2_with fail
  refine bodyPost_ret (v := .tuple #[]) (results_none rfl _ _ _) rfl ?_
  exact ⟨rfl, rfl⟩

theorem zero89 (w : World) : (zeroValue 89).run Try.prog w = .ok (.agg #[.int .u8 0, .int .u8 0, .int .u8 0, .int .u8 0]) w := by kernel_rfl

set_option maxRecDepth 100000 in
set_option maxHeartbeats 1000000 in
theorem wipe_some (w : World) (kb wb n cap : Nat) (tp : Option Addr) (cs : List Value) (hk : Blk w kb [.pointer tp, .slice (some ⟨wb, 0, none⟩) n cap] tKeys) (hw : Blk w wb cs tA4) (hn : 0 < n) (hl : 4 * n ≤ cs.length) :
    Calls Try.prog 43 #[.pointer (some ⟨kb, 0, none⟩)] w fun e w' => e = .returned (.tuple #[]) ∧ Blk w' kb [.pointer none, .slice none 0 0] tKeys ∧ Chg w.heap.size [kb, wb] w w' := by
  have hne : kb ≠ wb := hk.ne hw (by decide)
  have hcl : ∀ ty, (Builtin.clear_ #[86] ty #[.slice (some ⟨wb, 0, none⟩) n cap]).run Try.prog w = .ok (.tuple #[]) (w.setCells wb 0 (bys (List.replicate (4 * n) 0))) := fun ty => run_clear_four w 86 89 ty under86 zero89 wb n cap cs tA4 hw hn hl
  have hc1 : Chg w.heap.size [kb, wb] w (w.setCells wb 0 (bys (List.replicate (4 * n) 0))) := (Chg.refl _ _ _).setCells (.inl (by simp)) _ _
  have hk1 : Blk (w.setCells wb 0 (bys (List.replicate (4 * n) 0))) kb [.pointer tp, .slice (some ⟨wb, 0, none⟩) n cap] tKeys := hk.chg (F := [wb]) ((Chg.refl _ _ _).setCells (.inl (by simp)) _ _) hk.lt (by simpa using hne)
  have h1 := hk.cell 1
  simp only [List.getElem?_cons_zero, List.getElem?_cons_succ] at h1
  generalize w.setCells wb 0 (bys (List.replicate (4 * n) 0)) = w1 at *
  have g0 := hk1.cell 0
  have g1 := hk1.cell 1
  have f0 := hk1.frozen 0
  have f1 := hk1.frozen 1
  simp only [List.getElem?_cons_zero, List.getElem?_cons_succ] at g0 g1
  go_enter Try.func43, Try.ntmps43
  go_wp2_with fail
  go_end0
  exact ⟨rfl, (hk1.set 0 _).set 1 _, (hc1.setCell (.inl (by simp)) _).setCell (.inl (by simp)) _⟩

set_option maxRecDepth 100000 in
set_option maxHeartbeats 1000000 in
theorem wipe_again (w : World) (kb : Nat) (hk : Blk w kb [.pointer none, .slice none 0 0] tKeys) :
    Calls Try.prog 43 #[.pointer (some ⟨kb, 0, none⟩)] w fun e w' => e = .returned (.tuple #[]) ∧ Blk w' kb [.pointer none, .slice none 0 0] tKeys ∧ Chg w.heap.size [kb] w w' := by
  have hcl : ∀ ty, (Builtin.clear_ #[86] ty #[.slice none 0 0]).run Try.prog w = .ok (.tuple #[]) w := fun ty => by simp [Builtin.clear_, run_underlying under86]
  have g0 := hk.cell 0
  have g1 := hk.cell 1
  have f0 := hk.frozen 0
  have f1 := hk.frozen 1
  simp only [List.getElem?_cons_zero, List.getElem?_cons_succ] at g0 g1
  go_enter Try.func43, Try.ntmps43
  go_wp2_with fail
  go_end0
  exact ⟨rfl, (hk.set 0 _).set 1 _, ((Chg.refl _ _ _).setCell (.inl (by simp)) _).setCell (.inl (by simp)) _⟩

set_option maxRecDepth 100000 in
set_option maxHeartbeats 1000000 in
theorem rounds_none (w : World) (kb : Nat) (ws : Value) (hk : Blk w kb [.pointer none, ws] tKeys) :
    Calls Try.prog 35 #[.pointer (some ⟨kb, 0, none⟩)] w fun e w' => e = .returned (.int .i64 0) ∧ w = w' := by
  have g0 := hk.cell 0
  simp only [List.getElem?_cons_zero] at g0
  go_enter Try.func35, Try.ntmps35
  go_wp2_with fail
  go_ret
  exact ⟨rfl, rfl⟩

set_option maxRecDepth 100000 in
set_option maxHeartbeats 2000000 in
theorem enc_none (w : World) (kb : Nat) (ws : Value) (s : List UInt8) (hk : Blk w kb [.pointer none, ws] tKeys) :
    Calls Try.prog 33 #[.pointer (some ⟨kb, 0, none⟩), .agg (bys s).toArray] w fun e w' => e = .returned (.agg (bys z16).toArray) ∧ Below w.heap.size w w' := by
  have hM : Blk ((w.alloc (.cells (bys s).toArray tA16)).alloc (.cells (bys z16).toArray tA16)) (w.heap.size + 1) (bys z16) tA16 := by
    have := Blk.new (w.alloc (.cells (bys s).toArray tA16)) (bys z16) tA16
    simpa using this
  have hB : Below w.heap.size w ((w.alloc (.cells (bys s).toArray tA16)).alloc (.cells (bys z16).toArray tA16)) := ((Below.refl _ _).alloc (Nat.le_refl _) _).alloc (by simp) _
  have hz16 : z16.length = 16 := rfl
  go_enter Try.func33, Try.ntmps33
  have hk2 : Blk ((w.alloc (.cells (bys s).toArray tA16)).alloc (.cells (bys z16).toArray tA16)) kb [.pointer none, ws] tKeys := (hk.alloc _).alloc _
  go_wp2_with fail
  change Calls _ _ _ ((w.alloc (.cells (bys s).toArray tA16)).alloc (.cells (bys z16).toArray tA16)) _
  generalize ((w.alloc (.cells (bys s).toArray tA16)).alloc (.cells (bys z16).toArray tA16)) = w2 at *
  refine (rounds_none _ kb ws hk2).mono ?_
  rintro e w1 ⟨rfl, rfl⟩
  have f0 := hM.frozen 0
  have c0 := hM.cell 0
  have f1 := hM.frozen 1
  have c1 := hM.cell 1
  have f2 := hM.frozen 2
  have c2 := hM.cell 2
  have f3 := hM.frozen 3
  have c3 := hM.cell 3
  have f4 := hM.frozen 4
  have c4 := hM.cell 4
  have f5 := hM.frozen 5
  have c5 := hM.cell 5
  have f6 := hM.frozen 6
  have c6 := hM.cell 6
  have f7 := hM.frozen 7
  have c7 := hM.cell 7
  have f8 := hM.frozen 8
  have c8 := hM.cell 8
  have f9 := hM.frozen 9
  have c9 := hM.cell 9
  have f10 := hM.frozen 10
  have c10 := hM.cell 10
  have f11 := hM.frozen 11
  have c11 := hM.cell 11
  have f12 := hM.frozen 12
  have c12 := hM.cell 12
  have f13 := hM.frozen 13
  have c13 := hM.cell 13
  have f14 := hM.frozen 14
  have c14 := hM.cell 14
  have f15 := hM.frozen 15
  have c15 := hM.cell 15
  simp only [z16, bys, List.replicate, List.map, List.getElem?_cons_zero, List.getElem?_cons_succ] at c0 c1 c2 c3 c4 c5 c6 c7 c8 c9 c10 c11 c12 c13 c14 c15
  go_wp2_with fail
  have hMs : Blk _ (w.heap.size + 1) (bys z16) tA16 := ((((((((((((((((hM.set 0 (.int .u8 0)).set 1 (.int .u8 0)).set 2 (.int .u8 0)).set 3 (.int .u8 0)).set 4 (.int .u8 0)).set 5 (.int .u8 0)).set 6 (.int .u8 0)).set 7 (.int .u8 0)).set 8 (.int .u8 0)).set 9 (.int .u8 0)).set 10 (.int .u8 0)).set 11 (.int .u8 0)).set 12 (.int .u8 0)).set 13 (.int .u8 0)).set 14 (.int .u8 0)).set 15 (.int .u8 0))
  refine bodyPost_ret (v := .agg (bys z16).toArray) (results_cell_row (P := Try.prog) (p := 4) (ty := 54) rfl _ _ (w.heap.size + 1) tA16 _ (0, 0) _ rfl hMs under54 rfl (by rw [size54]; rfl)) rfl ⟨rfl, ?_⟩
  exact hB.trans ((((((((((((((((((Chg.refl w.heap.size [] w2).setCell (p := ⟨w.heap.size + 1, 0, none⟩) (.inr (by simp)) (.int .u8 0)).setCell (p := ⟨w.heap.size + 1, 1, none⟩) (.inr (by simp)) (.int .u8 0)).setCell (p := ⟨w.heap.size + 1, 2, none⟩) (.inr (by simp)) (.int .u8 0)).setCell (p := ⟨w.heap.size + 1, 3, none⟩) (.inr (by simp)) (.int .u8 0)).setCell (p := ⟨w.heap.size + 1, 4, none⟩) (.inr (by simp)) (.int .u8 0)).setCell (p := ⟨w.heap.size + 1, 5, none⟩) (.inr (by simp)) (.int .u8 0)).setCell (p := ⟨w.heap.size + 1, 6, none⟩) (.inr (by simp)) (.int .u8 0)).setCell (p := ⟨w.heap.size + 1, 7, none⟩) (.inr (by simp)) (.int .u8 0)).setCell (p := ⟨w.heap.size + 1, 8, none⟩) (.inr (by simp)) (.int .u8 0)).setCell (p := ⟨w.heap.size + 1, 9, none⟩) (.inr (by simp)) (.int .u8 0)).setCell (p := ⟨w.heap.size + 1, 10, none⟩) (.inr (by simp)) (.int .u8 0)).setCell (p := ⟨w.heap.size + 1, 11, none⟩) (.inr (by simp)) (.int .u8 0)).setCell (p := ⟨w.heap.size + 1, 12, none⟩) (.inr (by simp)) (.int .u8 0)).setCell (p := ⟨w.heap.size + 1, 13, none⟩) (.inr (by simp)) (.int .u8 0)).setCell (p := ⟨w.heap.size + 1, 14, none⟩) (.inr (by simp)) (.int .u8 0)).setCell (p := ⟨w.heap.size + 1, 15, none⟩) (.inr (by simp)) (.int .u8 0)).below (Nat.le_refl _) (by simp))

set_option maxRecDepth 100000 in
set_option maxHeartbeats 2000000 in
theorem dec_none (w : World) (kb : Nat) (ws : Value) (s : List UInt8) (hk : Blk w kb [.pointer none, ws] tKeys) :
    Calls Try.prog 34 #[.pointer (some ⟨kb, 0, none⟩), .agg (bys s).toArray] w fun e w' => e = .returned (.agg (bys z16).toArray) ∧ Below w.heap.size w w' := by
  have hM : Blk ((w.alloc (.cells (bys s).toArray tA16)).alloc (.cells (bys z16).toArray tA16)) (w.heap.size + 1) (bys z16) tA16 := by
    have := Blk.new (w.alloc (.cells (bys s).toArray tA16)) (bys z16) tA16
    simpa using this
  have hB : Below w.heap.size w ((w.alloc (.cells (bys s).toArray tA16)).alloc (.cells (bys z16).toArray tA16)) := ((Below.refl _ _).alloc (Nat.le_refl _) _).alloc (by simp) _
  have hz16 : z16.length = 16 := rfl
  go_enter Try.func34, Try.ntmps34
  have hk2 : Blk ((w.alloc (.cells (bys s).toArray tA16)).alloc (.cells (bys z16).toArray tA16)) kb [.pointer none, ws] tKeys := (hk.alloc _).alloc _
  go_wp2_with fail
  change Calls _ _ _ ((w.alloc (.cells (bys s).toArray tA16)).alloc (.cells (bys z16).toArray tA16)) _
  generalize ((w.alloc (.cells (bys s).toArray tA16)).alloc (.cells (bys z16).toArray tA16)) = w2 at *
  refine (rounds_none _ kb ws hk2).mono ?_
  rintro e w1 ⟨rfl, rfl⟩
  have f0 := hM.frozen 0
  have c0 := hM.cell 0
  have f1 := hM.frozen 1
  have c1 := hM.cell 1
  have f2 := hM.frozen 2
  have c2 := hM.cell 2
  have f3 := hM.frozen 3
  have c3 := hM.cell 3
  have f4 := hM.frozen 4
  have c4 := hM.cell 4
  have f5 := hM.frozen 5
  have c5 := hM.cell 5
  have f6 := hM.frozen 6
  have c6 := hM.cell 6
  have f7 := hM.frozen 7
  have c7 := hM.cell 7
  have f8 := hM.frozen 8
  have c8 := hM.cell 8
  have f9 := hM.frozen 9
  have c9 := hM.cell 9
  have f10 := hM.frozen 10
  have c10 := hM.cell 10
  have f11 := hM.frozen 11
  have c11 := hM.cell 11
  have f12 := hM.frozen 12
  have c12 := hM.cell 12
  have f13 := hM.frozen 13
  have c13 := hM.cell 13
  have f14 := hM.frozen 14
  have c14 := hM.cell 14
  have f15 := hM.frozen 15
  have c15 := hM.cell 15
  simp only [z16, bys, List.replicate, List.map, List.getElem?_cons_zero, List.getElem?_cons_succ] at c0 c1 c2 c3 c4 c5 c6 c7 c8 c9 c10 c11 c12 c13 c14 c15
  go_wp2_with fail
  have hMs : Blk _ (w.heap.size + 1) (bys z16) tA16 := ((((((((((((((((hM.set 0 (.int .u8 0)).set 1 (.int .u8 0)).set 2 (.int .u8 0)).set 3 (.int .u8 0)).set 4 (.int .u8 0)).set 5 (.int .u8 0)).set 6 (.int .u8 0)).set 7 (.int .u8 0)).set 8 (.int .u8 0)).set 9 (.int .u8 0)).set 10 (.int .u8 0)).set 11 (.int .u8 0)).set 12 (.int .u8 0)).set 13 (.int .u8 0)).set 14 (.int .u8 0)).set 15 (.int .u8 0))
  refine bodyPost_ret (v := .agg (bys z16).toArray) (results_cell_row (P := Try.prog) (p := 4) (ty := 54) rfl _ _ (w.heap.size + 1) tA16 _ (0, 0) _ rfl hMs under54 rfl (by rw [size54]; rfl)) rfl ⟨rfl, ?_⟩
  exact hB.trans ((((((((((((((((((Chg.refl w.heap.size [] w2).setCell (p := ⟨w.heap.size + 1, 0, none⟩) (.inr (by simp)) (.int .u8 0)).setCell (p := ⟨w.heap.size + 1, 1, none⟩) (.inr (by simp)) (.int .u8 0)).setCell (p := ⟨w.heap.size + 1, 2, none⟩) (.inr (by simp)) (.int .u8 0)).setCell (p := ⟨w.heap.size + 1, 3, none⟩) (.inr (by simp)) (.int .u8 0)).setCell (p := ⟨w.heap.size + 1, 4, none⟩) (.inr (by simp)) (.int .u8 0)).setCell (p := ⟨w.heap.size + 1, 5, none⟩) (.inr (by simp)) (.int .u8 0)).setCell (p := ⟨w.heap.size + 1, 6, none⟩) (.inr (by simp)) (.int .u8 0)).setCell (p := ⟨w.heap.size + 1, 7, none⟩) (.inr (by simp)) (.int .u8 0)).setCell (p := ⟨w.heap.size + 1, 8, none⟩) (.inr (by simp)) (.int .u8 0)).setCell (p := ⟨w.heap.size + 1, 9, none⟩) (.inr (by simp)) (.int .u8 0)).setCell (p := ⟨w.heap.size + 1, 10, none⟩) (.inr (by simp)) (.int .u8 0)).setCell (p := ⟨w.heap.size + 1, 11, none⟩) (.inr (by simp)) (.int .u8 0)).setCell (p := ⟨w.heap.size + 1, 12, none⟩) (.inr (by simp)) (.int .u8 0)).setCell (p := ⟨w.heap.size + 1, 13, none⟩) (.inr (by simp)) (.int .u8 0)).setCell (p := ⟨w.heap.size + 1, 14, none⟩) (.inr (by simp)) (.int .u8 0)).setCell (p := ⟨w.heap.size + 1, 15, none⟩) (.inr (by simp)) (.int .u8 0)).below (Nat.le_refl _) (by simp))
#print axioms dec_none
end Go.Proofs.Ytoffpchabpfhkaa
