/- slices.Chunk over bytes: its iterator's contract -/
import Derived.Test.YtlgeebnmonmdaaaRkIn
import Derived.Test.YtlgeebnmonmdaaaPs
import Derived.RangeFuncBox
namespace Go.Proofs.Ytlgeebnmonmdaaa
open Go.RowKit Go.Shelf
attribute [local go_sem] Oper.semAt_some

/-- A chunk, as yield is handed it. -/
def chunkV (b o j : Nat) : Value := .slice (some ⟨b, o + 16 * j, none⟩) 16 16
def clampI (k x : Nat) : Nat := if x < k then x else 0
theorem clampI_lt {k x : Nat} (h : x < k) : clampI k x = x := if_pos h
theorem clampI_le {k : Nat} (x : Nat) (h : 0 < k) : clampI k x < k := by unfold clampI; split <;> omega
/-- Where n ≤ m of Go's ints. -/
theorem chunk_bounds (k j : Nat) (h : j < k) : 16 * j < 16 * k ∧ 16 * j + 16 ≤ 16 * k := by omega

set_option maxRecDepth 100000 in
set_option maxHeartbeats 2000000 in
/-- The closure: for every loop body that keeps what the iterator reads. -/
theorem chunk1_in (n l Bs Bn N b o k cap : Nat) (pa : Option Addr) (hpa : 0 < k → pa = some ⟨b, o, none⟩) (F : List Nat) (hcap : 16 * k ≤ cap) (hk9 : k < 1000000) (hBs : Bs < N) (hBn : Bn < N) (hFs : Bs ∉ F) (hFn : Bn ∉ F) (J Jx : List Nat → World → Prop)
    (hY : ∀ pre x W, J pre W → pre.length < k → YieldAt Fence.wide (n - 1) Try.prog l #[chunkV b o (clampI k x)] W fun e W' =>
      (e = .returned (.bool true) ∧ J (pre ++ [x]) W' ∧ Chg N F W W') ∨ (e = .returned (.bool false) ∧ Jx (pre ++ [x]) W'))
    (W : World) (hJ : AbidesFrom W.heap.size J) (hs : W.cell? ⟨Bs, 0, none⟩ = some (.slice pa (16 * k) cap)) (hn : W.cell? ⟨Bn, 0, none⟩ = some (.int .i64 16)) (h0 : J [] W) :
    CallsIn Fence.wide n Try.prog 66 #[.func (.yield l) #[] #[], .pointer (some ⟨Bs, 0, none⟩), .pointer (some ⟨Bn, 0, none⟩)] W fun e W' => (∃ v, e = .returned v) ∧
      ((∃ ys, ys = List.range k ∧ J ys W') ∨ (∃ pre, (∃ j, j ≤ k ∧ pre = List.range j) ∧ Jx pre W')) := by
  refine callsIn_of_wp Try.func66 rfl trivial ?_ rfl
  simp only [Try.ntmps66, List.size_toArray, List.length_cons, List.length_nil, Nat.reduceAdd, Nat.reduceSub, Array.replicate_succ, Array.replicate_zero, List.push_toArray, List.append_toArray, List.nil_append, List.cons_append]
  gi_wp2
  gi_loopw [4] (fun i wr => ∃ j : Nat, j ≤ k ∧ i = .int .i64 ((16 * j : Nat) : Int) ∧ J (List.range j) wr ∧ Chg N F W wr) (fun i _ => 16 * k - (intOf i).toNat)
  case atStart => exact ⟨0, Nat.zero_le _, rfl, h0, Chg.refl _ _ _⟩
  case round =>
    obtain ⟨j, hj, rfl, hJs, hC⟩ := hrel
    have cs : wr.cell? ⟨Bs, 0, none⟩ = some (.slice pa (16 * k) cap) := by
      have hb := hC.block Bs hBs hFs
      have e : wr.cell? ⟨Bs, 0, none⟩ = W.cell? ⟨Bs, 0, none⟩ := by simp [World.cell?, hb]
      rw [e]; exact hs
    have cn : wr.cell? ⟨Bn, 0, none⟩ = some (.int .i64 16) := by
      have hb := hC.block Bn hBn hFn
      have e : wr.cell? ⟨Bn, 0, none⟩ = W.cell? ⟨Bn, 0, none⟩ := by simp [World.cell?, hb]
      rw [e]; exact hn
    obtain ⟨t, ht⟩ : ∃ t, 16 * j = t := ⟨_, rfl⟩
    obtain ⟨m, hm⟩ : ∃ m, 16 * k = m := ⟨_, rfl⟩
    rw [ht]
    rw [hm] at cs hcap
    by_cases hlt : j < k
    · obtain rfl := hpa (by omega)
      have hJd : J (List.range j) wr.drew := hJ _ wr wr.drew none hJs ⟨rfl, rfl, rfl, Nat.le_refl _, fun _ _ _ => rfl⟩ (fun _ e => by cases e)
      have HJd := hid hJd
      obtain ⟨fn, tmps, assign, body, hy, hR⟩ := hY _ j wr.drew hJd (by rw [List.length_range]; exact hlt)
      rw [clampI_lt hlt] at hy
      unfold chunkV at hy
      rw [ht] at hy
      have Ht := hid ht
      have Hm := hid hm
      have q0 : 0 ≤ (t : Int) := by omega
      have q1 : (t : Int) < (m : Int) := by omega
      have q2 : (t : Int) ≤ (m : Int) := by omega
      obtain ⟨t2, ht2⟩ : ∃ t2, t + 16 = t2 := ⟨_, rfl⟩
      have q3 : (t : Int) + 16 = (t2 : Int) := by omega
      have q4 : (t : Int) ≤ (t2 : Int) := by omega
      have q5 : ¬ cap = t := by omega
      have q6 : ¬ t2 = t := by omega
      have q7 : (16 : Int) ≤ ((m - t : Nat) : Int) := by omega
      have q8 : (t2 : Int) ≤ (cap : Int) := by omega
      have q14 := hid (show ((m - t : Nat) : Int) < 16 → ((m - t : Nat) : Int) = 16 by omega)
      have hj1 : j + 1 ≤ k := hlt
      have q9 : t2 - t = 16 := by omega
      have q10 : (t2 : Int) ≤ 1000000000 := by omega
      have q15 : 0 ≤ (t2 : Int) := by omega
      have q11 : t ≤ t2 := by omega
      have q12 : t2 ≤ cap := by omega
      have q13 : ((16 * (j + 1) : Nat) : Int) = (t2 : Int) := by omega
      have Q13 := hid q13
      have QM := hid (show 16 * k - t2 < 16 * k - t by omega)
      clear q13 ht2
      clear hJd ht hm
      gi_wp2
      refine wpIn_wide.2 ?_
      have hct : wr.drew.cell? ⟨Bs, 0, none⟩ = some (.slice (some ⟨b, o, none⟩) m cap) := cs
      have hcn : wr.drew.cell? ⟨Bn, 0, none⟩ = some (.int .i64 16) := cn
      try simp only [Act.put]
      refine tkR (fun w' => w'.cell? ⟨Bs, 0, none⟩ = some (.slice (some ⟨b, o, none⟩) m cap) ∧ w'.cell? ⟨Bn, 0, none⟩ = some (.int .i64 16)) [] (by kernel_rfl) (fun c a d v w h => by cases d <;> exact h) (⟨hct, hcn⟩) (fun hPF hHeld => ?_)
      refine tkA 0 (.some 13) _ _ rfl rfl (by kernel_rfl) (by kernel_rfl) (by kernel_rfl) (by kernel_rfl) (by kernel_rfl) hPF rfl (fun w' hw' => by (have h1 := hw'.2; go_simp; try with_reducible rfl)) hHeld (fun hHeld => ?_)
      simp only [Act.put, List.setIfInBounds_toArray, List.set_cons_zero, List.set_cons_succ]
      refine tkA 1 (.some 14) _ _ rfl rfl (by kernel_rfl) (by kernel_rfl) (by kernel_rfl) (by kernel_rfl) (by kernel_rfl) hPF rfl (fun w' hw' => by (have h1 := hw'.1; go_simp; try with_reducible rfl)) hHeld (fun hHeld => ?_)
      simp only [Act.put, List.setIfInBounds_toArray, List.set_cons_zero, List.set_cons_succ]
      refine tkB 2 (.some 15) _ _ rfl rfl (by kernel_rfl) (by kernel_rfl) (by kernel_rfl) (by kernel_rfl) hPF rfl (fun w' => by (go_simp; try with_reducible rfl)) hHeld (fun hHeld => ?_)
      simp only [Act.put, List.setIfInBounds_toArray, List.set_cons_zero, List.set_cons_succ]
      refine tkA 3 (.some 16) _ (.slice (some ⟨b, o + t, none⟩) (m - t) (cap - t)) rfl rfl (by kernel_rfl) (by kernel_rfl) (by kernel_rfl) (by kernel_rfl) (by kernel_rfl) hPF rfl (fun w' hw' => by (go_simp)) hHeld (fun hHeld => ?_)
      simp only [Act.put, List.setIfInBounds_toArray, List.set_cons_zero, List.set_cons_succ]
      refine tkB 4 (.some 17) _ _ rfl rfl (by kernel_rfl) (by kernel_rfl) (by kernel_rfl) (by kernel_rfl) hPF rfl (fun w' => by (go_simp; try with_reducible rfl)) hHeld (fun hHeld => ?_)
      simp only [Act.put, List.setIfInBounds_toArray, List.set_cons_zero, List.set_cons_succ]
      refine tkA 5 (.some 18) _ (.int .i64 16) rfl rfl (by kernel_rfl) (by kernel_rfl) (by kernel_rfl) (by kernel_rfl) (by kernel_rfl) hPF rfl (fun w' hw' => by (go_simp; exact q14.out)) hHeld (fun hHeld => ?_)
      simp only [Act.put, List.setIfInBounds_toArray, List.set_cons_zero, List.set_cons_succ]
      refine tkB 6 (.some 5) _ _ rfl rfl (by kernel_rfl) (by kernel_rfl) (by kernel_rfl) (by kernel_rfl) hPF rfl (fun w' => by (go_simp; try with_reducible rfl)) hHeld (fun hHeld => ?_)
      simp only [Act.put, List.setIfInBounds_toArray, List.set_cons_zero, List.set_cons_succ]
      refine tkD (by kernel_rfl) ?_ _
      gi_wp2
      refine ⟨fun h => (by cases h), ?_⟩
      refine hR.mono ?_
      clear q0 q1 q2 q4 q5 q6 q7 q8 q9 q11 q12 q14 hct hcn hHeld hPF hR hy
      rintro e W3 (⟨rfl, hJ3, hk3⟩ | ⟨rfl, hJx3⟩)
      · have hC3 : Chg N F W W3 := hC.drew.trans hk3
        have cn3 : W3.cell? ⟨Bn, 0, none⟩ = some (.int .i64 16) := by
          have hb := hC3.block Bn hBn hFn
          have e : W3.cell? ⟨Bn, 0, none⟩ = W.cell? ⟨Bn, 0, none⟩ := by simp [World.cell?, hb]
          rw [e]; exact hn
        gi_wp2
        go_roundw
        case rel => exact ⟨j + 1, hj1, by rw [Q13.out], by rw [List.range_succ]; exact hJ3, hC3⟩
        case measure =>
          simp only [intOf, Int.toNat_natCast]
          exact QM.out
      · gi_wp2
        refine bodyPost_ret (results_none rfl _ _ _) rfl ?_
        exact ⟨⟨_, rfl⟩, .inr ⟨_, ⟨j + 1, hj1, (List.range_succ).symm⟩, hJx3⟩⟩
    · obtain rfl : j = k := by omega
      gi_wp2
      go_end0
      exact ⟨⟨_, rfl⟩, .inl ⟨_, rfl, hJs⟩⟩

theorem chg_keepsB {F : List Nat} {N : Nat} {w : World} (hN : N ≤ w.heap.size) : ∀ (W : World) (l : Nat) (o o' : Obj), w.heap.size ≤ l → W.heap[l]? = some o → o.isCells = false → o.isWalk = false → Chg N F W (W.putObj l o') := fun W l o o' hl h _ _ => by
  have hg := grownBy_putObj' W l o'
  exact ⟨hg.os, hg.tape, hg.output, hg.size, fun k hk _ => hg.block k (by have := (Array.getElem?_eq_some_iff.1 h).1; omega) (fun e => by cases e; omega)⟩

set_option maxRecDepth 100000 in
set_option maxHeartbeats 1000000 in
/-- slices.Chunk: both are boxed. -/
theorem chunk_any (w : World) (pa : Option Addr) (m cap : Nat) :
    Calls Try.prog 41 #[.slice pa m cap, .int .i64 16] w fun e w' => e = .returned (.func (.func 66) #[] #[.pointer (some ⟨w.heap.size, 0, none⟩), .pointer (some ⟨w.heap.size + 1, 0, none⟩)]) ∧
      (w.alloc (.cells #[.slice pa m cap] tBytes)).alloc (.cells #[.int .i64 16] tInt) = w' := by
  go_enter Try.func41, Try.ntmps41
  go_wp2_with fail
  go_ret
  exact ⟨rfl, rfl⟩

/-- What Chunk hands back runs through the chunks of sixteen, or stops. -/
theorem chunk_stops (n Bs Bn N b o k cap : Nat) (pa : Option Addr) (hpa : 0 < k → pa = some ⟨b, o, none⟩) (F : List Nat) (w : World) (hcap : 16 * k ≤ cap) (hk9 : k < 1000000) (hBs : Bs < N) (hBn : Bn < N) (hFs : Bs ∉ F) (hFn : Bn ∉ F) (hN : N ≤ w.heap.size)
    (hs : w.cell? ⟨Bs, 0, none⟩ = some (.slice pa (16 * k) cap)) (hn : w.cell? ⟨Bn, 0, none⟩ = some (.int .i64 16)) :
    SeqStopsK Fence.wide n Try.prog 66 #[.pointer (some ⟨Bs, 0, none⟩), .pointer (some ⟨Bn, 0, none⟩)] (fun x : Nat => #[chunkV b o (clampI k x)]) (Chg N F) (fun ys => ys = List.range k) (fun pre => ∃ j, j ≤ k ∧ pre = List.range j) k w := fun l J Jx W hW hJ _ hY h0 => by
  have hs' := (hW.cell (p := ⟨Bs, 0, none⟩) (Nat.lt_of_lt_of_le hBs hN)).trans hs
  have hn' := (hW.cell (p := ⟨Bn, 0, none⟩) (Nat.lt_of_lt_of_le hBn hN)).trans hn
  exact chunk1_in n l Bs Bn N b o k cap pa hpa F hcap hk9 hBs hBn hFs hFn J Jx hY W hJ hs' hn' h0
end Go.Proofs.Ytlgeebnmonmdaaa
