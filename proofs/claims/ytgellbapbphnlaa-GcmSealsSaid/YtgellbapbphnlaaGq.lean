/- slices.Grow of nil, slices.Concat of two -/
import Derived.Test.YtgellbapbphnlaaPs
import Derived.Test.YtgellbapbphnlaaSt
import Derived.Lib.AppendZerosOnto
import Derived.Deep.DeepCutAuto
import Derived.Laws.AppendOwn
namespace Go.Proofs.Ytgellbapbphnlaa
open Go.RowKit

theorem wpList_append_run {P : Program} {w w' : World} {ops : Array Oper} {rest : List Oper} {o : Oper} {a : Act} {Q : Exit → Act → World → Prop} (hgd : o.guard = none) (s x : Operand) (t1 t2 : TypeId)
    (ho : o.op = .call { callee := .builtin .append, args := #[s, x], argTypes := #[t1, t2] }) (v u r : Value) (hs : a.eval s = v) (hx : a.eval x = u)
    (hr : (Builtin.append_ #[t1, t2] o.type #[v, u]).run P w = .ok r w') (h : wpList P ops Q rest (a.put o.dst r) w') : wpList P ops Q (o :: rest) a w := by
  refine wpList_plain hgd fun K hK => ?_
  unfold Oper.wp execOp
  simp only [ho, resolve, invoke, builtin, Sem.run_bind, Sem.run_pure, Result.andThen_ok, List.map_toArray, List.map_cons, List.map_nil, hs, hx, hr]
  exact hK _ _ h
set_option maxRecDepth 100000 in
set_option maxHeartbeats 1000000 in
theorem grow_nil (w : World) (n : Nat) (h0 : 0 < n) (h9 : n < 1000000000) :
    Calls Try.prog 92 #[.slice none 0 0, .int .i64 n] w fun e w' => ∃ v, e = .returned v ∧ OwnR w.heap.size w' v [] ∧ Below w.heap.size w w' := by
  obtain ⟨i0, hi0, hz0, hs0, hb0⟩ := info_parts info5
  have hr0 := Lib.run_append_grow_zeros (P := Try.prog) w 33 3 33 5 i0 (.int .u8 0) .i64 .i64 under33b (by kernel_rfl) hi0 hz0 none 0 0 [] (run_firstCells_none w.drew i0.size 0 0 0) n h0 (by omega) (by omega) (by omega) (by rw [hb0]; omega)
    (by rw [hb0]; have := growslice_fits (need := 0 + n) (old := 0) (bytes := 1) (by omega) (by omega); omega)
  have hge := grownCap_ge w (0 + n) 0 5
  have hle := grownCap_le_maxLen w (0 + n) 0 5 (by unfold maxLen; omega)
  obtain ⟨gc, hgc⟩ : ∃ gc, grownCap w (0 + n) 0 5 = gc := ⟨_, rfl⟩
  rw [hgc] at hr0 hge hle
  obtain ⟨cs, hcs⟩ : ∃ cs, (([] : List Value).toArray ++ Builtin.zeroCells (Value.int .u8 0).cells n ++ Builtin.zeroCells (Value.int .u8 0).cells (gc - (0 + n))) = cs := ⟨_, rfl⟩
  have hsz : cs.size = gc := by
    rw [← hcs, Array.size_append, Array.size_append, size_zeroCells, size_zeroCells]
    show 0 + n * 1 + (gc - (0 + n)) * 1 = gc
    omega
  rw [hcs, Nat.zero_add] at hr0
  have hr : (Builtin.append_ #[33, 3] 33 #[.slice none 0 0, .int .i64 n]).run Try.prog w = .ok (.slice (some ⟨w.heap.size, 0, none⟩) n gc) (w.drew.alloc (.cells cs 5)) := hr0
  have hown : OwnR w.heap.size (w.drew.alloc (.cells cs 5)) (.slice (some ⟨w.heap.size, 0, none⟩) 0 gc) [] :=
    ⟨rfl, .inr ⟨w.heap.size, gc, cs, rfl, Nat.le_refl _, heap_alloc_new w.drew _, by simp, hle, by rw [hsz]; omega, by simp [bys]⟩⟩
  have hB : Below w.heap.size w (w.drew.alloc (.cells cs 5)) := ((Below.refl _ _).drew).alloc (Nat.le_refl _) _
  have hgc0 : ¬ gc = 0 := by omega
  have hn1 : 0 < (n : Int) := by omega
  have hn2 : ¬ ((n : Int) < 0) := by omega
  have Hown := hid hown
  have HB := hid hB
  have Hr := hid hr
  clear hr hr0 hcs hsz hgc hown hB hi0 hz0 hs0 hb0
  go_enter Try.func92, Try.ntmps92
  go_wp2_with (refine wpList_append_run rfl (.tmp 20) (.tmp 21) 33 3 rfl _ _ _ rfl rfl Hr.out ?_)
  go_ret
  exact ⟨_, rfl, Hown.out, HB.out⟩

set_option maxRecDepth 100000 in
set_option maxHeartbeats 1000000 in
theorem grow_nil0 (w : World) : Calls Try.prog 92 #[.slice none 0 0, .int .i64 0] w fun e w' => e = .returned (.slice none 0 0) ∧ w = w' := by
  go_enter Try.func92, Try.ntmps92
  go_wp2_with fail
  go_ret
  exact ⟨rfl, rfl⟩
theorem grow_nilw (w : World) (n : Nat) (h9 : n < 1000000000) :
    Calls Try.prog 92 #[.slice none 0 0, .int .i64 n] w fun e w' => ∃ v, e = .returned v ∧ OwnR w.heap.size w' v [] ∧ Below w.heap.size w w' := by
  by_cases h : 0 < n
  · exact grow_nil w n h h9
  · obtain rfl : n = 0 := by omega
    refine (grow_nil0 w).mono ?_
    rintro e w' ⟨rfl, rfl⟩
    exact ⟨_, rfl, OwnR.nil _ _, Below.refl _ _⟩

set_option maxRecDepth 100000 in
set_option maxHeartbeats 1000000 in
theorem concat2_any (w : World) (cb : Nat) (pa pb : Option Addr) (n ca m c2 : Nat) (a b : List UInt8) (T : TypeId) (hc : Blk w cb [.slice pa n ca, .slice pb m c2] T) (ha : RowAt w pa a) (hb : RowAt w pb b) (hn : a.length = n) (hm : b.length = m) (h9 : n + m < 1000000000) :
    Calls Try.prog 58 #[.slice (some ⟨cb, 0, none⟩) 2 2] w fun e w' => ∃ v, e = .returned v ∧ OwnR w.heap.size w' v (a ++ b) ∧ Below w.heap.size w w' := by
  have c0 := hc.cell 0
  have c1 := hc.cell 1
  simp only [List.getElem?_cons_zero, List.getElem?_cons_succ] at c0 c1
  have hsum : (n : Int) + (m : Int) = ((n + m : Nat) : Int) := by omega
  obtain ⟨t, ht⟩ : ∃ t, n + m = t := ⟨_, rfl⟩
  rw [ht] at hsum
  have t1 : (0 : Int) ≤ (t : Int) := by omega
  have t9 : (t : Int) ≤ 1000000000 := by omega
  have n9 : (n : Int) ≤ 1000000000 := by omega
  have HA := hid ha
  have HB := hid hb
  have Hn := hid hn
  have Hm := hid hm
  have Hc := hid hc
  clear hn hm ha hb hc
  go_enter Try.func58, Try.ntmps58
  go_wp2_with fail
  refine wp_loop_rounds 3 ?_
  rw [rounds_succ]
  go_wp2_with fail
  rw [rounds_succ]
  go_wp2_with fail
  rw [rounds_succ]
  go_wp2_with fail
  refine (grow_nilw w t (by omega)).mono ?_
  rintro e w1 ⟨v1, rfl, hown1, hB1⟩
  have c0 := ((Hc.out.below hB1 Hc.out.lt).cell 0)
  have c1 := ((Hc.out.below hB1 Hc.out.lt).cell 1)
  simp only [List.getElem?_cons_zero, List.getElem?_cons_succ] at c0 c1
  have hra := HA.out.below hB1
  have hs1 := hB1.size
  go_wp2_with fail
  refine wp_loop_rounds 3 ?_
  rw [rounds_succ]
  go_upto_region 14 with (refine wpList_addO hown1 rfl (.tmp 31) (.tmp 32) rfl rfl pa n ca a rfl hra Hn.out (by simp; omega) hs1 ?_; intro v2 w2 hown2 hgrow2 _)
  have hB2 : Below w.heap.size w w2 := hB1.grown hgrow2 hs1 (fun j e => (hown1.lt j e).1)
  have c1 := ((Hc.out.below hB2 Hc.out.lt).cell 1)
  simp only [List.getElem?_cons_zero, List.getElem?_cons_succ] at c1
  have hrb := HB.out.below hB2
  have hs2 := hB2.size
  have hown2 : OwnR w.heap.size w2 v2 a := hown2
  clear hgrow2
  go_wp2_with fail
  rw [rounds_succ]
  go_upto_region 14 with (refine wpList_addO hown2 rfl (.tmp 31) (.tmp 32) rfl rfl pb m c2 b rfl hrb Hm.out (by rw [Hn.out]; omega) hs2 ?_; intro v3 w3 hown3 hgrow3 _)
  have hB3 : Below w.heap.size w w3 := hB2.grown hgrow3 hs2 (fun j e => (hown2.lt j e).1)
  clear hgrow3
  go_wp2_with fail
  rw [rounds_succ]
  go_wp2_with fail
  go_ret
  exact ⟨_, rfl, hown3, hB3⟩
end Go.Proofs.Ytgellbapbphnlaa
