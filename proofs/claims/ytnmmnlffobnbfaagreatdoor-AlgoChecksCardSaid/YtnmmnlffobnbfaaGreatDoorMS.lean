/- Ty · Pq · Pc · Pn · Pu (joined by merge4.py) -/
import Derived.Test.YtnmmnlffobnbfaaGreatDoorMF
import Derived.ArgAppend
import Derived.Test.YtnmmnlffobnbfaaGreatDoorMR
import Derived.ScopeJumps
import Derived.WalkMore
import Derived.Test.YtnmmnlffobnbfaaGreatDoorMC
import Derived.Test.YtnmmnlffobnbfaaGreatDoorMQ
/- a tail of an own row of bytes; an append to it -/
namespace Go.Proofs.YtnmmnlffobnbfaaGreatDoor
open Go.RowKit

/-- A tail of an own row of bytes, in a block of number base or above. -/
def TailR (base : Nat) (w : World) (v : Value) (l : List UInt8) : Prop :=
  (v = .slice none 0 0 ∧ l = []) ∨ ∃ g off cap cs, v = .slice (some ⟨g, off, none⟩) l.length cap ∧ base ≤ g ∧ Blk w g cs tU8 ∧ l.length ≤ cap ∧ off + cap ≤ cs.length ∧ (cs.drop off).take l.length = bys l
theorem TailR.nil (base : Nat) (w : World) : TailR base w (.slice none 0 0) [] := .inl ⟨rfl, rfl⟩
theorem OwnR.tail {base : Nat} {w : World} {v : Value} {l : List UInt8} (h : OwnR base w v l) : TailR base w v l := by
  rcases h.2 with ⟨hv, h0⟩ | ⟨g, cap, cur, hv, hb, hh, hc, _, hs, ht⟩
  · exact .inl ⟨hv, List.eq_nil_of_length_eq_zero h0⟩
  · rw [Nat.mul_one] at hs ht
    exact .inr ⟨g, 0, cap, cur.toList, hv, hb, by unfold Blk; simpa using hh, hc, by simp [hs], by simpa using ht⟩
theorem TailR.row {base : Nat} {w : World} {v : Value} {l : List UInt8} (h : TailR base w v l) : ∃ pa cap, v = .slice pa l.length cap ∧ l.length ≤ cap ∧ RowAt w pa l := by
  rcases h with ⟨rfl, rfl⟩ | ⟨g, off, cap, cs, hv, _, hB, hc, _, ht⟩
  · exact ⟨none, 0, rfl, by simp, fun k hk => by simp at hk⟩
  · refine ⟨some ⟨g, off, none⟩, cap, hv, hc, fun k hk => ⟨g, off, rfl, hB.lt, ?_⟩⟩
    rw [hB.cell, ← bys_get l k hk, ← ht, List.getElem?_take, if_pos hk, List.getElem?_drop]
theorem TailR.lt {base : Nat} {w : World} {v : Value} {l : List UInt8} (h : TailR base w v l) (b : Nat) (e : v.ownBlock = some b) : base ≤ b ∧ b < w.heap.size := by
  rcases h with ⟨rfl, rfl⟩ | ⟨g, off, cap, cs, rfl, hg, hB, _⟩
  · cases e
  · cases e; exact ⟨hg, hB.lt⟩
theorem TailR.chg {base N : Nat} {F : List Nat} {w w' : World} {v : Value} {l : List UInt8} (h : TailR base w v l) (hc : Chg N F w w') (hN : w.heap.size ≤ N) (hF : ∀ b, v.ownBlock = some b → b ∉ F) : TailR base w' v l := by
  rcases h with h | ⟨g, off, cap, cs, rfl, hg, hB, h3⟩
  · exact .inl h
  · exact .inr ⟨g, off, cap, cs, rfl, hg, hB.chg hc (Nat.lt_of_lt_of_le hB.lt hN) (hF g rfl), h3⟩
theorem TailR.below {base : Nat} {w w' : World} {v : Value} {l : List UInt8} (h : TailR base w v l) (hb : Below w.heap.size w w') : TailR base w' v l :=
  h.chg (F := []) (Chg.ofBelow hb) (Nat.le_refl _) (fun _ _ => by simp)
theorem TailR.kept {base : Nat} {w w' : World} {v : Value} {l : List UInt8} {row : Option Nat} (h : TailR base w v l) (hg : w.grownBy w' row) (hne : v.ownBlock ≠ row ∨ v.ownBlock = none) : TailR base w' v l := by
  rcases h with h | ⟨g, off, cap, cs, rfl, hgb, hB, h3⟩
  · exact .inl h
  · exact .inr ⟨g, off, cap, cs, rfl, hgb, hB.kept hg (fun e => by rcases hne with hne | hne <;> simp_all [Value.ownBlock]), h3⟩
theorem TailR.drew {base : Nat} {w : World} {v : Value} {l : List UInt8} (h : TailR base w v l) : TailR base w.drew v l := h
theorem TailR.mono {base base' : Nat} {w : World} {v : Value} {l : List UInt8} (h : TailR base w v l) (hb : base' ≤ base) : TailR base' w v l := by
  rcases h with h | ⟨g, off, cap, cs, rfl, hg, h3⟩
  · exact .inl h
  · exact .inr ⟨g, off, cap, cs, rfl, by omega, h3⟩
theorem TailR.typ {base : Nat} {w : World} {v : Value} {l : List UInt8} (h : TailR base w v l) (j : Nat) (e : v.ownBlock = some j) : ∃ cs, Blk w j cs tU8 := by
  rcases h with ⟨hv, _⟩ | ⟨g, off, cap, cs, hv, _, hB, _⟩
  · rw [hv] at e; cases e
  · rw [hv] at e; cases e; exact ⟨cs, hB⟩
/-- What is left behind its first bytes, as the slice operation tells it. -/
theorem TailR.drop {base : Nat} {w : World} {v : Value} {l : List UInt8} (h : TailR base w v l) (q : Nat) (hq : q ≤ l.length) (hq0 : 0 < q) :
    ∃ v', (∀ W, (Instr.sliceAt 23 v (some (.int .i64 (q : Int))) none none).run Tryz.prog W = .ok v' W) ∧ TailR base w v' (l.drop q) ∧ v'.ownBlock = v.ownBlock := by
  rcases h with ⟨rfl, rfl⟩ | ⟨g, off, cap, cs, rfl, hg, hB, hc, ho, ht⟩
  · simp at hq; omega
  · refine ⟨.slice (if cap = q then some ⟨g, off, none⟩ else some ⟨g, off + q, none⟩) (l.length - q) (cap - q), fun W => ?_, ?_, ?_⟩
    · have e := @under33b
      have e5 : (Tryz.prog.info? 5).map (·.size) = some 1 := by kernel_rfl
      obtain ⟨i5, hi5, hs5⟩ := Option.map_eq_some_iff.1 e5
      have q1 : (q : Int) ≤ (l.length : Int) := by omega
      have q2 : (0 : Int) ≤ (q : Int) := by omega
      simp [Instr.sliceAt, Instr.slice, run_underlying e, Instr.sliceBounds, Instr.sliceBound, asIntOf, sizeOf, typeInfo, hi5, hs5, Addr.add_mid]
      split
      · simp_all
        intro h; omega
      · simp_all
        intro h; omega
    · by_cases hcq : cap = q
      · rw [if_pos hcq]
        refine .inr ⟨g, off, cap - q, cs, by rw [List.length_drop], hg, hB, by rw [List.length_drop]; omega, by omega, ?_⟩
        have : l.drop q = [] := List.drop_eq_nil_of_le (by omega)
        rw [this]; simp [bys]
      · rw [if_neg hcq]
        refine .inr ⟨g, off + q, cap - q, cs, by rw [List.length_drop], hg, hB, by rw [List.length_drop]; omega, by omega, ?_⟩
        have e1 : bys (l.drop q) = (bys l).drop q := by simp [bys]
        rw [e1, ← ht, List.drop_take, List.length_drop, List.drop_drop]
    · by_cases hcq : cap = q
      · rw [if_pos hcq]; rfl
      · rw [if_neg hcq]; rfl
theorem run_append_tail (w : World) (base : Nat) (ty : TypeId) (v : Value) (l : List UInt8) (hown : TailR base w v l) (pa : Option Addr) (m c : Nat) (Y : List UInt8) (hY : RowAt w pa Y) (hm : Y.length = m) (hb : l.length + m ≤ 140737488355328) (hbase : base ≤ w.heap.size) :
    ∃ v' w', (Builtin.append_ #[23, 23] ty #[v, .slice pa m c]).run Tryz.prog w = .ok v' w' ∧ TailR base w' v' (l ++ Y) ∧ w.grownBy w' v.ownBlock ∧ (∀ k, v'.ownBlock = some k → v.ownBlock = some k ∨ w.heap.size ≤ k) := by
  obtain ⟨i, hi, hz, hs, hby⟩ := info_parts info5
  have hinfo := hi
  rcases hown with ⟨rfl, rfl⟩ | ⟨g, off, cap, cs, rfl, hg, hB, hc, ho, ht⟩
  · obtain ⟨v', w', hr, h2, h3, h5⟩ := run_append_rows w base ty (.slice none 0 0) 0 [] (World.ownsRow_nil _ _ _ _) pa m c Y hY hm (by simp at hb; omega) hbase
    refine ⟨v', w', hr, ?_, h3, fun k e => ?_⟩
    · have h2' : OwnR base w' v' Y := by
        unfold OwnR
        rw [hm]
        simpa using h2
      simpa using h2'.tail
    · rcases h5 with h5 | h5
      · rw [h5] at e; cases e
      · rw [h5] at e; cases e; exact .inr (Nat.le_refl _)
  · by_cases h0 : m = 0
    · subst h0
      obtain rfl : Y = [] := List.eq_nil_of_length_eq_zero hm
      have hsrc : Src Tryz.prog i.size 23 (.slice pa 0 c) 0 [] w := by
        cases pa with
        | none => exact Src.ofNil w under33b c
        | some a => exact Src.ofSlice w under33b a 0 c [] (by simp) (fun j u hu => by simp at hu) (fun u hu => by simp at hu)
      exact ⟨_, w, run_append_nothing w 23 23 ty 5 i under33b hi _ _ cap hc _ hsrc, by rw [List.append_nil]; exact .inr ⟨g, off, cap, cs, rfl, hg, hB, hc, ho, ht⟩, ⟨rfl, rfl, rfl, Nat.le_refl _, fun _ _ _ => rfl⟩, fun k e => .inl e⟩
    · obtain ⟨b, o, rfl, _, _⟩ := hY 0 (by omega)
      have hnl : (bys Y).length = m := by rw [bys_length, hm]
      by_cases hr : l.length + m ≤ cap
      · have hcell : ∀ j, j < (bys Y).length → (w.cell? ⟨g, off + l.length * i.size + j, none⟩).isSome = true := fun j hj => by
          rw [hB.cell, hs, Nat.mul_one, List.getElem?_eq_getElem (by omega)]; rfl
        have hfro : ∀ j, j < (bys Y).length → w.frozen? ⟨g, off + l.length * i.size + j, none⟩ = false := fun j _ => hB.frozen _
        have hrun := run_append_room_cells (P := Tryz.prog) w 23 ty 5 i under33b hinfo g off l.length cap ⟨b, o, none⟩ m c (bys Y) (by rw [hs, Nat.mul_one, hnl]) (hY.src rfl) (bys_one _) hr hcell hfro
        rw [hs, Nat.mul_one] at hrun
        have hch : Chg w.heap.size [g] w (w.setCells g (off + l.length) (bys Y)) := (Chg.refl _ _ w).setCells (.inl (by simp)) _ _
        have hB' := hB.setCells (bys Y) (off + l.length) (by omega)
        refine ⟨_, _, hrun, .inr ⟨g, off, cap, _, by rw [List.length_append, hm], hg, hB', by rw [List.length_append]; omega, by rw [length_splice _ _ _ (by omega)]; exact ho, ?_⟩, ⟨hch.os, hch.tape, hch.output, hch.size, fun k hk hne => hch.block k hk (fun e => hne (by simp at e; rw [e]; rfl))⟩, fun k e => .inl e⟩
        unfold splice
        have e1 : (cs.take (off + l.length)).drop off = (cs.drop off).take l.length := by rw [List.drop_take, Nat.add_sub_cancel_left]
        rw [List.drop_append_of_le_length (by rw [List.length_take]; omega), e1, ht, List.length_append, hm, List.take_append, List.take_of_length_le (by rw [bys_length]; omega), bys_length, Nat.add_sub_cancel_left, List.take_append_of_le_length (by omega), List.take_of_length_le (by omega)]
        simp [bys]
      · obtain ⟨v', w', hrun, r1, r2⟩ := run_append_arg_grows (P := Tryz.prog) w 23 ty 5 i (.int .u8 0) 1 1 under33b hi hz hs hby rfl (by decide) ⟨g, off, none⟩ l.length cap (bys l) (by rw [bys_length, Nat.mul_one])
          (fun j u hu => by
            have hj : j < l.length := by
              rcases Nat.lt_or_ge j l.length with hh | hh
              · exact hh
              · rw [List.getElem?_eq_none (by rw [bys_length]; exact hh)] at hu; cases hu
            rw [Addr.add_mid, hB.cell, ← hu, ← ht, List.getElem?_take, if_pos hj, List.getElem?_drop])
          ⟨b, o, none⟩ m c (bys Y) (by rw [hnl, Nat.mul_one]) (hY.src rfl) (by omega) (by unfold maxLen; omega) (by omega)
        refine ⟨v', w', hrun, ?_, ⟨r2.os, r2.tape, r2.output, r2.size, fun k hk _ => r2.block k hk (by simp)⟩, fun k e => .inr (World.ownsRow.lt r1 k e).1⟩
        have r1' : OwnR w.heap.size w' v' (l ++ Y) := by
          unfold OwnR
          rw [List.length_append, hm]
          simpa [bys] using r1
        exact (r1'.mono hbase).tail
theorem wp_append_tail {w : World} {o : Oper} {a : Act} {K : Act → World → Prop} {Q : Exit → Act → World → Prop} (dd : Option Tmp) (hdd : o.dst = dd) (s x : Operand)
    (ho : o.op = .call { callee := .builtin .append, args := #[s, x], argTypes := #[23, 23] }) (base : Nat)
    (v : Value) (l : List UInt8) (hs : a.eval s = v) (hown : TailR base w v l) (pa : Option Addr) (m c : Nat) (Y : List UInt8) (hx : a.eval x = .slice pa m c) (hY : RowAt w pa Y) (hm : Y.length = m) (hb : l.length + m ≤ 140737488355328) (hbase : base ≤ w.heap.size)
    (h : ∀ v' w', TailR base w' v' (l ++ Y) → w.grownBy w' v.ownBlock → (∀ k, v'.ownBlock = some k → v.ownBlock = some k ∨ w.heap.size ≤ k) → K (a.put dd v') w') : Oper.wp Tryz.prog o a w K Q := by
  subst hdd
  obtain ⟨v', w', hr, h2, h3, h5⟩ := run_append_tail w base o.type v l hown pa m c Y hY hm hb hbase
  unfold Oper.wp execOp
  simp only [ho, resolve, invoke, builtin, Sem.run_bind, Sem.run_pure, Result.andThen_ok, List.map_toArray, List.map_cons, List.map_nil, hs, hx, hr]
  exact h v' w' h2 h3 h5
theorem wpList_append_tail {w : World} {ops : Array Oper} {rest : List Oper} {o : Oper} {a : Act} {Q : Exit → Act → World → Prop} (hgd : o.guard = none) (s x : Operand)
    (ho : o.op = .call { callee := .builtin .append, args := #[s, x], argTypes := #[23, 23] }) (base : Nat)
    (v : Value) (l : List UInt8) (hs : a.eval s = v) (hown : TailR base w v l) (pa : Option Addr) (m c : Nat) (Y : List UInt8) (hx : a.eval x = .slice pa m c) (hY : RowAt w pa Y) (hm : Y.length = m) (hb : l.length + m ≤ 140737488355328) (hbase : base ≤ w.heap.size)
    (h : ∀ v' w', TailR base w' v' (l ++ Y) → w.grownBy w' v.ownBlock → (∀ k, v'.ownBlock = some k → v.ownBlock = some k ∨ w.heap.size ≤ k) → wpList Tryz.prog ops Q rest (a.put o.dst v') w') :
    wpList Tryz.prog ops Q (o :: rest) a w := by
  refine wpList_plain hgd fun K hK => ?_
  refine wp_append_tail o.dst rfl s x ho base v l hs hown pa m c Y hx hY hm hb hbase fun v' w' h1 h2 h3 => ?_
  exact hK _ _ (h v' w' h1 h2 h3)
end Go.Proofs.YtnmmnlffobnbfaaGreatDoor

/- Poly1305: Write, walked; printed by wip/gen_pq.py -/
namespace Go.Proofs.YtnmmnlffobnbfaaGreatDoor
open Go.RowKit

theorem jump_monoP {l : Nat} {J J' : Act → World → Prop} {Q : Exit → Act → World → Prop} (hJ : ∀ a w, J a w → J' a w) : ∀ e a w, Exit.jump l J Q e a w → Exit.jump l J' Q e a w := by
  intro e a w h
  cases e with
  | goto l' => exact ⟨h.1, hJ _ _ h.2⟩
  | _ => exact h
/-- A scope that is a loop from its label on. -/
theorem wp_scope_loop {P : Program} {Q : Exit → Act → World → Prop} {a : Act} {w : World} {c X : Code} (l : Nat) (J : Act → World → Prop) (μ : Act → World → Nat) (hf : findLabel c l = some (.seq .skip X))
    (pass : ∀ a w M, J a w → μ a w = M → X.wp P (Exit.jump l (fun a' w' => J a' w' ∧ μ a' w' < M) Q) a w)
    (first : (∀ a w, J a w → X.wp P (Exit.jump l J Q) a w) → c.wp P (Exit.jump l J Q) a w) : (Code.scope c).wp P Q a w :=
  wp_scope_jumps l J μ hf (first fun a w h => wp_mono (pass a w _ h rfl) (jump_monoP fun _ _ h => h.1)) (fun a w hj => wp_seq (wp_skip (pass a w _ hj rfl)))
/-- The length of a slice that stands in a cell. -/
def cellLen (p i : Nat) (_ : Act) (w : World) : Nat := match w.cell? ⟨p, i, none⟩ with | some (.slice _ n _) => n | _ => 0
theorem halfF_take (l : List UInt8) : halfF (l.take 16) = halfF l := by
  unfold halfF
  rw [List.take_take, List.drop_take, List.take_take]
  rfl
theorem pwrF_append (r : Nat × Nat) (h : H3) (l m : List UInt8) : pwrF r h (l ++ m) = pwrF r (pwrF r h l).1 ((pwrF r h l).2 ++ m) := by
  by_cases hl : l.length < 16
  · rw [pwrF_short r h l hl]
  · have e := pwrF_long r h l hl
    rw [pwrF_long r h (l ++ m) (by rw [List.length_append]; omega), e, List.take_append_of_le_length (by omega), List.drop_append_of_le_length (by omega)]
    exact pwrF_append r _ (l.drop 16) m
termination_by l.length
decreasing_by rw [List.length_drop]; omega
/-- A state of Poly1305 in memory: so many bytes have been written. -/
def PolyAt (base : Nat) (w : World) (p : Nat) (r s : Nat × Nat) (X : List UInt8) : Prop :=
  base ≤ p ∧ ∃ v, Blk w p (PC r s (pwrF r ⟨0, 0, 0⟩ X).1 v) tPst ∧ TailR base w v (pwrF r ⟨0, 0, 0⟩ X).2
theorem PolyAt.below {base : Nat} {w w' : World} {p : Nat} {r s : Nat × Nat} {X : List UInt8} (h : PolyAt base w p r s X) (hB : Below w.heap.size w w') : PolyAt base w' p r s X := by
  obtain ⟨h0, v, h1, h2⟩ := h
  exact ⟨h0, v, h1.below hB h1.lt, h2.below hB⟩
theorem PC_at7 (r s : Nat × Nat) (h : H3) (v u : Value) : (PC r s h v).set 7 u = PC r s h u := rfl
/-- The loop of Write. -/
structure PJ (base : Nat) (w wr : World) (p : Nat) (r s : Nat × Nat) (R : H3 × List UInt8) (h : H3) (v : Value) (l : List UInt8) : Prop where
  blk : Blk wr p (PC r s h v) tPst
  row : TailR base wr v l
  ok : h.ok
  res : pwrF r h l = R
  below : Below base w wr
  size : base ≤ wr.heap.size
theorem tail_ne {base : Nat} {w : World} {v : Value} {l : List UInt8} {p : Nat} {cs : List Value} (h : TailR base w v l) (hb : Blk w p cs tPst) : v.ownBlock ≠ some p := fun e => by
  obtain ⟨cs2, h2⟩ := h.typ p e
  exact absurd rfl (h2.ne hb (by decide))

set_option maxRecDepth 100000 in
set_option maxHeartbeats 8000000 in
theorem pwrite_any (base : Nat) (w : World) (p : Nat) (r s : Nat × Nat) (X : List UInt8) (hP : PolyAt base w p r s X) (hrk : okP r) (pb : Option Addr) (n cap : Nat) (b : List UInt8) (hb : RowAt w pb b) (hn : b.length = n) (h9 : n < 1000000000) (hbase : base ≤ w.heap.size) :
    Calls Tryz.prog 184 #[.pointer (some ⟨p, 0, none⟩), .slice pb n cap] w fun e w' => e = .returned (.tuple #[]) ∧ PolyAt base w' p r s (X ++ b) ∧ Below base w w' := by
  obtain ⟨hp0, v, hB, hT⟩ := hP
  have hleft := pwrF_left r ⟨0, 0, 0⟩ X
  have hok := pwrF_ok r ⟨0, 0, 0⟩ X ⟨by decide, by decide, by decide⟩
  have hres := hid (pwrF_append r ⟨0, 0, 0⟩ X b)
  generalize (pwrF r ⟨0, 0, 0⟩ X).1 = h at *
  generalize (pwrF r ⟨0, 0, 0⟩ X).2 = l at *
  go_enter Tryz.func184, Tryz.ntmps184
  refine wp_scope_loop 0 (fun a' w' => ∃ (h : H3) (v : Value) (l : List UInt8) (u2 u3 u4 u5 u6 u7 u8 u9 u10 u11 u12 u13 u14 u15 u16 u17 u18 u19 u20 u21 u22 u23 u24 u25 u26 u27 u28 u29 u30 u31 u32 u33 u34 u35 u36 u37 : Value), a' = { tmps := #[.pointer (some ⟨p, 0, none⟩), .slice pb n cap, u2, u3, u4, u5, u6, u7, u8, u9, u10, u11, u12, u13, u14, u15, u16, u17, u18, u19, u20, u21, u22, u23, u24, u25, u26, u27, u28, u29, u30, u31, u32, u33, u34, u35, u36, u37], defers := [] } ∧ PJ base w w' p r s (pwrF r ⟨0, 0, 0⟩ (X ++ b)) h v l) (cellLen p 7) rfl ?_ ?_
  · rintro a' w' M ⟨h, v, l, u2, u3, u4, u5, u6, u7, u8, u9, u10, u11, u12, u13, u14, u15, u16, u17, u18, u19, u20, u21, u22, u23, u24, u25, u26, u27, u28, u29, u30, u31, u32, u33, u34, u35, u36, u37, rfl, hJ⟩ hM
    obtain ⟨hB, hT, hok, hres, hbel, hsz⟩ := hJ
    by_cases hlt : l.length < 16
    · obtain ⟨pa, ca, rfl, hca, hra⟩ := hT.row
      have c7 : w'.cell? ⟨p, 7, none⟩ = some (.slice pa l.length ca) := hB.cell 7
      have hfin := hid (show PolyAt base w' p r s (X ++ b) from by
        refine ⟨hp0, .slice pa l.length ca, ?_, ?_⟩
        · rw [← hres, pwrF_short r h l hlt]; exact hB
        · rw [← hres, pwrF_short r h l hlt]; exact hT)
      have hl16 : (l.length : Int) < 16 := by omega
      clear hB hT hra hres
      go_wp2_with fail
      simp only [Exit.jump]
      refine bodyPost_ret (v := .tuple #[]) (results_none rfl _ _ _) rfl ⟨rfl, hfin.out, hbel⟩
    · have hTT := hT
      obtain ⟨v', he, hT', hob⟩ := hT.drop 16 (by omega) (by omega)
      have he : ∀ W, (Instr.sliceAt 23 v (some (.int .i64 16)) none none).run Tryz.prog W = .ok v' W := he
      rcases hT with ⟨_, h0⟩ | ⟨g, off, ca, cs, rfl, hg, hG, hca, hoc, htk⟩
      · exact absurd (by rw [h0]; simp) hlt
      have hgp : g ≠ p := hG.ne hB (by decide)
      obtain ⟨pa, ca', e1, _, hra⟩ := hTT.row
      cases e1
      have c7 : w'.cell? ⟨p, 7, none⟩ = some (.slice (some ⟨g, off, none⟩) l.length ca) := hB.cell 7
      have hl16 : ¬ (l.length : Int) < 16 := by omega
      have hM1 : M = l.length := by rw [← hM]; unfold cellLen; rw [c7]
      have hst := hid (show pwrF r (muF (adF h (halfF l) 1) r) (l.drop 16) = pwrF r ⟨0, 0, 0⟩ (X ++ b) from by
        rw [← hres, pwrF_long r h l hlt]
        unfold pstepF
        rw [halfF_take])
      clear hM hres htk hoc
      go_wp2_with fail
      refine (half_any w' g off l.length ca l hra rfl (by omega) hca).mono ?_
      rintro e w1 ⟨rfl, hB1⟩
      have hb1 := hB.below hB1 hB.lt
      have hT1 := hTT.below hB1
      have hT1' := hT'.below hB1
      have hs1 := hB1.size
      have hbel1 := hbel.trans (hB1.mono hsz)
      clear c7 hB1 hra
      go_wp2_with fail
      refine (padd_any w1 p r s h _ (halfF l) 1 hb1 hok (halfF_ok l) (by omega)).mono ?_
      rintro e w2 ⟨rfl, hb2, hC2⟩
      go_wp2_with fail
      refine (pmul_any w2 p r s (adF h (halfF l) 1) _ hb2 (adF_ok _ _ _) hrk).mono ?_
      rintro e w3 ⟨rfl, hb3, hC3⟩
      have hC13 : Chg w1.heap.size [p] w1 w3 := hC2.trans (hC3.mono hC2.size (fun _ _ h => h))
      have hT3' := hT1'.chg hC13 (Nat.le_refl _) (fun q e => by rw [hob] at e; cases e; simpa using hgp)
      have hbel3 := hbel1.trans (hC13.below (M := base) (by omega) (fun k hk => by simp at hk; omega))
      have hs3 : w'.heap.size ≤ w3.heap.size := Nat.le_trans hs1 hC13.size
      obtain ⟨pv, cv, hv', hcv, hrv⟩ := hT3'.row
      obtain ⟨m, hm⟩ : ∃ m, (l.drop 16).length = m := ⟨_, rfl⟩
      have hmm : m = l.length - 16 := by rw [← hm, List.length_drop]
      rw [hm] at hv'
      clear hm
      subst hv'
      have HM := hid hmm
      have c7 : w3.cell? ⟨p, 7, none⟩ = some (.slice (some ⟨g, off, none⟩) l.length ca) := hb3.cell 7
      have f7 := hb3.frozen 7
      have hb4 := hid (show Blk (w3.setCell ⟨p, 7, none⟩ (.slice pv m cv)) p (PC r s (muF (adF h (halfF l) 1) r) (.slice pv m cv)) tPst from hb3.set 7 (.slice pv m cv))
      have hC4 : Chg w3.heap.size [p] w3 (w3.setCell ⟨p, 7, none⟩ (.slice pv m cv)) := (Chg.refl _ _ _).setCell (p := ⟨p, 7, none⟩) (.inl (by simp)) _
      have hT4 := hid (hT3'.chg hC4 (Nat.le_refl _) (fun q e => by rw [hob] at e; cases e; simpa using hgp))
      have hbel4 := hid (hbel3.trans (hC4.below (M := base) (by omega) (fun k hk => by simp at hk; omega)))
      have hmu := hid (show cellLen p 7 ⟨#[], []⟩ (w3.setCell ⟨p, 7, none⟩ (.slice pv m cv)) < M from by
        have := hb4.out.cell 7
        unfold cellLen
        rw [this]
        show m < M
        rw [HM.out, hM1]; omega)
      have hs4 := hid (show base ≤ (w3.setCell ⟨p, 7, none⟩ (.slice pv m cv)).heap.size from Nat.le_trans (by omega) hC4.size)
      clear hT1 hT1' hb1 hb2 hC2 hC3 hC13 hT3' hbel1 hbel3 hb3 hC4 hbel hT' hTT hB hG hrv hcv hM1 hmm
      go_wp2_with fail
      go_step3
      exact ⟨rfl, ⟨_, _, _, _, _, _, _, _, _, _, _, _, _, _, _, _, _, _, _, _, _, _, _, _, _, _, _, _, _, _, _, _, _, _, _, _, _, _, _, rfl, ⟨hb4.out, hT4.out, muF_ok _ _, hst.out, hbel4.out, hs4.out⟩⟩, hmu.out⟩
  · intro pass
    obtain ⟨pa, ca, rfl, hca, hra⟩ := hT.row
    have c7 : w.cell? ⟨p, 7, none⟩ = some (.slice pa l.length ca) := hB.cell 7
    have hne := tail_ne hT hB
    go_wp2_with (refine wpList_append_tail rfl (.tmp 10) (.tmp 11) rfl base (.slice pa l.length ca) l rfl hT pb n cap b rfl hb hn (by omega) hbase ?_; intro v1 w1 hT1 hg1 _; have hb1 := hB.kept hg1 hne; obtain ⟨pv, cv, hv1, _, _⟩ := hT1.row; rw [List.length_append, hn] at hv1; subst hv1; have c7b : w1.cell? ⟨p, 7, none⟩ = some (.slice pa l.length ca) := hb1.cell 7; have f7b := hb1.frozen 7)
    have hC2 : Chg w1.heap.size [p] w1 (w1.setCell ⟨p, 7, none⟩ (.slice pv (l.length + n) cv)) := (Chg.refl _ _ _).setCell (p := ⟨p, 7, none⟩) (.inl (by simp)) _
    have hb2 : Blk (w1.setCell ⟨p, 7, none⟩ (.slice pv (l.length + n) cv)) p (PC r s h (.slice pv (l.length + n) cv)) tPst := hb1.set 7 (.slice pv (l.length + n) cv)
    have hT2 := hT1.chg hC2 (Nat.le_refl _) (fun q e => by
      obtain ⟨cs2, h2⟩ := hT1.typ q e
      have := h2.ne hb1 (by decide)
      simpa using this)
    have hbel1 : Below base w w1 := ⟨hg1.os, hg1.tape, hg1.output, hg1.size, fun k hk => hg1.block k (by omega) (fun e => by have := (hT.lt k e.symm).1; omega)⟩
    have hs1 := hg1.size
    have hbel2 := hbel1.trans (hC2.below (M := base) (by omega) (fun k hk => by simp at hk; omega))
    have hs2 := hC2.size
    go_step3
    have Hpass := hid pass
    clear pass
    refine (by assumption : ∀ (a : Act) (w : World), Code.wp _ _ _ a w → _) _ _ ?_
    exact Hpass.out _ _ ⟨_, _, _, _, _, _, _, _, _, _, _, _, _, _, _, _, _, _, _, _, _, _, _, _, _, _, _, _, _, _, _, _, _, _, _, _, _, _, _, rfl, ⟨hb2, hT2, hok, by rw [hres.out], hbel2, by omega⟩⟩
end Go.Proofs.YtnmmnlffobnbfaaGreatDoor

/- Poly1305: Clamp, walked -/
namespace Go.Proofs.YtnmmnlffobnbfaaGreatDoor
open Go.RowKit

abbrev tA32p : TypeId := 35
theorem size16p : (Tryz.prog.info? tA16).map (·.size) = some 16 := by kernel_rfl
set_option maxRecDepth 100000 in
set_option maxHeartbeats 4000000 in
theorem clamp_one (a0 a1 a2 a3 a4 a5 a6 a7 a8 a9 a10 a11 a12 a13 a14 a15 : UInt8) (w : World) :
    Calls Tryz.prog 204 #[.agg #[B a0, B a1, B a2, B a3, B a4, B a5, B a6, B a7, B a8, B a9, B a10, B a11, B a12, B a13, B a14, B a15]] w fun e w' => e = .returned (.agg #[B a0, B a1, B a2, B (a3 &&& 15), B (a4 &&& 252), B a5, B a6, B (a7 &&& 15), B (a8 &&& 252), B a9, B a10, B (a11 &&& 15), B (a12 &&& 252), B a13, B a14, B (a15 &&& 15)]) ∧ Below w.heap.size w w' := by
  have m1 : ∀ x : UInt8, bits .and .u8 (bv x) 15 = bv (x &&& 15) := fun x => b_and x 15
  have m2 : ∀ x : UInt8, bits .and .u8 (bv x) 252 = bv (x &&& 252) := fun x => b_and x 252
  go_enter Tryz.func204, Tryz.ntmps204
  go_wp2_with fail
  refine wp_loop_rounds 5 ?_
  iterate 5 (rw [rounds_succ]; go_wp2_with fail)
  refine wp_loop_rounds 4 ?_
  iterate 4 (rw [rounds_succ]; go_wp2_with fail)
  have hN := Blk.new (w.alloc (.cells [B a0, B a1, B a2, B (a3 &&& 15), B (a4 &&& 252), B a5, B a6, B (a7 &&& 15), B (a8 &&& 252), B a9, B a10, B (a11 &&& 15), B (a12 &&& 252), B a13, B a14, B (a15 &&& 15)].toArray tA16)) [B a0, B a1, B a2, B (a3 &&& 15), B (a4 &&& 252), B a5, B a6, B (a7 &&& 15), B (a8 &&& 252), B a9, B a10, B (a11 &&& 15), B (a12 &&& 252), B a13, B a14, B (a15 &&& 15)] tA16
  rw [show (w.alloc (.cells [B a0, B a1, B a2, B (a3 &&& 15), B (a4 &&& 252), B a5, B a6, B (a7 &&& 15), B (a8 &&& 252), B a9, B a10, B (a11 &&& 15), B (a12 &&& 252), B a13, B a14, B (a15 &&& 15)].toArray tA16)).heap.size = w.heap.size + 1 from by simp] at hN
  refine bodyPost_ret (v := .agg [B a0, B a1, B a2, B (a3 &&& 15), B (a4 &&& 252), B a5, B a6, B (a7 &&& 15), B (a8 &&& 252), B a9, B a10, B (a11 &&& 15), B (a12 &&& 252), B a13, B a14, B (a15 &&& 15)].toArray) (results_cell_row (P := Tryz.prog) (p := 2) (ty := tA16) rfl _ _ (w.heap.size + 1) tA16 _ (0, 0) _ rfl hN under54 rfl size16p) rfl ⟨rfl, ?_⟩
  exact ((Below.refl _ _).alloc (Nat.le_refl _) _).alloc (by simp) _
theorem clamp_any (w : World) (l : List UInt8) (hl : l.length = 16) :
    Calls Tryz.prog 204 #[.agg (bys l).toArray] w fun e w' => e = .returned (.agg (bys (clampF l)).toArray) ∧ Below w.heap.size w w' := by
  obtain ⟨a0, a1, a2, a3, a4, a5, a6, a7, a8, a9, a10, a11, a12, a13, a14, a15, rfl⟩ := len16 hl
  exact clamp_one a0 a1 a2 a3 a4 a5 a6 a7 a8 a9 a10 a11 a12 a13 a14 a15 w
end Go.Proofs.YtnmmnlffobnbfaaGreatDoor

/- Poly1305: New, walked -/
namespace Go.Proofs.YtnmmnlffobnbfaaGreatDoor
open Go.RowKit

theorem arr16 (b o n c : Nat) (hn : 16 ≤ n) (W : World) : (Instr.arrayAt 100 (.slice (some ⟨b, o, none⟩) n c)).run Tryz.prog W = .ok (.pointer (some ⟨b, o, none⟩)) W := run_arrayAt W 100 5 16 (some ⟨b, o, none⟩) n c under54 hn
theorem setAll {w : World} {b : Nat} {old new : List Value} {T : TypeId} (h : Blk w b old T) (ho : new.length = old.length) : Blk (w.setCells b 0 new) b new T ∧ Chg w.heap.size [b] w (w.setCells b 0 new) := by
  have h1 := h.setCells new 0 (by omega)
  rw [splice_whole _ _ (by omega)] at h1
  exact ⟨h1, (Chg.refl _ _ w).setCells (.inl (by simp)) _ _⟩
abbrev r0F (key : List UInt8) : Nat × Nat := halfF (clampF (key.take 16))
abbrev s0F (key : List UInt8) : Nat × Nat := halfF ((key.drop 16).take 16)
set_option maxRecDepth 100000 in
set_option maxHeartbeats 4000000 in
theorem pnew_any (w : World) (key : List UInt8) (hk : key.length = 32) :
    Calls Tryz.prog 183 #[.agg (bys key).toArray] w fun e w' => ∃ p, e = .returned (.pointer (some ⟨p, 0, none⟩)) ∧ PolyAt w.heap.size w' p (r0F key) (s0F key) [] ∧ Below w.heap.size w w' := by
  have hb := Blk.new w (bys key) tA32p
  have hB : Below w.heap.size w (w.alloc (.cells (bys key).toArray tA32p)) := (Below.refl _ _).alloc (Nat.le_refl _) _
  have hsz : (w.alloc (.cells (bys key).toArray tA32p)).heap.size = w.heap.size + 1 := by simp
  obtain ⟨w1, hw1⟩ : ∃ w1, w.alloc (.cells (bys key).toArray tA32p) = w1 := ⟨_, rfl⟩
  rw [hw1] at hb hB hsz
  have HW1 := hid hw1
  have hrg : w1.rangeAt w.heap.size 0 (bys (key.take 16)) := by
    have := hb.range 0 16
    have e : ((bys key).drop 0).take 16 = bys (key.take 16) := by simp [bys]
    rw [e] at this; exact this
  have htl : (key.take 16).length = 16 := by rw [List.length_take]; omega
  have hdl : ((key.drop 16).take 16).length = 16 := by rw [List.length_take, List.length_drop]; omega
  have hr16 : RowAt w1 (some ⟨w.heap.size, 16, none⟩) ((key.drop 16).take 16) := by
    have := (hb.rowAt0.drop 16).take 16
    rw [Nat.zero_add] at this; exact this
  have hsT : (Tryz.prog.info? tA16).map (·.size) = some (bys (key.take 16)).length := by rw [size16p, bys_length, htl]
  have HL := hid hdl
  have HT := hid htl
  clear hw1 hdl htl
  have ha := arr16 w.heap.size 0 16 32 (by omega)
  go_enter Tryz.func183, Tryz.ntmps183
  go_upto_region 1 with (fail)
  change Code.wp _ _ _ _ (w.alloc (.cells (bys key).toArray tA32p))
  rw [HW1.out]
  clear HW1
  go_wp2_with (refine wpList_load_mid rfl tA16 (.tmp 5) rfl w.heap.size 0 rfl (bys (key.take 16)) _ hrg under54 rfl hsT ?_)
  refine (clamp_any w1 (key.take 16) HT.out).mono ?_
  rintro e w2 ⟨rfl, hB2⟩
  have hb2 := hb.below hB2 hb.lt
  have hr2 := hr16.below hB2
  have hBB := hB.trans (hB2.mono hB.size)
  have hcl := clampF_len (key.take 16)
  have HR := hid (show (r0F key, s0F key) = (halfF (clampF (key.take 16)), halfF ((key.drop 16).take 16)) from rfl)
  generalize clampF (key.take 16) = C at *
  generalize (key.drop 16).take 16 = D at *
  have hN := Blk.new w2 (bys z16) tA16
  have ht := hN.there 0 16 (by decide)
  have hcb : (bys C).length = (bys z16).length := by rw [bys_length, bys_length, hcl]; rfl
  obtain ⟨hN3, hC3⟩ := setAll hN hcb
  have hr3 := (hr2.below ((Below.refl w2.heap.size w2).alloc (Nat.le_refl _) (.cells (bys z16).toArray tA16))).chg hC3 (by simp) (fun a e => by cases e; have := hb2.lt; simp; omega)
  have hB3 := (hBB.alloc hBB.size (.cells (bys z16).toArray tA16)).trans (hC3.below (M := w.heap.size) (by simp; have := hBB.size; omega) (fun k hk => by simp at hk; have := hBB.size; omega))
  have hsC : (Tryz.prog.info? tA16).map (·.size) = some (bys C).toArray.size := by rw [size16p, List.size_toArray, bys_length, hcl]
  have ht' : (w2.alloc (.cells (bys z16).toArray tA16)).there w2.heap.size 0 (bys C).toArray.size := hN.there 0 _ (by rw [List.size_toArray, hcb, Nat.zero_add]; exact Nat.le_refl _)
  obtain ⟨w3, hw3⟩ : ∃ w3, (w2.alloc (.cells (bys z16).toArray tA16)).setCells w2.heap.size 0 (bys C) = w3 := ⟨_, rfl⟩
  rw [hw3] at hN3 hr3 hB3
  have HW3 := hid hw3
  have HC := hid hcl
  clear hw3 hN hC3 ht hcb hb hrg hr16 hb2 hr2 hBB hB hB2 hsT hcl
  go_upto_region 2 with (refine wpList_store_mid rfl tA16 (.tmp 3) (.tmp 7) rfl w2.heap.size 0 (bys C).toArray rfl rfl ht' hsC (all_oneCell_toArray (bys_one _)) ?_; change wpList _ _ _ _ _ ((w2.alloc (.cells (bys z16).toArray tA16)).setCells w2.heap.size 0 (bys C)); rw [HW3.out]; clear HW3 ht' hsC)
  have hrC := hN3.rowAt0
  try simp only [Act.put]
  refine tkR (fun _ => True) [] (by kernel_rfl) (fun c a d v w h => by cases d <;> exact h) (trivial) (fun hPF hHeld => ?_)
  refine tkA 0 (.some 8) _ (.slice (some ⟨w2.heap.size, 0, none⟩) 16 16) rfl rfl (by kernel_rfl) (by kernel_rfl) (by kernel_rfl) (by kernel_rfl) (by kernel_rfl) hPF rfl (fun w' hw' => by (go_simp)) hHeld (fun hHeld => ?_)
  simp only [Act.put, List.setIfInBounds_toArray, List.set_cons_zero, List.set_cons_succ]
  refine tkA 2 (.some 10) _ (.slice (some ⟨w.heap.size, 16, none⟩) 16 16) rfl rfl (by kernel_rfl) (by kernel_rfl) (by kernel_rfl) (by kernel_rfl) (by kernel_rfl) hPF rfl (fun w' hw' => by (go_simp)) hHeld (fun hHeld => ?_)
  simp only [Act.put, List.setIfInBounds_toArray, List.set_cons_zero, List.set_cons_succ]
  have hS := hHeld (by kernel_rfl)
  refine tkW (rs := [1]) (by kernel_rfl) (by simp) (AllK.cons (o := _) rfl (fun KC hKC => ?_) AllK.nil)
  go_simp
  refine (half_any _ _ _ 16 16 C hrC.drew HC.out (by omega) (by omega)).mono ?_
  rintro e w4 ⟨rfl, hB4⟩
  have hr4 := hr3.drew.below hB4
  have hB4' := hB3.drew.trans (hB4.mono hB3.size)
  refine hKC.out _ _ (trivial) (fun hHeld => ?_)
  clear hKC KC
  try simp only [Act.put, List.setIfInBounds_toArray, List.set_cons_zero, List.set_cons_succ]
  have hS := hHeld (by kernel_rfl)
  refine tkW (rs := [3]) (by kernel_rfl) (by simp) (AllK.cons (o := _) rfl (fun KC hKC => ?_) AllK.nil)
  go_simp
  refine (half_any _ _ _ 16 16 D hr4 HL.out (by omega) (by omega)).mono ?_
  rintro e w5 ⟨rfl, hB5⟩
  have hB5' := hB4'.trans (hB5.mono hB4'.size)
  refine hKC.out _ _ (trivial) (fun hHeld => ?_)
  clear hKC KC
  try simp only [Act.put, List.setIfInBounds_toArray, List.set_cons_zero, List.set_cons_succ]
  refine tkB 4 (.some 12) _ _ rfl rfl (by kernel_rfl) (by kernel_rfl) (by kernel_rfl) (by kernel_rfl) hPF rfl (fun w' => by (go_simp; try with_reducible rfl)) hHeld (fun hHeld => ?_)
  simp only [Act.put, List.setIfInBounds_toArray, List.set_cons_zero, List.set_cons_succ]
  have hS := hHeld (by kernel_rfl)
  refine tkW (rs := [5]) (by kernel_rfl) (by simp) (AllK.cons (o := _) rfl (fun KC hKC => ?_) AllK.nil)
  go_simp
  refine hKC.out _ _ (trivial) (fun hHeld => ?_)
  clear hKC KC
  try simp only [Act.put, List.setIfInBounds_toArray, List.set_cons_zero, List.set_cons_succ]
  refine tkB 6 (.some 2) _ _ rfl rfl (by kernel_rfl) (by kernel_rfl) (by kernel_rfl) (by kernel_rfl) hPF rfl (fun w' => by (go_simp; try with_reducible rfl)) hHeld (fun hHeld => ?_)
  simp only [Act.put, List.setIfInBounds_toArray, List.set_cons_zero, List.set_cons_succ]
  refine tkD (by kernel_rfl) ?_ _
  have e1 : r0F key = halfF C := congrArg Prod.fst HR.out
  have e2 : s0F key = halfF D := congrArg Prod.snd HR.out
  have hN5 := Blk.new w5 (PC (halfF C) (halfF D) ⟨0, 0, 0⟩ (.slice none 0 0)) tPst
  have hfin := hid (show PolyAt w.heap.size (w5.alloc (.cells (PC (halfF C) (halfF D) ⟨0, 0, 0⟩ (.slice none 0 0)).toArray tPst)) w5.heap.size (r0F key) (s0F key) [] from by
    rw [e1, e2]
    refine ⟨hB5'.size, .slice none 0 0, ?_, ?_⟩
    · rw [pwrF_short _ _ _ (by decide)]; exact hN5
    · rw [pwrF_short _ _ _ (by decide)]; exact TailR.nil _ _)
  have hBf := hid (hB5'.alloc hB5'.size (.cells (PC (halfF C) (halfF D) ⟨0, 0, 0⟩ (.slice none 0 0)).toArray tPst))
  clear hN5 e1 e2 hB5' hB4' hB5 hB4 hr4 hrC
  go_wp2_with fail
  go_ret
  exact ⟨_, rfl, hfin.out, hBf.out⟩
end Go.Proofs.YtnmmnlffobnbfaaGreatDoor

/- Poly1305: Sum, walked -/
namespace Go.Proofs.YtnmmnlffobnbfaaGreatDoor
open Go.RowKit

theorem sizePst : (Tryz.prog.info? tPst).map (·.size) = some 8 := by kernel_rfl
def poF (r s : Nat × Nat) (X : List UInt8) : List UInt8 := poutF (plastF r (pwrF r ⟨0, 0, 0⟩ X).1 (pwrF r ⟨0, 0, 0⟩ X).2) s
theorem poF_len (r s : Nat × Nat) (X : List UInt8) : (poF r s X).length = 16 := poutF_len _ _
theorem PC_one (r s : Nat × Nat) (h : H3) (v : Value) (hv : v.oneCell' = true) : ∀ u ∈ PC r s h v, u.oneCell' = true := by
  intro u hu
  simp only [PC, List.mem_cons, List.not_mem_nil, or_false] at hu
  rcases hu with rfl | rfl | rfl | rfl | rfl | rfl | rfl | rfl <;> first | rfl | exact hv

theorem bo_le (x y b : Nat) : bo x y b ≤ 1 := by unfold bo; split <;> omega
theorem predF_eq (a b c : Nat) : predF ⟨a, b, c⟩ = if bo c 3 (bo b 18446744073709551615 (bo a 18446744073709551611 0)) = 0 then (df a 18446744073709551611 0, df b 18446744073709551615 (bo a 18446744073709551611 0)) else (a, b) := rfl
set_option maxRecDepth 100000 in
set_option maxHeartbeats 8000000 in
theorem psumS_any (base : Nat) (w : World) (p : Nat) (r s : Nat × Nat) (X : List UInt8) (hP : PolyAt base w p r s X) (hrk : okP r) (hsk : okP s) :
    Calls Tryz.prog 185 #[.pointer (some ⟨p, 0, none⟩)] w fun e w' => e = .returned (.agg (bys (poF r s X)).toArray) ∧ Below w.heap.size w w' := by
  obtain ⟨_, v, hp, hT⟩ := hP
  have hleft := pwrF_left r ⟨0, 0, 0⟩ X
  have hok := pwrF_ok r ⟨0, 0, 0⟩ X ⟨by decide, by decide, by decide⟩
  have hdef := hid (show poF r s X = poutF (plastF r (pwrF r ⟨0, 0, 0⟩ X).1 (pwrF r ⟨0, 0, 0⟩ X).2) s from rfl)
  generalize (pwrF r ⟨0, 0, 0⟩ X).1 = h at *
  generalize (pwrF r ⟨0, 0, 0⟩ X).2 = l at *
  have hA := (Blk.new w (bys z16) tA16).alloc (.cells (bys z16).toArray tA16)
  have hO := Blk.new (w.alloc (.cells (bys z16).toArray tA16)) (bys z16) tA16
  have hB1 : Below w.heap.size w ((w.alloc (.cells (bys z16).toArray tA16)).alloc (.cells (bys z16).toArray tA16)) := ((Below.refl _ _).alloc (Nat.le_refl _) _).alloc (by simp) _
  have hs1 : ((w.alloc (.cells (bys z16).toArray tA16)).alloc (.cells (bys z16).toArray tA16)).heap.size = w.heap.size + 1 + 1 := by simp
  rw [show (w.alloc (.cells (bys z16).toArray tA16)).heap.size = w.heap.size + 1 from by simp] at hO
  obtain ⟨w1, hw1⟩ : ∃ w1, (w.alloc (.cells (bys z16).toArray tA16)).alloc (.cells (bys z16).toArray tA16) = w1 := ⟨_, rfl⟩
  rw [hw1] at hA hO hB1 hs1
  have hp1 := hp.below hB1 hp.lt
  have hT1 := hT.below hB1
  have hpl := hp.lt
  have HW1 := hid hw1
  obtain ⟨pv, cv, rfl, hcv, _⟩ := hT.row
  clear hw1 hp hT
  go_enter Tryz.func185, Tryz.ntmps185
  go_upto_region 4 with (fail)
  change Code.wp _ _ _ _ ((w.alloc (.cells (bys z16).toArray tA16)).alloc (.cells (bys z16).toArray tA16))
  rw [HW1.out]
  clear HW1
  have hN := Blk.new w1 (PC (0, 0) (0, 0) ⟨0, 0, 0⟩ (.slice none 0 0)) tPst
  obtain ⟨hN2, hC2⟩ := setAll hN (new := PC r s h (.slice pv l.length cv)) rfl
  have hst := hid (hN.there 0 8 (Nat.le_refl _))
  have hpo := hid (all_oneCell_toArray (PC_one r s h (.slice pv l.length cv) rfl))
  rw [hs1] at hN2 hC2
  have hBa : Below w1.heap.size w1 (w1.alloc (.cells (PC (0, 0) (0, 0) ⟨0, 0, 0⟩ (.slice none 0 0)).toArray tPst)) := (Below.refl _ _).alloc (Nat.le_refl _) _
  have hA2 := (hA.below hBa hA.lt).chg hC2 (hA.below hBa hA.lt).lt (by simp; omega)
  have hO2 := (hO.below hBa hO.lt).chg hC2 (hO.below hBa hO.lt).lt (by simp)
  have hT2 := (hT1.below hBa).chg hC2 (Nat.le_refl _) (fun b e => by have := (hT1.lt b e).2; simp; omega)
  have hB2 := (hB1.trans (hBa.mono hB1.size)).trans (hC2.below (M := w.heap.size) (by simp; omega) (fun k hk => by simp at hk; omega))
  have hwl := hid hp1.whole
  rw [hs1] at hst
  have hs2 : ((w1.alloc (.cells (PC (0, 0) (0, 0) ⟨0, 0, 0⟩ (.slice none 0 0)).toArray tPst)).setCells (w.heap.size + 1 + 1) 0 (PC r s h (.slice pv l.length cv))).heap.size = w.heap.size + 1 + 1 + 1 := by rw [size_setCells]; simp [hs1]
  obtain ⟨w2, hw2⟩ : ∃ w2, (w1.alloc (.cells (PC (0, 0) (0, 0) ⟨0, 0, 0⟩ (.slice none 0 0)).toArray tPst)).setCells (w.heap.size + 1 + 1) 0 (PC r s h (.slice pv l.length cv)) = w2 := ⟨_, rfl⟩
  rw [hw2] at hN2 hA2 hO2 hT2 hB2 hs2
  have HW2 := hid hw2
  clear hN hC2 hBa hA hO hT1 hB1 hp1 hw2
  go_upto_if 19 with (first | (refine wpList_load_mid rfl tPst (.tmp 14) rfl p 0 rfl (PC r s h (.slice pv l.length cv)) _ hwl.out Tryz.underlying245 rfl sizePst ?_) | (refine wpList_store_mid rfl tPst (.tmp 4) (.tmp 15) rfl (w.heap.size + 1 + 1) 0 (PC r s h (.slice pv l.length cv)).toArray rfl rfl hst.out sizePst hpo.out ?_; change wpList _ _ _ _ _ ((w1.alloc (.cells (PC (0, 0) (0, 0) ⟨0, 0, 0⟩ (.slice none 0 0)).toArray tPst)).setCells (w.heap.size + 1 + 1) 0 (PC r s h (.slice pv l.length cv))); rw [HW2.out]; clear HW2 hst; have c7 : w2.cell? ⟨w.heap.size + 1 + 1, 7, none⟩ = some (.slice pv l.length cv) := hN2.cell 7))
  go_cut [0] (fun s0 wx => s0 = .pointer (some ⟨p, 0, none⟩) ∧ Blk wx w.heap.size (bys z16) tA16 ∧ Blk wx (w.heap.size + 1) (bys z16) tA16 ∧ (∃ vx : Value, Blk wx (w.heap.size + 1 + 1) (PC r s (plastF r h l) vx) tPst) ∧ Below w.heap.size w wx)
  case first =>
    by_cases hl0 : l.length = 0
    · have e0 : l = [] := List.eq_nil_of_length_eq_zero hl0
      have hpf : plastF r h l = h := by unfold plastF; rw [if_pos e0]
      have hlz : (l.length : Int) = 0 := by omega
      have hfin := hid (And.intro hN2 hpf)
      clear hN2 hpf hT2 e0
      go_wp2_with fail
      go_meet
      exact ⟨rfl, hA2, hO2, ⟨_, by rw [hfin.out.2]; exact hfin.out.1⟩, hB2⟩
    · have hlz : ¬ (l.length : Int) = 0 := by omega
      have hne : l ≠ [] := fun e => hl0 (by rw [e]; rfl)
      have hlz2 : 0 < (l.length : Int) := by omega
      obtain ⟨pa', ca', ev, _, hrv⟩ := hT2.row
      cases ev
      have hra := hrv.below ((Below.refl w2.heap.size w2).alloc (Nat.le_refl _) (.cells #[] 5))
      have hNa := hid hN2
      have hmade := OwnR.made w2
      rw [hs2] at hmade
      go_upto_region 7 with (first | (refine wpList_addO hmade rfl (.tmp 20) (.tmp 22) rfl rfl pv l.length cv l rfl hra rfl (by simp; omega) (by simp; omega) ?_; intro v3 w3 hO3 hg3 _) | (refine wpList_push rfl (.tmp 23) (.tmp 24) rfl (w.heap.size + 1 + 1 + 1) v3 ([] ++ l) rfl hO3 1 rfl (by simp; omega) (by have := hg3.size; simp at this; omega) ?_; intro v4 w4 hO4 hg4 _))
      have hB23 : Below (w.heap.size + 1 + 1 + 1) w2 w3 := ((Below.refl _ w2).alloc (by omega) _).trans (below_grown hg3 (by simp; omega) (fun k e => by simp [Value.ownBlock] at e; omega))
      have hs3 := hB23.size
      have hB24 := hB23.trans (below_grown hg4 (by omega) (fun k e => (hO3.lt k e).1))
      have hs4 := hB24.size
      clear hg3 hg4 hO3 hB23 hra hrv
      rw [List.nil_append] at hO4
      obtain ⟨g4, c4, rest4, rfl, hc4, hg4, hb4⟩ := hO4.blk (by simp)
      have hll : (l ++ [1]).length = l.length + 1 := by simp
      obtain ⟨k, hk⟩ : ∃ k, 15 - l.length = k := ⟨_, rfl⟩
      have hkI : (16 : Int) - ((l.length : Int) + 1) = (k : Int) := by omega
      obtain ⟨v5, w5, hrun, hO5, hg5⟩ := run_append_zeros w4 (w.heap.size + 1 + 1 + 1) 23 _ (l ++ [1]) hO4 (by simp) k (by omega) (by simp; omega) (by omega)
      rw [hll] at hrun
      have hB25 := hB24.trans (below_grown hg5 (by omega) (fun j e => (hO4.lt j e).1))
      have hpf := hid (show plastF r h l = muF (adF h (halfF (l ++ [1] ++ List.replicate k 0)) 0) r from by unfold plastF; rw [if_neg hne, hk])
      have hl5 : (l ++ [1] ++ List.replicate k 0).length = 16 := by simp; omega
      generalize l ++ [1] ++ List.replicate k 0 = last at *
      obtain ⟨g5, c5, rest5, hv5, hc5, hg5', hb5⟩ := hO5.blk (by omega)
      rw [hl5] at hv5 hc5
      subst hv5
      have hr5 := hb5.headRow
      have hs5 := hB25.size
      have hN5 := hNa.out.below hB25 (by omega)
      have hA5 := hA2.below hB25 (by omega)
      have hO5' := hO2.below hB25 (by omega)
      have hB5 := hB2.trans (hB25.mono (by omega))
      clear hk hB24 hB25 hg5 hO4 hO5 hb4 hb5 hNa hN2 hA2 hO2 hB2 hT2 hmade hne hll
      rw [show (l ++ [(1 : UInt8)]).length = l.length + 1 from by simp]
      go_upto_region 8 with (refine wpList_append_got rfl (.tmp 26) (.tmp 29) 23 3 rfl _ (.int .i64 (k : Int)) _ rfl rfl hrun ?_)
      go_wp2_with fail
      refine (half_any w5 g5 0 16 c5 last hr5 hl5 (by omega) hc5).mono ?_
      rintro e w6 ⟨rfl, hB6⟩
      have hN6 := hN5.below hB6 hN5.lt
      have hA6 := hA5.below hB6 hA5.lt
      have hO6 := hO5'.below hB6 hO5'.lt
      have hB6' := hB5.trans (hB6.mono hB5.size)
      go_wp2_with fail
      refine (padd_any w6 (w.heap.size + 1 + 1) r s h _ (halfF last) 0 hN6 hok (halfF_ok _) (by omega)).mono ?_
      rintro e w7 ⟨rfl, hN7, hC7⟩
      go_wp2_with fail
      refine (pmul_any w7 (w.heap.size + 1 + 1) r s _ _ hN7 (adF_ok _ _ _) hrk).mono ?_
      rintro e w8 ⟨rfl, hN8, hC8⟩
      have hC68 : Chg w6.heap.size [w.heap.size + 1 + 1] w6 w8 := hC7.trans (hC8.mono hC7.size (fun _ _ h => h))
      have hA8 := hA6.chg hC68 hA6.lt (by simp; omega)
      have hO8 := hO6.chg hC68 hO6.lt (by simp)
      have hB8 := hB6'.trans (hC68.below (M := w.heap.size) hB6'.size (fun k hk => by simp at hk; omega))
      go_wp2_with fail
      go_meet
      exact ⟨rfl, hA8, hO8, ⟨_, by rw [hpf.out]; exact hN8⟩, hB8⟩
  case rest =>
    obtain ⟨rfl, hA, hO, ⟨vx, hN⟩, hB⟩ := hcut
    have hok2 := plastF_ok r h l hok
    generalize plastF r h l = g at *
    have hpk := predF_ok g hok2
    obtain ⟨a, b, c⟩ := g
    have hpe := hid (predF_eq a b c)
    have s1 := fun w => sub64_a a w
    have s2 := fun w => sub64_b b (bo a 18446744073709551611 0) (bo_le _ _ _) w
    have s3 := fun w => sub64_c c (bo b 18446744073709551615 (bo a 18446744073709551611 0)) (bo_le _ _ _) w
    have hb2 := bo_le c 3 (bo b 18446744073709551615 (bo a 18446744073709551611 0))
    generalize bo c 3 (bo b 18446744073709551615 (bo a 18446744073709551611 0)) = b2 at *
    generalize df b 18446744073709551615 (bo a 18446744073709551611 0) = y1 at *
    generalize bo b 18446744073709551615 (bo a 18446744073709551611 0) = b1 at *
    generalize df a 18446744073709551611 0 = y0 at *
    generalize bo a 18446744073709551611 0 = b0 at *
    have c4 : wc.cell? ⟨w.heap.size + 1 + 1, 4, none⟩ = some (U64 a) := hN.cell 4
    have c5 : wc.cell? ⟨w.heap.size + 1 + 1, 5, none⟩ = some (U64 b) := hN.cell 5
    have c6 : wc.cell? ⟨w.heap.size + 1 + 1, 6, none⟩ = some (U64 c) := hN.cell 6
    have f4 := hN.frozen 4
    have f5 := hN.frozen 5
    obtain ⟨wb, hwb⟩ : ∃ wb, wb = wc := ⟨wc, rfl⟩
    subst hwb
    clear hA2 hO2 hN2 hT2 hB2 hs2 hwl
    go_upto_if 59 with (fail)
    go_cut [0] (fun s0 wx => s0 = .pointer (some ⟨p, 0, none⟩) ∧ Blk wx w.heap.size (bys z16) tA16 ∧ Blk wx (w.heap.size + 1) (bys z16) tA16 ∧ Blk wx (w.heap.size + 1 + 1) (PC r s ⟨(predF ⟨a, b, c⟩).1, (predF ⟨a, b, c⟩).2, c⟩ vx) tPst ∧ Below w.heap.size w wx)
    case first =>
      by_cases h0 : b2 = 0
      · have hz : (b2 : Int) = 0 := by omega
        have hN2 : Blk ((wb.setCell ⟨w.heap.size + 1 + 1, 4, none⟩ (U64 y0)).setCell ⟨w.heap.size + 1 + 1, 5, none⟩ (U64 y1)) (w.heap.size + 1 + 1) (PC r s ⟨y0, y1, c⟩ vx) tPst := (hN.set 4 (U64 y0)).set 5 (U64 y1)
        have hC2 : Chg wb.heap.size [w.heap.size + 1 + 1] wb ((wb.setCell ⟨w.heap.size + 1 + 1, 4, none⟩ (U64 y0)).setCell ⟨w.heap.size + 1 + 1, 5, none⟩ (U64 y1)) := ((Chg.refl _ _ _).setCell (p := ⟨w.heap.size + 1 + 1, 4, none⟩) (.inl (by simp)) _).setCell (p := ⟨w.heap.size + 1 + 1, 5, none⟩) (.inl (by simp)) _
        have hA2 := hA.chg hC2 hA.lt (by simp; omega)
        have hO2 := hO.chg hC2 hO.lt (by simp)
        have hB2 := hB.trans (hC2.below (M := w.heap.size) hB.size (fun k hk => by simp at hk; omega))
        have hfin := hid (And.intro hN2 (And.intro hA2 (And.intro hO2 hB2)))
        have hpe2 := hid (show predF ⟨a, b, c⟩ = (y0, y1) from by rw [hpe.out, if_pos h0])
        clear hN2 hC2 hA2 hO2 hB2
        go_wp2_with fail
        go_meet
        exact ⟨rfl, hfin.out.2.1, hfin.out.2.2.1, by rw [hpe2.out]; exact hfin.out.1, hfin.out.2.2.2⟩
      · have hz : ¬ (b2 : Int) = 0 := by omega
        have hpe2 := hid (show predF ⟨a, b, c⟩ = (a, b) from by rw [hpe.out, if_neg h0])
        go_wp2_with fail
        go_meet
        exact ⟨rfl, hA, hO, by rw [hpe2.out]; exact hN, hB⟩
    case rest =>
      clear s1 s2 s3 c4 c5 c6 f4 f5 hA hO hN hB
      obtain ⟨rfl, hA, hO, hN, hB⟩ := hcut
      obtain ⟨q, hq⟩ : ∃ q, predF ⟨a, b, c⟩ = q := ⟨_, rfl⟩
      have hdef2 := hid (show poF r s X = leF 8 (plF q s).1 ++ leF 8 (plF q s).2 from by rw [hdef.out]; unfold poutF; rw [hq])
      rw [hq] at hN hpk
      clear hq hpe hdef
      have c4 : wc.cell? ⟨w.heap.size + 1 + 1, 4, none⟩ = some (U64 q.1) := hN.cell 4
      have c5 : wc.cell? ⟨w.heap.size + 1 + 1, 5, none⟩ = some (U64 q.2) := hN.cell 5
      have c2 : wc.cell? ⟨w.heap.size + 1 + 1, 2, none⟩ = some (U64 s.1) := hN.cell 2
      have c3 : wc.cell? ⟨w.heap.size + 1 + 1, 3, none⟩ = some (U64 s.2) := hN.cell 3
      obtain ⟨wd, hwd⟩ : ∃ wd, wd = wc := ⟨wc, rfl⟩
      subst hwd
      have hon := plF_ok q s
      go_wp2_with fail
      refine (plus_any wd q s hpk hsk).mono ?_
      rintro e w9 ⟨rfl, hB9⟩
      have hA9 := hA.below hB9 hA.lt
      have hO9 := hO.below hB9 hO.lt
      have hB9' := hB.trans (hB9.mono hB.size)
      clear hA hO hN hB hB9 c2 c3 c4 c5
      generalize plF q s = n at *
      have hn := Blk.new w9 [U64 n.1, U64 n.2] tPr
      have hA10 := hA9.alloc (.cells [U64 n.1, U64 n.2].toArray tPr)
      have hO10 := hO9.alloc (.cells [U64 n.1, U64 n.2].toArray tPr)
      have hB10 := hB9'.alloc hB9'.size (.cells [U64 n.1, U64 n.2].toArray tPr)
      have hgt : w.heap.size + 1 < w9.heap.size := hO9.lt
      go_upto_region 16 with (fail)
      change Code.wp _ _ _ _ (w9.alloc (.cells [U64 n.1, U64 n.2].toArray tPr))
      generalize w9.heap.size = nb at *
      generalize w9.alloc (.cells [U64 n.1, U64 n.2].toArray tPr) = w10 at *
      clear hA9 hO9 hB9'
      have n0 : w10.cell? ⟨nb, 0, none⟩ = some (U64 n.1) := hn.cell 0
      have hnl : n.1 < 18446744073709551616 := hon.1
      have hnh : n.2 < 18446744073709551616 := hon.2
      have sp1 := hid (show splice (bys z16) 0 (bys (leF 8 n.1)) = bys (leF 8 n.1 ++ List.replicate 8 0) from by
        unfold splice; rw [bys_length, leF_len]; simp [bys, z16])
      have sp2 := hid (show splice (bys (leF 8 n.1 ++ List.replicate 8 0)) 8 (bys (leF 8 n.2)) = bys (leF 8 n.1 ++ leF 8 n.2) from by
        unfold splice
        rw [bys_length, leF_len, show bys (leF 8 n.1 ++ List.replicate 8 0) = bys (leF 8 n.1) ++ bys (List.replicate 8 0) from by simp [bys], List.take_left' (by rw [bys_length, leF_len]), List.drop_of_length_le (by simp [bys_length, leF_len]), List.append_nil]
        simp [bys])
      have len1 := hid (show (leF 8 n.1 ++ List.replicate 8 (0 : UInt8)).length = 16 from by simp [leF_len])
      have tk1 := hid (show ((bys (leF 8 n.1)).drop 0).take 8 = bys (leF 8 n.1) from by rw [List.drop_zero, List.take_of_length_le (by rw [bys_length, leF_len]; omega)])
      have tk2 := hid (show ((bys (leF 8 n.2)).drop 0).take 8 = bys (leF 8 n.2) from by rw [List.drop_zero, List.take_of_length_le (by rw [bys_length, leF_len]; omega)])
      try simp only [Act.put]
      refine tkR (fun w' => w'.cell? ⟨nb, 0, none⟩ = some (U64 n.1)) [] (by kernel_rfl) (fun c a d v w h => by cases d <;> exact h) (n0) (fun hPF hHeld => ?_)
      refine tkA 0 (.some 76) _ (.slice (some ⟨w.heap.size + 1, 0, none⟩) 16 16) rfl rfl (by kernel_rfl) (by kernel_rfl) (by kernel_rfl) (by kernel_rfl) (by kernel_rfl) hPF rfl (fun w' hw' => by (go_simp)) hHeld (fun hHeld => ?_)
      simp only [Act.put, List.setIfInBounds_toArray, List.set_cons_zero, List.set_cons_succ]
      refine tkB 1 (.some 77) _ _ rfl rfl (by kernel_rfl) (by kernel_rfl) (by kernel_rfl) (by kernel_rfl) hPF rfl (fun w' => by (go_simp; try with_reducible rfl)) hHeld (fun hHeld => ?_)
      simp only [Act.put, List.setIfInBounds_toArray, List.set_cons_zero, List.set_cons_succ]
      refine tkA 2 (.some 78) _ _ rfl rfl (by kernel_rfl) (by kernel_rfl) (by kernel_rfl) (by kernel_rfl) (by kernel_rfl) hPF rfl (fun w' hw' => by (go_simp; try with_reducible rfl)) hHeld (fun hHeld => ?_)
      simp only [Act.put, List.setIfInBounds_toArray, List.set_cons_zero, List.set_cons_succ]
      have hS := hHeld (by kernel_rfl)
      refine tkW (rs := [3]) (by kernel_rfl) (by simp) (AllK.cons (o := _) rfl (fun KC hKC => ?_) AllK.nil)
      go_simp
      refine (putlittle_any _ n.1 8 hnl (by omega)).mono ?_
      rintro e w11 ⟨rfl, hp11, hB11⟩
      have hO11 := hO10.drew.below hB11 hO10.lt
      have hA11 := hA10.drew.below hB11 hA10.lt
      have hn11 := hn.drew.below hB11 hn.lt
      have hB11' := hB10.drew.trans (hB11.mono hB10.size)
      refine hKC.out _ _ (hn11.cell 0) (fun hHeld => ?_)
      clear hKC KC
      try simp only [Act.put, List.setIfInBounds_toArray, List.set_cons_zero, List.set_cons_succ]
      have hS := hHeld (by kernel_rfl)
      refine tkW (rs := [4]) (by kernel_rfl) (by simp) (AllK.cons (o := _) rfl (fun KC hKC => ?_) AllK.nil)
      refine wantIt rfl (wp_copy_blk (.some 80) rfl (.tmp 76) (.tmp 79) 23 23 rfl 5 under33b (by kernel_rfl) (w.heap.size + 1) 0 16 16 (w10.drew.heap.size + 1) 0 8 8 rfl rfl (bys z16) (bys (leF 8 n.1)) tA16 tU8 hO11 hp11 8 rfl (by rw [bys_length]; decide) (by rw [bys_length, leF_len]; decide) (bys_one _) ?_)
      intro w12 hO12 hC12 hs12
      rw [tk1.out, sp1.out] at hO12
      have hA12 := hA11.chg hC12 hA11.lt (by simp)
      have hn12 := hn11.chg hC12 hn11.lt (by simp; omega)
      have hB12 := hB11'.trans (hC12.below (M := w.heap.size) hB11'.size (fun k hk => by simp at hk; omega))
      refine hKC.out _ _ (hn12.cell 0) (fun hHeld => ?_)
      clear hKC KC
      try simp only [Act.put, List.setIfInBounds_toArray, List.set_cons_zero, List.set_cons_succ]
      refine tkD (by kernel_rfl) ?_ _
      clear n0 hO10 hA10 hn hB10 hO11 hA11 hn11 hB11' hp11 hC12 hB11
      have n1 : w12.cell? ⟨nb, 1, none⟩ = some (U64 n.2) := hn12.cell 1
      go_upto_region 17 with (fail)
      try simp only [Act.put]
      refine tkR (fun w' => w'.cell? ⟨nb, 1, none⟩ = some (U64 n.2)) [] (by kernel_rfl) (fun c a d v w h => by cases d <;> exact h) (n1) (fun hPF hHeld => ?_)
      refine tkA 0 (.some 81) _ (.slice (some ⟨w.heap.size + 1, 8, none⟩) 8 8) rfl rfl (by kernel_rfl) (by kernel_rfl) (by kernel_rfl) (by kernel_rfl) (by kernel_rfl) hPF rfl (fun w' hw' => by (go_simp)) hHeld (fun hHeld => ?_)
      simp only [Act.put, List.setIfInBounds_toArray, List.set_cons_zero, List.set_cons_succ]
      refine tkB 1 (.some 82) _ _ rfl rfl (by kernel_rfl) (by kernel_rfl) (by kernel_rfl) (by kernel_rfl) hPF rfl (fun w' => by (go_simp; try with_reducible rfl)) hHeld (fun hHeld => ?_)
      simp only [Act.put, List.setIfInBounds_toArray, List.set_cons_zero, List.set_cons_succ]
      refine tkA 2 (.some 83) _ _ rfl rfl (by kernel_rfl) (by kernel_rfl) (by kernel_rfl) (by kernel_rfl) (by kernel_rfl) hPF rfl (fun w' hw' => by (go_simp; try with_reducible rfl)) hHeld (fun hHeld => ?_)
      simp only [Act.put, List.setIfInBounds_toArray, List.set_cons_zero, List.set_cons_succ]
      have hS := hHeld (by kernel_rfl)
      refine tkW (rs := [3]) (by kernel_rfl) (by simp) (AllK.cons (o := _) rfl (fun KC hKC => ?_) AllK.nil)
      go_simp
      refine (putlittle_any _ n.2 8 hnh (by omega)).mono ?_
      rintro e w13 ⟨rfl, hp13, hB13⟩
      have hO13 := hO12.drew.below hB13 hO12.lt
      have hA13 := hA12.drew.below hB13 hA12.lt
      have hn13 := hn12.drew.below hB13 hn12.lt
      have hB13' := hB12.drew.trans (hB13.mono hB12.size)
      refine hKC.out _ _ (hn13.cell 1) (fun hHeld => ?_)
      clear hKC KC
      try simp only [Act.put, List.setIfInBounds_toArray, List.set_cons_zero, List.set_cons_succ]
      have hS := hHeld (by kernel_rfl)
      refine tkW (rs := [4]) (by kernel_rfl) (by simp) (AllK.cons (o := _) rfl (fun KC hKC => ?_) AllK.nil)
      refine wantIt rfl (wp_copy_blk (.some 85) rfl (.tmp 81) (.tmp 84) 23 23 rfl 5 under33b (by kernel_rfl) (w.heap.size + 1) 8 8 8 (w12.drew.heap.size + 1) 0 8 8 rfl rfl (bys (leF 8 n.1 ++ List.replicate 8 0)) (bys (leF 8 n.2)) tA16 tU8 hO13 hp13 8 rfl (by rw [bys_length, len1.out]; decide) (by rw [bys_length, leF_len]; decide) (bys_one _) ?_)
      intro w14 hO14 hC14 hs14
      rw [tk2.out, sp2.out] at hO14
      have hA14 := hA13.chg hC14 hA13.lt (by simp)
      have hn14 := hn13.chg hC14 hn13.lt (by simp; omega)
      have hB14 := hB13'.trans (hC14.below (M := w.heap.size) hB13'.size (fun k hk => by simp at hk; omega))
      refine hKC.out _ _ (hn14.cell 1) (fun hHeld => ?_)
      clear hKC KC
      try simp only [Act.put, List.setIfInBounds_toArray, List.set_cons_zero, List.set_cons_succ]
      refine tkD (by kernel_rfl) ?_ _
      rw [← hdef2.out] at hO14
      have hpl2 := poF_len r s X
      clear n1 hO12 hA12 hn12 hB12 hO13 hA13 hn13 hB13' hp13 hC14 hB13 hdef2 sp1 sp2
      obtain ⟨F, hF⟩ : ∃ F, poF r s X = F := ⟨_, rfl⟩
      rw [hF] at hO14 hpl2
      have HF := hid hF
      clear hF
      have hsF : (Tryz.prog.info? tA16).map (·.size) = some (bys F).length := by rw [size16p, bys_length, hpl2]
      have hsG : (Tryz.prog.info? tA16).map (·.size) = some (bys F).toArray.size := by rw [List.size_toArray]; exact hsF
      have htA : w14.there w.heap.size 0 (bys F).toArray.size := hA14.there 0 _ (by rw [List.size_toArray, bys_length, bys_length, hpl2]; decide)
      obtain ⟨hA15, hC15⟩ := setAll hA14 (new := bys F) (by rw [bys_length, bys_length, hpl2]; rfl)
      have hB15 := hB14.trans (hC15.below (M := w.heap.size) hB14.size (fun k hk => by simp at hk; omega))
      have hwO := hO14.whole
      have hf := hid (And.intro hA15 hB15)
      have hWO := hid hwO
      have hTA := hid htA
      clear hA15 hB15 hC15 hwO htA hA14 hO14 hB14 hn14
      go_upto_region 18 with (fail)
      refine wp_region_list ?_
      refine wpList_load_mid rfl tA16 (.tmp 3) rfl (w.heap.size + 1) 0 rfl (bys F) _ hWO.out under54 rfl hsF ?_
      refine wpList_store_mid rfl tA16 (.tmp 2) (.tmp 86) rfl w.heap.size 0 (bys F).toArray rfl rfl hTA.out hsG (all_oneCell_toArray (bys_one _)) ?_
      change wpList _ _ _ _ _ (w14.setCells w.heap.size 0 (bys F))
      generalize w14.setCells w.heap.size 0 (bys F) = w15 at *
      go_wp2_with fail
      refine bodyPost_ret (v := .agg (bys F).toArray) (results_cell_row (P := Tryz.prog) (p := 2) (ty := tA16) rfl _ _ w.heap.size tA16 _ (0, 0) _ rfl hf.out.1 under54 rfl hsG) rfl ⟨by rw [HF.out], hf.out.2⟩
end Go.Proofs.YtnmmnlffobnbfaaGreatDoor
