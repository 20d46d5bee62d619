/- one byte more at an own row's end -/
import Derived.Test.YtnmmnlffobnbfaaGreatDoorWp
namespace Go.Proofs.YtnmmnlffobnbfaaGreatDoor
open Go.RowKit

/-- An own row of bytes, in a block of number base or above. -/
def OwnR (base : Nat) (w : World) (v : Value) (l : List UInt8) : Prop := w.ownsRow base 5 1 v l.length (bys l)
theorem OwnR.nil (base : Nat) (w : World) : OwnR base w (.slice none 0 0) [] := World.ownsRow_nil _ _ _ _
theorem OwnR.row {base : Nat} {w : World} {v : Value} {l : List UInt8} (h : OwnR base w v l) : ∃ pa cap, v = .slice pa l.length cap ∧ l.length ≤ cap ∧ RowAt w pa l := own_rowAt h
theorem OwnR.lt {base : Nat} {w : World} {v : Value} {l : List UInt8} (h : OwnR base w v l) (b : Nat) (e : v.ownBlock = some b) : base ≤ b ∧ b < w.heap.size := World.ownsRow.lt h b e
theorem OwnR.kept {base : Nat} {w w' : World} {v : Value} {l : List UInt8} {row : Option Nat} (h : OwnR base w v l) (hg : w.grownBy w' row) (hne : v.ownBlock ≠ row ∨ v.ownBlock = none) : OwnR base w' v l := by
  refine ⟨h.1, ?_⟩
  rcases h.2 with hn | ⟨g, cap, cur, hv, hb, hc, rest⟩
  · exact .inl hn
  · have hg0 : v.ownBlock = some g := by rw [hv]; rfl
    refine .inr ⟨g, cap, cur, hv, hb, ?_, rest⟩
    have hlt : g < w.heap.size := (World.ownsRow.lt h g hg0).2
    rw [hg.block g hlt (fun e => by rcases hne with hne | hne <;> simp_all), hc]
theorem OwnR.chg {base N : Nat} {F : List Nat} {w w' : World} {v : Value} {l : List UInt8} (h : OwnR base w v l) (hc : Chg N F w w') (hN : w.heap.size ≤ N) (hF : ∀ b, v.ownBlock = some b → b ∉ F) : OwnR base w' v l := by
  refine ⟨h.1, ?_⟩
  rcases h.2 with hn | ⟨g, cap, cur, hv, hb, hh, rest⟩
  · exact .inl hn
  · have hg0 : v.ownBlock = some g := by rw [hv]; rfl
    refine .inr ⟨g, cap, cur, hv, hb, ?_, rest⟩
    have hlt : g < w.heap.size := (World.ownsRow.lt h g hg0).2
    rw [hc.block g (by omega) (hF g hg0), hh]
theorem OwnR.below {base : Nat} {w w' : World} {v : Value} {l : List UInt8} (h : OwnR base w v l) (hb : Below w.heap.size w w') : OwnR base w' v l :=
  h.chg (F := []) (Chg.ofBelow hb) (Nat.le_refl _) (fun _ _ => by simp)
/-- An own row that is not empty: its block. -/
theorem OwnR.blk {base : Nat} {w : World} {v : Value} {l : List UInt8} (h : OwnR base w v l) (hl : 0 < l.length) : ∃ g cap rest, v = .slice (some ⟨g, 0, none⟩) l.length cap ∧ l.length ≤ cap ∧ base ≤ g ∧ Blk w g (bys l ++ rest) tU8 := by
  rcases h.2 with ⟨_, h0⟩ | ⟨g, cap, cur, hv, hb, hh, hc, _, _, ht⟩
  · omega
  · refine ⟨g, cap, cur.toList.drop l.length, hv, hc, hb, ?_⟩
    rw [Nat.mul_one] at ht
    unfold Blk
    rw [← ht, List.take_append_drop]
    simpa using hh
theorem bys_setAt (l : List UInt8) (rest : List Value) (i : Nat) (x : UInt8) (h : i < l.length) : (bys l ++ rest).set i (.int .u8 (bv x)) = bys (l.set i x) ++ rest := by
  rw [List.set_append_left _ _ (by rw [bys_length]; exact h), bys_set]
theorem Blk.headRow {w : World} {g : Nat} {l : List UInt8} {rest : List Value} {T : TypeId} (h : Blk w g (bys l ++ rest) T) : RowAt w (some ⟨g, 0, none⟩) l := fun k hk => by
  refine ⟨g, 0, rfl, h.lt, ?_⟩
  rw [Nat.zero_add, h.cell, List.getElem?_append_left (by rw [bys_length]; exact hk), bys_get l k hk]
theorem Blk.headCell {w : World} {g : Nat} {l : List UInt8} {rest : List Value} {T : TypeId} (h : Blk w g (bys l ++ rest) T) (k : Nat) (hk : k < l.length) : w.cell? ⟨g, k, none⟩ = some (.int .u8 (bv (l.getD k 0))) := by
  rw [h.cell, List.getElem?_append_left (by rw [bys_length]; exact hk), bys_get l k hk]
theorem OwnR.made (w : World) : OwnR w.heap.size (w.alloc (.cells #[] 5)) (.slice (some ⟨w.heap.size, 0, none⟩) 0 0) [] :=
  World.ownsRow_made w #[] 0 (e := 5) (size := 1) (base := w.heap.size) (Nat.le_refl _) (by unfold maxLen; omega) (by simp)
theorem OwnR.typ {base : Nat} {w : World} {v : Value} {l : List UInt8} (h : OwnR base w v l) (j : Nat) (e : v.ownBlock = some j) : ∃ cs, Blk w j cs tU8 := by
  rcases h.2 with ⟨hv, _⟩ | ⟨g, cap, cur, hv, _, hh, _⟩
  · rw [hv] at e; cases e
  · rw [hv] at e; cases e
    exact ⟨cur.toList, by unfold Blk; simpa using hh⟩
theorem OwnR.drew {base : Nat} {w : World} {v : Value} {l : List UInt8} (h : OwnR base w v l) : OwnR base w.drew v l := h
theorem OwnR.mono {base base' : Nat} {w : World} {v : Value} {l : List UInt8} (h : OwnR base w v l) (hb : base' ≤ base) : OwnR base' w v l := by
  refine ⟨h.1, ?_⟩
  rcases h.2 with hn | ⟨g, cap, cur, hv, hb', rest⟩
  · exact .inl hn
  · exact .inr ⟨g, cap, cur, hv, by omega, rest⟩
theorem grown_of_alloc {w w' : World} {o : Obj} {row : Option Nat} (h : (w.alloc o).grownBy w' row) (_ : ∀ k, row = some k → k < w.heap.size) : w.grownBy w' row := by
  refine ⟨h.os, h.tape, h.output, by have := h.size; simp at this; omega, fun k hk hne => ?_⟩
  rw [h.block k (by simp; omega) hne, Below.heap_alloc _ _ _ hk]
theorem Chg.grown {N : Nat} {F : List Nat} {a w w' : World} {row : Option Nat} (h : Chg N F a w) (hg : w.grownBy w' row) (hN : N ≤ w.heap.size) (hr : ∀ k, row = some k → k ∈ F ∨ N ≤ k) : Chg N F a w' :=
  h.trans ⟨hg.os, hg.tape, hg.output, hg.size, fun k hk hf => hg.block k (by omega) (fun e => (hr k e.symm).elim (fun h => hf h) (fun h => by omega))⟩
theorem Blk.kept {w w' : World} {b : Nat} {cs : List Value} {T : TypeId} {row : Option Nat} (h : Blk w b cs T) (hg : w.grownBy w' row) (hne : row ≠ some b) : Blk w' b cs T := by
  have := h.lt
  unfold Blk at *
  rw [hg.block b this (fun e => hne e.symm), h]
theorem RowAt.kept {w w' : World} {pa : Option Addr} {X : List UInt8} {row : Option Nat} (h : RowAt w pa X) (hg : w.grownBy w' row) (hne : ∀ k, row = some k → Off [k] pa) : RowAt w' pa X := fun k hk => by
  obtain ⟨b, o, h1, h2, h3⟩ := h k hk
  refine ⟨b, o, h1, Nat.lt_of_lt_of_le h2 hg.size, ?_⟩
  have hb := hg.block b h2 (fun e => by have := hne b e.symm _ h1; simp at this)
  have e : w'.cell? ⟨b, o + k, none⟩ = w.cell? ⟨b, o + k, none⟩ := by simp [World.cell?, hb]
  rw [e]; exact h3
theorem RowAt.kept2 {w w' : World} {pa : Option Addr} {X : List UInt8} {row : Option Nat} (h : RowAt w pa X) (hg : w.grownBy w' row) (hne : X ≠ [] → ∀ k, row = some k → Off [k] pa) : RowAt w' pa X := by
  by_cases hX : X = []
  · subst hX; exact RowAt.nil _ _
  · exact h.kept hg (hne hX)
theorem RowAt.chg2 {w w' : World} {pa : Option Addr} {X : List UInt8} {F : List Nat} {N : Nat} (h : RowAt w pa X) (hc : Chg N F w w') (hN : w.heap.size ≤ N) (hF : 0 < X.length → Off F pa) : RowAt w' pa X := by
  by_cases hX : X = []
  · subst hX; exact RowAt.nil _ _
  · exact h.chg hc hN (hF (List.length_pos_iff.2 hX))
theorem RowAt.pos {w : World} {pa : Option Addr} {X : List UInt8} (h : RowAt w pa X) (hX : 0 < X.length) : ∀ a, pa = some a → a.block < w.heap.size := fun a e => by
  obtain ⟨b, o, e', hb, _⟩ := h 0 hX
  rw [e'] at e; cases e; exact hb
/-- An append of one byte to an own row. -/
theorem wpList_push {ops : Array Oper} {rest : List Oper} {o : Oper} {a : Act} {Q : Exit → Act → World → Prop} {w : World} (hgd : o.guard = none) (s x : Operand)
    (ho : o.op = .call { callee := .builtin .append, args := #[s, x], argTypes := #[23, 23] }) (base : Nat)
    (v : Value) (xs : List UInt8) (hs : a.eval s = v) (hown : OwnR base w v xs) (y : UInt8) (hx : a.eval x = .slice (some ⟨w.heap.size, 0, none⟩) 1 1) (hb : xs.length < 140737488355328) (hbase : base ≤ w.heap.size)
    (h : ∀ v' w', OwnR base w' v' (xs ++ [y]) → w.grownBy w' v.ownBlock → (v'.ownBlock = v.ownBlock ∨ v'.ownBlock = some (w.heap.size + 1)) → wpList Tryz.prog ops Q rest (a.put o.dst v') w') :
    wpList Tryz.prog ops Q (o :: rest) a (w.alloc (.cells #[.int .u8 (bv y)] 5)) := by
  have hn := Blk.new w (bys [y]) tU8
  refine wpList_append_rows hgd s x ho base v xs.length (bys xs) hs (World.ownsRow.alloc hown _) (some ⟨w.heap.size, 0, none⟩) 1 1 [y] hx hn.rowAt0 rfl (by omega) (by simp; omega) fun v' w' h1 h2 h3 => ?_
  refine h v' w' ?_ (grown_of_alloc h2 (fun k e => (OwnR.lt hown k e).2)) (by simpa using h3)
  unfold OwnR
  rw [List.length_append]
  simpa [bys] using h1
theorem wp_push {o : Oper} {a : Act} {K : Act → World → Prop} {Q : Exit → Act → World → Prop} {w : World} (dd : Option Tmp) (hdd : o.dst = dd) (s x : Operand)
    (ho : o.op = .call { callee := .builtin .append, args := #[s, x], argTypes := #[23, 23] }) (base : Nat)
    (v : Value) (xs : List UInt8) (hs : a.eval s = v) (hown : OwnR base w v xs) (y : UInt8) (hx : a.eval x = .slice (some ⟨w.heap.size, 0, none⟩) 1 1) (hb : xs.length < 140737488355328) (hbase : base ≤ w.heap.size)
    (h : ∀ v' w', OwnR base w' v' (xs ++ [y]) → w.grownBy w' v.ownBlock → (v'.ownBlock = v.ownBlock ∨ v'.ownBlock = some (w.heap.size + 1)) → K (a.put dd v') w') :
    Oper.wp Tryz.prog o a (w.alloc (.cells #[.int .u8 (bv y)] 5)) K Q := by
  have hn := Blk.new w (bys [y]) tU8
  refine wp_append_rows dd hdd s x ho base v xs.length (bys xs) hs (World.ownsRow.alloc hown _) (some ⟨w.heap.size, 0, none⟩) 1 1 [y] hx hn.rowAt0 rfl (by omega) (by simp; omega) fun v' w' h1 h2 h3 => ?_
  refine h v' w' ?_ (grown_of_alloc h2 (fun k e => (OwnR.lt hown k e).2)) (by simpa using h3)
  unfold OwnR
  rw [List.length_append]
  simpa [bys] using h1
/-- An append of a row to an own row. -/
theorem wpList_add {ops : Array Oper} {rest : List Oper} {o : Oper} {a : Act} {Q : Exit → Act → World → Prop} {w : World} (hgd : o.guard = none) (s x : Operand)
    (ho : o.op = .call { callee := .builtin .append, args := #[s, x], argTypes := #[23, 23] }) (base : Nat)
    (v : Value) (xs : List UInt8) (hs : a.eval s = v) (hown : OwnR base w v xs) (pa : Option Addr) (m c : Nat) (Y : List UInt8) (hx : a.eval x = .slice pa m c) (hY : RowAt w pa Y) (hm : Y.length = m) (hb : xs.length + m ≤ 140737488355328) (hbase : base ≤ w.heap.size)
    (h : ∀ v' w', OwnR base w' v' (xs ++ Y) → w.grownBy w' v.ownBlock → (v'.ownBlock = v.ownBlock ∨ v'.ownBlock = some w.heap.size) → wpList Tryz.prog ops Q rest (a.put o.dst v') w') :
    wpList Tryz.prog ops Q (o :: rest) a w := by
  refine wpList_append_rows hgd s x ho base v xs.length (bys xs) hs hown pa m c Y hx hY hm hb hbase fun v' w' h1 h2 h3 => h v' w' ?_ h2 h3
  unfold OwnR
  rw [List.length_append, hm]
  simpa [bys] using h1
theorem wpList_addO {ops : Array Oper} {rest : List Oper} {o : Oper} {a : Act} {Q : Exit → Act → World → Prop} {w : World} {base : Nat} {v : Value} {xs : List UInt8} (hown : OwnR base w v xs) (hgd : o.guard = none) (s x : Operand)
    (ho : o.op = .call { callee := .builtin .append, args := #[s, x], argTypes := #[23, 23] })
    (hs : a.eval s = v) (pa : Option Addr) (m c : Nat) (Y : List UInt8) (hx : a.eval x = .slice pa m c) (hY : RowAt w pa Y) (hm : Y.length = m) (hb : xs.length + m ≤ 140737488355328) (hbase : base ≤ w.heap.size)
    (h : ∀ v' w', OwnR base w' v' (xs ++ Y) → w.grownBy w' v.ownBlock → (v'.ownBlock = v.ownBlock ∨ v'.ownBlock = some w.heap.size) → wpList Tryz.prog ops Q rest (a.put o.dst v') w') :
    wpList Tryz.prog ops Q (o :: rest) a w := wpList_add hgd s x ho base v xs hs hown pa m c Y hx hY hm hb hbase h
theorem wp_add {o : Oper} {a : Act} {K : Act → World → Prop} {Q : Exit → Act → World → Prop} {w : World} (dd : Option Tmp) (hdd : o.dst = dd) (s x : Operand)
    (ho : o.op = .call { callee := .builtin .append, args := #[s, x], argTypes := #[23, 23] }) (base : Nat)
    (v : Value) (xs : List UInt8) (hs : a.eval s = v) (hown : OwnR base w v xs) (pa : Option Addr) (m c : Nat) (Y : List UInt8) (hx : a.eval x = .slice pa m c) (hY : RowAt w pa Y) (hm : Y.length = m) (hb : xs.length + m ≤ 140737488355328) (hbase : base ≤ w.heap.size)
    (h : ∀ v' w', OwnR base w' v' (xs ++ Y) → w.grownBy w' v.ownBlock → (v'.ownBlock = v.ownBlock ∨ v'.ownBlock = some w.heap.size) → K (a.put dd v') w') :
    Oper.wp Tryz.prog o a w K Q := by
  refine wp_append_rows dd hdd s x ho base v xs.length (bys xs) hs hown pa m c Y hx hY hm hb hbase fun v' w' h1 h2 h3 => h v' w' ?_ h2 h3
  unfold OwnR
  rw [List.length_append, hm]
  simpa [bys] using h1
end Go.Proofs.YtnmmnlffobnbfaaGreatDoor
