/- weave: rows of rows, kept apart; a scope that is a loop; texts in counter mode in a row -/
import Derived.Test.YtgellbapbphnlaaW8
import Derived.Test.YtgellbapbphnlaaWq
import Derived.Test.YtgellbapbphnlaaWr0
import Derived.ScopeJumps
namespace Go.Proofs.Ytgellbapbphnlaa
open Go.RowKit

theorem jump_mono {l : Nat} {J J' : Act → World → Prop} {Q : Exit → Act → World → Prop} (hJ : ∀ a w, J a w → J' a w) : ∀ e a w, Exit.jump l J Q e a w → Exit.jump l J' Q e a w := by
  intro e a w h
  cases e with
  | goto l' => exact ⟨h.1, hJ _ _ h.2⟩
  | _ => exact h
/-- A scope that is a loop from its label on. -/
theorem wp_scope_pre {P : Program} {Q : Exit → Act → World → Prop} {a : Act} {w : World} {c X : Code} (l : Nat) (J : Act → World → Prop) (μ : Act → World → Nat) (hf : findLabel c l = some (.seq .skip X))
    (pass : ∀ a w M, J a w → μ a w = M → X.wp P (Exit.jump l (fun a' w' => J a' w' ∧ μ a' w' < M) Q) a w)
    (first : (∀ a w, J a w → X.wp P (Exit.jump l J Q) a w) → c.wp P (Exit.jump l J Q) a w) : (Code.scope c).wp P Q a w :=
  wp_scope_jumps l J μ hf (first fun a w h => wp_mono (pass a w _ h rfl) (jump_mono fun _ _ h => h.1)) (fun a w hj => wp_seq (wp_skip (pass a w _ hj rfl)))

/-- What stands in a slot. -/
def sl (a : Act) (i : Nat) : Value := a.tmps.getD i undef
/-- A slice's length that stands in a slot. -/
def slotLen (i : Nat) (a : Act) (_ : World) : Nat := match a.tmps.getD i undef with | .slice _ m _ => m | _ => 0
/-- Rows of bytes of one's own, kept apart. -/
structure RowsI (base : Nat) (w : World) (vs : List Value) (C : Nat → List UInt8) : Prop where
  row : ∀ k, k < vs.length → OwnR base w (vs.getD k undef) (C k)
  apart : ∀ j k b, j < vs.length → k < vs.length → j ≠ k → (vs.getD j undef).ownBlock = some b → (vs.getD k undef).ownBlock ≠ some b
theorem RowsI.zero (base : Nat) (w : World) (n : Nat) : RowsI base w (List.replicate n (.slice none 0 0)) (fun _ => []) := by
  have e : ∀ k, k < n → (List.replicate n (Value.slice none 0 0)).getD k undef = .slice none 0 0 := fun k hk => by simp [List.getD, hk]
  refine ⟨fun k hk => ?_, fun j k b hj hk _ h => ?_⟩
  · rw [List.length_replicate] at hk
    rw [e k hk]; exact OwnR.nil _ _
  · rw [List.length_replicate] at hj
    rw [e j hj] at h; cases h
theorem RowsI.below {base : Nat} {w w' : World} {vs : List Value} {C : Nat → List UInt8} (h : RowsI base w vs C) (hB : Below w.heap.size w w') : RowsI base w' vs C :=
  ⟨fun k hk => (h.row k hk).below hB, h.apart⟩
theorem RowsI.chg {base : Nat} {w w' : World} {vs : List Value} {C : Nat → List UInt8} {N : Nat} {F : List Nat} (h : RowsI base w vs C) (hc : Chg N F w w') (hN : w.heap.size ≤ N) (hF : ∀ b ∈ F, ∃ cs T, T ≠ tU8 ∧ Blk w b cs T) : RowsI base w' vs C :=
  ⟨fun k hk => (h.row k hk).chg hc hN (fun b e hb => by
    obtain ⟨cs, T, hT, h1⟩ := hF b hb
    obtain ⟨cs2, h2⟩ := (h.row k hk).typ b e
    exact hT (h1.type_eq h2)), h.apart⟩
theorem getD_setAt (vs : List Value) (t k : Nat) (v : Value) (ht : t < vs.length) : (vs.set t v).getD k undef = if k = t then v else vs.getD k undef := by
  by_cases e : k = t
  · subst e; simp [List.getD, ht]
  · rw [if_neg e]; simp [List.getD, Ne.symm e]
theorem RowsI.push {base : Nat} {w w' : World} {vs : List Value} {C : Nat → List UInt8} (h : RowsI base w vs C) (t : Nat) (ht : t < vs.length) (v' : Value) (C' : List UInt8) (hown : OwnR base w' v' C')
    (hg : w.grownBy w' (vs.getD t undef).ownBlock) (hb : v'.ownBlock = (vs.getD t undef).ownBlock ∨ v'.ownBlock = some w.heap.size) : RowsI base w' (vs.set t v') (fun k => if k = t then C' else C k) := by
  have hne : ∀ k b, k < vs.length → k ≠ t → (vs.getD k undef).ownBlock = some b → v'.ownBlock ≠ some b := fun k b hk hkt e e2 => by
    rcases hb with h1 | h1
    · rw [h1] at e2
      exact h.apart k t b hk ht hkt e e2
    · rw [h1] at e2
      have := ((h.row k hk).lt b e).2
      have e2 : w.heap.size = b := Option.some.inj e2
      omega
  refine ⟨fun k hk => ?_, fun j k b hj hk hjk e => ?_⟩
  · rw [List.length_set] at hk
    rw [getD_setAt _ _ _ _ ht]
    by_cases e : k = t
    · rw [if_pos e, if_pos e]; exact hown
    · rw [if_neg e, if_neg e]
      refine (h.row k hk).kept hg ?_
      cases hv : (vs.getD k undef).ownBlock with
      | none => exact .inr rfl
      | some b => exact .inl (fun e2 => h.apart k t b hk ht e hv e2.symm)
  · rw [List.length_set] at hj hk
    rw [getD_setAt _ _ _ _ ht] at e ⊢
    by_cases e1 : k = t
    · rw [if_pos e1]
      rw [if_neg (by omega)] at e
      exact hne j b hj (by omega) e
    · rw [if_neg e1]
      by_cases e2 : j = t
      · rw [if_pos e2] at e
        exact fun e3 => hne k b hk e1 e3 e
      · rw [if_neg e2] at e
        exact h.apart j k b hj hk hjk e
theorem RowsI.congr {base : Nat} {w : World} {vs : List Value} {C C' : Nat → List UInt8} (h : RowsI base w vs C) (e : ∀ k, k < vs.length → C k = C' k) : RowsI base w vs C' :=
  ⟨fun k hk => e k hk ▸ h.row k hk, h.apart⟩
/-- What is no row of bytes and not block g stays. -/
structure KeptT (g : Nat) (w w' : World) : Prop where
  size : w.heap.size ≤ w'.heap.size
  block : ∀ b cs T, b ≠ g → T ≠ tU8 → Blk w b cs T → Blk w' b cs T
theorem KeptT.refl (g : Nat) (w : World) : KeptT g w w := ⟨Nat.le_refl _, fun _ _ _ _ _ h => h⟩
theorem KeptT.below {g : Nat} {w w' w'' : World} (h : KeptT g w w') (hB : Below w'.heap.size w' w'') : KeptT g w w'' :=
  ⟨Nat.le_trans h.size hB.size, fun b cs T hb hT hx => (h.block b cs T hb hT hx).below hB (h.block b cs T hb hT hx).lt⟩
theorem KeptT.grown {g : Nat} {w w' w'' : World} {row : Option Nat} (h : KeptT g w w') (hg : w'.grownBy w'' row) (hr : ∀ b, row = some b → ∃ cs, Blk w' b cs tU8) : KeptT g w w'' :=
  ⟨Nat.le_trans h.size hg.size, fun b cs T hb hT hx => (h.block b cs T hb hT hx).kept hg (fun e => by
    obtain ⟨cs2, h2⟩ := hr b e
    exact hT ((h.block b cs T hb hT hx).type_eq h2))⟩
theorem KeptT.setCell {g : Nat} {w w' : World} (h : KeptT g w w') (o : Nat) (v : Value) : KeptT g w (w'.setCell ⟨g, o, none⟩ v) :=
  ⟨by have := h.size; simpa [World.setCell] using this, fun b cs T hb hT hx => (h.block b cs T hb hT hx).setNe (by simpa using hb) _⟩
theorem KeptT.trans {g : Nat} {a b c : World} (h : KeptT g a b) (k : KeptT g b c) : KeptT g a c :=
  ⟨Nat.le_trans h.size k.size, fun x cs T hx hT hb => k.block x cs T hx hT (h.block x cs T hx hT hb)⟩
theorem owns_blk {w : World} {base size n : Nat} {e : TypeId} {v : Value} {xs : List Value} (h : w.ownsRow base e size v n xs) (hl : 0 < n) : ∃ g cap rest, v = .slice (some ⟨g, 0, none⟩) n cap ∧ n ≤ cap ∧ base ≤ g ∧ Blk w g (xs ++ rest) e := by
  rcases h.2 with ⟨_, h0⟩ | ⟨g, cap, cur, hv, hb, hh, hc, _, _, ht⟩
  · omega
  · refine ⟨g, cap, cur.toList.drop (n * size), hv, hc, hb, ?_⟩
    unfold Blk
    rw [← ht, List.take_append_drop]
    simpa using hh
theorem owns_typ {w : World} {base size n : Nat} {e : TypeId} {v : Value} {xs : List Value} (h : w.ownsRow base e size v n xs) (j : Nat) (he : v.ownBlock = some j) : ∃ cs, Blk w j cs e := by
  rcases h.2 with ⟨hv, _⟩ | ⟨g, cap, cur, hv, _, hh, _⟩
  · rw [hv] at he; cases he
  · rw [hv] at he; cases he
    exact ⟨cur.toList, by unfold Blk; simpa using hh⟩
theorem owns_zero {w : World} {base size : Nat} {e : TypeId} {v : Value} {xs : List Value} (h : w.ownsRow base e size v 0 xs) : ∃ pa cap, v = .slice pa 0 cap := by
  rcases h.2 with ⟨hv, _⟩ | ⟨g, cap, cur, hv, _⟩
  · exact ⟨_, _, hv⟩
  · exact ⟨_, _, hv⟩
theorem rangeAt_below {w w' : World} {b o : Nat} {cs : List Value} (h : w.rangeAt b o cs) (hB : Below w.heap.size w w') (hb : b < w.heap.size) : w'.rangeAt b o cs := fun j v hv => by
  rw [← h j v hv]; simp [World.cell?, hB.block b hb]
/-- The address of a slice's rest. -/
def sfrom (pa : Option Addr) (c k : Nat) : Option Addr := if c = k then pa else pa.map fun x => x.add k
theorem sfrom_row {w : World} {pa : Option Addr} {l : List UInt8} {m c k : Nat} (h : RowAt w pa l) (hl : l.length = m) (hc : m ≤ c) : RowAt w (sfrom pa c k) (l.drop k) := by
  unfold sfrom
  split
  · rename_i e
    rw [List.drop_of_length_le (by omega)]
    exact RowAt.nil _ _
  · intro j hj
    rw [List.length_drop] at hj
    obtain ⟨b, o, e, h1, h2⟩ := h (k + j) (by omega)
    subst e
    refine ⟨b, o + k, by rw [Option.map_some, Addr.add_mid], h1, ?_⟩
    rw [Nat.add_assoc, h2]
    simp [List.getD]
/-- Texts in counter mode, one behind the other. -/
def CtrsAt (w : World) (pa : Option Addr) (l : List CtrV) : Prop :=
  ∀ k (h : k < l.length), CtrOk w l[k] ∧ ∃ b o, pa = some ⟨b, o, none⟩ ∧ b < w.heap.size ∧ w.rangeAt b (o + k * 18) (ctrc l[k])
theorem CtrsAt.below {w w' : World} {pa : Option Addr} {l : List CtrV} (h : CtrsAt w pa l) (hB : Below w.heap.size w w') : CtrsAt w' pa l := fun k hk => by
  obtain ⟨t, b, o, h1, h2, h3⟩ := h k hk
  exact ⟨t.below hB, b, o, h1, Nat.lt_of_lt_of_le h2 hB.size, rangeAt_below h3 hB h2⟩
theorem blocksF_le (size most : Nat) (hs : 0 < size) (l : List Nat) (h : ∀ k, k < l.length → l.getD k 0 ≤ most) : blocksF size l ≤ l.length * (most + size) := by
  induction l with
  | nil => simp [blocksF]
  | cons x l ih =>
    have h0 : x ≤ most := h 0 (by simp)
    have h1 := ih (fun k hk => h (k + 1) (by simpa using hk))
    have h2 : (x + (size - 1)) / size ≤ x + (size - 1) := Nat.div_le_self _ _
    simp only [blocksF, List.length_cons]
    rw [Nat.add_mul, Nat.one_mul]
    omega
theorem thr_range {w : World} {g : Nat} {T : List (Nat × Nat)} {rest : List Value} (h : Blk w g (pairsc T ++ rest) tThr) (d : Nat) (hd : d < T.length) : w.rangeAt g (2 * d) [.int .i64 (T[d].1 : Int), .int .i64 (T[d].2 : Int)] := fun j v hv => by
  obtain ⟨h1, h2⟩ := pairsc_get T d hd
  have hl := pairsc_len T
  have hj : j < 2 := by
    rcases Nat.lt_or_ge j 2 with q | q
    · exact q
    · rw [List.getElem?_eq_none (by simpa using q)] at hv; cases hv
  rw [h.cell, List.getElem?_append_left (by rw [hl]; omega)]
  match j, hv with
  | 0, hv => rw [Nat.add_zero, h1]; exact hv
  | 1, hv => rw [h2]; exact hv
end Go.Proofs.Ytgellbapbphnlaa
