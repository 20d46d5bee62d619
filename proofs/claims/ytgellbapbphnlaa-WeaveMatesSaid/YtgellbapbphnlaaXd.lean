/- weave and chacha: several texts in one -/
import Derived.Test.YtgellbapbphnlaaXc
import Derived.Test.YtgellbapbphnlaaXk
import Derived.Test.YtgellbapbphnlaaW8
import Derived.Test.YtgellbapbphnlaaWr0
import Derived.ScopeJumps
/- weave: what woven does, in plain numbers and lists -/
namespace Go.Proofs.Ytgellbapbphnlaa
open Go.RowKit

/-- Bytes under a stream. -/
def xf (ks : Nat → UInt8) (b : List UInt8) : List UInt8 := (List.range b.length).map fun i => b.getD i 0 ^^^ ks i
theorem xf_len (ks : Nat → UInt8) (b : List UInt8) : (xf ks b).length = b.length := by simp [xf]
theorem xf_get (ks : Nat → UInt8) (b : List UInt8) (i : Nat) (h : i < b.length) : (xf ks b).getD i 0 = b.getD i 0 ^^^ ks i := by simp [xf, h]
theorem xf_nil (ks : Nat → UInt8) : xf ks [] = [] := rfl
theorem xf_xk (E : List UInt8 → List UInt8) (iv b : List UInt8) : xf (ksb E iv) b = xk E iv 0 b := by
  unfold xf xk
  apply List.map_congr_left
  intro i _
  rw [Nat.zero_add]
theorem xf_xf (ks : Nat → UInt8) (b : List UInt8) : xf ks (xf ks b) = b := by
  apply ext_getD
  · simp [xf]
  · intro j hj
    rw [xf_len, xf_len] at hj
    rw [xf_get _ _ _ (by rw [xf_len]; exact hj), xf_get _ _ _ hj, UInt8.xor_assoc, UInt8.xor_self, UInt8.xor_zero]
/-- One block more. -/
theorem xf_block (ks : Nat → UInt8) (b blk : List UInt8) (size a : Nat) (hl : blk.length = size) (hb : ∀ j, j < size → blk.getD j 0 = ks (size * a + j)) (ha : size * a ≤ b.length) :
    xf ks (b.take (size * a)) ++ List.zipWith (· ^^^ ·) (b.drop (size * a)) blk = xf ks (b.take (size * (a + 1))) := by
  have hm : size * (a + 1) = size * a + size := by rw [Nat.mul_add, Nat.mul_one]
  rw [hm]
  generalize size * a = q at *
  have hl1 : (xf ks (b.take q)).length = q := by rw [xf_len, List.length_take]; omega
  apply ext_getD
  · rw [List.length_append, hl1, List.length_zipWith, xf_len, List.length_take, List.length_drop, hl]; omega
  · intro j hj
    rw [List.length_append, hl1, List.length_zipWith, List.length_drop, hl] at hj
    rw [xf_get _ _ _ (by rw [List.length_take]; omega)]
    have e0 : (b.take (q + size)).getD j 0 = b.getD j 0 := by simp only [List.getD, List.getElem?_take, if_pos (show j < q + size by omega)]
    rw [e0]
    by_cases h : j < q
    · have e1 : (xf ks (b.take q) ++ List.zipWith (· ^^^ ·) (b.drop q) blk).getD j 0 = (xf ks (b.take q)).getD j 0 := by simp only [List.getD, List.getElem?_append_left (show j < (xf ks (b.take q)).length by rw [hl1]; exact h)]
      have e2 : (b.take q).getD j 0 = b.getD j 0 := by simp only [List.getD, List.getElem?_take, if_pos h]
      rw [e1, xf_get _ _ _ (by rw [List.length_take]; omega), e2]
    · have e1 : (xf ks (b.take q) ++ List.zipWith (· ^^^ ·) (b.drop q) blk).getD j 0 = (List.zipWith (· ^^^ ·) (b.drop q) blk).getD (j - q) 0 := by
        simp only [List.getD, List.getElem?_append_right (show (xf ks (b.take q)).length ≤ j by rw [hl1]; omega), hl1]
      have e2 : (List.zipWith (· ^^^ ·) (b.drop q) blk).getD (j - q) 0 = b.getD j 0 ^^^ blk.getD (j - q) 0 := by
        simp only [List.getD, List.getElem?_zipWith, List.getElem?_drop]
        rw [List.getElem?_eq_getElem (show q + (j - q) < b.length by omega), List.getElem?_eq_getElem (show j - q < blk.length by omega), List.getElem?_eq_getElem (show j < b.length by omega)]
        simp only [Option.getD_some]
        congr 2; omega
      rw [e1, e2, hb _ (by omega), show q + (j - q) = j by omega]
/-- How many of the first d threads are text k's. -/
def cntT (T : List (Nat × Nat)) (d k : Nat) : Nat := (T.take d).countP (fun p => p.1 == k)
theorem cntT_zero (T : List (Nat × Nat)) (k : Nat) : cntT T 0 k = 0 := rfl
theorem cntT_succ (T : List (Nat × Nat)) (d k : Nat) (h : d < T.length) : cntT T (d + 1) k = cntT T d k + if T[d].1 = k then 1 else 0 := by
  unfold cntT
  rw [List.take_add_one, List.getElem?_eq_getElem h, List.countP_append]
  by_cases e : T[d].1 = k
  · simp [e]
  · simp [e]
theorem thrAt_fst (size : Nat) (l : List Nat) : ∀ k, ∀ p ∈ thrAt size l k, p.1 < k
  | 0, p, h => by simp [thrAt] at h
  | k + 1, p, h => by
    rw [thrAt, List.mem_append] at h
    rcases h with h | h
    · have := thrAt_fst size l k p h; omega
    · simp only [List.mem_map] at h
      obtain ⟨j, _, rfl⟩ := h
      exact Nat.lt_succ_self _
theorem countP_fst (size : Nat) (l : List Nat) (k t : Nat) (h : k ≤ t) : (thrAt size l k).countP (fun p => p.1 == t) = 0 := by
  rw [List.countP_eq_zero]
  intro p hp
  have := thrAt_fst size l k p hp
  simp; omega
theorem thrAt_at (size : Nat) (hs : 0 < size) (l : List Nat) : ∀ k d (h : d < (thrAt size l k).length), (thrAt size l k)[d].1 < k ∧ (thrAt size l k)[d].2 = cntT (thrAt size l k) d (thrAt size l k)[d].1 ∧ size * (thrAt size l k)[d].2 < l.getD (thrAt size l k)[d].1 0
  | 0, d, h => by simp [thrAt] at h
  | k + 1, d, h => by
    by_cases hd : d < (thrAt size l k).length
    · have ih := thrAt_at size hs l k d hd
      have e : (thrAt size l (k + 1))[d] = (thrAt size l k)[d] := by
        simp only [thrAt]; rw [List.getElem_append_left hd]
      rw [e]
      refine ⟨by omega, ?_, ih.2.2⟩
      rw [ih.2.1]
      unfold cntT
      rw [thrAt, List.take_append_of_le_length (by omega)]
    · have h' := h
      rw [thrAt, List.length_append, List.length_map, List.length_range] at h'
      have e : (thrAt size l (k + 1))[d] = (k, d - (thrAt size l k).length) := by
        simp only [thrAt]; rw [List.getElem_append_right (by omega)]; simp
      rw [e]
      refine ⟨Nat.lt_succ_self _, ?_, ?_⟩
      · unfold cntT
        rw [thrAt, List.take_append, List.countP_append, List.take_of_length_le (by omega), countP_fst size l k k (Nat.le_refl _), ← List.map_take, Nat.zero_add]
        show d - (thrAt size l k).length = _
        rw [List.countP_eq_length.2]
        · rw [List.length_map, List.length_take, List.length_range, Nat.min_eq_left (by omega)]
        · intro p hp
          simp only [List.mem_map] at hp
          obtain ⟨j, _, rfl⟩ := hp
          simp
      · show size * (d - (thrAt size l k).length) < l.getD k 0
        have h2 : d - (thrAt size l k).length < (l.getD k 0 + (size - 1)) / size := by omega
        have h3 := Nat.mul_le_mul_left size (Nat.succ_le_of_lt h2)
        have h4 := Nat.mul_div_le (l.getD k 0 + (size - 1)) size
        rw [Nat.mul_succ] at h3
        omega
theorem thrAt_all (size : Nat) (hs : 0 < size) (l : List Nat) : ∀ k t, t < k → l.getD t 0 ≤ size * (thrAt size l k).countP (fun p => p.1 == t)
  | 0, t, h => by omega
  | k + 1, t, h => by
    rw [thrAt, List.countP_append]
    by_cases e : t = k
    · subst e
      rw [countP_fst size l t t (Nat.le_refl _), Nat.zero_add, List.countP_eq_length.2]
      · rw [List.length_map, List.length_range]
        have h4 := Nat.lt_mul_div_succ (l.getD t 0 + (size - 1)) hs
        rw [Nat.mul_add, Nat.mul_one] at h4
        omega
      · intro p hp
        simp only [List.mem_map] at hp
        obtain ⟨j, _, rfl⟩ := hp
        simp
    · have := thrAt_all size hs l k t (by omega)
      rw [Nat.mul_add]; omega
theorem cntT_all (size : Nat) (hs : 0 < size) (l : List Nat) (n t : Nat) (ht : t < n) (b : List UInt8) (hb : b.length = l.getD t 0) : b.take (size * cntT (thrAt size l n) (thrAt size l n).length t) = b := by
  unfold cntT
  rw [List.take_length]
  exact List.take_of_length_le (by rw [hb]; exact thrAt_all size hs l n t ht)
theorem pairsc_get (l : List (Nat × Nat)) (d : Nat) (h : d < l.length) : (pairsc l)[2 * d]? = some (.int .i64 (l[d].1 : Int)) ∧ (pairsc l)[2 * d + 1]? = some (.int .i64 (l[d].2 : Int)) := by
  induction l generalizing d with
  | nil => simp at h
  | cons p l ih =>
    have e : pairsc (p :: l) = .int .i64 (p.1 : Int) :: .int .i64 (p.2 : Int) :: pairsc l := by simp [pairsc]
    cases d with
    | zero => rw [e]; exact ⟨rfl, rfl⟩
    | succ d =>
      have := ih d (by simpa using h)
      rw [e, show 2 * (d + 1) = 2 * d + 1 + 1 by omega]
      simpa using this
theorem pairsc_len (l : List (Nat × Nat)) : (pairsc l).length = 2 * l.length := by
  induction l with
  | nil => rfl
  | cons p l ih => 
    have e : pairsc (p :: l) = .int .i64 (p.1 : Int) :: .int .i64 (p.2 : Int) :: pairsc l := by simp [pairsc]
    rw [e, List.length_cons, List.length_cons, ih, List.length_cons]; omega
end Go.Proofs.Ytgellbapbphnlaa

/- weave: rows of rows, kept apart; a scope that is a loop; texts in counter mode in a row -/
namespace Go.Proofs.Ytgellbapbphnlaa
open Go.RowKit

abbrev tRows : TypeId := 27
theorem jump_mono {l : Nat} {J J' : Act → World → Prop} {Q : Exit → Act → World → Prop} (hJ : ∀ a w, J a w → J' a w) : ∀ e a w, Exit.jump l J Q e a w → Exit.jump l J' Q e a w := by
  intro e a w h
  cases e with
  | goto l' => exact ⟨h.1, hJ _ _ h.2⟩
  | _ => exact h
/-- A scope that is a loop from its label on. -/
theorem wp_scope_pre {P : Program} {Q : Exit → Act → World → Prop} {a : Act} {w : World} {c X : Code} (l : Nat) (J : Act → World → Prop) (μ : Act → World → Nat) (hf : findLabel c l = some (.seq .skip X))
    (pass : ∀ a w M, J a w → μ a w = M → X.wp P (Exit.jump l (fun a' w' => J a' w' ∧ μ a' w' < M) Q) a w)
    (first : (∀ a w, J a w → X.wp P (Exit.jump l J Q) a w) → c.wp P (Exit.jump l J Q) a w) : (Code.scope c).wp P Q a w :=
  wp_scope_jumps l J μ hf (first fun a w h => wp_mono (pass a w _ h rfl) (jump_mono fun _ _ h => h.1)) (fun a w hj => wp_seq (wp_skip (pass a w _ hj rfl)))

/-- What stands in a slot. -/
def sl (a : Act) (i : Nat) : Value := a.tmps.getD i undef
/-- A slice's length that stands in a slot. -/
def slotLen (i : Nat) (a : Act) (_ : World) : Nat := match a.tmps.getD i undef with | .slice _ m _ => m | _ => 0
/-- Rows of bytes of one's own, kept apart. -/
structure RowsI (base : Nat) (w : World) (vs : List Value) (C : Nat → List UInt8) : Prop where
  row : ∀ k, k < vs.length → OwnR base w (vs.getD k undef) (C k)
  apart : ∀ j k b, j < vs.length → k < vs.length → j ≠ k → (vs.getD j undef).ownBlock = some b → (vs.getD k undef).ownBlock ≠ some b
theorem RowsI.zero (base : Nat) (w : World) (n : Nat) : RowsI base w (List.replicate n (.slice none 0 0)) (fun _ => []) := by
  have e : ∀ k, k < n → (List.replicate n (Value.slice none 0 0)).getD k undef = .slice none 0 0 := fun k hk => by simp [List.getD, hk]
  refine ⟨fun k hk => ?_, fun j k b hj hk _ h => ?_⟩
  · rw [List.length_replicate] at hk
    rw [e k hk]; exact OwnR.nil _ _
  · rw [List.length_replicate] at hj
    rw [e j hj] at h; cases h
theorem RowsI.below {base : Nat} {w w' : World} {vs : List Value} {C : Nat → List UInt8} (h : RowsI base w vs C) (hB : Below w.heap.size w w') : RowsI base w' vs C :=
  ⟨fun k hk => (h.row k hk).below hB, h.apart⟩
theorem RowsI.chg {base : Nat} {w w' : World} {vs : List Value} {C : Nat → List UInt8} {N : Nat} {F : List Nat} (h : RowsI base w vs C) (hc : Chg N F w w') (hN : w.heap.size ≤ N) (hF : ∀ b ∈ F, ∃ cs T, T ≠ tU8 ∧ Blk w b cs T) : RowsI base w' vs C :=
  ⟨fun k hk => (h.row k hk).chg hc hN (fun b e hb => by
    obtain ⟨cs, T, hT, h1⟩ := hF b hb
    obtain ⟨cs2, h2⟩ := (h.row k hk).typ b e
    exact hT (h1.type_eq h2)), h.apart⟩
theorem getD_setAt (vs : List Value) (t k : Nat) (v : Value) (ht : t < vs.length) : (vs.set t v).getD k undef = if k = t then v else vs.getD k undef := by
  by_cases e : k = t
  · subst e; simp [List.getD, ht]
  · rw [if_neg e]; simp [List.getD, Ne.symm e]
theorem RowsI.push {base : Nat} {w w' : World} {vs : List Value} {C : Nat → List UInt8} (h : RowsI base w vs C) (t : Nat) (ht : t < vs.length) (v' : Value) (C' : List UInt8) (hown : OwnR base w' v' C')
    (hg : w.grownBy w' (vs.getD t undef).ownBlock) (hb : v'.ownBlock = (vs.getD t undef).ownBlock ∨ v'.ownBlock = some w.heap.size) : RowsI base w' (vs.set t v') (fun k => if k = t then C' else C k) := by
  have hne : ∀ k b, k < vs.length → k ≠ t → (vs.getD k undef).ownBlock = some b → v'.ownBlock ≠ some b := fun k b hk hkt e e2 => by
    rcases hb with h1 | h1
    · rw [h1] at e2
      exact h.apart k t b hk ht hkt e e2
    · rw [h1] at e2
      have := ((h.row k hk).lt b e).2
      have e2 : w.heap.size = b := Option.some.inj e2
      omega
  refine ⟨fun k hk => ?_, fun j k b hj hk hjk e => ?_⟩
  · rw [List.length_set] at hk
    rw [getD_setAt _ _ _ _ ht]
    by_cases e : k = t
    · rw [if_pos e, if_pos e]; exact hown
    · rw [if_neg e, if_neg e]
      refine (h.row k hk).kept hg ?_
      cases hv : (vs.getD k undef).ownBlock with
      | none => exact .inr rfl
      | some b => exact .inl (fun e2 => h.apart k t b hk ht e hv e2.symm)
  · rw [List.length_set] at hj hk
    rw [getD_setAt _ _ _ _ ht] at e ⊢
    by_cases e1 : k = t
    · rw [if_pos e1]
      rw [if_neg (by omega)] at e
      exact hne j b hj (by omega) e
    · rw [if_neg e1]
      by_cases e2 : j = t
      · rw [if_pos e2] at e
        exact fun e3 => hne k b hk e1 e3 e
      · rw [if_neg e2] at e
        exact h.apart j k b hj hk hjk e
theorem RowsI.congr {base : Nat} {w : World} {vs : List Value} {C C' : Nat → List UInt8} (h : RowsI base w vs C) (e : ∀ k, k < vs.length → C k = C' k) : RowsI base w vs C' :=
  ⟨fun k hk => e k hk ▸ h.row k hk, h.apart⟩
/-- What is no row of bytes and not block g stays. -/
structure KeptT (g : Nat) (w w' : World) : Prop where
  size : w.heap.size ≤ w'.heap.size
  block : ∀ b cs T, b ≠ g → T ≠ tU8 → Blk w b cs T → Blk w' b cs T
theorem KeptT.refl (g : Nat) (w : World) : KeptT g w w := ⟨Nat.le_refl _, fun _ _ _ _ _ h => h⟩
theorem KeptT.below {g : Nat} {w w' w'' : World} (h : KeptT g w w') (hB : Below w'.heap.size w' w'') : KeptT g w w'' :=
  ⟨Nat.le_trans h.size hB.size, fun b cs T hb hT hx => (h.block b cs T hb hT hx).below hB (h.block b cs T hb hT hx).lt⟩
theorem KeptT.grown {g : Nat} {w w' w'' : World} {row : Option Nat} (h : KeptT g w w') (hg : w'.grownBy w'' row) (hr : ∀ b, row = some b → ∃ cs, Blk w' b cs tU8) : KeptT g w w'' :=
  ⟨Nat.le_trans h.size hg.size, fun b cs T hb hT hx => (h.block b cs T hb hT hx).kept hg (fun e => by
    obtain ⟨cs2, h2⟩ := hr b e
    exact hT ((h.block b cs T hb hT hx).type_eq h2))⟩
theorem KeptT.setCell {g : Nat} {w w' : World} (h : KeptT g w w') (o : Nat) (v : Value) : KeptT g w (w'.setCell ⟨g, o, none⟩ v) :=
  ⟨by have := h.size; simpa [World.setCell] using this, fun b cs T hb hT hx => (h.block b cs T hb hT hx).setNe (by simpa using hb) _⟩
theorem KeptT.trans {g : Nat} {a b c : World} (h : KeptT g a b) (k : KeptT g b c) : KeptT g a c :=
  ⟨Nat.le_trans h.size k.size, fun x cs T hx hT hb => k.block x cs T hx hT (h.block x cs T hx hT hb)⟩
theorem owns_blk {w : World} {base size n : Nat} {e : TypeId} {v : Value} {xs : List Value} (h : w.ownsRow base e size v n xs) (hl : 0 < n) : ∃ g cap rest, v = .slice (some ⟨g, 0, none⟩) n cap ∧ n ≤ cap ∧ base ≤ g ∧ Blk w g (xs ++ rest) e := by
  rcases h.2 with ⟨_, h0⟩ | ⟨g, cap, cur, hv, hb, hh, hc, _, _, ht⟩
  · omega
  · refine ⟨g, cap, cur.toList.drop (n * size), hv, hc, hb, ?_⟩
    unfold Blk
    rw [← ht, List.take_append_drop]
    simpa using hh
theorem owns_typ {w : World} {base size n : Nat} {e : TypeId} {v : Value} {xs : List Value} (h : w.ownsRow base e size v n xs) (j : Nat) (he : v.ownBlock = some j) : ∃ cs, Blk w j cs e := by
  rcases h.2 with ⟨hv, _⟩ | ⟨g, cap, cur, hv, _, hh, _⟩
  · rw [hv] at he; cases he
  · rw [hv] at he; cases he
    exact ⟨cur.toList, by unfold Blk; simpa using hh⟩
theorem owns_zero {w : World} {base size : Nat} {e : TypeId} {v : Value} {xs : List Value} (h : w.ownsRow base e size v 0 xs) : ∃ pa cap, v = .slice pa 0 cap := by
  rcases h.2 with ⟨hv, _⟩ | ⟨g, cap, cur, hv, _⟩
  · exact ⟨_, _, hv⟩
  · exact ⟨_, _, hv⟩
theorem rangeAt_below {w w' : World} {b o : Nat} {cs : List Value} (h : w.rangeAt b o cs) (hB : Below w.heap.size w w') (hb : b < w.heap.size) : w'.rangeAt b o cs := fun j v hv => by
  rw [← h j v hv]; simp [World.cell?, hB.block b hb]
/-- The address of a slice's rest. -/
def sfrom (pa : Option Addr) (c k : Nat) : Option Addr := if c = k then pa else pa.map fun x => x.add k
theorem sfrom_row {w : World} {pa : Option Addr} {l : List UInt8} {m c k : Nat} (h : RowAt w pa l) (hl : l.length = m) (hc : m ≤ c) : RowAt w (sfrom pa c k) (l.drop k) := by
  unfold sfrom
  split
  · rename_i e
    rw [List.drop_of_length_le (by omega)]
    exact RowAt.nil _ _
  · intro j hj
    rw [List.length_drop] at hj
    obtain ⟨b, o, e, h1, h2⟩ := h (k + j) (by omega)
    subst e
    refine ⟨b, o + k, by rw [Option.map_some, Addr.add_mid], h1, ?_⟩
    rw [Nat.add_assoc, h2]
    simp [List.getD]
/-- Texts in counter mode, one behind the other. -/
def CtrsAt (w : World) (pa : Option Addr) (l : List CtrV) : Prop :=
  ∀ k (h : k < l.length), CtrOk w l[k] ∧ ∃ b o, pa = some ⟨b, o, none⟩ ∧ b < w.heap.size ∧ w.rangeAt b (o + k * 18) (ctrc l[k])
theorem CtrsAt.below {w w' : World} {pa : Option Addr} {l : List CtrV} (h : CtrsAt w pa l) (hB : Below w.heap.size w w') : CtrsAt w' pa l := fun k hk => by
  obtain ⟨t, b, o, h1, h2, h3⟩ := h k hk
  exact ⟨t.below hB, b, o, h1, Nat.lt_of_lt_of_le h2 hB.size, rangeAt_below h3 hB h2⟩
theorem blocksF_le (size most : Nat) (hs : 0 < size) (l : List Nat) (h : ∀ k, k < l.length → l.getD k 0 ≤ most) : blocksF size l ≤ l.length * (most + size) := by
  induction l with
  | nil => simp [blocksF]
  | cons x l ih =>
    have h0 : x ≤ most := h 0 (by simp)
    have h1 := ih (fun k hk => h (k + 1) (by simpa using hk))
    have h2 : (x + (size - 1)) / size ≤ x + (size - 1) := Nat.div_le_self _ _
    simp only [blocksF, List.length_cons]
    rw [Nat.add_mul, Nat.one_mul]
    omega
theorem thr_range {w : World} {g : Nat} {T : List (Nat × Nat)} {rest : List Value} (h : Blk w g (pairsc T ++ rest) tThr) (d : Nat) (hd : d < T.length) : w.rangeAt g (2 * d) [.int .i64 (T[d].1 : Int), .int .i64 (T[d].2 : Int)] := fun j v hv => by
  obtain ⟨h1, h2⟩ := pairsc_get T d hd
  have hl := pairsc_len T
  have hj : j < 2 := by
    rcases Nat.lt_or_ge j 2 with q | q
    · exact q
    · rw [List.getElem?_eq_none (by simpa using q)] at hv; cases hv
  rw [h.cell, List.getElem?_append_left (by rw [hl]; omega)]
  match j, hv with
  | 0, hv => rw [Nat.add_zero, h1]; exact hv
  | 1, hv => rw [h2]; exact hv
end Go.Proofs.Ytgellbapbphnlaa
