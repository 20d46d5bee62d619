/- sess: what the walk of SessFresh holds from round to round -/
import Derived.Test.YtoffpchabpfhkaaTb7
import Derived.Test.YtoffpchabpfhkaaTb8
import Derived.Test.YtoffpchabpfhkaaTb9
import Derived.Test.YtoffpchabpfhkaaTb10
import Derived.Maps.AppendAt
namespace Go.Proofs.Ytoffpchabpfhkaa
open Go.RowKit

theorem IntsAt.own {w : World} {base : Nat} {v : Value} {l : List Int} (h : w.ownsRow base 3 1 v l.length (ints l)) : ∃ pa cap, v = .slice pa l.length cap ∧ IntsAt w pa l := by
  rcases h.2 with ⟨hv, h0⟩ | ⟨g, cap, cur, hv, _⟩
  · exact ⟨none, 0, by rw [hv, h0], fun k hk => by omega⟩
  · refine ⟨some ⟨g, 0, none⟩, cap, hv, fun k hk => ⟨g, 0, rfl, ?_⟩⟩
    have := h.cells (g := g) (by rw [hv]; rfl) k (.int .i64 l[k]) (by simp [ints, hk])
    rw [Addr.add_mid] at this; exact this
theorem own_below {w w' : World} {base : Nat} {e : TypeId} {size : Nat} {v : Value} {n : Nat} {xs : List Value} (h : w.ownsRow base e size v n xs) (hB : Below w.heap.size w w') : w'.ownsRow base e size v n xs :=
  h.kept (row := none) ⟨hB.os, hB.tape, hB.output, hB.size, fun k hk _ => hB.block k hk⟩ (by cases v.ownBlock <;> simp)
theorem own_chg {w w' : World} {base : Nat} {e : TypeId} {size : Nat} {v : Value} {n : Nat} {xs : List Value} {pb : Nat} {cs : List Value} {T : TypeId} (h : w.ownsRow base e size v n xs) (hc : Chg w.heap.size [pb] w w') (hb : Blk w pb cs T) (ht : T ≠ e) : w'.ownsRow base e size v n xs := by
  obtain ⟨h1, h2⟩ := h
  refine ⟨h1, ?_⟩
  rcases h2 with h2 | ⟨g, cap, cur, hv, hg, hh, r⟩
  · exact .inl h2
  · refine .inr ⟨g, cap, cur, hv, hg, ?_, r⟩
    have hlt : g < w.heap.size := by
      apply Decidable.byContradiction; intro hge
      have : w.heap[g]? = none := Array.getElem?_eq_none (by omega)
      rw [this] at hh; cases hh
    rw [hc.block g hlt ?_]; · exact hh
    intro hm
    rw [List.mem_singleton] at hm
    subst hm
    unfold Blk at hb
    rw [hh] at hb
    simp at hb
    exact ht hb.2.symm

/-- The state of the walk. -/
structure SF (w wr : World) (n t pb : Nat) (tv gv : Value) (told gone : List Int) (st : List Pl) (k : Nat) : Prop where
  ht : wr.ownsRow w.heap.size 3 1 tv told.length (ints told)
  hg : wr.ownsRow w.heap.size 3 1 gv gone.length (ints gone)
  hd : tv.ownBlock = none ∨ tv.ownBlock ≠ gv.ownBlock
  hT : TabIn wr t pb st
  hI : Inv st n told gone
  hcs : ∀ j, j < n → cl st j ≤ k
  htl : told.length ≤ k
  hgl : gone.length ≤ k
  hB : Below w.heap.size w wr
theorem SF.below {w wr w2 : World} {n t pb : Nat} {tv gv : Value} {told gone : List Int} {st : List Pl} {k : Nat} (h : SF w wr n t pb tv gv told gone st k) (hB : Below wr.heap.size wr w2) : SF w w2 n t pb tv gv told gone st k :=
  ⟨own_below h.ht hB, own_below h.hg hB, h.hd, h.hT.below hB, h.hI, h.hcs, h.htl, h.hgl, h.hB.trans (Below.mono hB h.hB.size)⟩
theorem SF.more {w wr : World} {n t pb : Nat} {tv gv : Value} {told gone : List Int} {st : List Pl} {k : Nat} (h : SF w wr n t pb tv gv told gone st k) : SF w wr n t pb tv gv told gone st (k + 1) :=
  ⟨h.ht, h.hg, h.hd, h.hT, h.hI, fun j hj => by have := h.hcs j hj; omega, by have := h.htl; omega, by have := h.hgl; omega, h.hB⟩
theorem blk_not {w : World} {base : Nat} {v : Value} {n : Nat} {xs cs : List Value} {b : Nat} {T : TypeId} (h : w.ownsRow base 3 1 v n xs) (hb : Blk w b cs T) (ht : T ≠ 3) : v.ownBlock ≠ some b := by
  rcases h.2 with ⟨rfl, _⟩ | ⟨g, cap, cur, rfl, _, hh, _⟩
  · simp [Value.ownBlock]
  · intro e
    simp only [Value.ownBlock, Option.some.injEq] at e
    subst e
    unfold Blk at hb
    rw [hh] at hb
    simp at hb
    exact ht hb.2.symm
theorem Blk.grown {w w' : World} {b : Nat} {cs : List Value} {T : TypeId} (h : Blk w b cs T) {row : Option Nat} (hg : w.grownBy w' row) (hne : row ≠ some b) : Blk w' b cs T := by
  have hl := h.lt
  unfold Blk at *
  rw [hg.block b hl (fun e => hne e.symm)]; exact h
theorem TabIn.grown {w w' : World} {t pb : Nat} {st : List Pl} {base n : Nat} {v : Value} {xs : List Value} (h : TabIn w t pb st) (ho : w.ownsRow base 3 1 v n xs) (hg : w.grownBy w' v.ownBlock) : TabIn w' t pb st :=
  ⟨h.1.grown hg (blk_not ho h.1 (by decide)), h.2.grown hg (blk_not ho h.2 (by decide))⟩
theorem below_grown {w0 w w' : World} {v : Value} {base n : Nat} {xs : List Value} (h : Below base w0 w) (hs : base ≤ w.heap.size) (ho : w.ownsRow base 3 1 v n xs) (hg : w.grownBy w' v.ownBlock) : Below base w0 w' :=
  h.trans ⟨hg.os, hg.tape, hg.output, hg.size, fun k hk => hg.block k (Nat.lt_of_lt_of_le hk hs) (fun e => by have := (ho.lt k e.symm).1; omega)⟩
/-- After Close and Open: the places alone are turned. -/
theorem SF.turned {w wr w2 : World} {n t pb : Nat} {tv gv : Value} {told gone : List Int} {st : List Pl} {k : Nat} (h : SF w wr n t pb tv gv told gone st k) (hpb : w.heap.size ≤ pb) (hc : Chg wr.heap.size [pb] wr w2) :
    w2.ownsRow w.heap.size 3 1 tv told.length (ints told) ∧ w2.ownsRow w.heap.size 3 1 gv gone.length (ints gone) ∧ Below w.heap.size w w2 :=
  ⟨own_chg h.ht hc h.hT.2 (by decide), own_chg h.hg hc h.hT.2 (by decide), h.hB.trans (hc.below h.hB.size (fun k hk => by simp at hk; omega))⟩
theorem ne_new {w : World} {base n : Nat} {v v' u : Value} {xs : List Value} (ho : w.ownsRow base 3 1 u n xs) (hd : u.ownBlock = none ∨ u.ownBlock ≠ v.ownBlock) (ha : v'.ownBlock = v.ownBlock ∨ v'.ownBlock = some w.heap.size) : u.ownBlock = none ∨ u.ownBlock ≠ v'.ownBlock := by
  rcases hd with hd | hd
  · exact .inl hd
  · right
    rcases ha with ha | ha
    · rw [ha]; exact hd
    · rw [ha]; intro e
      have := (ho.lt _ e).2
      omega
theorem flip_ne {u v : Value} (h : u.ownBlock = none ∨ u.ownBlock ≠ v.ownBlock) : v.ownBlock = none ∨ v.ownBlock ≠ u.ownBlock := by
  cases hv : v.ownBlock with
  | none => exact .inl rfl
  | some g =>
    right
    rcases h with h | h
    · rw [h]; simp
    · rw [hv] at h; exact h.symm
/-- A number more among those that were closed. -/
theorem SF.gone {w w2 W w3 : World} {n t pb : Nat} {tv gv gv' : Value} {told gone : List Int} {st : List Pl} {k : Nat} {h : Int}
    (ht : w2.ownsRow w.heap.size 3 1 tv told.length (ints told)) (hg : w2.ownsRow w.heap.size 3 1 gv gone.length (ints gone)) (hd : tv.ownBlock = none ∨ tv.ownBlock ≠ gv.ownBlock) (hT : TabIn w2 t pb st) (hB : Below w.heap.size w w2)
    (hW : w2.alloc (.cells (ints [h]).toArray 3) = W)
    (h1 : w3.ownsRow w.heap.size 3 1 gv' (gone.length + 1) (ints gone ++ ints [h])) (h2 : W.grownBy w3 gv.ownBlock) (h3 : gv'.ownBlock = gv.ownBlock ∨ gv'.ownBlock = some W.heap.size)
    (hI : Inv st n told (gone ++ [h])) (hcs : ∀ j, j < n → cl st j ≤ k) (htl : told.length ≤ k) (hgl : gone.length + 1 ≤ k) : SF w w3 n t pb tv gv' told (gone ++ [h]) st k := by
  have hbl := hB.size
  have hBW : Below w.heap.size w W := by rw [← hW]; exact hB.alloc hbl _
  have hTW : TabIn W t pb st := by rw [← hW]; exact ⟨hT.1.alloc _, hT.2.alloc _⟩
  have htW : W.ownsRow w.heap.size 3 1 tv told.length (ints told) := by rw [← hW]; exact ht.alloc _
  have hgW : W.ownsRow w.heap.size 3 1 gv gone.length (ints gone) := by rw [← hW]; exact hg.alloc _
  exact ⟨htW.kept h2 hd, by simpa [ints] using h1, ne_new htW hd h3, hTW.grown hgW h2, hI, hcs, htl, by simpa using hgl, below_grown hBW hBW.size hgW h2⟩
/-- A number more among those that were told. -/
theorem SF.told {w w2 W w3 : World} {n t pb : Nat} {tv gv tv' : Value} {told gone : List Int} {st : List Pl} {k : Nat} {h : Int}
    (ht : w2.ownsRow w.heap.size 3 1 tv told.length (ints told)) (hg : w2.ownsRow w.heap.size 3 1 gv gone.length (ints gone)) (hd : tv.ownBlock = none ∨ tv.ownBlock ≠ gv.ownBlock) (hT : TabIn w2 t pb st) (hB : Below w.heap.size w w2)
    (hW : w2.alloc (.cells (ints [h]).toArray 3) = W)
    (h1 : w3.ownsRow w.heap.size 3 1 tv' (told.length + 1) (ints told ++ ints [h])) (h2 : W.grownBy w3 tv.ownBlock) (h3 : tv'.ownBlock = tv.ownBlock ∨ tv'.ownBlock = some W.heap.size)
    (hI : Inv st n (told ++ [h]) gone) (hcs : ∀ j, j < n → cl st j ≤ k) (htl : told.length + 1 ≤ k) (hgl : gone.length ≤ k) : SF w w3 n t pb tv' gv (told ++ [h]) gone st k := by
  have hbl := hB.size
  have hBW : Below w.heap.size w W := by rw [← hW]; exact hB.alloc hbl _
  have hTW : TabIn W t pb st := by rw [← hW]; exact ⟨hT.1.alloc _, hT.2.alloc _⟩
  have htW : W.ownsRow w.heap.size 3 1 tv told.length (ints told) := by rw [← hW]; exact ht.alloc _
  have hgW : W.ownsRow w.heap.size 3 1 gv gone.length (ints gone) := by rw [← hW]; exact hg.alloc _
  exact ⟨by simpa [ints] using h1, hgW.kept h2 (flip_ne hd), flip_ne (ne_new hgW (flip_ne hd) h3), hTW.grown htW h2, hI, hcs, by simpa using htl, hgl, below_grown hBW hBW.size htW h2⟩
theorem idx_cases (st : List Pl) : idx st = -1 ∨ ∃ k, k < st.length ∧ idx st = k ∧ op st k = false := by
  have h : ∀ m, m ≤ st.length → (∀ j, j < m → op st j = true) ∨ ∃ k, k < st.length ∧ idx st = k ∧ op st k = false := by
    intro m
    induction m with
    | zero => intro _; exact .inl fun j hj => by omega
    | succ m ih =>
      intro hm
      rcases ih (by omega) with h | h
      · cases ho : op st m with
        | true =>
          left
          intro j hj
          by_cases e : j = m
          · subst e; exact ho
          · exact h j (by omega)
        | false => exact .inr ⟨m, by omega, idx_at st m (by omega) h ho, ho⟩
      · exact .inr h
  rcases h st.length (Nat.le_refl _) with h | h
  · exact .inl (idx_none st h)
  · exact .inr h
end Go.Proofs.Ytoffpchabpfhkaa
