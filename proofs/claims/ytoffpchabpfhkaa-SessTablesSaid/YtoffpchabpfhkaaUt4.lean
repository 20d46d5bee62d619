/- sess: what the walk of SessTables holds from round to round -/
import Derived.Test.YtoffpchabpfhkaaUt3
import Derived.Test.YtoffpchabpfhkaaTb11
namespace Go.Proofs.Ytoffpchabpfhkaa
open Go.RowKit

theorem idx_cases2 (st : List Pl) : (idx st = -1 ∧ ∀ j, j < st.length → (st.getD j (false, 0)).1 = true) ∨ ∃ k, k < st.length ∧ idx st = k ∧ (st.getD k (false, 0)).1 = false ∧ ∀ j, j < k → (st.getD j (false, 0)).1 = true := by
  have h : ∀ m, m ≤ st.length → (∀ j, j < m → (st.getD j (false, 0)).1 = true) ∨ ∃ k, k < st.length ∧ idx st = k ∧ (st.getD k (false, 0)).1 = false ∧ ∀ j, j < k → (st.getD j (false, 0)).1 = true := by
    intro m
    induction m with
    | zero => intro _; exact .inl fun j hj => by omega
    | succ m ih =>
      intro hm
      rcases ih (by omega) with h | h
      · cases ho : (st.getD m (false, 0)).1 with
        | true =>
          left
          intro j hj
          by_cases e : j = m
          · subst e; exact ho
          · exact h j (by omega)
        | false => exact .inr ⟨m, by omega, idx_at st m (by omega) h ho, ho, h⟩
      · exact .inr h
  rcases h st.length (Nat.le_refl _) with h | h
  · exact .inl ⟨idx_none st h, h⟩
  · exact .inr h
theorem hnum_small {st : List Pl} {n k q : Nat} (hl : st.length = n) (hn : n ≤ 64) (hk : k ≤ 100) (hq : q < n) (hc : cl st q ≤ k) : 0 ≤ hnum st q ∧ hnum st q ≤ 1000000 := by
  rw [hnum_eq st n q hl]
  have h2 : n * cl st q ≤ 64 * 100 := Nat.mul_le_mul hn (by omega)
  omega
/-- The state of the walk. -/
structure ST (w wr : World) (n t pb rb : Nat) (tv : Value) (rest : List Value) (told : List Int) (st : List Pl) (k : Nat) : Prop where
  ht : wr.ownsRow w.heap.size 3 1 tv told.length (ints told)
  hT : TabIn wr t pb st
  hR : Blk wr rb (rpl (ref st) ++ rest) tRef
  hlen : st.length = n
  hcs : ∀ j, j < n → cl st j ≤ k
  htl : told.length ≤ k
  hto : ∀ h ∈ told, 0 ≤ h ∧ h ≤ 1000000
  hB : Below w.heap.size w wr
theorem ST.below {w wr w2 : World} {n t pb rb : Nat} {tv : Value} {rest : List Value} {told : List Int} {st : List Pl} {k : Nat} (h : ST w wr n t pb rb tv rest told st k) (hB : Below wr.heap.size wr w2) : ST w w2 n t pb rb tv rest told st k :=
  ⟨own_below h.ht hB, h.hT.below hB, h.hR.below hB h.hR.lt, h.hlen, h.hcs, h.htl, h.hto, h.hB.trans (Below.mono hB h.hB.size)⟩
theorem ST.more {w wr : World} {n t pb rb : Nat} {tv : Value} {rest : List Value} {told : List Int} {st : List Pl} {k : Nat} (h : ST w wr n t pb rb tv rest told st k) : ST w wr n t pb rb tv rest told st (k + 1) :=
  ⟨h.ht, h.hT, h.hR, h.hlen, fun j hj => by have := h.hcs j hj; omega, by have := h.htl; omega, h.hto, h.hB⟩
/-- After the places were turned: what still stands. -/
theorem ST.places {w wr w2 : World} {n t pb rb : Nat} {tv : Value} {rest : List Value} {told : List Int} {st : List Pl} {k : Nat} (h : ST w wr n t pb rb tv rest told st k) (hpb : w.heap.size ≤ pb) (hc : Chg wr.heap.size [pb] wr w2) :
    w2.ownsRow w.heap.size 3 1 tv told.length (ints told) ∧ Blk w2 rb (rpl (ref st) ++ rest) tRef ∧ Below w.heap.size w w2 :=
  ⟨own_chg h.ht hc h.hT.2 (by decide), h.hR.chg hc h.hR.lt (by simp only [List.mem_singleton]; exact h.hR.ne h.hT.2 (by decide)), h.hB.trans (hc.below h.hB.size (fun k hk => by simp at hk; omega))⟩
/-- After the reference's rows were turned, too. -/
theorem st_rows {w w2 w3 : World} {t pb rb : Nat} {tv : Value} {cs : List Value} {told : List Int} {st2 : List Pl} (hrb : w.heap.size ≤ rb)
    (ht : w2.ownsRow w.heap.size 3 1 tv told.length (ints told)) (hT : TabIn w2 t pb st2) (hR : Blk w2 rb cs tRef) (hB : Below w.heap.size w w2) (hc : Chg w2.heap.size [rb] w2 w3) :
    w3.ownsRow w.heap.size 3 1 tv told.length (ints told) ∧ TabIn w3 t pb st2 ∧ Below w.heap.size w w3 :=
  ⟨own_chg ht hc hR (by decide), ⟨hT.1.chg hc hT.1.lt (by simp only [List.mem_singleton]; exact hT.1.ne hR (by decide)), hT.2.chg hc hT.2.lt (by simp only [List.mem_singleton]; exact hT.2.ne hR (by decide))⟩, hB.trans (hc.below hB.size (fun k hk => by simp at hk; omega))⟩
/-- A number more among those that were told. -/
theorem st_told {w w2 W w3 : World} {n t pb rb : Nat} {tv tv' : Value} {rest : List Value} {told : List Int} {st : List Pl} {k : Nat} {h : Int}
    (ht : w2.ownsRow w.heap.size 3 1 tv told.length (ints told)) (hT : TabIn w2 t pb st) (hR : Blk w2 rb (rpl (ref st) ++ rest) tRef) (hB : Below w.heap.size w w2)
    (hW : w2.alloc (.cells (ints [h]).toArray 3) = W)
    (h1 : w3.ownsRow w.heap.size 3 1 tv' (told.length + 1) (ints told ++ ints [h])) (h2 : W.grownBy w3 tv.ownBlock)
    (hl : st.length = n) (hcs : ∀ j, j < n → cl st j ≤ k) (htl : told.length + 1 ≤ k) (hto : ∀ h ∈ told, 0 ≤ h ∧ h ≤ 1000000) (hh : 0 ≤ h ∧ h ≤ 1000000) : ST w w3 n t pb rb tv' rest (told ++ [h]) st k := by
  have hbl := hB.size
  have hBW : Below w.heap.size w W := by rw [← hW]; exact hB.alloc hbl _
  have hTW : TabIn W t pb st := by rw [← hW]; exact ⟨hT.1.alloc _, hT.2.alloc _⟩
  have hRW : Blk W rb (rpl (ref st) ++ rest) tRef := by rw [← hW]; exact hR.alloc _
  have htW : W.ownsRow w.heap.size 3 1 tv told.length (ints told) := by rw [← hW]; exact ht.alloc _
  refine ⟨by simpa [ints] using h1, hTW.grown htW h2, hRW.grown h2 (blk_not htW hRW (by decide)), hl, hcs, by simpa using htl, fun x hx => ?_, below_grown hBW hBW.size htW h2⟩
  rw [List.mem_append, List.mem_singleton] at hx
  rcases hx with hx | rfl
  · exact hto x hx
  · exact hh
theorem cl_set {st : List Pl} {n i k : Nat} {b : Bool} {c : Nat} (hl : st.length = n) (hi : i < n) (hcs : ∀ j, j < n → cl st j ≤ k) (hc : c ≤ k + 1) : ∀ j, j < n → cl (st.set i (b, c)) j ≤ k + 1 := fun j hj => by
  have := hcs j hj
  unfold cl at *
  by_cases e : j = i
  · subst e; rw [getD_set_eq st j (by omega)]; exact hc
  · rw [getD_set_ne st i j e]; omega
end Go.Proofs.Ytoffpchabpfhkaa
