/- append of bytes, whatever slice holds them, to an own row of bytes -/
import Derived.Test.YtnmmnlffobnbfaaGreatDoorBits1
import Derived.Maps.AppendAt
import Derived.Deep.Upon
namespace Go.Proofs.YtnmmnlffobnbfaaGreatDoor
open Go.RowKit

theorem RowAt.src {w : World} {pa : Option Addr} {Y : List UInt8} (h : RowAt w pa Y) {b o : Nat} (e : pa = some ⟨b, o, none⟩) : ∀ j u, (bys Y)[j]? = some u → w.cell? ((⟨b, o, none⟩ : Addr).add j) = some u := fun j u hu => by
  have hj : j < Y.length := by
    rcases Nat.lt_or_ge j Y.length with hh | hh
    · exact hh
    · rw [List.getElem?_eq_none (by rw [bys_length]; exact hh)] at hu; cases hu
  obtain ⟨b', o', e', _, hc⟩ := h j hj
  rw [e] at e'
  injection e' with e'; injection e' with e1 e2; subst e1 e2
  rw [Addr.add_mid, hc, ← hu, bys_get Y j hj]
theorem run_append_rows (w : World) (base : Nat) (ty : TypeId) (v : Value) (n : Nat) (xs : List Value) (hown : w.ownsRow base 5 1 v n xs) (pa : Option Addr) (m c : Nat) (Y : List UInt8) (hY : RowAt w pa Y) (hm : Y.length = m) (hb : n + m ≤ 140737488355328) (hbase : base ≤ w.heap.size) :
    ∃ v' w', (Builtin.append_ #[23, 23] ty #[v, .slice pa m c]).run Tryz.prog w = .ok v' w' ∧ w'.ownsRow base 5 1 v' (n + m) (xs ++ bys Y) ∧ w.grownBy w' v.ownBlock ∧ (v'.ownBlock = v.ownBlock ∨ v'.ownBlock = some w.heap.size) := by
  obtain ⟨i, hi, hz, hs, hby⟩ := info_parts info5
  by_cases h0 : m = 0
  · subst h0
    obtain rfl : Y = [] := List.eq_nil_of_length_eq_zero hm
    have hsrc : Src Tryz.prog i.size 23 (.slice pa 0 c) 0 [] w := by
      cases pa with
      | none => exact Src.ofNil w under33b c
      | some a => exact Src.ofSlice w under33b a 0 c [] (by simp) (fun j u hu => by simp at hu) (fun u hu => by simp at hu)
    refine ⟨v, w, ?_, by simpa [bys] using hown, ⟨rfl, rfl, rfl, Nat.le_refl _, fun _ _ _ => rfl⟩, .inl rfl⟩
    rcases hown.2 with ⟨rfl, rfl⟩ | ⟨g, cap, cur, rfl, _, _, hc, _⟩
    · exact run_append_nothing w 23 23 ty 5 i under33b hi none 0 0 (Nat.le_refl _) _ hsrc
    · exact run_append_nothing w 23 23 ty 5 i under33b hi _ n cap hc _ hsrc
  · obtain ⟨b, o, rfl, _, _⟩ := hY 0 (by omega)
    obtain ⟨v', w', hr, h2, h3, _, h5⟩ := run_append_own_at (P := Tryz.prog) w base 23 ty 5 i (.int .u8 0) 1 1 under33b hi hz hs hby rfl (by decide) v n xs hown ⟨b, o, none⟩ m c (bys Y) (by rw [bys_length, hm, Nat.mul_one]) (hY.src rfl) (bys_one _) (by unfold maxLen; omega) (by omega) hbase
    exact ⟨v', w', hr, h2, h3, h5⟩
theorem wpList_append_rows {w : World} {ops : Array Oper} {rest : List Oper} {o : Oper} {a : Act} {Q : Exit → Act → World → Prop} (hgd : o.guard = none) (s x : Operand)
    (ho : o.op = .call { callee := .builtin .append, args := #[s, x], argTypes := #[23, 23] }) (base : Nat)
    (v : Value) (n : Nat) (xs : List Value) (hs : a.eval s = v) (hown : w.ownsRow base 5 1 v n xs) (pa : Option Addr) (m c : Nat) (Y : List UInt8) (hx : a.eval x = .slice pa m c) (hY : RowAt w pa Y) (hm : Y.length = m) (hb : n + m ≤ 140737488355328) (hbase : base ≤ w.heap.size)
    (h : ∀ v' w', w'.ownsRow base 5 1 v' (n + m) (xs ++ bys Y) → w.grownBy w' v.ownBlock → (v'.ownBlock = v.ownBlock ∨ v'.ownBlock = some w.heap.size) → wpList Tryz.prog ops Q rest (a.put o.dst v') w') :
    wpList Tryz.prog ops Q (o :: rest) a w := by
  refine wpList_plain hgd fun K hK => ?_
  obtain ⟨v', w', hr, h2, h3, h5⟩ := run_append_rows w base o.type v n xs hown pa m c Y hY hm hb hbase
  unfold Oper.wp execOp
  simp only [ho, resolve, invoke, builtin, Sem.run_bind, Sem.run_pure, Result.andThen_ok, List.map_toArray, List.map_cons, List.map_nil, hs, hx, hr]
  exact hK _ _ (h v' w' h2 h3 h5)
/-- An own row of bytes, as it may be read. -/
theorem own_rowAt {w : World} {base : Nat} {v : Value} {l : List UInt8} (h : w.ownsRow base 5 1 v l.length (bys l)) : ∃ pa cap, v = .slice pa l.length cap ∧ l.length ≤ cap ∧ RowAt w pa l := by
  rcases h.2 with ⟨hv, h0⟩ | ⟨g, cap, cur, hv, _, hh, hc, _⟩
  · exact ⟨none, 0, by rw [hv, h0], by omega, fun k hk => by omega⟩
  · refine ⟨some ⟨g, 0, none⟩, cap, hv, hc, fun k hk => ⟨g, 0, rfl, ?_, ?_⟩⟩
    · rcases Nat.lt_or_ge g w.heap.size with hlt | hge
      · exact hlt
      · rw [Array.getElem?_eq_none hge] at hh; cases hh
    · have := h.cells (g := g) (by rw [hv]; rfl) k _ (bys_get l k hk)
      rw [Addr.add_mid] at this; exact this
end Go.Proofs.YtnmmnlffobnbfaaGreatDoor
