/- single operations: copy, append -/
import Derived.Test.YtnmmnlffobnbfaaGreatDoorRk
import Derived.Test.YtnmmnlffobnbfaaGreatDoorApp
namespace Go.Proofs.YtnmmnlffobnbfaaGreatDoor
open Go.RowKit

theorem wantIt {c : Bool} {p q : Prop} (h : c = true) (hp : p) : if c = true then p else q := by simp [h, hp]
theorem wp_copy_blk {P : Program} {w : World} {o : Oper} {a : Act} {K : Act → World → Prop} {Q : Exit → Act → World → Prop} (dd : Option Tmp) (hdd : o.dst = dd) (d s : Operand) (dT sT : TypeId)
    (ho : o.op = .call { callee := .builtin .copy, args := #[d, s], argTypes := #[dT, sT] }) (elem : TypeId) (hu : P.underlying dT = some (.slice elem)) (hsz : (P.info? elem).map (·.size) = some 1)
    (g off dLen dCap q qo sLen sCap : Nat) (hd : a.eval d = .slice (some ⟨g, off, none⟩) dLen dCap) (hs : a.eval s = .slice (some ⟨q, qo, none⟩) sLen sCap)
    (cur src : List Value) (t t' : TypeId) (hg : Blk w g cur t) (hq : Blk w q src t') (n : Nat) (hn : n = Nat.min sLen dLen) (hfit : off + n ≤ cur.length) (hqf : qo + n ≤ src.length)
    (h1 : ∀ v ∈ src, v.oneCell' = true)
    (h : ∀ w', Blk w' g (splice cur off ((src.drop qo).take n)) t → Chg w.heap.size [g] w w' → w'.heap.size = w.heap.size → K (a.put dd (goInt n)) w') : Oper.wp P o a w K Q := by
  subst hdd
  have hl : ((src.drop qo).take n).length = n := by simp; omega
  have hr := run_copy_row (P := P) w dT sT o.type elem g off dLen dCap ⟨q, qo, none⟩ sLen sCap cur.toArray t ((src.drop qo).take n) hu hsz hg (by rw [hl]; exact hn) (hq.src qo n) (by rw [hl]; simpa using hfit)
    (fun v hv => h1 v (List.mem_of_mem_drop (List.mem_of_mem_take hv)))
  have := h (w.setRow g (splice cur off ((src.drop qo).take n)).toArray) (hg.setRow _) ((Chg.refl _ _ _).setRow (.inl (by simp)) _) (by simp)
  unfold Oper.wp execOp
  simp only [ho, resolve, invoke, builtin, Sem.run_bind, Sem.run_pure, Result.andThen_ok, List.map_toArray, List.map_cons, List.map_nil, hd, hs, hr, Oper.upon]
  simpa [splice, hl] using this
theorem wp_append_rows {w : World} {o : Oper} {a : Act} {K : Act → World → Prop} {Q : Exit → Act → World → Prop} (dd : Option Tmp) (hdd : o.dst = dd) (s x : Operand)
    (ho : o.op = .call { callee := .builtin .append, args := #[s, x], argTypes := #[23, 23] }) (base : Nat)
    (v : Value) (n : Nat) (xs : List Value) (hs : a.eval s = v) (hown : w.ownsRow base 5 1 v n xs) (pa : Option Addr) (m c : Nat) (Y : List UInt8) (hx : a.eval x = .slice pa m c) (hY : RowAt w pa Y) (hm : Y.length = m) (hb : n + m ≤ 140737488355328) (hbase : base ≤ w.heap.size)
    (h : ∀ v' w', w'.ownsRow base 5 1 v' (n + m) (xs ++ bys Y) → w.grownBy w' v.ownBlock → (v'.ownBlock = v.ownBlock ∨ v'.ownBlock = some w.heap.size) → K (a.put dd v') w') : Oper.wp Tryz.prog o a w K Q := by
  subst hdd
  obtain ⟨v', w', hr, h2, h3, h5⟩ := run_append_rows w base o.type v n xs hown pa m c Y hY hm hb hbase
  unfold Oper.wp execOp
  simp only [ho, resolve, invoke, builtin, Sem.run_bind, Sem.run_pure, Result.andThen_ok, List.map_toArray, List.map_cons, List.map_nil, hs, hx, hr]
  exact h v' w' h2 h3 h5
theorem wp_storeD {P : Program} {op : Oper} {a : Act} {w : World} {K : Act → World → Prop} {Q : Exit → Act → World → Prop} (dd : Option Tmp) (hdd : op.dst = dd) (ty : TypeId) (x y : Operand) (ho : op.op = .store ty x y)
    (b o : Nat) (cells : Array Value) (hx : a.eval x = .pointer (some ⟨b, o, none⟩)) (hy : a.eval y = .agg cells)
    (ht : w.there b o cells.size) (hi : (P.info? ty).map (·.size) = some cells.size) (h1 : cells.all (·.oneCell') = true)
    (h : K (a.put dd undef) (w.setCells b o cells.toList)) : op.wp P a w K Q := by
  subst hdd
  exact wp_store_mid ty x y ho b o cells hx hy ht hi h1 h
theorem RowAt.congr {w : World} {pa : Option Addr} {X Y : List UInt8} (h : RowAt w pa X) (e : X = Y) : RowAt w pa Y := e ▸ h
theorem RowAt.nilW (w : World) (pa : Option Addr) : RowAt w pa [] := fun k hk => by simp at hk
/-- The block of a row, if it has one, is none of F. -/
def Off (F : List Nat) (pa : Option Addr) : Prop := ∀ a, pa = some a → a.block ∉ F
theorem RowAt.chg {w w' : World} {pa : Option Addr} {X : List UInt8} {F : List Nat} {N : Nat} (h : RowAt w pa X) (hc : Chg N F w w') (hN : w.heap.size ≤ N) (hF : Off F pa) : RowAt w' pa X := fun k hk => by
  obtain ⟨b, o, h1, h2, h3⟩ := h k hk
  refine ⟨b, o, h1, Nat.lt_of_lt_of_le h2 hc.size, ?_⟩
  have hb := hc.block b (by omega) (hF _ h1)
  have e : w'.cell? ⟨b, o + k, none⟩ = w.cell? ⟨b, o + k, none⟩ := by simp [World.cell?, hb]
  rw [e]; exact h3
theorem RowAt.chgL {w w' : World} {pa : Option Addr} {X : List UInt8} {F : List Nat} {N : Nat} (h : RowAt w pa X) (hc : Chg N F w w') (hN : ∀ a, pa = some a → a.block < N) (hF : Off F pa) : RowAt w' pa X := fun k hk => by
  obtain ⟨b, o, h1, h2, h3⟩ := h k hk
  refine ⟨b, o, h1, Nat.lt_of_lt_of_le h2 hc.size, ?_⟩
  have hb := hc.block b (hN _ h1) (hF _ h1)
  have e : w'.cell? ⟨b, o + k, none⟩ = w.cell? ⟨b, o + k, none⟩ := by simp [World.cell?, hb]
  rw [e]; exact h3
theorem RowAt.drew {w : World} {pa : Option Addr} {X : List UInt8} (h : RowAt w pa X) : RowAt w.drew pa X := h
theorem RowAt.drewN {w : World} {pa : Option Addr} {X : List UInt8} (h : RowAt w pa X) (n : Nat) : RowAt (w.drewN n) pa X := h
theorem RowAt.drop {w : World} {b o : Nat} {l : List UInt8} (h : RowAt w (some ⟨b, o, none⟩) l) (q : Nat) : RowAt w (some ⟨b, o + q, none⟩) (l.drop q) := fun k hk => by
  rw [List.length_drop] at hk
  obtain ⟨b', o', e, h1, h2⟩ := h (q + k) (by omega)
  injection e with e; injection e with e1 e2; subst e1 e2
  refine ⟨b, o + q, rfl, h1, ?_⟩
  rw [Nat.add_assoc, h2]
  simp [List.getD]
theorem RowAt.take {w : World} {pa : Option Addr} {l : List UInt8} (h : RowAt w pa l) (q : Nat) : RowAt w pa (l.take q) := fun k hk => by
  rw [List.length_take] at hk
  obtain ⟨b', o', e, h1, h2⟩ := h k (by omega)
  refine ⟨b', o', e, h1, ?_⟩
  rw [h2]
  simp [List.getD, show k < q by omega]
end Go.Proofs.YtnmmnlffobnbfaaGreatDoor
