/- a map under whole numbers, its entries as they were put -/
import Derived.Test.YtnmmnlffobnbfaaGreatDoorBase
import Derived.MapKept
import Derived.Carry
import Derived.ChangeMaps5
namespace Go.Proofs.YtnmmnlffobnbfaaGreatDoor
open Go.RowKit
open Go.ChangeMaps (setBlock heap_setBlock_same heap_setBlock_other)

def entsFrom : Nat → List (Int × Value) → List MapEntry
  | _, [] => []
  | k, x :: r => ⟨.int .i64 x.1, x.2, k⟩ :: entsFrom (k + 1) r
theorem entsFrom_append (x : Int × Value) : ∀ (l : List (Int × Value)) (k : Nat), entsFrom k (l ++ [x]) = entsFrom k l ++ [⟨.int .i64 x.1, x.2, k + l.length⟩]
  | [], k => rfl
  | y :: r, k => by
    simp only [List.cons_append, entsFrom, List.length_cons]
    rw [entsFrom_append x r (k + 1), show k + 1 + r.length = k + (r.length + 1) by omega]
/-- Block b is a map of these entries. -/
def MapAt (w : World) (b : Nat) (l : List (Int × Value)) : Prop := w.heap[b]? = some (.map (entsFrom 0 l).toArray l.length)
def getM : List (Int × Value) → Int → Option Value
  | [], _ => none
  | x :: r, n => if x.1 = n then some x.2 else getM r n
theorem find_ents (kd : TypeDesc) (q : IntKind) (hkd : kd = .int q) (n : Int) : ∀ (l : List (Int × Value)) (k i : Nat), ∃ o, Instr.findNow kd (.int .i64 n) (entsFrom k l) i = some o ∧ o.map (·.2) = getM l n
  | [], k, i => ⟨none, rfl, rfl⟩
  | x :: r, k, i => by
    subst hkd
    obtain ⟨o, h1, h2⟩ := find_ents (.int q) q rfl n r (k + 1) (i + 1)
    by_cases e : x.1 = n
    · refine ⟨some (i, x.2), ?_, by simp [getM, e]⟩
      simp [entsFrom, Instr.findNow, Instr.sameNow, e]
    · refine ⟨o, ?_, by simp [getM, e, h2]⟩
      have e' : (n == x.1) = false := by simp; omega
      simp [entsFrom, Instr.findNow, Instr.sameNow, e', h1]
section
variable {P : Program} {w : World} {b : Nat} {l : List (Int × Value)} {T K E : TypeId}
theorem MapAt.lt (h : MapAt w b l) : b < w.heap.size := by
  unfold MapAt at h
  rcases Nat.lt_or_ge b w.heap.size with h1 | h1
  · exact h1
  · rw [Array.getElem?_eq_none h1] at h; cases h
theorem MapAt.chg {w' : World} {N : Nat} {F : List Nat} (h : MapAt w b l) (hc : Chg N F w w') (hN : b < N) (hF : b ∉ F) : MapAt w' b l := by
  unfold MapAt at *; rw [hc.block b hN hF]; exact h
theorem MapAt.below {w' : World} {N : Nat} (h : MapAt w b l) (hb : Below N w w') (hN : b < N) : MapAt w' b l := h.chg (F := []) (Chg.ofBelow hb) hN (by simp)
theorem MapAt.alloc (h : MapAt w b l) (o : Obj) : MapAt (w.alloc o) b l := by
  have := h.lt
  unfold MapAt at *; rw [Below.heap_alloc _ _ _ this]; exact h
theorem MapAt.drew (h : MapAt w b l) : MapAt w.drew b l := h
theorem MapAt.made (w : World) : MapAt (w.alloc (.map #[] 0)) w.heap.size [] := (MapKept.heap_alloc w _).1
/-- What a look-up tells. -/
theorem run_look_ents (ht : P.underlying T = some (.map K E)) (q : IntKind) (hk : P.underlying K = some (.int q)) (hq : q = .i64) (c : Bool) {z : Value} (hz : (zeroValue E).run P w = .ok z w) (h : MapAt w b l) (n : Int) :
    (Instr.lookup T (.map (some b)) (.int .i64 n) c).run P w = .ok (match getM l n with | some v => if c then .tuple #[v, .bool true] else v | none => if c then .tuple #[z, .bool false] else z) w := by
  subst hq
  obtain ⟨o, ho, hg⟩ := find_ents (.int .i64) .i64 rfl n l 0 0
  have hf : (Instr.findKey K (.int .i64 n) (entsFrom 0 l).toArray.toList).run P w = .ok o w := MapKept.run_findKey hk (by simpa using ho)
  have hck : (Instr.checkKey (entsFrom 0 l).toArray.isEmpty 10000 K (.int .i64 n)).run P w = .ok () w := MapKept.run_checkKey (n := 9999) hk (by simp [MapKept.IsKey]) _
  rw [← hg]
  cases o with
  | none => simp only [Instr.lookup, Sem.run_bind, run_underlying ht, MapKept.run_getObj_map h, Sem.run_pure, hck, hf, hz, Result.andThen, Option.map]
  | some p => obtain ⟨i, v⟩ := p; simp only [Instr.lookup, Sem.run_bind, run_underlying ht, MapKept.run_getObj_map h, Sem.run_pure, hck, hf, Result.andThen, Option.map]
/-- A new entry. -/
theorem run_put_ents (ht : P.underlying T = some (.map K E)) (q : IntKind) (hk : P.underlying K = some (.int q)) (hq : q = .i64) (h : MapAt w b l) (n : Int) (hn : getM l n = none) (v : Value) :
    (Instr.mapUpdate T (.map (some b)) (.int .i64 n) v).run P w = .ok () (setBlock w b (.map (entsFrom 0 (l ++ [(n, v)])).toArray (l.length + 1))) := by
  subst hq
  obtain ⟨o, ho, hg⟩ := find_ents (.int .i64) .i64 rfl n l 0 0
  have hf : (Instr.findKey K (.int .i64 n) (entsFrom 0 l).toArray.toList).run P w = .ok o w := MapKept.run_findKey hk (by simpa using ho)
  have hck : (Instr.checkKey false 10000 K (.int .i64 n)).run P w = .ok () w := MapKept.run_checkKey (n := 9999) hk (by simp [MapKept.IsKey]) _
  rw [hn] at hg
  cases o with
  | none =>
    rw [entsFrom_append]
    simp [Instr.mapUpdate, run_underlying ht, MapKept.run_getObj_map h, hck, hf, Result.andThen, setBlock, MapKept.run_setObj_map _ h]
  | some p => simp at hg
theorem MapAt.put (h : MapAt w b l) (n : Int) (v : Value) : MapAt (setBlock w b (.map (entsFrom 0 (l ++ [(n, v)])).toArray (l.length + 1))) b (l ++ [(n, v)]) := by
  have := heap_setBlock_same h (.map (entsFrom 0 (l ++ [(n, v)])).toArray (l.length + 1))
  unfold MapAt
  rw [List.length_append]
  exact this
theorem Blk.setBlock {cs : List Value} {g : Nat} {T : TypeId} (hB : Blk w g cs T) (h : MapAt w b l) (o : Obj) : Blk (setBlock w b o) g cs T := by
  have hne : g ≠ b := fun e => by
    subst e; unfold Blk at hB; unfold MapAt at h; rw [hB] at h; simp at h
  unfold Blk at *
  rw [heap_setBlock_other h o hne]; exact hB
theorem Chg.setBlock {N : Nat} {F : List Nat} {a : World} (h : Chg N F a w) (hm : MapAt w b l) (hb : b ∈ F ∨ N ≤ b) (o : Obj) : Chg N F a (setBlock w b o) :=
  h.trans ⟨rfl, rfl, rfl, by simp [ChangeMaps.setBlock], fun k hk hf => heap_setBlock_other hm o (fun e => by
    subst e
    rcases hb with hb | hb
    · exact hf hb
    · omega)⟩
theorem size_setBlock (o : Obj) : (ChangeMaps.setBlock w b o).heap.size = w.heap.size := by simp [ChangeMaps.setBlock]
end
end Go.Proofs.YtnmmnlffobnbfaaGreatDoor
