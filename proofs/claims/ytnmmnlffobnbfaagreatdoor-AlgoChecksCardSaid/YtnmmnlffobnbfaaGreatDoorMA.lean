/- Names · Base (joined by merge4.py) -/
import Derived.Test.YtnmmnlffobnbfaaGreatDoorRows
import Derived.WalkKit
import Derived.WalkSpells
import Derived.WalkLawsBesides
import Derived.Deep.QuietTactic
import Derived.BigQuiet
import Derived.StillTailTactics
import Derived.Deep.RegionHeld3
import Derived.LoopN
import Derived.Handy
import Derived.Laws.CopyOwn
import Derived.Laws.Cover3
import Derived.Deep.MidRow
import Derived.Deep.OwnRows
/- the numbers of types, by name -/
namespace Go.Proofs.YtnmmnlffobnbfaaGreatDoor
abbrev tInt : TypeId := 3
abbrev tU8 : TypeId := 5
abbrev tBytes : TypeId := 23
abbrev tA16 : TypeId := 100
abbrev tA4 : TypeId := 190
abbrev tWords : TypeId := 189
abbrev tKeys : TypeId := 208
abbrev tTables : TypeId := 217
end Go.Proofs.YtnmmnlffobnbfaaGreatDoor

/- small words for walks over bytes -/
namespace Go.Proofs.YtnmmnlffobnbfaaGreatDoor
open Go.RowKit

theorem hid {p : Prop} (h : p) : Hid p := h

/-- A byte as the walk's number: closed to simp. -/
def bv (x : UInt8) : Int := x.toNat
abbrev B (x : UInt8) : Value := .int .u8 (bv x)

theorem bv_lo (x : UInt8) : 0 ≤ bv x := by unfold bv; omega
theorem bv_hi (x : UInt8) : bv x < 256 := by unfold bv; have := x.toNat_lt; omega
theorem bv_le (x : UInt8) : bv x ≤ 255 := by have := bv_hi x; omega
theorem bv_inj {x y : UInt8} (h : bv x = bv y) : x = y := by unfold bv at h; exact UInt8.toNat_inj.1 (by omega)
theorem bv_toNat (x : UInt8) : (bv x).toNat = x.toNat := by unfold bv; simp

@[go_sem] theorem b_xor (a b : UInt8) : bits .xor .u8 (bv a) (bv b) = bv (a ^^^ b) := by
  unfold bv; rw [u8_xor_nat _ _ a.toNat_lt b.toNat_lt]; simp
@[go_sem] theorem b_or (a b : UInt8) : bits .or .u8 (bv a) (bv b) = bv (a ||| b) := by
  unfold bv; rw [u8_or_nat _ _ a.toNat_lt b.toNat_lt]; simp
@[go_sem] theorem b_and (a b : UInt8) : bits .and .u8 (bv a) (bv b) = bv (a &&& b) := by
  unfold bv; rw [u8_and_nat _ _ a.toNat_lt b.toNat_lt]; simp
theorem bv_lit (c : Nat) (hc : c < 256) : bv (UInt8.ofNat c) = c := by unfold bv; simp [Nat.mod_eq_of_lt hc]
@[go_sem] theorem b_xor_27 (a : UInt8) : bits .xor .u8 (bv a) 27 = bv (a ^^^ 27) := b_xor a 27
@[go_sem] theorem b_xor_9 (a : UInt8) : bits .xor .u8 (bv a) 9 = bv (a ^^^ 9) := b_xor a 9
@[go_sem] theorem b_xor_99 (a : UInt8) : bits .xor .u8 (bv a) 99 = bv (a ^^^ 99) := b_xor a 99
theorem bv_shl1 (x : UInt8) : bv x * (2 : Int) % (256 : Int) = bv (x <<< 1) := by
  unfold bv; rw [UInt8.toNat_shiftLeft]; simp [Nat.shiftLeft_eq]

@[go_sem] theorem bv_mul2 (x : UInt8) : bv x * (2 : Int) % (256 : Int) = bv (x <<< 1) := bv_shl1 x
@[go_sem] theorem bv_mul4 (x : UInt8) : bv x * (4 : Int) % (256 : Int) = bv (x <<< 2) := by
  unfold bv; rw [UInt8.toNat_shiftLeft]; simp [Nat.shiftLeft_eq]
@[go_sem] theorem bv_mul8 (x : UInt8) : bv x * (8 : Int) % (256 : Int) = bv (x <<< 3) := by
  unfold bv; rw [UInt8.toNat_shiftLeft]; simp [Nat.shiftLeft_eq]
@[go_sem] theorem bv_mul16 (x : UInt8) : bv x * (16 : Int) % (256 : Int) = bv (x <<< 4) := by
  unfold bv; rw [UInt8.toNat_shiftLeft]; simp [Nat.shiftLeft_eq]
@[go_sem] theorem bv_div128 (x : UInt8) : bv x / (128 : Int) = bv (x >>> 7) := by
  unfold bv; rw [UInt8.toNat_shiftRight]; simp [Nat.shiftRight_eq_div_pow]
@[go_sem] theorem bv_div64 (x : UInt8) : bv x / (64 : Int) = bv (x >>> 6) := by
  unfold bv; rw [UInt8.toNat_shiftRight]; simp [Nat.shiftRight_eq_div_pow]
@[go_sem] theorem bv_div32 (x : UInt8) : bv x / (32 : Int) = bv (x >>> 5) := by
  unfold bv; rw [UInt8.toNat_shiftRight]; simp [Nat.shiftRight_eq_div_pow]
@[go_sem] theorem bv_div16 (x : UInt8) : bv x / (16 : Int) = bv (x >>> 4) := by
  unfold bv; rw [UInt8.toNat_shiftRight]; simp [Nat.shiftRight_eq_div_pow]

theorem still_tail' {P : Program} {id : Nat} {Q : Exit → Act → World → Prop} {a : Act} {w : World} {l : List Oper} (n : Nat) (hm : P.follows .mixedOrders = true) (hB : Region.lexTailB .any l.toArray n = true)
    (h : wpStill P l.toArray w.drew (fun a' => wpList P l.toArray Q (l.drop n) a' w.drew) (l.take n) a) : (Code.region id l.toArray true).wp P Q a w :=
  wp_region_still_tail n hm hB h

theorem still_of {P : Program} {f : FuncId} {args : Array Value} {w : World} {v : Value} (h : Calls P f args w fun e w' => e = .returned v ∧ w = w') :
    Calls P f args w fun e w' => e = .returned v ∧ w' = w := h.mono fun _ _ h => ⟨h.1, h.2.symm⟩

/-! ## Blocks known whole -/
/-- Block b is a row of cells that reads cs, none of it frozen. -/
def Blk (w : World) (b : Nat) (cs : List Value) (T : TypeId) : Prop := w.heap[b]? = some (.cells cs.toArray T (0, 0))

theorem Blk.lt {w : World} {b : Nat} {cs : List Value} {T : TypeId} (h : Blk w b cs T) : b < w.heap.size := by
  unfold Blk at h
  rcases Nat.lt_or_ge b w.heap.size with h1 | h1
  · exact h1
  · rw [Array.getElem?_eq_none h1] at h; cases h
theorem Blk.cell {w : World} {b : Nat} {cs : List Value} {T : TypeId} (h : Blk w b cs T) (i : Nat) : w.cell? ⟨b, i, none⟩ = cs[i]? := by
  unfold Blk at h; simp [World.cell?, h]
theorem Blk.cellAt {w : World} {b : Nat} {cs : List Value} {T : TypeId} (h : Blk w b cs T) {i : Nat} {v : Value} (hi : cs[i]? = some v) : w.cell? ⟨b, i, none⟩ = some v := by
  rw [h.cell, hi]
theorem Blk.frozen {w : World} {b : Nat} {cs : List Value} {T : TypeId} (h : Blk w b cs T) (i : Nat) : w.frozen? ⟨b, i, none⟩ = false := by
  unfold Blk at h; simp [World.frozen?, h]
theorem Blk.shape {w : World} {b : Nat} {cs : List Value} {T : TypeId} (h : Blk w b cs T) : w.shape? b = some (T, cs.length) := by
  unfold Blk at h; simp [World.shape?, h]
theorem Blk.set {w : World} {b : Nat} {cs : List Value} {T : TypeId} (h : Blk w b cs T) (i : Nat) (v : Value) : Blk (w.setCell ⟨b, i, none⟩ v) b (cs.set i v) T := by
  unfold Blk at *
  simp [World.setCell, Array.getElem?_modify, h]
theorem Blk.setNe {w : World} {b : Nat} {cs : List Value} {T : TypeId} (h : Blk w b cs T) {a : Addr} (ne : b ≠ a.block) (v : Value) : Blk (w.setCell a v) b cs T := by
  unfold Blk at *; rw [Below.heap_setCell _ _ _ _ ne]; exact h
theorem Blk.drew {w : World} {b : Nat} {cs : List Value} {T : TypeId} (h : Blk w b cs T) : Blk w.drew b cs T := h
theorem Blk.drewN {w : World} {b : Nat} {cs : List Value} {T : TypeId} (h : Blk w b cs T) (n : Nat) : Blk (w.drewN n) b cs T := h
theorem Blk.alloc {w : World} {b : Nat} {cs : List Value} {T : TypeId} (h : Blk w b cs T) (o : Obj) : Blk (w.alloc o) b cs T := by
  have := h.lt
  unfold Blk at *; rw [Below.heap_alloc _ _ _ this]; exact h
theorem Blk.new (w : World) (cs : List Value) (T : TypeId) : Blk (w.alloc (.cells cs.toArray T)) w.heap.size cs T := by
  unfold Blk; exact (MapKept.heap_alloc w _).1
theorem Blk.below {w w' : World} {b N : Nat} {cs : List Value} {T : TypeId} (h : Blk w b cs T) (hb : Below N w w') (hN : b < N) : Blk w' b cs T := by
  unfold Blk at *; rw [hb.block b hN]; exact h
theorem below_drewN {N : Nat} {a w : World} (h : Below N a w) (n : Nat) : Below N a (w.drewN n) := ⟨h.os, h.tape, h.output, h.size, h.block⟩

/-- Bytes as cells. -/
def bys (l : List UInt8) : List Value := l.map fun x => .int .u8 (bv x)
theorem bys_length (l : List UInt8) : (bys l).length = l.length := by simp [bys]
theorem bys_get (l : List UInt8) (i : Nat) (h : i < l.length) : (bys l)[i]? = some (.int .u8 (bv (l.getD i 0))) := by
  simp [bys, List.getElem?_eq_getElem h, List.getD]
theorem bys_set (l : List UInt8) (i : Nat) (x : UInt8) : (bys l).set i (.int .u8 (bv x)) = bys (l.set i x) := by
  simp [bys, List.map_set]

/-- Below block number N, the blocks F left out, the world w' is as w was. -/
structure Chg (N : Nat) (F : List Nat) (w w' : World) : Prop where
  os : w'.os = w.os
  tape : w'.tape = w.tape
  output : w'.output = w.output
  size : w.heap.size ≤ w'.heap.size
  block : ∀ k, k < N → k ∉ F → w'.heap[k]? = w.heap[k]?
theorem Chg.refl (N : Nat) (F : List Nat) (w : World) : Chg N F w w := ⟨rfl, rfl, rfl, Nat.le_refl _, fun _ _ _ => rfl⟩
theorem Chg.trans {N : Nat} {F : List Nat} {a b c : World} (h : Chg N F a b) (k : Chg N F b c) : Chg N F a c :=
  ⟨k.os.trans h.os, k.tape.trans h.tape, k.output.trans h.output, Nat.le_trans h.size k.size, fun i hi hf => (k.block i hi hf).trans (h.block i hi hf)⟩
theorem Chg.mono {N M : Nat} {F G : List Nat} {a b : World} (h : Chg N F a b) (hM : M ≤ N) (hF : ∀ k, k < M → k ∈ F → k ∈ G) : Chg M G a b :=
  ⟨h.os, h.tape, h.output, h.size, fun i hi hf => h.block i (by omega) (fun hm => hf (hF i hi hm))⟩
theorem Chg.below {N M : Nat} {F : List Nat} {a b : World} (h : Chg N F a b) (hM : M ≤ N) (hF : ∀ k, k ∈ F → M ≤ k) : Below M a b :=
  ⟨h.os, h.tape, h.output, h.size, fun i hi => h.block i (by omega) (fun hm => by have := hF i hm; omega)⟩
theorem Chg.ofBelow {N : Nat} {F : List Nat} {a b : World} (h : Below N a b) : Chg N F a b := ⟨h.os, h.tape, h.output, h.size, fun i hi _ => h.block i hi⟩
theorem Chg.drew {N : Nat} {F : List Nat} {a w : World} (h : Chg N F a w) : Chg N F a w.drew := ⟨h.os, h.tape, h.output, h.size, h.block⟩
theorem Chg.drewN {N : Nat} {F : List Nat} {a w : World} (h : Chg N F a w) (n : Nat) : Chg N F a (w.drewN n) := ⟨h.os, h.tape, h.output, h.size, h.block⟩
theorem Chg.alloc {N : Nat} {F : List Nat} {a w : World} (h : Chg N F a w) (hN : N ≤ w.heap.size) (o : Obj) : Chg N F a (w.alloc o) :=
  h.trans (Chg.ofBelow ((Below.refl N w).alloc hN o))
theorem Chg.setCell {N : Nat} {F : List Nat} {a w : World} (h : Chg N F a w) {p : Addr} (hp : p.block ∈ F ∨ N ≤ p.block) (u : Value) : Chg N F a (w.setCell p u) :=
  h.trans ⟨rfl, rfl, rfl, by simp [World.setCell], fun k hk hf => Below.heap_setCell _ _ _ _ (hp.elim (fun hp e => hf (e ▸ hp)) (fun hp => by omega))⟩
theorem Blk.chg {w w' : World} {b N : Nat} {F : List Nat} {cs : List Value} {T : TypeId} (h : Blk w b cs T) (hc : Chg N F w w') (hN : b < N) (hF : b ∉ F) : Blk w' b cs T := by
  unfold Blk at *; rw [hc.block b hN hF]; exact h
theorem Blk.type_eq {w : World} {b : Nat} {cs cs' : List Value} {T T' : TypeId} (h : Blk w b cs T) (h' : Blk w b cs' T') : T = T' := by
  unfold Blk at *; rw [h] at h'; simp at h'; exact h'.2
theorem Blk.ne {w : World} {b b' : Nat} {cs cs' : List Value} {T T' : TypeId} (h : Blk w b cs T) (h' : Blk w b' cs' T') (ht : T ≠ T') : b ≠ b' :=
  fun e => ht (by subst e; exact h.type_eq h')

theorem app_at {α : Type} (d : α) (pre l : List α) (k : Nat) (hp : pre.length = k) : (pre ++ l.drop k).getD k d = l.getD k d := by
  subst hp; simp [List.getD, List.getElem?_append_right, List.getElem?_drop]
theorem app_set {α : Type} (_ v : α) (pre l : List α) (k : Nat) (hp : pre.length = k) (h : k < l.length) : (pre ++ l.drop k).set k v = (pre ++ [v]) ++ l.drop (k + 1) := by
  rw [List.set_append_right _ _ (by omega), hp, Nat.sub_self, List.drop_eq_getElem_cons h, List.set_cons_zero, List.append_assoc]; rfl
theorem take_succ_getD {α : Type} (d : α) (l : List α) (k : Nat) (h : k < l.length) : l.take (k + 1) = l.take k ++ [l.getD k d] := by
  rw [List.take_succ_eq_append_getElem h]; simp [List.getD, List.getElem?_eq_getElem h]

/-! ## Rows of cells, loaded, stored, copied -/
theorem bys_one (l : List UInt8) : ∀ v ∈ bys l, v.oneCell' = true := by
  intro v hv
  simp only [bys, List.mem_map] at hv
  obtain ⟨x, _, rfl⟩ := hv
  rfl
theorem Blk.src {w : World} {b : Nat} {cs : List Value} {T : TypeId} (h : Blk w b cs T) (o n : Nat) : ∀ j v, ((cs.drop o).take n)[j]? = some v → w.cell? ((⟨b, o, none⟩ : Addr).add j) = some v := by
  intro j v hv
  rw [Addr.add_mid, h.cell]
  rw [List.getElem?_take] at hv
  split at hv
  · simpa using hv
  · cases hv
theorem Blk.range {w : World} {b : Nat} {cs : List Value} {T : TypeId} (h : Blk w b cs T) (o n : Nat) : w.rangeAt b o ((cs.drop o).take n) := by
  intro j v hv
  have := h.src o n j v hv
  rwa [Addr.add_mid] at this
theorem Blk.whole {w : World} {b : Nat} {cs : List Value} {T : TypeId} (h : Blk w b cs T) : w.rangeAt b 0 cs := by
  intro j v hv
  rw [Nat.zero_add, h.cell, hv]
theorem Blk.there {w : World} {b : Nat} {cs : List Value} {T : TypeId} (h : Blk w b cs T) (o n : Nat) (hn : o + n ≤ cs.length) : w.there b o n := by
  intro j hj
  refine ⟨?_, h.frozen _⟩
  rw [h.cell, List.getElem?_eq_getElem (by omega)]; rfl
theorem Blk.setRow {w : World} {b : Nat} {cs : List Value} {T : TypeId} (h : Blk w b cs T) (cs' : List Value) : Blk (w.setRow b cs'.toArray) b cs' T := by
  unfold Blk at *; exact setRow_heap w b _ _ _ _ h
theorem Chg.setRow {N : Nat} {F : List Nat} {a w : World} (h : Chg N F a w) {b : Nat} (hp : b ∈ F ∨ N ≤ b) (cs : Array Value) : Chg N F a (w.setRow b cs) :=
  h.trans ⟨rfl, rfl, rfl, by simp [World.setRow], fun k hk hf => setRow_other w b k cs (hp.elim (fun hp e => hf (e ▸ hp)) (fun hp => by omega))⟩
theorem splice_nil {α : Type} (L : List α) (off : Nat) : splice L off [] = L := by simp [splice]
theorem splice_cons {α : Type} (L : List α) (off : Nat) (c : α) (cs : List α) (h : off < L.length) : splice (L.set off c) (off + 1) cs = splice L off (c :: cs) := by
  unfold splice
  rw [List.take_succ_eq_append_getElem (by simpa using h)]
  simp only [List.getElem_set_self, List.length_cons, List.append_assoc, List.cons_append, List.nil_append]
  rw [List.take_set_of_le (Nat.le_refl _), List.drop_set_of_lt (by omega)]
  congr 4; omega
theorem Blk.setCells {w : World} {b : Nat} {cs : List Value} {T : TypeId} (h : Blk w b cs T) : ∀ (vs : List Value) (o : Nat), o + vs.length ≤ cs.length → Blk (w.setCells b o vs) b (splice cs o vs) T := by
  intro vs
  induction vs generalizing w cs with
  | nil => intro o _; rw [splice_nil]; exact h
  | cons v vs ih =>
    intro o ho
    simp only [List.length_cons] at ho
    have := ih (h.set o v) (o + 1) (by simp; omega)
    rw [splice_cons _ _ _ _ (by omega)] at this
    exact this
theorem Chg.setCells {N : Nat} {F : List Nat} {a w : World} (h : Chg N F a w) {b : Nat} (hp : b ∈ F ∨ N ≤ b) : ∀ (vs : List Value) (o : Nat), Chg N F a (w.setCells b o vs) := by
  intro vs
  induction vs generalizing w with
  | nil => intro o; exact h
  | cons v vs ih => intro o; exact ih (h.setCell (p := ⟨b, o, none⟩) hp v) (o + 1)
theorem size_setCells (w : World) (b : Nat) : ∀ (vs : List Value) (o : Nat), (w.setCells b o vs).heap.size = w.heap.size := by
  intro vs
  induction vs generalizing w with
  | nil => intro o; rfl
  | cons v vs ih => intro o; exact (ih (w.setCell ⟨b, o, none⟩ v) (o + 1)).trans (by simp [World.setCell])

theorem wpList_copy_blk {P : Program} {w : World} {ops : Array Oper} {rest : List Oper} {o : Oper} {a : Act} {Q : Exit → Act → World → Prop} (hgd : o.guard = none) (d s : Operand) (dT sT : TypeId)
    (ho : o.op = .call { callee := .builtin .copy, args := #[d, s], argTypes := #[dT, sT] }) (elem : TypeId) (hu : P.underlying dT = some (.slice elem)) (hsz : (P.info? elem).map (·.size) = some 1)
    (g off dLen dCap q qo sLen sCap : Nat) (hd : a.eval d = .slice (some ⟨g, off, none⟩) dLen dCap) (hs : a.eval s = .slice (some ⟨q, qo, none⟩) sLen sCap)
    (cur src : List Value) (t t' : TypeId) (hg : Blk w g cur t) (hq : Blk w q src t') (n : Nat) (hn : n = Nat.min sLen dLen) (hfit : off + n ≤ cur.length) (hqf : qo + n ≤ src.length)
    (h1 : ∀ v ∈ src, v.oneCell' = true)
    (h : ∀ w', Blk w' g (splice cur off ((src.drop qo).take n)) t → Chg w.heap.size [g] w w' → w'.heap.size = w.heap.size → wpList P ops Q rest (a.put o.dst (goInt n)) w') :
    wpList P ops Q (o :: rest) a w := by
  have hl : ((src.drop qo).take n).length = n := by simp; omega
  refine wpList_copy_own hgd d s dT sT ho elem hu hsz g off dLen dCap ⟨q, qo, none⟩ sLen sCap hd hs cur.toArray t hg ((src.drop qo).take n) (by rw [hl]; exact hn) (hq.src qo n) (by rw [hl]; simpa using hfit)
    (fun v hv => h1 v (List.mem_of_mem_drop (List.mem_of_mem_take hv))) ?_
  have := h (w.setRow g (splice cur off ((src.drop qo).take n)).toArray) (hg.setRow _) ((Chg.refl _ _ _).setRow (.inl (by simp)) _) (by simp)
  rw [hl]
  simpa [splice, hl] using this

theorem madeCells_bys (n : Nat) : madeCells #[.int .u8 0] n = (bys (List.replicate n 0)).toArray := by
  apply Array.ext_getElem?
  intro i
  simp only [madeCells, bys, List.map_replicate]
  by_cases h : i < n
  · simp [h, Nat.mod_one, bv]
  · simp [h]

theorem splice_whole {α : Type} (L cs : List α) (h : L.length = cs.length) : splice L 0 cs = cs := by
  unfold splice
  rw [List.take_zero, List.nil_append, List.drop_of_length_le (by omega), List.append_nil]

end Go.Proofs.YtnmmnlffobnbfaaGreatDoor
