/- Mk · Kd · Ke · Kf · Kg · Dr (joined by merge4.py) -/
import Derived.Test.YtnmmnlffobnbfaaGreatDoorMA
import Derived.MapKept
import Derived.Carry
import Derived.ChangeMaps5
import Derived.Deep.DeepCutAuto
/- a map under whole numbers, its entries as they were put -/
namespace Go.Proofs.YtnmmnlffobnbfaaGreatDoor
open Go.RowKit
open Go.ChangeMaps (setBlock heap_setBlock_same heap_setBlock_other)

def entsFrom : Nat → List (Int × Value) → List MapEntry
  | _, [] => []
  | k, x :: r => ⟨.int .i64 x.1, x.2, k⟩ :: entsFrom (k + 1) r
theorem entsFrom_append (x : Int × Value) : ∀ (l : List (Int × Value)) (k : Nat), entsFrom k (l ++ [x]) = entsFrom k l ++ [⟨.int .i64 x.1, x.2, k + l.length⟩]
  | [], k => rfl
  | y :: r, k => by
    simp only [List.cons_append, entsFrom, List.length_cons]
    rw [entsFrom_append x r (k + 1), show k + 1 + r.length = k + (r.length + 1) by omega]
/-- Block b is a map of these entries. -/
def MapAt (w : World) (b : Nat) (l : List (Int × Value)) : Prop := w.heap[b]? = some (.map (entsFrom 0 l).toArray l.length)
def getM : List (Int × Value) → Int → Option Value
  | [], _ => none
  | x :: r, n => if x.1 = n then some x.2 else getM r n
theorem find_ents (kd : TypeDesc) (q : IntKind) (hkd : kd = .int q) (n : Int) : ∀ (l : List (Int × Value)) (k i : Nat), ∃ o, Instr.findNow kd (.int .i64 n) (entsFrom k l) i = some o ∧ o.map (·.2) = getM l n
  | [], k, i => ⟨none, rfl, rfl⟩
  | x :: r, k, i => by
    subst hkd
    obtain ⟨o, h1, h2⟩ := find_ents (.int q) q rfl n r (k + 1) (i + 1)
    by_cases e : x.1 = n
    · refine ⟨some (i, x.2), ?_, by simp [getM, e]⟩
      simp [entsFrom, Instr.findNow, Instr.sameNow, e]
    · refine ⟨o, ?_, by simp [getM, e, h2]⟩
      have e' : (n == x.1) = false := by simp; omega
      simp [entsFrom, Instr.findNow, Instr.sameNow, e', h1]
section
variable {P : Program} {w : World} {b : Nat} {l : List (Int × Value)} {T K E : TypeId}
theorem MapAt.lt (h : MapAt w b l) : b < w.heap.size := by
  unfold MapAt at h
  rcases Nat.lt_or_ge b w.heap.size with h1 | h1
  · exact h1
  · rw [Array.getElem?_eq_none h1] at h; cases h
theorem MapAt.chg {w' : World} {N : Nat} {F : List Nat} (h : MapAt w b l) (hc : Chg N F w w') (hN : b < N) (hF : b ∉ F) : MapAt w' b l := by
  unfold MapAt at *; rw [hc.block b hN hF]; exact h
theorem MapAt.below {w' : World} {N : Nat} (h : MapAt w b l) (hb : Below N w w') (hN : b < N) : MapAt w' b l := h.chg (F := []) (Chg.ofBelow hb) hN (by simp)
theorem MapAt.alloc (h : MapAt w b l) (o : Obj) : MapAt (w.alloc o) b l := by
  have := h.lt
  unfold MapAt at *; rw [Below.heap_alloc _ _ _ this]; exact h
theorem MapAt.drew (h : MapAt w b l) : MapAt w.drew b l := h
theorem MapAt.made (w : World) : MapAt (w.alloc (.map #[] 0)) w.heap.size [] := (MapKept.heap_alloc w _).1
/-- What a look-up tells. -/
theorem run_look_ents (ht : P.underlying T = some (.map K E)) (q : IntKind) (hk : P.underlying K = some (.int q)) (hq : q = .i64) (c : Bool) {z : Value} (hz : (zeroValue E).run P w = .ok z w) (h : MapAt w b l) (n : Int) :
    (Instr.lookup T (.map (some b)) (.int .i64 n) c).run P w = .ok (match getM l n with | some v => if c then .tuple #[v, .bool true] else v | none => if c then .tuple #[z, .bool false] else z) w := by
  subst hq
  obtain ⟨o, ho, hg⟩ := find_ents (.int .i64) .i64 rfl n l 0 0
  have hf : (Instr.findKey K (.int .i64 n) (entsFrom 0 l).toArray.toList).run P w = .ok o w := MapKept.run_findKey hk (by simpa using ho)
  have hck : (Instr.checkKey (entsFrom 0 l).toArray.isEmpty 10000 K (.int .i64 n)).run P w = .ok () w := MapKept.run_checkKey (n := 9999) hk (by simp [MapKept.IsKey]) _
  rw [← hg]
  cases o with
  | none => simp only [Instr.lookup, Sem.run_bind, run_underlying ht, MapKept.run_getObj_map h, Sem.run_pure, hck, hf, hz, Result.andThen, Option.map]
  | some p => obtain ⟨i, v⟩ := p; simp only [Instr.lookup, Sem.run_bind, run_underlying ht, MapKept.run_getObj_map h, Sem.run_pure, hck, hf, Result.andThen, Option.map]
/-- A new entry. -/
theorem run_put_ents (ht : P.underlying T = some (.map K E)) (q : IntKind) (hk : P.underlying K = some (.int q)) (hq : q = .i64) (h : MapAt w b l) (n : Int) (hn : getM l n = none) (v : Value) :
    (Instr.mapUpdate T (.map (some b)) (.int .i64 n) v).run P w = .ok () (setBlock w b (.map (entsFrom 0 (l ++ [(n, v)])).toArray (l.length + 1))) := by
  subst hq
  obtain ⟨o, ho, hg⟩ := find_ents (.int .i64) .i64 rfl n l 0 0
  have hf : (Instr.findKey K (.int .i64 n) (entsFrom 0 l).toArray.toList).run P w = .ok o w := MapKept.run_findKey hk (by simpa using ho)
  have hck : (Instr.checkKey false 10000 K (.int .i64 n)).run P w = .ok () w := MapKept.run_checkKey (n := 9999) hk (by simp [MapKept.IsKey]) _
  rw [hn] at hg
  cases o with
  | none =>
    rw [entsFrom_append]
    simp [Instr.mapUpdate, run_underlying ht, MapKept.run_getObj_map h, hck, hf, Result.andThen, setBlock, MapKept.run_setObj_map _ h]
  | some p => simp at hg
theorem MapAt.put (h : MapAt w b l) (n : Int) (v : Value) : MapAt (setBlock w b (.map (entsFrom 0 (l ++ [(n, v)])).toArray (l.length + 1))) b (l ++ [(n, v)]) := by
  have := heap_setBlock_same h (.map (entsFrom 0 (l ++ [(n, v)])).toArray (l.length + 1))
  unfold MapAt
  rw [List.length_append]
  exact this
theorem Blk.setBlock {cs : List Value} {g : Nat} {T : TypeId} (hB : Blk w g cs T) (h : MapAt w b l) (o : Obj) : Blk (setBlock w b o) g cs T := by
  have hne : g ≠ b := fun e => by
    subst e; unfold Blk at hB; unfold MapAt at h; rw [hB] at h; simp at h
  unfold Blk at *
  rw [heap_setBlock_other h o hne]; exact hB
theorem Chg.setBlock {N : Nat} {F : List Nat} {a : World} (h : Chg N F a w) (hm : MapAt w b l) (hb : b ∈ F ∨ N ≤ b) (o : Obj) : Chg N F a (setBlock w b o) :=
  h.trans ⟨rfl, rfl, rfl, by simp [ChangeMaps.setBlock], fun k hk hf => heap_setBlock_other hm o (fun e => by
    subst e
    rcases hb with hb | hb
    · exact hf hb
    · omega)⟩
theorem size_setBlock (o : Obj) : (ChangeMaps.setBlock w b o).heap.size = w.heap.size := by simp [ChangeMaps.setBlock]
end
end Go.Proofs.YtnmmnlffobnbfaaGreatDoor

/- the algorithms' kinds, and which of them may be -/
namespace Go.Proofs.YtnmmnlffobnbfaaGreatDoor
open Go.RowKit

abbrev tKind : TypeId := 89
abbrev tSpan : TypeId := 86
abbrev tKinds : TypeId := 90
abbrev fv (f : FuncId) : Value := .func (.func f) #[] #[]
/-- A kind's cells. -/
abbrev kindV (cls : Int) (one : Bool) (key : Value) (i0 i1 aad : Int) (room do_ : FuncId) : Value :=
  .agg #[.int .i64 cls, .bool one, key, .int .i64 i0, .int .i64 i1, .int .i64 aad, fv room, fv do_]
abbrev sl1 (b : Nat) : Value := .slice (some ⟨b, 0, none⟩) 1 1
abbrev sl2 (b : Nat) : Value := .slice (some ⟨b, 0, none⟩) 2 2
def kindsL (g k1 k2 : Nat) : List (Int × Value) :=
  [(1, kindV 1 true (sl1 k1) 0 0 0 74 75),
   (2, kindV 1 true (sl1 k2) 0 0 0 74 77),
   (3, kindV 2 false (sl2 g) 16 16 0 79 80),
   (4, kindV 3 false (sl2 g) 16 16 0 84 85),
   (5, kindV 4 false (sl2 g) 1 64 1000 89 90),
   (6, kindV 5 false (.slice (some ⟨g, 2, none⟩) 1 1) 12 12 1000 89 94)]
abbrev ints' (l : List Int) : List Value := l.map (fun x => .int .i64 x)
theorem underK : Tryz.prog.underlying tKinds = some (.map 3 tKind) := by kernel_rfl
theorem wpList_insert {P : Program} {ops : Array Oper} {rest : List Oper} {o : Oper} {a : Act} {Q : Exit → Act → World → Prop} {w : World} (T K E : TypeId) (hT : P.underlying T = some (.map K E)) (q : IntKind) (hk : P.underlying K = some (.int q)) (hq : q = .i64)
    (b : Nat) (l : List (Int × Value)) (hmap : MapAt w b l) (hg : o.guard = none) (m x v : Operand) (hop : o.op = Op.insert T m x v) (hm : a.eval m = .map (some b)) (n : Int) (hx : a.eval x = .int .i64 n) (val : Value) (hv : a.eval v = val) (hn : getM l n = none)
    (hK : ∀ w', MapAt w' b (l ++ [(n, val)]) → Chg w.heap.size [b] w w' → w'.heap.size = w.heap.size → (∀ g cs T', Blk w g cs T' → Blk w' g cs T') → wpList P ops Q rest (a.put o.dst undef) w') :
    wpList P ops Q (o :: rest) a w := by
  refine wpList_plain hg fun K' hK' => ?_
  have hr := run_put_ents hT q hk hq hmap n hn val
  unfold Oper.wp
  simp [execOp, hop, hm, hx, hv, hr, Result.andThen]
  exact hK' _ _ (hK _ (hmap.put n val) ((Chg.refl _ _ w).setBlock hmap (.inl (by simp)) _) (size_setBlock _) (fun g cs T' hB => hB.setBlock hmap _))
theorem fk : Tryz.prog.underlying 3 = some (.int .i64) := Tryz.underlying3

set_option maxRecDepth 100000 in
set_option maxHeartbeats 4000000 in
theorem kinds_any (w : World) :
    Calls Tryz.prog 44 #[] w fun e w' => ∃ b g k1 k2, e = .returned (.map (some b)) ∧ MapAt w' b (kindsL g k1 k2) ∧ Blk w' g (ints' [16, 16, 32, 32]) tSpan ∧ Blk w' k1 (ints' [0, 0]) tSpan ∧ Blk w' k2 (ints' [1, 100]) tSpan ∧ Below w.heap.size w w' := by
  have hmm := @run_makeMap Tryz.prog
  have b0 := Blk.new w (ints' [16, 16, 32, 32]) tSpan
  obtain ⟨wa, hwa⟩ : ∃ wa, w.alloc (.cells (ints' [16, 16, 32, 32]).toArray tSpan) = wa := ⟨_, rfl⟩
  rw [hwa] at b0
  have hBa : Below w.heap.size w wa := hwa ▸ (Below.refl _ _).alloc (Nat.le_refl _) _
  have hsa : wa.heap.size = w.heap.size + 1 := by rw [← hwa]; simp
  have hm0 := (MapAt.made wa).alloc (.cells (ints' [0, 0]).toArray tSpan)
  have b1 := Blk.new (wa.alloc (.map #[] 0)) (ints' [0, 0]) tSpan
  have hsm : (wa.alloc (.map #[] 0)).heap.size = w.heap.size + 1 + 1 := by simp [hsa]
  rw [hsa] at hm0
  rw [hsm] at b1
  have b0' := (b0.alloc (.map #[] 0)).alloc (.cells (ints' [0, 0]).toArray tSpan)
  have hBb : Below w.heap.size w ((wa.alloc (.map #[] 0)).alloc (.cells (ints' [0, 0]).toArray tSpan)) := (hBa.alloc (by omega) _).alloc (by omega) _
  have hsb : ((wa.alloc (.map #[] 0)).alloc (.cells (ints' [0, 0]).toArray tSpan)).heap.size = w.heap.size + 1 + 1 + 1 := by simp [hsa]
  have HWA := hid hwa
  clear hwa hsm b0
  go_enter Tryz.func44, Tryz.ntmps44
  go_upto_region 2 with (fail)
  change Code.wp _ _ _ _ (w.alloc (.cells (ints' [16, 16, 32, 32]).toArray tSpan))
  rw [HWA.out]
  clear HWA
  go_wp2_with (refine wpList_insert tKinds 3 tKind underK .i64 fk rfl _ [] hm0 rfl _ _ _ rfl rfl 1 rfl _ rfl rfl ?_)
  intro w1 m1 c1 s1 t1
  have hs1 : w1.heap.size = w.heap.size + 1 + 1 + 1 := s1
  have k0 := t1 _ _ _ b0'
  have k1 := t1 _ _ _ b1
  have hB1 : Below w.heap.size w w1 := hBb.trans (c1.below (by omega) (fun k hk => by simp at hk; omega))
  clear hm0 c1 s1 t1 hsb hBb b1 b0' hsa hBa
  have m1' := m1.alloc (.cells (ints' [1, 100]).toArray tSpan)
  have k0' := k0.alloc (.cells (ints' [1, 100]).toArray tSpan)
  have k1' := k1.alloc (.cells (ints' [1, 100]).toArray tSpan)
  have k2' := Blk.new w1 (ints' [1, 100]) tSpan
  rw [hs1] at k2'
  have hB1' : Below w.heap.size w (w1.alloc (.cells (ints' [1, 100]).toArray tSpan)) := hB1.alloc (by omega) _
  clear m1 k0 k1 hB1
  go_wp2_with (refine wpList_insert tKinds 3 tKind underK .i64 fk rfl _ _ m1' rfl _ _ _ rfl rfl 2 rfl _ rfl rfl ?_)
  intro w2 m2 c2 s2 t2
  have j0 := t2 _ _ _ k0'
  have j1 := t2 _ _ _ k1'
  have j2 := t2 _ _ _ k2'
  have hB2 : Below w.heap.size w w2 := hB1'.trans (c2.below (by omega) (fun k hk => by simp at hk; omega))
  clear hB1' c2 s2 t2 k0' k1' k2' m1'
  go_wp2_with (refine wpList_insert tKinds 3 tKind underK .i64 fk rfl _ _ m2 rfl _ _ _ rfl rfl 3 rfl _ rfl rfl ?_)
  intro w3 m3 c3 s3 t3
  have i0 := t3 _ _ _ j0
  have i1 := t3 _ _ _ j1
  have i2 := t3 _ _ _ j2
  have hB3 : Below w.heap.size w w3 := hB2.trans (c3.below hB2.size (fun k hk => by simp at hk; omega))
  clear hB2 c3 s3 t3 j0 j1 j2 m2
  go_wp2_with (refine wpList_insert tKinds 3 tKind underK .i64 fk rfl _ _ m3 rfl _ _ _ rfl rfl 4 rfl _ rfl rfl ?_)
  intro w4 m4 c4 s4 t4
  have j0 := t4 _ _ _ i0
  have j1 := t4 _ _ _ i1
  have j2 := t4 _ _ _ i2
  have hB4 : Below w.heap.size w w4 := hB3.trans (c4.below hB3.size (fun k hk => by simp at hk; omega))
  clear hB3 c4 s4 t4 i0 i1 i2 m3
  go_wp2_with (refine wpList_insert tKinds 3 tKind underK .i64 fk rfl _ _ m4 rfl _ _ _ rfl rfl 5 rfl _ rfl rfl ?_)
  intro w5 m5 c5 s5 t5
  have i0 := t5 _ _ _ j0
  have i1 := t5 _ _ _ j1
  have i2 := t5 _ _ _ j2
  have hB5 : Below w.heap.size w w5 := hB4.trans (c5.below hB4.size (fun k hk => by simp at hk; omega))
  clear hB4 c5 s5 t5 j0 j1 j2 m4
  go_wp2_with (refine wpList_insert tKinds 3 tKind underK .i64 fk rfl _ _ m5 rfl _ _ _ rfl rfl 6 rfl _ rfl rfl ?_)
  intro w6 m6 c6 s6 t6
  have j0 := t6 _ _ _ i0
  have j1 := t6 _ _ _ i1
  have j2 := t6 _ _ _ i2
  have hB6 : Below w.heap.size w w6 := hB5.trans (c6.below hB5.size (fun k hk => by simp at hk; omega))
  clear hB5 c6 s6 t6 i0 i1 i2 m5
  go_wp2_with fail
  go_ret
  exact ⟨_, _, _, _, rfl, m6, j0, j1, j2, hB6⟩
end Go.Proofs.YtnmmnlffobnbfaaGreatDoor

/- which params may be: algo.Check -/
namespace Go.Proofs.YtnmmnlffobnbfaaGreatDoor
open Go.RowKit

abbrev noKindC : List Value := [.int .i64 0, .bool false, .slice none 0 0, .int .i64 0, .int .i64 0, .int .i64 0, .nilFunc, .nilFunc]
abbrev noKind : Value := .agg noKindC.toArray
abbrev kindC (cls : Int) (one : Bool) (key : Value) (i0 i1 aad : Int) (room do_ : FuncId) : List Value :=
  [.int .i64 cls, .bool one, key, .int .i64 i0, .int .i64 i1, .int .i64 aad, fv room, fv do_]
theorem zeroK (W : World) : (zeroValue tKind).run Tryz.prog W = .ok noKind W := by kernel_rfl
theorem sizeK : (Tryz.prog.info? tKind).map (·.size) = some 8 := by kernel_rfl
theorem results_cell_two {P : Program} {fn : Func} {p q : Tmp} {ty : TypeId} (h : fn.results = #[.cell p ty, .tmp q]) (tmps : Array Value) (w : World) (g : Nat) (t : TypeId) (cs : Array Value) (fr : Nat × Nat) (d : TypeDesc) (u : Value)
    (hp : tmps.getD p undef = .pointer (some ⟨g, 0, none⟩)) (hq : tmps.getD q undef = u) (hg : w.heap[g]? = some (.cells cs t fr))
    (hu : P.underlying ty = some d) (hd : (match d with | .struct _ | .array _ _ => true | _ => false) = true) (hi : (P.info? ty).map (·.size) = some cs.size) :
    (results fn tmps).run P w = .ok (.tuple #[.agg cs, u]) w := by
  have hp' : tmps[p]?.getD undef = .pointer (some ⟨g, 0, none⟩) := by simpa using hp
  have hq' : tmps[q]?.getD undef = u := by simpa using hq
  simp [results, h, hp', hq', asAddr, run_loadVar_row w g t ty cs fr d hg hu hd hi]
theorem setWhole {w : World} {b : Nat} {old new : List Value} {T : TypeId} (h : Blk w b old T) (ho : new.length = old.length) : Blk (w.setCells b 0 new) b new T ∧ Chg w.heap.size [b] w (w.setCells b 0 new) := by
  have h1 := h.setCells new 0 (by omega)
  rw [splice_whole _ _ (by omega)] at h1
  exact ⟨h1, (Chg.refl _ _ w).setCells (.inl (by simp)) _ _⟩
theorem kOne (cls : Int) (one : Bool) (key : Value) (i0 i1 aad : Int) (room do_ : FuncId) (hk : key.oneCell' = true) : ∀ v ∈ kindC cls one key i0 i1 aad room do_, v.oneCell' = true := by
  intro v hv
  simp only [List.mem_cons, List.not_mem_nil, or_false] at hv
  rcases hv with rfl | rfl | rfl | rfl | rfl | rfl | rfl | rfl <;> first | rfl | exact hk
theorem noOne : ∀ v ∈ noKindC, v.oneCell' = true := by
  intro v hv
  simp only [List.mem_cons, List.not_mem_nil, or_false] at hv
  rcases hv with rfl | rfl | rfl | rfl | rfl | rfl | rfl | rfl <;> rfl
set_option maxRecDepth 100000 in
set_option maxHeartbeats 4000000 in
theorem found_some (w : World) (alg : Int) (op one : Bool) (cls i0 i1 aad : Int) (key : Nat → Nat → Nat → Value) (hko : ∀ g k1 k2, (key g k1 k2).oneCell' = true) (room do_ : FuncId) (h : ∀ g k1 k2, getM (kindsL g k1 k2) alg = some (kindV cls one (key g k1 k2) i0 i1 aad room do_)) :
    Calls Tryz.prog 57 #[.int .i64 alg, .bool op] w fun e w' => ∃ g k1 k2, e = .returned (if (op && one) = true then .tuple #[noKind, .int .i64 4] else .tuple #[.agg (kindC cls one (key g k1 k2) i0 i1 aad room do_).toArray, .int .i64 0]) ∧ Blk w' g (ints' [16, 16, 32, 32]) tSpan ∧ Blk w' k1 (ints' [0, 0]) tSpan ∧ Blk w' k2 (ints' [1, 100]) tSpan ∧ Below w.heap.size w w' := by
  have hz0 := Blk.new w noKindC tKind
  have hBz : Below w.heap.size w (w.alloc (.cells noKindC.toArray tKind)) := (Below.refl _ _).alloc (Nat.le_refl _) _
  have hsz : (w.alloc (.cells noKindC.toArray tKind)).heap.size = w.heap.size + 1 := by simp
  obtain ⟨wa, hwa⟩ : ∃ wa, w.alloc (.cells noKindC.toArray tKind) = wa := ⟨_, rfl⟩
  rw [hwa] at hz0 hBz hsz
  have HWA := hid hwa
  clear hwa
  go_enter Tryz.func57, Tryz.ntmps57
  go_wp2_with fail
  change Calls _ _ _ (w.alloc (.cells noKindC.toArray tKind)) _
  rw [HWA.out]
  clear HWA
  refine (kinds_any _).mono ?_
  rintro e w1 ⟨b, g, k1, k2, rfl, hm, h0, h1, h2, hB⟩
  have hl := run_look_ents underK .i64 fk rfl true (zeroK w1) hm alg
  rw [h g k1 k2] at hl
  simp only [if_true] at hl
  change _ = Result.ok (Value.tuple #[.agg (kindC cls one (key g k1 k2) i0 i1 aad room do_).toArray, .bool true]) w1 at hl
  have h10 := hz0.below hB hz0.lt
  have hB1 : Below w.heap.size w w1 := hBz.trans (hB.mono (by omega))
  have hgt : w.heap.size < w1.heap.size := by have := h10.lt; omega
  have hk1 := kOne cls one (key g k1 k2) i0 i1 aad room do_ (hko g k1 k2)
  obtain ⟨kk, hkk⟩ : ∃ kk, key g k1 k2 = kk := ⟨_, rfl⟩
  rw [hkk] at hk1 hl
  have HKK := hid hkk
  clear hkk
  have hN := Blk.new w1 noKindC tKind
  have g0 := h0.alloc (.cells noKindC.toArray tKind)
  have g1 := h1.alloc (.cells noKindC.toArray tKind)
  have g2 := h2.alloc (.cells noKindC.toArray tKind)
  have g10 := h10.alloc (.cells noKindC.toArray tKind)
  have hB2 : Below w.heap.size w (w1.alloc (.cells noKindC.toArray tKind)) := hB1.alloc hB1.size _
  have hn0 : g ≠ w1.heap.size := by have := h0.lt; omega
  have hn1 : k1 ≠ w1.heap.size := by have := h1.lt; omega
  have hn2 : k2 ≠ w1.heap.size := by have := h2.lt; omega
  have ht := hN.there 0 8 (Nat.le_refl _)
  have hs2 : (w1.alloc (.cells noKindC.toArray tKind)).heap.size = w1.heap.size + 1 := by simp
  obtain ⟨w2, hw2⟩ : ∃ w2, w1.alloc (.cells noKindC.toArray tKind) = w2 := ⟨_, rfl⟩
  rw [hw2] at hN g0 g1 g2 g10 hB2 hs2
  obtain ⟨hN3, hC3⟩ := setWhole hN (new := kindC cls one kk i0 i1 aad room do_) rfl
  have f0 := g0.chg hC3 g0.lt (by simpa using hn0)
  have f1 := g1.chg hC3 g1.lt (by simpa using hn1)
  have f2 := g2.chg hC3 g2.lt (by simpa using hn2)
  have f10 := g10.chg hC3 g10.lt (by simp; omega)
  have hB3 := hB2.trans (hC3.below hB2.size (fun k hk => by simp at hk; omega))
  have hs3 := (size_setCells w2 w1.heap.size (kindC cls one kk i0 i1 aad room do_) 0).trans hs2
  obtain ⟨w3, hw3⟩ : ∃ w3, w2.setCells w1.heap.size 0 (kindC cls one kk i0 i1 aad room do_) = w3 := ⟨_, rfl⟩
  rw [hw3] at hN3 f0 f1 f2 f10 hB3 hs3
  clear h0 h1 h2 h10 g0 g1 g2 g10 hC3 hB2 hB hBz hz0 hN hm
  have c1 : w3.cell? ⟨w1.heap.size, 1, none⟩ = some (.bool one) := hN3.cell 1
  have HW2 := hid hw2
  have HW3 := hid hw3
  clear hw2 hw3
  go_upto_region 2 with (refine wpList_store_mid rfl tKind (.tmp 6) (.tmp 12) rfl w1.heap.size 0 (kindC cls one kk i0 i1 aad room do_).toArray rfl rfl ht sizeK (all_oneCell_toArray hk1) ?_; change wpList _ _ _ _ _ ((w1.alloc (.cells noKindC.toArray tKind)).setCells w1.heap.size 0 (kindC cls one kk i0 i1 aad room do_)); rw [HW2.out, HW3.out]; clear HW2 HW3 ht)
  have Htt := hid (f10.there 0 8 (Nat.le_refl _))
  have Hall := hid hN3.whole
  have F10 := hid f10
  have e0 : g ≠ w.heap.size := f0.ne f10 (by decide)
  have e1 : k1 ≠ w.heap.size := f1.ne f10 (by decide)
  have e2 : k2 ≠ w.heap.size := f2.ne f10 (by decide)
  clear f10 hN3
  cases op
  · go_upto_region 4 with (fail)
    refine wp_region_list ?_
    refine wpList_load_mid rfl tKind (.tmp 6) rfl w1.heap.size 0 rfl (kindC cls one kk i0 i1 aad room do_) _ Hall.out Tryz.underlying89 rfl sizeK ?_
    refine wpList_store_mid rfl tKind (.tmp 4) (.tmp 24) rfl w.heap.size 0 (kindC cls one kk i0 i1 aad room do_).toArray rfl rfl Htt.out sizeK (all_oneCell_toArray hk1) ?_
    obtain ⟨hN4, hC4⟩ := setWhole F10.out (new := kindC cls one kk i0 i1 aad room do_) rfl
    change wpList _ _ _ _ _ (w3.setCells w.heap.size 0 (kindC cls one kk i0 i1 aad room do_))
    generalize w3.setCells w.heap.size 0 (kindC cls one kk i0 i1 aad room do_) = w4 at *
    go_wp2_with fail
    refine bodyPost_ret (results_cell_two (P := Tryz.prog) (p := 4) (q := 5) (ty := tKind) rfl _ _ w.heap.size tKind _ (0, 0) _ (.int .i64 0) rfl rfl hN4 Tryz.underlying89 rfl sizeK) rfl ⟨g, k1, k2, by rw [HKK.out], f0.chg hC4 f0.lt (by simpa using e0), f1.chg hC4 f1.lt (by simpa using e1), f2.chg hC4 f2.lt (by simpa using e2), hB3.trans (hC4.below hB3.size (fun k hk => by simp at hk; omega))⟩
  · cases one
    · go_upto_region 4 with (fail)
      refine wp_region_list ?_
      refine wpList_load_mid rfl tKind (.tmp 6) rfl w1.heap.size 0 rfl (kindC cls false kk i0 i1 aad room do_) _ Hall.out Tryz.underlying89 rfl sizeK ?_
      refine wpList_store_mid rfl tKind (.tmp 4) (.tmp 24) rfl w.heap.size 0 (kindC cls false kk i0 i1 aad room do_).toArray rfl rfl Htt.out sizeK (all_oneCell_toArray hk1) ?_
      obtain ⟨hN4, hC4⟩ := setWhole F10.out (new := kindC cls false kk i0 i1 aad room do_) rfl
      change wpList _ _ _ _ _ (w3.setCells w.heap.size 0 (kindC cls false kk i0 i1 aad room do_))
      generalize w3.setCells w.heap.size 0 (kindC cls false kk i0 i1 aad room do_) = w4 at *
      go_wp2_with fail
      refine bodyPost_ret (results_cell_two (P := Tryz.prog) (p := 4) (q := 5) (ty := tKind) rfl _ _ w.heap.size tKind _ (0, 0) _ (.int .i64 0) rfl rfl hN4 Tryz.underlying89 rfl sizeK) rfl ⟨g, k1, k2, by rw [HKK.out], f0.chg hC4 f0.lt (by simpa using e0), f1.chg hC4 f1.lt (by simpa using e1), f2.chg hC4 f2.lt (by simpa using e2), hB3.trans (hC4.below hB3.size (fun k hk => by simp at hk; omega))⟩
    · go_upto_region 3 with (fail)
      go_wp2_with (refine wpList_store_mid rfl tKind (.tmp 4) (.tmp 23) rfl w.heap.size 0 (noKindC).toArray rfl rfl Htt.out sizeK (all_oneCell_toArray noOne) ?_; obtain ⟨hN4, hC4⟩ := setWhole F10.out (new := noKindC) rfl; change wpList _ _ _ _ _ (w3.setCells w.heap.size 0 (noKindC)); generalize w3.setCells w.heap.size 0 (noKindC) = w4 at *)
      refine bodyPost_ret (results_cell_two (P := Tryz.prog) (p := 4) (q := 5) (ty := tKind) rfl _ _ w.heap.size tKind _ (0, 0) _ (.int .i64 4) rfl rfl hN4 Tryz.underlying89 rfl sizeK) rfl ⟨rfl, ⟨g, f0.chg hC4 f0.lt (by simpa using e0)⟩, ⟨k1, f1.chg hC4 f1.lt (by simpa using e1)⟩, ⟨k2, f2.chg hC4 f2.lt (by simpa using e2)⟩, hB3.trans (hC4.below hB3.size (fun k hk => by simp at hk; omega))⟩
set_option maxRecDepth 100000 in
set_option maxHeartbeats 4000000 in
theorem found_none (w : World) (alg : Int) (op : Bool) (h : ∀ g k1 k2, getM (kindsL g k1 k2) alg = none) :
    Calls Tryz.prog 57 #[.int .i64 alg, .bool op] w fun e w' => e = .returned (.tuple #[noKind, .int .i64 4]) ∧ Below w.heap.size w w' := by
  have hz0 := Blk.new w noKindC tKind
  have hBz : Below w.heap.size w (w.alloc (.cells noKindC.toArray tKind)) := (Below.refl _ _).alloc (Nat.le_refl _) _
  have hsz : (w.alloc (.cells noKindC.toArray tKind)).heap.size = w.heap.size + 1 := by simp
  obtain ⟨wa, hwa⟩ : ∃ wa, w.alloc (.cells noKindC.toArray tKind) = wa := ⟨_, rfl⟩
  rw [hwa] at hz0 hBz hsz
  have HWA := hid hwa
  clear hwa
  go_enter Tryz.func57, Tryz.ntmps57
  go_wp2_with fail
  change Calls _ _ _ (w.alloc (.cells noKindC.toArray tKind)) _
  rw [HWA.out]
  clear HWA
  refine (kinds_any _).mono ?_
  rintro e w1 ⟨b, g, k1, k2, rfl, hm, h0, h1, h2, hB⟩
  have hl := run_look_ents underK .i64 fk rfl true (zeroK w1) hm alg
  rw [h g k1 k2] at hl
  simp only [if_true] at hl
  have h10 := hz0.below hB hz0.lt
  have hB1 : Below w.heap.size w w1 := hBz.trans (hB.mono (by omega))
  have hgt : w.heap.size < w1.heap.size := by have := h10.lt; omega
  clear h0 h1 h2 hm hz0 hB hBz
  have hN := Blk.new w1 noKindC tKind
  have g10 := h10.alloc (.cells noKindC.toArray tKind)
  have hB2 : Below w.heap.size w (w1.alloc (.cells noKindC.toArray tKind)) := hB1.alloc hB1.size _
  have ht := hN.there 0 8 (Nat.le_refl _)
  obtain ⟨w2, hw2⟩ : ∃ w2, w1.alloc (.cells noKindC.toArray tKind) = w2 := ⟨_, rfl⟩
  rw [hw2] at hN g10 hB2
  obtain ⟨hN3, hC3⟩ := setWhole hN (new := noKindC) rfl
  have f10 := g10.chg hC3 g10.lt (by simp; omega)
  have hB3 := hB2.trans (hC3.below hB2.size (fun k hk => by simp at hk; omega))
  obtain ⟨w3, hw3⟩ : ∃ w3, w2.setCells w1.heap.size 0 noKindC = w3 := ⟨_, rfl⟩
  rw [hw3] at hN3 f10 hB3
  clear g10 hC3 hB2 hN h10
  have HW2 := hid hw2
  have HW3 := hid hw3
  clear hw2 hw3
  go_upto_region 2 with (refine wpList_store_mid rfl tKind (.tmp 6) (.tmp 12) rfl w1.heap.size 0 noKindC.toArray rfl rfl ht sizeK (all_oneCell_toArray noOne) ?_; change wpList _ _ _ _ _ ((w1.alloc (.cells noKindC.toArray tKind)).setCells w1.heap.size 0 noKindC); rw [HW2.out, HW3.out]; clear HW2 HW3 ht)
  have Htt := hid (f10.there 0 8 (Nat.le_refl _))
  have F10 := hid f10
  clear f10 hN3 hl
  go_upto_region 3 with (fail)
  go_wp2_with (refine wpList_store_mid rfl tKind (.tmp 4) (.tmp 23) rfl w.heap.size 0 (noKindC).toArray rfl rfl Htt.out sizeK (all_oneCell_toArray noOne) ?_; obtain ⟨hN4, hC4⟩ := setWhole F10.out (new := noKindC) rfl; change wpList _ _ _ _ _ (w3.setCells w.heap.size 0 (noKindC)); generalize w3.setCells w.heap.size 0 (noKindC) = w4 at *)
  refine bodyPost_ret (results_cell_two (P := Tryz.prog) (p := 4) (q := 5) (ty := tKind) rfl _ _ w.heap.size tKind _ (0, 0) _ (.int .i64 4) rfl rfl hN4 Tryz.underlying89 rfl sizeK) rfl ⟨rfl, hB3.trans (hC4.below hB3.size (fun k hk => by simp at hk; omega))⟩
end Go.Proofs.YtnmmnlffobnbfaaGreatDoor

/- which params may be: algo.in, algo.Check -/
namespace Go.Proofs.YtnmmnlffobnbfaaGreatDoor
open Go.RowKit

def inF (sp : List (Int × Int)) (n : Int) : Bool := sp.any fun s => decide (s.1 ≤ n) && decide (n ≤ s.2)
def SpAt (w : World) (g o : Nat) (sp : List (Int × Int)) : Prop := g < w.heap.size ∧ ∀ k, k < sp.length → w.cell? ⟨g, o + k * 2, none⟩ = some (.int .i64 (sp.getD k (0, 0)).1) ∧ w.cell? ⟨g, o + k * 2 + 1, none⟩ = some (.int .i64 (sp.getD k (0, 0)).2)
theorem SpAt.below {w w' : World} {g o : Nat} {sp : List (Int × Int)} {N : Nat} (h : SpAt w g o sp) (hB : Below N w w') (hN : g < N) : SpAt w' g o sp := by
  refine ⟨Nat.lt_of_lt_of_le h.1 hB.size, fun k hk => ?_⟩
  have hb := hB.block g hN
  have e : ∀ i, w'.cell? ⟨g, i, none⟩ = w.cell? ⟨g, i, none⟩ := fun i => by simp [World.cell?, hb]
  rw [e, e]; exact h.2 k hk

set_option maxRecDepth 100000 in
set_option maxHeartbeats 2000000 in
theorem in1_any (w : World) (a b n : Int) (nb : Nat) (hn : w.cell? ⟨nb, 0, none⟩ = some (.int .i64 n)) (hnb : nb < w.heap.size) :
    Calls Tryz.prog 114 #[.agg #[.int .i64 a, .int .i64 b], .pointer (some ⟨nb, 0, none⟩)] w fun e w' => e = .returned (.bool (decide (a ≤ n) && decide (n ≤ b))) ∧ Below w.heap.size w w' := by
  have hB : Below w.heap.size w (w.alloc (.cells #[.int .i64 a, .int .i64 b] tSpan)) := (Below.refl _ _).alloc (Nat.le_refl _) _
  have hn2 : (w.alloc (.cells #[.int .i64 a, .int .i64 b] tSpan)).cell? ⟨nb, 0, none⟩ = some (.int .i64 n) := by
    have e := Below.heap_alloc w (.cells #[.int .i64 a, .int .i64 b] tSpan) nb hnb
    have e2 : (w.alloc (.cells #[.int .i64 a, .int .i64 b] tSpan)).cell? ⟨nb, 0, none⟩ = w.cell? ⟨nb, 0, none⟩ := by simp [World.cell?, e]
    rw [e2]; exact hn
  clear hn
  have HB := hid hB
  clear hB
  by_cases h1 : a ≤ n
  · by_cases h2 : n ≤ b
    · go_enter Tryz.func114, Tryz.ntmps114
      go_wp2_with fail
      go_ret
      exact ⟨by simp [h1, h2], HB.out⟩
    · go_enter Tryz.func114, Tryz.ntmps114
      go_wp2_with fail
      go_ret
      exact ⟨by simp [h2], HB.out⟩
  · go_enter Tryz.func114, Tryz.ntmps114
    go_wp2_with fail
    go_ret
    exact ⟨by rw [show decide (a ≤ n) = false from decide_eq_false (by omega)]; rfl, HB.out⟩

set_option maxRecDepth 100000 in
set_option maxHeartbeats 2000000 in
theorem idxsp_any (w : World) (g o m cap nb : Nat) (n : Int) (sp : List (Int × Int)) (hs : SpAt w g o sp) (hm : sp.length = m) (h9 : m ≤ 64) (hn : w.cell? ⟨nb, 0, none⟩ = some (.int .i64 n)) (hnb : nb < w.heap.size) :
    Calls Tryz.prog 161 #[.slice (some ⟨g, o, none⟩) m cap, .func (.func 114) #[] #[.pointer (some ⟨nb, 0, none⟩)]] w fun e w' => ∃ j : Int, e = .returned (.int .i64 j) ∧ (decide (0 ≤ j)) = inF sp n ∧ Below w.heap.size w w' := by
  have Hm := hid hm
  go_enter Tryz.func161, Tryz.ntmps161
  go_wp2_with fail
  go_loopw [8] (fun i wr => ∃ k : Nat, k ≤ m ∧ i = .int .i64 k ∧ inF (sp.take k) n = false ∧ Below w.heap.size w wr) (fun i _ => m - (intOf i).toNat)
  case atStart => exact ⟨0, by omega, rfl, rfl, Below.refl _ _⟩
  case round =>
    obtain ⟨k, hk, rfl, hall, hB⟩ := hrel
    have Hall := hid hall
    clear hall
    by_cases hlt : k < m
    · have hsk := hs.below hB hs.1
      obtain ⟨c0, c1⟩ := hsk.2 k (by rw [Hm.out]; exact hlt)
      have htk := hid (show sp.take (k + 1) = sp.take k ++ [sp.getD k (0, 0)] by rw [List.take_add_one]; simp [List.getD, List.getElem?_eq_getElem (show k < sp.length by rw [Hm.out]; exact hlt)])
      have hsp := hid (show sp = sp.take k ++ [sp.getD k (0, 0)] ++ sp.drop (k + 1) by rw [← htk.out]; exact (List.take_append_drop _ _).symm)
      obtain ⟨p, hp⟩ : ∃ p, sp.getD k (0, 0) = p := ⟨_, rfl⟩
      have Hp := hid hp
      rw [hp] at c0 c1
      clear hp
      obtain ⟨a, b⟩ := p
      have hnk : wr.cell? ⟨nb, 0, none⟩ = some (.int .i64 n) := by
        have hb := hB.block nb hnb
        have e : wr.cell? ⟨nb, 0, none⟩ = w.cell? ⟨nb, 0, none⟩ := by simp [World.cell?, hb]
        rw [e]; exact hn
      go_wp2_with fail
      refine (in1_any _ a b n nb hnk (Nat.lt_of_lt_of_le hnb hB.size)).mono ?_
      rintro e w' ⟨rfl, hB2⟩
      have hB3 := hB.trans (Below.mono hB2 hB.size)
      obtain ⟨q, hq⟩ : ∃ q, (decide (a ≤ n) && decide (n ≤ b)) = q := ⟨_, rfl⟩
      rw [hq]
      have Hq := hid hq
      clear hq
      cases q
      · go_wp2_with fail
        go_roundw
        case rel =>
          refine ⟨k + 1, by omega, by go_num, ?_, hB3⟩
          have := Hall.out
          unfold inF at this ⊢
          rw [htk.out, List.any_append, this, Hp.out]
          simpa using Hq.out
        case measure => simp [intOf]; omega
      · go_wp2_with fail
        go_ret
        refine ⟨_, rfl, ?_, hB3⟩
        have : inF sp n = true := by
          unfold inF
          rw [hsp.out, List.any_append, List.any_append, Hp.out]
          have := Hq.out
          simp only [List.any_cons, this]
          simp
        rw [this]
        simp
    · obtain rfl : k = m := by omega
      have e : sp.take k = sp := List.take_of_length_le (by rw [Hm.out]; omega)
      go_wp2_with fail
      go_ret
      refine ⟨_, rfl, ?_, hB⟩
      have := Hall.out
      rw [e] at this
      rw [this]; rfl

set_option maxRecDepth 100000 in
set_option maxHeartbeats 2000000 in
theorem in_any (w : World) (g o m cap : Nat) (n : Int) (sp : List (Int × Int)) (hs : SpAt w g o sp) (hm : sp.length = m) (h9 : m ≤ 64) :
    Calls Tryz.prog 58 #[.int .i64 n, .slice (some ⟨g, o, none⟩) m cap] w fun e w' => e = .returned (.bool (inF sp n)) ∧ Below w.heap.size w w' := by
  have hb := Blk.new w [.int .i64 n] tInt
  have hB : Below w.heap.size w (w.alloc (.cells [.int .i64 n].toArray tInt)) := (Below.refl _ _).alloc (Nat.le_refl _) _
  have hs2 := hs.below hB hs.1
  have hsz : (w.alloc (.cells [.int .i64 n].toArray tInt)).heap.size = w.heap.size + 1 := by simp
  have HI := hid (idxsp_any _ g o m cap w.heap.size n sp hs2 hm h9 (hb.cell 0) hb.lt)
  have Hs := hid hsz
  clear hsz hs2 hb hs
  go_enter Tryz.func58, Tryz.ntmps58
  go_wp2_with fail
  go_enter Tryz.func113, Tryz.ntmps113
  go_wp2_with fail
  refine HI.out.mono ?_
  rintro e w2 ⟨j, rfl, hj, hB2⟩
  have HJ := hid hj
  clear hj
  go_wp2_with fail
  go_ret
  exact ⟨by rw [← HJ.out]; rfl, hB.trans (hB2.mono (by rw [Hs.out]; omega))⟩

/-- How many bytes a key, an IV, an aad may have: the errors in their order. -/
def checkF (alg : Int) (op : Bool) (k v a : Nat) : Nat :=
  if alg < 1 ∨ 6 < alg ∨ (op = true ∧ alg ≤ 2) then 4
  else if ¬ (if alg = 1 then k = 0 else if alg = 2 then 1 ≤ k ∧ k ≤ 100 else if alg = 6 then k = 32 else k = 16 ∨ k = 32) then 5
  else if ¬ (if alg ≤ 2 then v = 0 else if alg = 5 then 1 ≤ v ∧ v ≤ 64 else if alg = 6 then v = 12 else v = 16) then 6
  else if (if alg < 5 then 0 else 1000) < a then 10 else 0
/-- A kind that is there: its check. -/
def checkK (key iv : List (Int × Int)) (aad : Int) (k v a : Nat) : Nat :=
  if inF key k = false then 5 else if inF iv v = false then 6 else if aad < (a : Int) then 10 else 0
abbrev parC (alg : Int) (op : Bool) (pk : Option Addr) (k ck : Nat) (pv : Option Addr) (v cv : Nat) (pa : Option Addr) (a ca : Nat) : List Value :=
  [.int .i64 alg, .bool op, .slice pk k ck, .slice pv v cv, .slice pa a ca]
abbrev tPar : TypeId := 31
set_option maxRecDepth 100000 in
set_option maxHeartbeats 4000000 in
theorem check_none (w : World) (alg : Int) (op : Bool) (pk : Option Addr) (k ck : Nat) (pv : Option Addr) (v cv : Nat) (pa : Option Addr) (a ca : Nat) (hf : ∀ W, Calls Tryz.prog 57 #[.int .i64 alg, .bool op] W fun e W' => e = .returned (.tuple #[noKind, .int .i64 4]) ∧ Below W.heap.size W W') :
    Calls Tryz.prog 23 #[.agg (parC alg op pk k ck pv v cv pa a ca).toArray] w fun e w' => e = .returned (.int .i64 4) ∧ Below w.heap.size w w' := by
  have hb := Blk.new w (parC alg op pk k ck pv v cv pa a ca) tPar
  have hB : Below w.heap.size w (w.alloc (.cells (parC alg op pk k ck pv v cv pa a ca).toArray tPar)) := (Below.refl _ _).alloc (Nat.le_refl _) _
  have hs : (w.alloc (.cells (parC alg op pk k ck pv v cv pa a ca).toArray tPar)).heap.size = w.heap.size + 1 := by simp
  go_enter Tryz.func23, Tryz.ntmps23
  go_wp2_with fail
  refine (hf _).mono ?_
  rintro e w2 ⟨rfl, hB2⟩
  have hB3 := hB.trans (hB2.mono hB.size)
  have hN := Blk.new w2 noKindC tKind
  have ht := hN.there 0 8 (Nat.le_refl _)
  have hB4 := hB3.alloc hB3.size (.cells noKindC.toArray tKind)
  obtain ⟨w3, hw3⟩ : ∃ w3, w2.alloc (.cells noKindC.toArray tKind) = w3 := ⟨_, rfl⟩
  rw [hw3] at hN hB4
  obtain ⟨hN4, hC4⟩ := setWhole hN (new := noKindC) rfl
  have hB5 := hB4.trans (hC4.below hB4.size (fun k hk => by simp at hk; have := hB3.size; omega))
  obtain ⟨w4, hw4⟩ : ∃ w4, w3.setCells w2.heap.size 0 noKindC = w4 := ⟨_, rfl⟩
  rw [hw4] at hN4 hB5
  have HW3 := hid hw3
  have HW4 := hid hw4
  have HB := hid hB5
  clear hw3 hw4 hN hC4 hB4 hB3 hB2 hB hs hb hB5
  go_wp2_with (refine wpList_store_mid rfl tKind (.tmp 3) (.tmp 11) rfl w2.heap.size 0 noKindC.toArray rfl rfl ht sizeK (all_oneCell_toArray noOne) ?_; change wpList _ _ _ _ _ ((w2.alloc (.cells noKindC.toArray tKind)).setCells w2.heap.size 0 noKindC); rw [HW3.out, HW4.out]; clear HW3 HW4 ht)
  go_ret
  exact ⟨rfl, HB.out⟩

theorem SpAt.ofBlk {w : World} {g : Nat} {a b : Int} (h : Blk w g [.int .i64 a, .int .i64 b] tSpan) : SpAt w g 0 [(a, b)] := ⟨h.lt, fun k hk => by
  obtain rfl : k = 0 := by simp at hk; exact hk
  exact ⟨h.cell 0, h.cell 1⟩⟩
set_option maxRecDepth 100000 in
set_option maxHeartbeats 4000000 in
theorem check_some (w : World) (alg : Int) (op one : Bool) (cls i0 i1 aad : Int) (ko m cap : Nat) (room do_ : FuncId) (sp : List (Int × Int)) (hm : sp.length = m) (h9 : m ≤ 64) (pk : Option Addr) (k ck : Nat) (pv : Option Addr) (v cv : Nat) (pa : Option Addr) (a ca : Nat)
    (hf : ∀ W, Calls Tryz.prog 57 #[.int .i64 alg, .bool op] W fun e W' => ∃ kb, e = .returned (.tuple #[.agg (kindC cls one (.slice (some ⟨kb, ko, none⟩) m cap) i0 i1 aad room do_).toArray, .int .i64 0]) ∧ SpAt W' kb ko sp ∧ Below W.heap.size W W') :
    Calls Tryz.prog 23 #[.agg (parC alg op pk k ck pv v cv pa a ca).toArray] w fun e w' => e = .returned (.int .i64 (checkK sp [(i0, i1)] aad k v a : Nat)) ∧ Below w.heap.size w w' := by
  have Hm := hid hm
  clear hm
  have hb := Blk.new w (parC alg op pk k ck pv v cv pa a ca) tPar
  have hB : Below w.heap.size w (w.alloc (.cells (parC alg op pk k ck pv v cv pa a ca).toArray tPar)) := (Below.refl _ _).alloc (Nat.le_refl _) _
  obtain ⟨w1, hw1⟩ : ∃ w1, w.alloc (.cells (parC alg op pk k ck pv v cv pa a ca).toArray tPar) = w1 := ⟨_, rfl⟩
  rw [hw1] at hb hB
  have d0 : w1.cell? ⟨w.heap.size, 0, none⟩ = some (.int .i64 alg) := hb.cell 0
  have d1 : w1.cell? ⟨w.heap.size, 1, none⟩ = some (.bool op) := hb.cell 1
  have HW1 := hid hw1
  clear hw1
  go_enter Tryz.func23, Tryz.ntmps23
  go_upto_region 1 with (fail)
  change Code.wp _ _ _ _ (w.alloc (.cells (parC alg op pk k ck pv v cv pa a ca).toArray tPar))
  rw [HW1.out]
  clear HW1
  go_wp2_with fail
  refine (hf _).mono ?_
  rintro e w2 ⟨kb, rfl, hsp, hB2⟩
  clear d0 d1
  have hb2 := hb.below hB2 hb.lt
  have hk1 := kOne cls one (.slice (some ⟨kb, ko, none⟩) m cap) i0 i1 aad room do_ rfl
  have hB3 := hB.trans (hB2.mono hB.size)
  have hN := Blk.new w2 noKindC tKind
  have ht := hN.there 0 8 (Nat.le_refl _)
  have hB4 := hB3.alloc hB3.size (.cells noKindC.toArray tKind)
  have hb3 := hb2.alloc (.cells noKindC.toArray tKind)
  have hsp3 := hsp.below ((Below.refl _ _).alloc (Nat.le_refl _) (.cells noKindC.toArray tKind)) hsp.1
  have hne : w.heap.size ≠ w2.heap.size := by have := hb2.lt; omega
  have hne2 : kb ≠ w2.heap.size := by have := hsp.1; omega
  have hs3 : (w2.alloc (.cells noKindC.toArray tKind)).heap.size = w2.heap.size + 1 := by simp
  obtain ⟨w3, hw3⟩ : ∃ w3, w2.alloc (.cells noKindC.toArray tKind) = w3 := ⟨_, rfl⟩
  rw [hw3] at hN hB4 hb3 hsp3 hs3
  obtain ⟨hN4, hC4⟩ := setWhole hN (new := kindC cls one (.slice (some ⟨kb, ko, none⟩) m cap) i0 i1 aad room do_) rfl
  have hB5 := hB4.trans (hC4.below hB4.size (fun k hk => by simp at hk; have := hB3.size; omega))
  have hb4 := hb3.chg hC4 hb3.lt (by simpa using hne)
  have hsp4 : SpAt (w3.setCells w2.heap.size 0 (kindC cls one (.slice (some ⟨kb, ko, none⟩) m cap) i0 i1 aad room do_)) kb ko sp := by
    refine ⟨Nat.lt_of_lt_of_le hsp3.1 hC4.size, fun j hj => ?_⟩
    have hbk := hC4.block kb hsp3.1 (by simpa using hne2)
    have e : ∀ i, (w3.setCells w2.heap.size 0 (kindC cls one (.slice (some ⟨kb, ko, none⟩) m cap) i0 i1 aad room do_)).cell? ⟨kb, i, none⟩ = w3.cell? ⟨kb, i, none⟩ := fun i => by simp [World.cell?, hbk]
    rw [e, e]; exact hsp3.2 j hj
  obtain ⟨w4, hw4⟩ : ∃ w4, w3.setCells w2.heap.size 0 (kindC cls one (.slice (some ⟨kb, ko, none⟩) m cap) i0 i1 aad room do_) = w4 := ⟨_, rfl⟩
  rw [hw4] at hN4 hB5 hb4 hsp4
  have HW3 := hid hw3
  have HW4 := hid hw4
  have HI := hid (in_any w4 kb ko m cap k sp hsp4 Hm.out h9)
  clear hw3 hw4 hN hC4 hB4 hB3 hB2 hB hb hb2 hb3 hsp hsp3 hsp4 hne2
  have c2 : w4.cell? ⟨w.heap.size, 2, none⟩ = some (.slice pk k ck) := hb4.cell 2
  have k2 : w4.cell? ⟨w2.heap.size, 2, none⟩ = some (.slice (some ⟨kb, ko, none⟩) m cap) := hN4.cell 2
  go_wp2_with (refine wpList_store_mid rfl tKind (.tmp 3) (.tmp 11) rfl w2.heap.size 0 (kindC cls one (.slice (some ⟨kb, ko, none⟩) m cap) i0 i1 aad room do_).toArray rfl rfl ht sizeK (all_oneCell_toArray hk1) ?_; change wpList _ _ _ _ _ ((w2.alloc (.cells noKindC.toArray tKind)).setCells w2.heap.size 0 (kindC cls one (.slice (some ⟨kb, ko, none⟩) m cap) i0 i1 aad room do_)); rw [HW3.out, HW4.out]; clear HW3 HW4 ht)
  refine HI.out.mono ?_
  rintro e w5 ⟨rfl, hB6⟩
  clear HI c2 k2
  have hB7 := hB5.trans (hB6.mono hB5.size)
  have hb5 := hb4.below hB6 hb4.lt
  have hN5 := hN4.below hB6 hN4.lt
  clear hb4 hN4 hB5 hB6
  obtain ⟨q, hq⟩ : ∃ q, inF sp (k : Int) = q := ⟨_, rfl⟩
  rw [hq]
  have HQ := hid hq
  clear hq
  have HB7 := hid hB7
  cases q
  · go_wp2_with fail
    go_ret
    exact ⟨by unfold checkK; rw [HQ.out]; rfl, HB7.out⟩
  · have c3 : w5.cell? ⟨w.heap.size, 3, none⟩ = some (.slice pv v cv) := hb5.cell 3
    have k3 : w5.cell? ⟨w2.heap.size, 3, none⟩ = some (.int .i64 i0) := hN5.cell 3
    have k4 : w5.cell? ⟨w2.heap.size, 4, none⟩ = some (.int .i64 i1) := hN5.cell 4
    have hsb := SpAt.ofBlk (Blk.new w5 [.int .i64 i0, .int .i64 i1] tSpan)
    have HI := hid (in_any _ w5.heap.size 0 1 1 v _ hsb rfl (by omega))
    have hB8 := hB7.alloc hB7.size (.cells [.int .i64 i0, .int .i64 i1].toArray tSpan)
    have hb6 := hb5.alloc (.cells [.int .i64 i0, .int .i64 i1].toArray tSpan)
    have hN6 := hN5.alloc (.cells [.int .i64 i0, .int .i64 i1].toArray tSpan)
    clear hsb hb5 hN5 hB7
    go_wp2_with fail
    refine HI.out.mono ?_
    rintro e w6 ⟨rfl, hB9⟩
    clear HI c3 k3 k4
    have hB10 := hB8.trans (hB9.mono hB8.size)
    have hb7 := hb6.below hB9 hb6.lt
    have hN7 := hN6.below hB9 hN6.lt
    clear hb6 hN6 hB8 hB9
    obtain ⟨r, hr⟩ : ∃ r, inF [(i0, i1)] (v : Int) = r := ⟨_, rfl⟩
    rw [hr]
    have HR := hid hr
    clear hr
    have HB10 := hid hB10
    clear hB10
    cases r
    · go_wp2_with fail
      go_ret
      exact ⟨by unfold checkK; rw [HQ.out, HR.out]; rfl, HB10.out⟩
    · have c4 : w6.cell? ⟨w.heap.size, 4, none⟩ = some (.slice pa a ca) := hb7.cell 4
      have k5 : w6.cell? ⟨w2.heap.size, 5, none⟩ = some (.int .i64 aad) := hN7.cell 5
      clear hb7 hN7
      by_cases hlt : aad < (a : Int)
      · go_wp2_with fail
        go_ret
        exact ⟨by unfold checkK; rw [HQ.out, HR.out, if_neg (by decide), if_neg (by decide), if_pos hlt]; rfl, HB10.out⟩
      · go_wp2_with fail
        go_ret
        exact ⟨by unfold checkK; rw [HQ.out, HR.out, if_neg (by decide), if_neg (by decide), if_neg (by omega)]; rfl, HB10.out⟩
end Go.Proofs.YtnmmnlffobnbfaaGreatDoor

/- which params may be: algo.Check as one function -/
namespace Go.Proofs.YtnmmnlffobnbfaaGreatDoor
open Go.RowKit

theorem SpAt.ofBlk0 {w : World} {g : Nat} {cs : List Value} (h : Blk w g cs tSpan) (o : Nat) (sp : List (Int × Int)) (hs : ∀ k, k < sp.length → cs[o + k * 2]? = some (.int .i64 (sp.getD k (0, 0)).1) ∧ cs[o + k * 2 + 1]? = some (.int .i64 (sp.getD k (0, 0)).2)) : SpAt w g o sp :=
  ⟨h.lt, fun k hk => by rw [h.cell, h.cell]; exact hs k hk⟩
theorem two_lt {k : Nat} (h : k < 2) : k = 0 ∨ k = 1 := by omega
theorem sp16 {w : World} {g : Nat} (h : Blk w g (ints' [16, 16, 32, 32]) tSpan) : SpAt w g 0 [(16, 16), (32, 32)] := SpAt.ofBlk0 h 0 _ (fun k hk => by
  rcases two_lt (show k < 2 from hk) with rfl | rfl <;> exact ⟨rfl, rfl⟩)
theorem sp32 {w : World} {g : Nat} (h : Blk w g (ints' [16, 16, 32, 32]) tSpan) : SpAt w g 2 [(32, 32)] := SpAt.ofBlk0 h 2 _ (fun k hk => by
  obtain rfl : k = 0 := by simp at hk; exact hk
  exact ⟨rfl, rfl⟩)
theorem found_no (op : Bool) (alg : Int) (cls i0 i1 aad : Int) (key : Nat → Nat → Nat → Value) (hko : ∀ g k1 k2, (key g k1 k2).oneCell' = true) (room do_ : FuncId) (h : ∀ g k1 k2, getM (kindsL g k1 k2) alg = some (kindV cls true (key g k1 k2) i0 i1 aad room do_)) (ho : op = true) (W : World) :
    Calls Tryz.prog 57 #[.int .i64 alg, .bool op] W fun e W' => e = .returned (.tuple #[noKind, .int .i64 4]) ∧ Below W.heap.size W W' := by
  subst ho
  refine (found_some W alg true true cls i0 i1 aad key hko room do_ h).mono ?_
  rintro e w1 ⟨g, k1, k2, rfl, _, _, _, hB⟩
  exact ⟨rfl, hB⟩
theorem found_yes (op one : Bool) (alg : Int) (cls i0 i1 aad : Int) (kb : Nat → Nat → Nat → Nat) (ko m cap : Nat) (room do_ : FuncId) (h : ∀ g k1 k2, getM (kindsL g k1 k2) alg = some (kindV cls one (.slice (some ⟨kb g k1 k2, ko, none⟩) m cap) i0 i1 aad room do_)) (ho : (op && one) = false) (sp : List (Int × Int))
    (hsp : ∀ W g k1 k2, Blk W g (ints' [16, 16, 32, 32]) tSpan → Blk W k1 (ints' [0, 0]) tSpan → Blk W k2 (ints' [1, 100]) tSpan → SpAt W (kb g k1 k2) ko sp) (W : World) :
    Calls Tryz.prog 57 #[.int .i64 alg, .bool op] W fun e W' => ∃ b, e = .returned (.tuple #[.agg (kindC cls one (.slice (some ⟨b, ko, none⟩) m cap) i0 i1 aad room do_).toArray, .int .i64 0]) ∧ SpAt W' b ko sp ∧ Below W.heap.size W W' := by
  refine (found_some W alg op one cls i0 i1 aad (fun g k1 k2 => .slice (some ⟨kb g k1 k2, ko, none⟩) m cap) (fun _ _ _ => rfl) room do_ h).mono ?_
  rintro e w1 ⟨g, k1, k2, rfl, h0, h1, h2, hB⟩
  exact ⟨kb g k1 k2, by rw [if_neg (by rw [ho]; decide)], hsp w1 g k1 k2 h0 h1 h2, hB⟩
theorem getM_none (alg : Int) (h : alg < 1 ∨ 6 < alg) (g k1 k2 : Nat) : getM (kindsL g k1 k2) alg = none := by
  simp only [kindsL, getM]
  rw [if_neg (by omega), if_neg (by omega), if_neg (by omega), if_neg (by omega), if_neg (by omega), if_neg (by omega)]
theorem inF1 (a b : Int) (k : Nat) : (inF [(a, b)] (k : Int) = false) = ¬ (a ≤ (k : Int) ∧ (k : Int) ≤ b) := by simp [inF]
theorem inF2 (a b c d : Int) (k : Nat) : (inF [(a, b), (c, d)] (k : Int) = false) = ¬ ((a ≤ (k : Int) ∧ (k : Int) ≤ b) ∨ (c ≤ (k : Int) ∧ (k : Int) ≤ d)) := by simp [inF]
theorem check_any (w : World) (alg : Int) (op : Bool) (pk : Option Addr) (k ck : Nat) (pv : Option Addr) (v cv : Nat) (pa : Option Addr) (a ca : Nat) :
    Calls Tryz.prog 23 #[.agg (parC alg op pk k ck pv v cv pa a ca).toArray] w fun e w' => e = .returned (.int .i64 (checkF alg op k v a : Nat)) ∧ Below w.heap.size w w' := by
  by_cases hr : alg < 1 ∨ 6 < alg
  · have e : checkF alg op k v a = 4 := by unfold checkF; rw [if_pos (by omega)]
    rw [e]
    exact check_none w alg op pk k ck pv v cv pa a ca (fun W => found_none W alg op (getM_none alg hr))
  · have h6 : alg = 1 ∨ alg = 2 ∨ alg = 3 ∨ alg = 4 ∨ alg = 5 ∨ alg = 6 := by omega
    have big : ∀ (n i0 i1 aad : Int) (cls : Int) (ko m cap : Nat) (kb : Nat → Nat → Nat → Nat) (room do_ : FuncId) (one : Bool) (sp : List (Int × Int)), alg = n → (op && one) = false → sp.length = m → m ≤ 64 →
        (∀ g k1 k2, getM (kindsL g k1 k2) n = some (kindV cls one (.slice (some ⟨kb g k1 k2, ko, none⟩) m cap) i0 i1 aad room do_)) →
        (∀ W g k1 k2, Blk W g (ints' [16, 16, 32, 32]) tSpan → Blk W k1 (ints' [0, 0]) tSpan → Blk W k2 (ints' [1, 100]) tSpan → SpAt W (kb g k1 k2) ko sp) → checkF n op k v a = checkK sp [(i0, i1)] aad k v a →
        Calls Tryz.prog 23 #[.agg (parC alg op pk k ck pv v cv pa a ca).toArray] w fun e w' => e = .returned (.int .i64 (checkF alg op k v a : Nat)) ∧ Below w.heap.size w w' := by
      intro n i0 i1 aad cls ko m cap kb room do_ one sp e ho hm h9 hg hsp hc
      subst e
      rw [hc]
      exact check_some w alg op one cls i0 i1 aad ko m cap room do_ sp hm h9 pk k ck pv v cv pa a ca (found_yes op one alg cls i0 i1 aad kb ko m cap room do_ hg ho sp hsp)
    rcases h6 with e | e | e | e | e | e
    · cases op
      · refine big 1 0 0 0 1 0 1 1 (fun _ k1 _ => k1) _ _ true [(0, 0)] e rfl rfl (by omega) (fun _ _ _ => rfl) (fun W g k1 k2 _ h1 _ => SpAt.ofBlk h1) ?_
        unfold checkF checkK
        simp [inF1]
      · have e4 : checkF alg true k v a = 4 := by unfold checkF; rw [if_pos (by right; right; exact ⟨rfl, by omega⟩)]
        rw [e4]; subst e
        exact check_none w 1 true pk k ck pv v cv pa a ca (found_no true 1 1 0 0 0 (fun _ k1 _ => sl1 k1) (fun _ _ _ => rfl) _ _ (fun _ _ _ => rfl) rfl)
    · cases op
      · refine big 2 0 0 0 1 0 1 1 (fun _ _ k2 => k2) _ _ true [(1, 100)] e rfl rfl (by omega) (fun _ _ _ => rfl) (fun W g k1 k2 _ _ h2 => SpAt.ofBlk h2) ?_
        unfold checkF checkK
        simp [inF1]
        (repeat' split) <;> omega
      · have e4 : checkF alg true k v a = 4 := by unfold checkF; rw [if_pos (by right; right; exact ⟨rfl, by omega⟩)]
        rw [e4]; subst e
        exact check_none w 2 true pk k ck pv v cv pa a ca (found_no true 2 1 0 0 0 (fun _ _ k2 => sl1 k2) (fun _ _ _ => rfl) _ _ (fun _ _ _ => rfl) rfl)
    · refine big 3 16 16 0 2 0 2 2 (fun g _ _ => g) _ _ false [(16, 16), (32, 32)] e (by cases op <;> rfl) rfl (by omega) (fun _ _ _ => rfl) (fun W g k1 k2 h0 _ _ => sp16 h0) ?_
      unfold checkF checkK
      simp [inF1, inF2]
      (repeat' split) <;> omega
    · refine big 4 16 16 0 3 0 2 2 (fun g _ _ => g) _ _ false [(16, 16), (32, 32)] e (by cases op <;> rfl) rfl (by omega) (fun _ _ _ => rfl) (fun W g k1 k2 h0 _ _ => sp16 h0) ?_
      unfold checkF checkK
      simp [inF1, inF2]
      (repeat' split) <;> omega
    · refine big 5 1 64 1000 4 0 2 2 (fun g _ _ => g) _ _ false [(16, 16), (32, 32)] e (by cases op <;> rfl) rfl (by omega) (fun _ _ _ => rfl) (fun W g k1 k2 h0 _ _ => sp16 h0) ?_
      unfold checkF checkK
      simp [inF1, inF2]
      (repeat' split) <;> omega
    · refine big 6 12 12 1000 5 2 1 1 (fun g _ _ => g) _ _ false [(32, 32)] e (by cases op <;> rfl) rfl (by omega) (fun _ _ _ => rfl) (fun W g k1 k2 h0 _ _ => sp32 h0) ?_
      unfold checkF checkK
      simp [inF1]
      (repeat' split) <;> omega
end Go.Proofs.YtnmmnlffobnbfaaGreatDoor

/- algo: Room, Class -/
namespace Go.Proofs.YtnmmnlffobnbfaaGreatDoor
open Go.RowKit

/-- How many bytes come out at most; an error's number. -/
def roomF (alg : Int) (op : Bool) (n : Nat) : Nat × Nat :=
  if alg ≤ 2 then (32, 0) else if alg = 3 then (n, 0)
  else if alg = 4 then (if op then (if 0 < n ∧ n % 16 = 0 then (n, 0) else (0, 17)) else (n / 16 * 16 + 16, 0))
  else if op then (if 16 ≤ n then (n - 16, 0) else (0, 17)) else (n + 16, 0)
def roomA (alg : Int) (op : Bool) (n : Int) : Nat × Nat :=
  if alg < 1 ∨ 6 < alg ∨ (op = true ∧ alg ≤ 2) then (0, 4) else if n < 0 then (0, 1) else roomF alg op n.toNat
theorem callsums (args : Array Value) (w : World) : (callFunc 74 args).run Tryz.prog w = .ok (.enter 74 args) w := by kernel_rfl
theorem callk3 (args : Array Value) (w : World) : (callFunc 79 args).run Tryz.prog w = .ok (.enter 79 args) w := by kernel_rfl
theorem callchained (args : Array Value) (w : World) : (callFunc 84 args).run Tryz.prog w = .ok (.enter 84 args) w := by kernel_rfl
theorem calltagged (args : Array Value) (w : World) : (callFunc 89 args).run Tryz.prog w = .ok (.enter 89 args) w := by kernel_rfl
theorem sums_any (w : World) (op : Bool) (n : Int) : Calls Tryz.prog 74 #[.bool op, .int .i64 n] w fun e w' => e = .returned (.tuple #[.int .i64 (32 : Nat), .bool true]) ∧ w = w' := by
  go_enter Tryz.func74, Tryz.ntmps74
  go_wp2
  go_ret2
  exact ⟨rfl, rfl⟩
theorem k3_any (w : World) (op : Bool) (n : Nat) : Calls Tryz.prog 79 #[.bool op, .int .i64 (n : Int)] w fun e w' => e = .returned (.tuple #[.int .i64 (n : Nat), .bool true]) ∧ w = w' := by
  go_enter Tryz.func79, Tryz.ntmps79
  go_wp2
  go_ret2
  exact ⟨rfl, rfl⟩
set_option maxRecDepth 100000 in
set_option maxHeartbeats 2000000 in
theorem chained_any (w : World) (op : Bool) (n : Nat) (h9 : n ≤ 4611686018427387904) : Calls Tryz.prog 84 #[.bool op, .int .i64 (n : Int)] w fun e w' => e = .returned (.tuple (if op then #[.int .i64 (n : Nat), .bool (decide (0 < n ∧ n % 16 = 0))] else #[.int .i64 ((n / 16 * 16 + 16 : Nat)), .bool true])) ∧ w = w' := by
  cases op
  · obtain ⟨q, hq⟩ : ∃ q, n / 16 = q := ⟨_, rfl⟩
    have e1 : ((n : Int)).tdiv 16 = (q : Int) := by rw [Int.tdiv_eq_ediv_of_nonneg (by omega)]; omega
    have e0 : (n : Int) / 16 = (q : Int) := by omega
    obtain ⟨r, hr⟩ : ∃ r, q * 16 = r := ⟨_, rfl⟩
    have e2 : (q : Int) * 16 = (r : Int) := by omega
    obtain ⟨s, hs⟩ : ∃ s, r + 16 = s := ⟨_, rfl⟩
    have e3 : (r : Int) + 16 = (s : Int) := by omega
    have hl : (s : Int) < 9223372036854775807 := by omega
    have hl2 : (r : Int) < 9223372036854775807 := by omega
    have w1 : IntKind.i64.wrap (s : Int) = s := by rw [IntKind.wrap_i64]; omega
    have w2 : IntKind.i64.wrap (r : Int) = r := by rw [IntKind.wrap_i64]; omega
    have w3 : IntKind.i64.wrap (q : Int) = q := by rw [IntKind.wrap_i64]; omega
    rw [hq, hr, hs]
    clear hq hr hs
    show Calls Tryz.prog 84 #[.bool false, .int .i64 (n : Int)] w fun e w' => e = .returned (.tuple #[.int .i64 (s : Nat), .bool true]) ∧ w = w'
    have e4 : IntKind.i64.wrap ((n : Int).tdiv 16) = q := by rw [e1, w3]
    clear e0
    go_enter Tryz.func84, Tryz.ntmps84
    go_wp2_with fail
    go_ret2
    exact ⟨rfl, rfl⟩
  · obtain ⟨q, hq⟩ : ∃ q, n % 16 = q := ⟨_, rfl⟩
    have e1 : ((n : Int)).tmod 16 = (q : Int) := by rw [Int.tmod_eq_emod_of_nonneg (by omega)]; omega
    have e0 : (n : Int) % 16 = (q : Int) := by omega
    rw [hq]
    clear hq
    by_cases h0 : 0 < n
    · have h0i : (0 : Int) < (n : Int) := by omega
      obtain ⟨x, hx⟩ : ∃ x, decide (0 < n ∧ q = 0) = x := ⟨_, rfl⟩
      have hxi : decide ((q : Int) = 0) = x := by rw [← hx]; simp [h0]
      have hxe : ((q : Int) == 0) = x := by rw [← hxi]; rfl
      rw [hx]
      clear hx
      go_enter Tryz.func84, Tryz.ntmps84
      go_wp2_with fail
      go_ret2
      simp_all
    · have h0i : ¬ (0 : Int) < (n : Int) := by omega
      rw [show decide (0 < n ∧ q = 0) = false from decide_eq_false (fun h => h0 h.1)]
      go_enter Tryz.func84, Tryz.ntmps84
      go_wp2_with fail
      go_ret2
      exact ⟨rfl, rfl⟩
set_option maxRecDepth 100000 in
set_option maxHeartbeats 2000000 in
theorem tagged_any (w : World) (op : Bool) (n : Nat) (h9 : n ≤ 4611686018427387904) : Calls Tryz.prog 89 #[.bool op, .int .i64 (n : Int)] w fun e w' => e = .returned (.tuple (if op then #[.int .i64 ((n : Int) - 16), .bool (decide (16 ≤ n))] else #[.int .i64 ((n + 16 : Nat)), .bool true])) ∧ w = w' := by
  cases op
  · obtain ⟨s, hs⟩ : ∃ s, n + 16 = s := ⟨_, rfl⟩
    have e3 : (n : Int) + 16 = (s : Int) := by omega
    have w1 : IntKind.i64.wrap (s : Int) = s := by rw [IntKind.wrap_i64]; omega
    rw [hs]
    clear hs
    go_enter Tryz.func89, Tryz.ntmps89
    go_wp2_with fail
    go_ret2
    exact ⟨rfl, rfl⟩
  · have w1 : IntKind.i64.wrap ((n : Int) - 16) = (n : Int) - 16 := by rw [IntKind.wrap_i64]; omega
    obtain ⟨d, hd⟩ : ∃ d, (n : Int) - 16 = d := ⟨_, rfl⟩
    obtain ⟨x, hx⟩ : ∃ x, decide (16 ≤ n) = x := ⟨_, rfl⟩
    have hxi : decide ((16 : Int) ≤ (n : Int)) = x := by rw [← hx]; simp; omega
    rw [hd] at w1
    rw [hd, hx]
    clear hx
    go_enter Tryz.func89, Tryz.ntmps89
    go_wp2_with fail
    go_ret2
    simp_all

set_option maxRecDepth 100000 in
set_option maxHeartbeats 4000000 in
theorem room_none (w : World) (alg : Int) (op : Bool) (n : Int) (hf : ∀ W, Calls Tryz.prog 57 #[.int .i64 alg, .bool op] W fun e W' => e = .returned (.tuple #[noKind, .int .i64 4]) ∧ Below W.heap.size W W') :
    Calls Tryz.prog 24 #[.int .i64 alg, .bool op, .int .i64 n] w fun e w' => e = .returned (.tuple #[.int .i64 0, .int .i64 4]) ∧ Below w.heap.size w w' := by
  go_enter Tryz.func24, Tryz.ntmps24
  go_wp2_with fail
  refine (hf _).mono ?_
  rintro e w2 ⟨rfl, hB2⟩
  have hN := Blk.new w2 noKindC tKind
  have ht := hN.there 0 8 (Nat.le_refl _)
  have hB4 := hB2.alloc hB2.size (.cells noKindC.toArray tKind)
  obtain ⟨hN4, hC4⟩ := setWhole hN (new := noKindC) rfl
  have hB5 := hB4.trans (hC4.below hB4.size (fun k hk => by simp at hk; have := hB2.size; omega))
  obtain ⟨w4, hw4⟩ : ∃ w4, (w2.alloc (.cells noKindC.toArray tKind)).setCells w2.heap.size 0 noKindC = w4 := ⟨_, rfl⟩
  rw [hw4] at hN4 hB5
  have HW4 := hid hw4
  have hB5 := hid hB5
  clear hw4 hN hB2 hB4 hC4
  go_wp2_with (refine wpList_store_mid rfl tKind (.tmp 8) (.tmp 16) rfl w2.heap.size 0 noKindC.toArray rfl rfl ht sizeK (all_oneCell_toArray noOne) ?_; change wpList _ _ _ _ _ ((w2.alloc (.cells noKindC.toArray tKind)).setCells w2.heap.size 0 noKindC); rw [HW4.out]; clear HW4 ht)
  go_ret2
  exact ⟨rfl, hB5.out⟩
set_option maxRecDepth 100000 in
set_option maxHeartbeats 4000000 in
theorem room_some (w : World) (alg : Int) (op one : Bool) (cls i0 i1 aad : Int) (ko m cap : Nat) (room do_ : FuncId) (n : Int) (r : Int) (ok : Bool) (x y : Int) (hxy : if n < 0 then x = 0 ∧ y = 1 else if ok then x = r ∧ y = 0 else x = 0 ∧ y = 17) (hcf : ∀ args w, (callFunc room args).run Tryz.prog w = .ok (.enter room args) w)
    (hrm : 0 ≤ n → ∀ W, Calls Tryz.prog room #[.bool op, .int .i64 n] W fun e W' => e = .returned (.tuple #[.int .i64 r, .bool ok]) ∧ W = W')
    (hf : ∀ W, Calls Tryz.prog 57 #[.int .i64 alg, .bool op] W fun e W' => ∃ kb, e = .returned (.tuple #[.agg (kindC cls one (.slice (some ⟨kb, ko, none⟩) m cap) i0 i1 aad room do_).toArray, .int .i64 0]) ∧ Below W.heap.size W W') :
    Calls Tryz.prog 24 #[.int .i64 alg, .bool op, .int .i64 n] w fun e w' => e = .returned (.tuple #[.int .i64 x, .int .i64 y]) ∧ Below w.heap.size w w' := by
  go_enter Tryz.func24, Tryz.ntmps24
  go_wp2_with fail
  refine (hf _).mono ?_
  rintro e w2 ⟨kb, rfl, hB2⟩
  have hk1 := kOne cls one (.slice (some ⟨kb, ko, none⟩) m cap) i0 i1 aad room do_ rfl
  have hN := Blk.new w2 noKindC tKind
  have ht := hN.there 0 8 (Nat.le_refl _)
  have hB4 := hB2.alloc hB2.size (.cells noKindC.toArray tKind)
  obtain ⟨hN4, hC4⟩ := setWhole hN (new := kindC cls one (.slice (some ⟨kb, ko, none⟩) m cap) i0 i1 aad room do_) rfl
  have hB5 := hid (hB4.trans (hC4.below hB4.size (fun k hk => by simp at hk; have := hB2.size; omega)))
  obtain ⟨w4, hw4⟩ : ∃ w4, (w2.alloc (.cells noKindC.toArray tKind)).setCells w2.heap.size 0 (kindC cls one (.slice (some ⟨kb, ko, none⟩) m cap) i0 i1 aad room do_) = w4 := ⟨_, rfl⟩
  rw [hw4] at hN4 hB5
  have HW4 := hid hw4
  clear hw4 hN hC4 hB4 hB2
  have k6 : w4.cell? ⟨w2.heap.size, 6, none⟩ = some (fv room) := hN4.cell 6
  by_cases hn : n < 0
  · rw [if_pos hn] at hxy
    obtain ⟨rfl, rfl⟩ := hxy
    go_wp2_with (refine wpList_store_mid rfl tKind (.tmp 8) (.tmp 16) rfl w2.heap.size 0 (kindC cls one (.slice (some ⟨kb, ko, none⟩) m cap) i0 i1 aad room do_).toArray rfl rfl ht sizeK (all_oneCell_toArray hk1) ?_; change wpList _ _ _ _ _ ((w2.alloc (.cells noKindC.toArray tKind)).setCells w2.heap.size 0 (kindC cls one (.slice (some ⟨kb, ko, none⟩) m cap) i0 i1 aad room do_)); rw [HW4.out]; clear HW4 ht)
    go_ret2
    exact ⟨rfl, hB5.out⟩
  · rw [if_neg hn] at hxy
    have HR := hid (hrm (by omega))
    clear hrm
    go_wp2_with (refine wpList_store_mid rfl tKind (.tmp 8) (.tmp 16) rfl w2.heap.size 0 (kindC cls one (.slice (some ⟨kb, ko, none⟩) m cap) i0 i1 aad room do_).toArray rfl rfl ht sizeK (all_oneCell_toArray hk1) ?_; change wpList _ _ _ _ _ ((w2.alloc (.cells noKindC.toArray tKind)).setCells w2.heap.size 0 (kindC cls one (.slice (some ⟨kb, ko, none⟩) m cap) i0 i1 aad room do_)); rw [HW4.out]; clear HW4 ht)
    refine (HR.out _).mono ?_
    rintro e w5 ⟨rfl, rfl⟩
    cases ok
    · obtain ⟨rfl, rfl⟩ := hxy
      go_wp2_with fail
      go_ret2
      exact ⟨rfl, hB5.out⟩
    · obtain ⟨rfl, rfl⟩ := hxy
      go_wp2_with fail
      go_ret2
      exact ⟨rfl, hB5.out⟩
theorem found_yes' (op one : Bool) (alg : Int) (cls i0 i1 aad : Int) (kb : Nat → Nat → Nat → Nat) (ko m cap : Nat) (room do_ : FuncId) (h : ∀ g k1 k2, getM (kindsL g k1 k2) alg = some (kindV cls one (.slice (some ⟨kb g k1 k2, ko, none⟩) m cap) i0 i1 aad room do_)) (ho : (op && one) = false) (W : World) :
    Calls Tryz.prog 57 #[.int .i64 alg, .bool op] W fun e W' => ∃ b, e = .returned (.tuple #[.agg (kindC cls one (.slice (some ⟨b, ko, none⟩) m cap) i0 i1 aad room do_).toArray, .int .i64 0]) ∧ Below W.heap.size W W' := by
  refine (found_some W alg op one cls i0 i1 aad (fun g k1 k2 => .slice (some ⟨kb g k1 k2, ko, none⟩) m cap) (fun _ _ _ => rfl) room do_ h).mono ?_
  rintro e w1 ⟨g, k1, k2, rfl, h0, h1, h2, hB⟩
  exact ⟨kb g k1 k2, by rw [if_neg (by rw [ho]; decide)], hB⟩
theorem room_any (w : World) (alg : Int) (op : Bool) (n : Int) (h9 : n ≤ 4611686018427387904) :
    Calls Tryz.prog 24 #[.int .i64 alg, .bool op, .int .i64 n] w fun e w' => e = .returned (.tuple #[.int .i64 ((roomA alg op n).1 : Nat), .int .i64 ((roomA alg op n).2 : Nat)]) ∧ Below w.heap.size w w' := by
  by_cases hr : alg < 1 ∨ 6 < alg
  · have e : roomA alg op n = (0, 4) := by unfold roomA; rw [if_pos (by omega)]
    rw [e]
    exact room_none w alg op n (fun W => found_none W alg op (getM_none alg hr))
  · have h6 : alg = 1 ∨ alg = 2 ∨ alg = 3 ∨ alg = 4 ∨ alg = 5 ∨ alg = 6 := by omega
    by_cases ho2 : op = true ∧ alg ≤ 2
    · have e : roomA alg op n = (0, 4) := by unfold roomA; rw [if_pos (by right; right; exact ho2)]
      rw [e]
      obtain ⟨rfl, h2⟩ := ho2
      have h12 : alg = 1 ∨ alg = 2 := by omega
      rcases h12 with rfl | rfl
      · exact room_none w 1 true n (found_no true 1 1 0 0 0 (fun _ k1 _ => sl1 k1) (fun _ _ _ => rfl) _ _ (fun _ _ _ => rfl) rfl)
      · exact room_none w 2 true n (found_no true 2 1 0 0 0 (fun _ _ k2 => sl1 k2) (fun _ _ _ => rfl) _ _ (fun _ _ _ => rfl) rfl)
    · have ea : roomA alg op n = if n < 0 then (0, 1) else roomF alg op n.toNat := by unfold roomA; rw [if_neg (by exact fun h => h.elim (fun h => hr (.inl h)) (fun h => h.elim (fun h => hr (.inr h)) ho2))]
      have big : ∀ (cls i0 i1 aad : Int) (ko m cap : Nat) (kb : Nat → Nat → Nat → Nat) (room do_ : FuncId) (one : Bool) (r : Int) (ok : Bool), (op && one) = false →
          (∀ g k1 k2, getM (kindsL g k1 k2) alg = some (kindV cls one (.slice (some ⟨kb g k1 k2, ko, none⟩) m cap) i0 i1 aad room do_)) →
          (∀ args w, (callFunc room args).run Tryz.prog w = .ok (.enter room args) w) →
          (0 ≤ n → ∀ W, Calls Tryz.prog room #[.bool op, .int .i64 n] W fun e W' => e = .returned (.tuple #[.int .i64 r, .bool ok]) ∧ W = W') →
          (0 ≤ n → (if ok then r = ((roomF alg op n.toNat).1 : Int) ∧ (roomF alg op n.toNat).2 = 0 else roomF alg op n.toNat = (0, 17))) →
          Calls Tryz.prog 24 #[.int .i64 alg, .bool op, .int .i64 n] w fun e w' => e = .returned (.tuple #[.int .i64 ((roomA alg op n).1 : Nat), .int .i64 ((roomA alg op n).2 : Nat)]) ∧ Below w.heap.size w w' := by
        intro cls i0 i1 aad ko m cap kb room do_ one r ok ho hg hcf hrm hv
        refine room_some w alg op one cls i0 i1 aad ko m cap room do_ n r ok _ _ ?_ hcf hrm (found_yes' op one alg cls i0 i1 aad kb ko m cap room do_ hg ho)
        rw [ea]
        by_cases hn : n < 0
        · rw [if_pos hn, if_pos hn]; exact ⟨rfl, rfl⟩
        · rw [if_neg hn, if_neg hn]
          have := hv (by omega)
          cases ok
          · rw [if_neg (by decide)] at this ⊢
            rw [this]; exact ⟨rfl, rfl⟩
          · rw [if_pos rfl] at this ⊢
            exact ⟨this.1.symm, by rw [this.2]; rfl⟩
      have hcast : 0 ≤ n → n = ((n.toNat : Nat) : Int) := fun h => (Int.toNat_of_nonneg h).symm
      generalize hN : n.toNat = N at *
      rcases h6 with rfl | rfl | rfl | rfl | rfl | rfl
      · refine big 1 0 0 0 0 1 1 (fun _ k1 _ => k1) 74 75 true (32 : Nat) true (by cases op <;> simp_all) (fun _ _ _ => rfl) callsums (fun h W => by rw [hcast h]; exact sums_any W op _) (fun _ => ⟨rfl, rfl⟩)
      · refine big 1 0 0 0 0 1 1 (fun _ _ k2 => k2) 74 77 true (32 : Nat) true (by cases op <;> simp_all) (fun _ _ _ => rfl) callsums (fun h W => by rw [hcast h]; exact sums_any W op _) (fun _ => ⟨rfl, rfl⟩)
      · refine big 2 16 16 0 0 2 2 (fun g _ _ => g) 79 80 false (N : Nat) true (by cases op <;> rfl) (fun _ _ _ => rfl) callk3 (fun h W => by rw [hcast h]; exact k3_any W op _) (fun _ => ⟨rfl, rfl⟩)
      · cases op
        · refine big 3 16 16 0 0 2 2 (fun g _ _ => g) 84 85 false ((N / 16 * 16 + 16 : Nat)) true rfl (fun _ _ _ => rfl) callchained (fun h W => by have := hcast h; rw [this]; exact chained_any W false _ (by omega)) (fun _ => ⟨rfl, rfl⟩)
        · refine big 3 16 16 0 0 2 2 (fun g _ _ => g) 84 85 false (N : Nat) (decide (0 < N ∧ N % 16 = 0)) rfl (fun _ _ _ => rfl) callchained (fun h W => by have := hcast h; rw [this]; exact chained_any W true _ (by omega)) (fun _ => ?_)
          by_cases hq : 0 < N ∧ N % 16 = 0
          · rw [if_pos (decide_eq_true hq)]; simp [roomF, hq]
          · rw [if_neg (by simp [hq])]; simp [roomF, hq]
      · cases op
        · refine big 4 1 64 1000 0 2 2 (fun g _ _ => g) 89 90 false ((N + 16 : Nat)) true rfl (fun _ _ _ => rfl) calltagged (fun h W => by have := hcast h; rw [this]; exact tagged_any W false _ (by omega)) (fun _ => ⟨rfl, rfl⟩)
        · refine big 4 1 64 1000 0 2 2 (fun g _ _ => g) 89 90 false ((N : Int) - 16) (decide (16 ≤ N)) rfl (fun _ _ _ => rfl) calltagged (fun h W => by have := hcast h; rw [this]; exact tagged_any W true _ (by omega)) (fun _ => ?_)
          by_cases hq : 16 ≤ N
          · rw [if_pos (decide_eq_true hq)]; simp [roomF, hq]; omega
          · rw [if_neg (by simp [hq])]; simp [roomF, hq]
      · cases op
        · refine big 5 12 12 1000 2 1 1 (fun g _ _ => g) 89 94 false ((N + 16 : Nat)) true rfl (fun _ _ _ => rfl) calltagged (fun h W => by have := hcast h; rw [this]; exact tagged_any W false _ (by omega)) (fun _ => ⟨rfl, rfl⟩)
        · refine big 5 12 12 1000 2 1 1 (fun g _ _ => g) 89 94 false ((N : Int) - 16) (decide (16 ≤ N)) rfl (fun _ _ _ => rfl) calltagged (fun h W => by have := hcast h; rw [this]; exact tagged_any W true _ (by omega)) (fun _ => ?_)
          by_cases hq : 16 ≤ N
          · rw [if_pos (decide_eq_true hq)]; simp [roomF, hq]; omega
          · rw [if_neg (by simp [hq])]; simp [roomF, hq]
end Go.Proofs.YtnmmnlffobnbfaaGreatDoor
