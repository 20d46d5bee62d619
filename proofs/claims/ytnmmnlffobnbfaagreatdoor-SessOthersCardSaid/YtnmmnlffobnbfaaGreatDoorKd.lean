/- the algorithms' kinds, and which of them may be -/
import Derived.Test.YtnmmnlffobnbfaaGreatDoorMk
import Derived.Deep.DeepCutAuto
namespace Go.Proofs.YtnmmnlffobnbfaaGreatDoor
open Go.RowKit

abbrev tKind : TypeId := 89
abbrev tSpan : TypeId := 86
abbrev tKinds : TypeId := 90
abbrev fv (f : FuncId) : Value := .func (.func f) #[] #[]
/-- A kind's cells. -/
abbrev kindV (cls : Int) (one : Bool) (key : Value) (i0 i1 aad : Int) (room do_ : FuncId) : Value :=
  .agg #[.int .i64 cls, .bool one, key, .int .i64 i0, .int .i64 i1, .int .i64 aad, fv room, fv do_]
abbrev sl1 (b : Nat) : Value := .slice (some ⟨b, 0, none⟩) 1 1
abbrev sl2 (b : Nat) : Value := .slice (some ⟨b, 0, none⟩) 2 2
def kindsL (g k1 k2 : Nat) : List (Int × Value) :=
  [(1, kindV 1 true (sl1 k1) 0 0 0 74 75),
   (2, kindV 1 true (sl1 k2) 0 0 0 74 77),
   (3, kindV 2 false (sl2 g) 16 16 0 79 80),
   (4, kindV 3 false (sl2 g) 16 16 0 84 85),
   (5, kindV 4 false (sl2 g) 1 64 1000 89 90),
   (6, kindV 5 false (.slice (some ⟨g, 2, none⟩) 1 1) 12 12 1000 89 94)]
abbrev ints' (l : List Int) : List Value := l.map (fun x => .int .i64 x)
theorem underK : Tryz.prog.underlying tKinds = some (.map 3 tKind) := by kernel_rfl
theorem wpList_insert {P : Program} {ops : Array Oper} {rest : List Oper} {o : Oper} {a : Act} {Q : Exit → Act → World → Prop} {w : World} (T K E : TypeId) (hT : P.underlying T = some (.map K E)) (q : IntKind) (hk : P.underlying K = some (.int q)) (hq : q = .i64)
    (b : Nat) (l : List (Int × Value)) (hmap : MapAt w b l) (hg : o.guard = none) (m x v : Operand) (hop : o.op = Op.insert T m x v) (hm : a.eval m = .map (some b)) (n : Int) (hx : a.eval x = .int .i64 n) (val : Value) (hv : a.eval v = val) (hn : getM l n = none)
    (hK : ∀ w', MapAt w' b (l ++ [(n, val)]) → Chg w.heap.size [b] w w' → w'.heap.size = w.heap.size → (∀ g cs T', Blk w g cs T' → Blk w' g cs T') → wpList P ops Q rest (a.put o.dst undef) w') :
    wpList P ops Q (o :: rest) a w := by
  refine wpList_plain hg fun K' hK' => ?_
  have hr := run_put_ents hT q hk hq hmap n hn val
  unfold Oper.wp
  simp [execOp, hop, hm, hx, hv, hr, Result.andThen]
  exact hK' _ _ (hK _ (hmap.put n val) ((Chg.refl _ _ w).setBlock hmap (.inl (by simp)) _) (size_setBlock _) (fun g cs T' hB => hB.setBlock hmap _))
theorem fk : Tryz.prog.underlying 3 = some (.int .i64) := Tryz.underlying3

set_option maxRecDepth 100000 in
set_option maxHeartbeats 4000000 in
theorem kinds_any (w : World) :
    Calls Tryz.prog 44 #[] w fun e w' => ∃ b g k1 k2, e = .returned (.map (some b)) ∧ MapAt w' b (kindsL g k1 k2) ∧ Blk w' g (ints' [16, 16, 32, 32]) tSpan ∧ Blk w' k1 (ints' [0, 0]) tSpan ∧ Blk w' k2 (ints' [1, 100]) tSpan ∧ Below w.heap.size w w' := by
  have hmm := @run_makeMap Tryz.prog
  have b0 := Blk.new w (ints' [16, 16, 32, 32]) tSpan
  obtain ⟨wa, hwa⟩ : ∃ wa, w.alloc (.cells (ints' [16, 16, 32, 32]).toArray tSpan) = wa := ⟨_, rfl⟩
  rw [hwa] at b0
  have hBa : Below w.heap.size w wa := hwa ▸ (Below.refl _ _).alloc (Nat.le_refl _) _
  have hsa : wa.heap.size = w.heap.size + 1 := by rw [← hwa]; simp
  have hm0 := (MapAt.made wa).alloc (.cells (ints' [0, 0]).toArray tSpan)
  have b1 := Blk.new (wa.alloc (.map #[] 0)) (ints' [0, 0]) tSpan
  have hsm : (wa.alloc (.map #[] 0)).heap.size = w.heap.size + 1 + 1 := by simp [hsa]
  rw [hsa] at hm0
  rw [hsm] at b1
  have b0' := (b0.alloc (.map #[] 0)).alloc (.cells (ints' [0, 0]).toArray tSpan)
  have hBb : Below w.heap.size w ((wa.alloc (.map #[] 0)).alloc (.cells (ints' [0, 0]).toArray tSpan)) := (hBa.alloc (by omega) _).alloc (by omega) _
  have hsb : ((wa.alloc (.map #[] 0)).alloc (.cells (ints' [0, 0]).toArray tSpan)).heap.size = w.heap.size + 1 + 1 + 1 := by simp [hsa]
  have HWA := hid hwa
  clear hwa hsm b0
  go_enter Tryz.func44, Tryz.ntmps44
  go_upto_region 2 with (fail)
  change Code.wp _ _ _ _ (w.alloc (.cells (ints' [16, 16, 32, 32]).toArray tSpan))
  rw [HWA.out]
  clear HWA
  go_wp2_with (refine wpList_insert tKinds 3 tKind underK .i64 fk rfl _ [] hm0 rfl _ _ _ rfl rfl 1 rfl _ rfl rfl ?_)
  intro w1 m1 c1 s1 t1
  have hs1 : w1.heap.size = w.heap.size + 1 + 1 + 1 := s1
  have k0 := t1 _ _ _ b0'
  have k1 := t1 _ _ _ b1
  have hB1 : Below w.heap.size w w1 := hBb.trans (c1.below (by omega) (fun k hk => by simp at hk; omega))
  clear hm0 c1 s1 t1 hsb hBb b1 b0' hsa hBa
  have m1' := m1.alloc (.cells (ints' [1, 100]).toArray tSpan)
  have k0' := k0.alloc (.cells (ints' [1, 100]).toArray tSpan)
  have k1' := k1.alloc (.cells (ints' [1, 100]).toArray tSpan)
  have k2' := Blk.new w1 (ints' [1, 100]) tSpan
  rw [hs1] at k2'
  have hB1' : Below w.heap.size w (w1.alloc (.cells (ints' [1, 100]).toArray tSpan)) := hB1.alloc (by omega) _
  clear m1 k0 k1 hB1
  go_wp2_with (refine wpList_insert tKinds 3 tKind underK .i64 fk rfl _ _ m1' rfl _ _ _ rfl rfl 2 rfl _ rfl rfl ?_)
  intro w2 m2 c2 s2 t2
  have j0 := t2 _ _ _ k0'
  have j1 := t2 _ _ _ k1'
  have j2 := t2 _ _ _ k2'
  have hB2 : Below w.heap.size w w2 := hB1'.trans (c2.below (by omega) (fun k hk => by simp at hk; omega))
  clear hB1' c2 s2 t2 k0' k1' k2' m1'
  go_wp2_with (refine wpList_insert tKinds 3 tKind underK .i64 fk rfl _ _ m2 rfl _ _ _ rfl rfl 3 rfl _ rfl rfl ?_)
  intro w3 m3 c3 s3 t3
  have i0 := t3 _ _ _ j0
  have i1 := t3 _ _ _ j1
  have i2 := t3 _ _ _ j2
  have hB3 : Below w.heap.size w w3 := hB2.trans (c3.below hB2.size (fun k hk => by simp at hk; omega))
  clear hB2 c3 s3 t3 j0 j1 j2 m2
  go_wp2_with (refine wpList_insert tKinds 3 tKind underK .i64 fk rfl _ _ m3 rfl _ _ _ rfl rfl 4 rfl _ rfl rfl ?_)
  intro w4 m4 c4 s4 t4
  have j0 := t4 _ _ _ i0
  have j1 := t4 _ _ _ i1
  have j2 := t4 _ _ _ i2
  have hB4 : Below w.heap.size w w4 := hB3.trans (c4.below hB3.size (fun k hk => by simp at hk; omega))
  clear hB3 c4 s4 t4 i0 i1 i2 m3
  go_wp2_with (refine wpList_insert tKinds 3 tKind underK .i64 fk rfl _ _ m4 rfl _ _ _ rfl rfl 5 rfl _ rfl rfl ?_)
  intro w5 m5 c5 s5 t5
  have i0 := t5 _ _ _ j0
  have i1 := t5 _ _ _ j1
  have i2 := t5 _ _ _ j2
  have hB5 : Below w.heap.size w w5 := hB4.trans (c5.below hB4.size (fun k hk => by simp at hk; omega))
  clear hB4 c5 s5 t5 j0 j1 j2 m4
  go_wp2_with (refine wpList_insert tKinds 3 tKind underK .i64 fk rfl _ _ m5 rfl _ _ _ rfl rfl 6 rfl _ rfl rfl ?_)
  intro w6 m6 c6 s6 t6
  have j0 := t6 _ _ _ i0
  have j1 := t6 _ _ _ i1
  have j2 := t6 _ _ _ i2
  have hB6 : Below w.heap.size w w6 := hB5.trans (c6.below hB5.size (fun k hk => by simp at hk; omega))
  clear hB5 c6 s6 t6 i0 i1 i2 m5
  go_wp2_with fail
  go_ret
  exact ⟨_, _, _, _, rfl, m6, j0, j1, j2, hB6⟩
end Go.Proofs.YtnmmnlffobnbfaaGreatDoor
