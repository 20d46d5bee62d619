/- Py · Pm · Pw · Pz (joined by merge4.py) -/
import Derived.Test.YtnmmnlffobnbfaaGreatDoorMO
import Derived.Laws.MathBits
import Derived.Laws.Externs
import Derived.Test.YtnmmnlffobnbfaaGreatDoorMF
import Derived.Deep.DeepCutAuto
import Derived.Laws.BitsAllLaws
/- Poly1305 in numbers of 64 bits, as plain functions -/
namespace Go.Proofs.YtnmmnlffobnbfaaGreatDoor
open Go.RowKit

def tmF (a b : Nat) : Nat × Nat := (a * b % 18446744073709551616, a * b / 18446744073709551616)
def plF (a b : Nat × Nat) : Nat × Nat := ((a.1 + b.1) % 18446744073709551616, (a.2 + b.2 + (a.1 + b.1) / 18446744073709551616) % 18446744073709551616)
/-- A state's number in three parts. -/
structure H3 where
  a : Nat
  b : Nat
  c : Nat
def H3.ok (h : H3) : Prop := h.a < 18446744073709551616 ∧ h.b < 18446744073709551616 ∧ h.c < 18446744073709551616
def okP (p : Nat × Nat) : Prop := p.1 < 18446744073709551616 ∧ p.2 < 18446744073709551616
def adF (h : H3) (n : Nat × Nat) (high : Nat) : H3 where
  a := (h.a + n.1) % 18446744073709551616
  b := (h.b + n.2 + (h.a + n.1) / 18446744073709551616) % 18446744073709551616
  c := (h.c + ((h.b + n.2 + (h.a + n.1) / 18446744073709551616) / 18446744073709551616 + high) % 18446744073709551616) % 18446744073709551616
theorem adF_ok (h : H3) (n : Nat × Nat) (high : Nat) : (adF h n high).ok := ⟨Nat.mod_lt _ (by decide), Nat.mod_lt _ (by decide), Nat.mod_lt _ (by decide)⟩
theorem tmF_ok (a b : Nat) (ha : a < 18446744073709551616) (hb : b < 18446744073709551616) : okP (tmF a b) := by
  refine ⟨Nat.mod_lt _ (by decide), ?_⟩
  have h1 : a * b ≤ 18446744073709551615 * 18446744073709551615 := Nat.mul_le_mul (by omega) (by omega)
  show a * b / 18446744073709551616 < 18446744073709551616
  omega
theorem plF_ok (a b : Nat × Nat) : okP (plF a b) := ⟨Nat.mod_lt _ (by decide), Nat.mod_lt _ (by decide)⟩
/-- A sum of two numbers and a carry, and its carry. -/
def sm (x y c : Nat) : Nat := (x + y + c) % 18446744073709551616
def cy (x y c : Nat) : Nat := (x + y + c) / 18446744073709551616
/-- What comes of four parts: what is above 2^130 is taken back in. -/
def foldF (t0 t1 t2 t3 : Nat) : H3 :=
  adF (adF ⟨t0, t1, t2 % 4⟩ (t2 - t2 % 4, t3) 0) (t2 / 4 + t3 % 4 * 4611686018427387904, t3 / 4) 0
def mulT (h : H3) (r : Nat × Nat) : Nat × Nat × Nat × Nat :=
  let f1 := tmF h.a r.1
  let f2 := plF (tmF h.b r.1) (tmF h.a r.2)
  let f3 := plF (tmF h.c r.1) (tmF h.b r.2)
  let f4 := tmF h.c r.2
  let c1 := cy f2.1 f1.2 0
  let c2 := cy f3.1 f2.2 c1
  (f1.1, sm f2.1 f1.2 0, sm f3.1 f2.2 c1, sm f4.1 f3.2 c2)
def muF (h : H3) (r : Nat × Nat) : H3 := let t := mulT h r; foldF t.1 t.2.1 t.2.2.1 t.2.2.2
theorem muF_ok (h : H3) (r : Nat × Nat) : (muF h r).ok := adF_ok _ _ _
/-- Sixteen bytes as two numbers. -/
def halfF (b : List UInt8) : Nat × Nat := (le (b.take 8), le ((b.drop 8).take 8))
theorem halfF_ok (b : List UInt8) : okP (halfF b) := by
  constructor
  · have := le_lt (b.take 8)
    exact Nat.lt_of_lt_of_le this (Nat.pow_le_pow_right (by decide) (by simp; omega) : _ ≤ 256 ^ 8)
  · have := le_lt ((b.drop 8).take 8)
    exact Nat.lt_of_lt_of_le this (Nat.pow_le_pow_right (by decide) (by simp; omega) : _ ≤ 256 ^ 8)
def pstepF (r : Nat × Nat) (h : H3) (b : List UInt8) : H3 := muF (adF h (halfF b) 1) r
/-- Bytes go in, sixteen at a time; what is left over. -/
def pwrF (r : Nat × Nat) (h : H3) (l : List UInt8) : H3 × List UInt8 :=
  if _hl : l.length < 16 then (h, l) else pwrF r (pstepF r h (l.take 16)) (l.drop 16)
termination_by l.length
decreasing_by rw [List.length_drop]; omega
theorem pwrF_short (r : Nat × Nat) (h : H3) (l : List UInt8) (hl : l.length < 16) : pwrF r h l = (h, l) := by
  rw [pwrF]; simp [hl]
theorem pwrF_long (r : Nat × Nat) (h : H3) (l : List UInt8) (hl : ¬ l.length < 16) : pwrF r h l = pwrF r (pstepF r h (l.take 16)) (l.drop 16) := by
  rw [pwrF]; simp [hl]
theorem pwrF_left (r : Nat × Nat) (h : H3) (l : List UInt8) : (pwrF r h l).2.length < 16 := by
  rw [pwrF]
  split
  · assumption
  · exact pwrF_left r _ _
termination_by l.length
decreasing_by rw [List.length_drop]; omega
theorem pwrF_ok (r : Nat × Nat) (h : H3) (l : List UInt8) (ho : h.ok) : (pwrF r h l).1.ok := by
  rw [pwrF]
  split
  · exact ho
  · exact pwrF_ok r _ _ (muF_ok _ _)
termination_by l.length
decreasing_by rw [List.length_drop]; omega
/-- What is left over, as one more part. -/
def plastF (r : Nat × Nat) (h : H3) (l : List UInt8) : H3 :=
  if l = [] then h else muF (adF h (halfF (l ++ [1] ++ List.replicate (15 - l.length) 0)) 0) r
theorem plastF_ok (r : Nat × Nat) (h : H3) (l : List UInt8) (ho : h.ok) : (plastF r h l).ok := by
  unfold plastF
  split
  · exact ho
  · exact muF_ok _ _
/-- A difference, and what is borrowed. -/
def df (x y b : Nat) : Nat := (x + 18446744073709551616 - y - b) % 18446744073709551616
def bo (x y b : Nat) : Nat := if x < y + b then 1 else 0
def predF (h : H3) : Nat × Nat :=
  let b0 := bo h.a 18446744073709551611 0
  let b1 := bo h.b 18446744073709551615 b0
  if bo h.c 3 b1 = 0 then (df h.a 18446744073709551611 0, df h.b 18446744073709551615 b0) else (h.a, h.b)
theorem predF_ok (h : H3) (ho : h.ok) : okP (predF h) := by
  unfold predF df
  dsimp only
  split
  · exact ⟨Nat.mod_lt _ (by decide), Nat.mod_lt _ (by decide)⟩
  · exact ⟨ho.1, ho.2.1⟩
def poutF (h : H3) (s : Nat × Nat) : List UInt8 := leF 8 (plF (predF h) s).1 ++ leF 8 (plF (predF h) s).2
def clampF (b : List UInt8) : List UInt8 := (List.range 16).map fun i => if i % 4 = 3 then b.getD i 0 &&& 15 else if i = 4 ∨ i = 8 ∨ i = 12 then b.getD i 0 &&& 252 else b.getD i 0
theorem clampF_len (b : List UInt8) : (clampF b).length = 16 := by simp [clampF]
/-- The sum of bytes by a key of 32 bytes. -/
def psumF (key b : List UInt8) : List UInt8 :=
  let r := halfF (clampF (key.take 16))
  let x := pwrF r ⟨0, 0, 0⟩ b
  poutF (plastF r x.1 x.2) (halfF ((key.drop 16).take 16))
theorem poutF_len (h : H3) (s : Nat × Nat) : (poutF h s).length = 16 := by simp [poutF, leF_len]
end Go.Proofs.YtnmmnlffobnbfaaGreatDoor

/- math/bits: Mul64, Add64, Sub64, in natural numbers -/
namespace Go.Proofs.YtnmmnlffobnbfaaGreatDoor
open Go.RowKit

set_option maxRecDepth 100000 in
set_option maxHeartbeats 2000000 in
theorem mul64_any (w : World) (x y : Nat) (hx : x < 18446744073709551616) (hy : y < 18446744073709551616) :
    Calls Tryz.prog 216 #[U64 x, U64 y] w fun e w' => e = .returned (.tuple #[U64 (x * y / 18446744073709551616), U64 (x * y % 18446744073709551616)]) ∧ w = w' := by
  have hA := hid (mul64_arith (x : Int) (y : Int) (by omega) (by omega) (by omega) (by omega))
  have m1 := and_low32 (x : Int) (by omega) (by omega)
  have m2 := and_low32 (y : Int) (by omega) (by omega)
  have m4 : ∀ z : Int, IntKind.u64.wrap z = z % 18446744073709551616 := IntKind.wrap_u64
  have m3 : ∀ z : Int, bits .and .u64 (z % 18446744073709551616) 4294967295 = z % 18446744073709551616 % 4294967296 := fun z => and_low32 _ (by omega) (by omega)
  go_enter Tryz.func216, Tryz.ntmps216
  go_wp2_with fail
  go_ret2
  refine ⟨?_, rfl⟩
  have key : ∀ a b c d : Int, a = c → b = d → Ending.returned (.tuple #[.int .u64 a, .int .u64 b]) = Ending.returned (.tuple #[.int .u64 c, .int .u64 d]) := by rintro _ _ _ _ rfl rfl; rfl
  refine key _ _ _ _ ?_ ?_
  · refine Eq.trans ?_ (hA.out.trans (by rw [← Int.natCast_mul]; rfl))
    clear hA key m1 m2 m3 m4
    generalize (x : Int) / 4294967296 * ((y : Int) / 4294967296) = A
    generalize (x : Int) / 4294967296 * ((y : Int) % 4294967296) = B
    generalize (x : Int) % 4294967296 * ((y : Int) / 4294967296) = C
    generalize (x : Int) % 4294967296 * ((y : Int) % 4294967296) = D
    omega
  · simp only [← Int.natCast_mul]; rfl
/-- A sum with a carry. -/
theorem add64_cy (x y c : Nat) (hc : c ≤ 1) (w : World) : (callFunc 214 #[U64 x, U64 y, U64 c]).run Tryz.prog w = .ok (.value (.tuple #[U64 (sm x y c), U64 (cy x y c)])) w := by
  rw [run_callFunc_extern Tryz.func214 (by kernel_rfl) (by kernel_rfl) (by kernel_rfl) (e := add64Entry) (by kernel_rfl), run_add64 x y c (by omega) (by omega) (by omega) (by omega)]
  simp only [Result.andThen, U64, sm, cy]
  congr 5 <;> omega
theorem add64_no (x y : Nat) (w : World) : (callFunc 214 #[U64 x, U64 y, .int .u64 0]).run Tryz.prog w = .ok (.value (.tuple #[U64 (sm x y 0), U64 (cy x y 0)])) w := add64_cy x y 0 (by omega) w
def sub64Entry : Array Value → Sem Value := fun args => do
  let (x, y, b) ← Extern.MathBitsCarry.three "Sub64" args
  pure (Extern.MathBitsCarry.pair ((x + Extern.MathBitsCarry.m64 - y - b) % Extern.MathBitsCarry.m64) (if x < y + b then 1 else 0))
theorem run_sub64 {P : Program} (x y b : Nat) (hb : b ≤ 1) (w : World) :
    (sub64Entry #[U64 x, U64 y, U64 b]).run P w = .ok (.tuple #[U64 (df x y b), U64 (bo x y b)]) w := by
  have h : b = 0 ∨ b = 1 := by omega
  rcases h with rfl | rfl <;> rfl
theorem sub64_bo (x y b : Nat) (hb : b ≤ 1) (w : World) : (callFunc 208 #[U64 x, U64 y, U64 b]).run Tryz.prog w = .ok (.value (.tuple #[U64 (df x y b), U64 (bo x y b)])) w := by
  rw [run_callFunc_extern Tryz.func208 (by kernel_rfl) (by kernel_rfl) (by kernel_rfl) (e := sub64Entry) (by kernel_rfl), run_sub64 x y b hb]
  rfl
theorem sub64_a (x : Nat) (w : World) : (callFunc 208 #[U64 x, .int .u64 18446744073709551611, .int .u64 0]).run Tryz.prog w = .ok (.value (.tuple #[U64 (df x 18446744073709551611 0), U64 (bo x 18446744073709551611 0)])) w := sub64_bo x 18446744073709551611 0 (by omega) w
theorem sub64_b (x b : Nat) (hb : b ≤ 1) (w : World) : (callFunc 208 #[U64 x, .int .u64 18446744073709551615, U64 b]).run Tryz.prog w = .ok (.value (.tuple #[U64 (df x 18446744073709551615 b), U64 (bo x 18446744073709551615 b)])) w := sub64_bo x 18446744073709551615 b hb w
theorem sub64_c (x b : Nat) (hb : b ≤ 1) (w : World) : (callFunc 208 #[U64 x, .int .u64 3, U64 b]).run Tryz.prog w = .ok (.value (.tuple #[U64 (df x 3 b), U64 (bo x 3 b)])) w := sub64_bo x 3 b hb w
end Go.Proofs.YtnmmnlffobnbfaaGreatDoor

/- Poly1305: times, plus, half, add, walked -/
namespace Go.Proofs.YtnmmnlffobnbfaaGreatDoor
open Go.RowKit

abbrev tPr : TypeId := 241
abbrev tPst : TypeId := 245
abbrev prV (p : Nat × Nat) : Value := .agg #[U64 p.1, U64 p.2]
theorem sizePr : (Tryz.prog.info? tPr).map (·.size) = some 2 := by kernel_rfl
set_option maxRecDepth 100000 in
set_option maxHeartbeats 2000000 in
theorem times_any (w : World) (a b : Nat) (ha : a < 18446744073709551616) (hb : b < 18446744073709551616) :
    Calls Tryz.prog 222 #[U64 a, U64 b] w fun e w' => e = .returned (prV (tmF a b)) ∧ Below w.heap.size w w' := by
  have hN := Blk.new w [U64 (tmF a b).1, U64 (tmF a b).2] tPr
  have hB : Below w.heap.size w (w.alloc (.cells [U64 (tmF a b).1, U64 (tmF a b).2].toArray tPr)) := (Below.refl _ _).alloc (Nat.le_refl _) _
  have HN := hid hN
  have HB := hid hB
  clear hN hB
  go_enter Tryz.func222, Tryz.ntmps222
  go_wp2_with fail
  refine (mul64_any _ a b ha hb).mono ?_
  rintro e w2 ⟨rfl, rfl⟩
  go_wp2_with fail
  refine bodyPost_ret (v := prV (tmF a b)) (results_cell_row (P := Tryz.prog) (p := 4) (ty := tPr) rfl _ _ w.heap.size tPr _ (0, 0) _ rfl HN.out Tryz.underlying241 rfl sizePr) rfl ⟨rfl, HB.out⟩
theorem plF_eq (p q : Nat × Nat) : plF p q = (sm p.1 q.1 0, sm p.2 q.2 (cy p.1 q.1 0)) := rfl
theorem cy_le (x y c : Nat) (hx : x < 18446744073709551616) (hy : y < 18446744073709551616) (hc : c ≤ 1) : cy x y c ≤ 1 := by unfold cy; omega
set_option maxRecDepth 100000 in
set_option maxHeartbeats 2000000 in
theorem plus_any (w : World) (p q : Nat × Nat) (hp : okP p) (hq : okP q) :
    Calls Tryz.prog 209 #[prV p, prV q] w fun e w' => e = .returned (prV (plF p q)) ∧ Below w.heap.size w w' := by
  obtain ⟨a, b⟩ := p
  obtain ⟨c, d⟩ := q
  have h1 := fun w => add64_no a c w
  have h2 := fun w => add64_cy b d (cy a c 0) (cy_le a c 0 hp.1 hq.1 (by omega)) w
  have HF := hid (plF_eq (a, b) (c, d))
  go_enter Tryz.func209, Tryz.ntmps209
  go_wp2_with fail
  have hN := Blk.new ((w.alloc (.cells [U64 a, U64 b].toArray tPr)).alloc (.cells [U64 c, U64 d].toArray tPr)) [U64 (sm a c 0), U64 (sm b d (cy a c 0))] tPr
  rw [show ((w.alloc (.cells [U64 a, U64 b].toArray tPr)).alloc (.cells [U64 c, U64 d].toArray tPr)).heap.size = w.heap.size + 1 + 1 from by simp] at hN
  have hB : Below w.heap.size w (((w.alloc (.cells [U64 a, U64 b].toArray tPr)).alloc (.cells [U64 c, U64 d].toArray tPr)).alloc (.cells [U64 (sm a c 0), U64 (sm b d (cy a c 0))].toArray tPr)) := (((Below.refl _ _).alloc (Nat.le_refl _) _).alloc (by simp) _).alloc (by simp; omega) _
  refine bodyPost_ret (v := prV (plF (a, b) (c, d))) (results_cell_row (P := Tryz.prog) (p := 4) (ty := tPr) rfl _ _ (w.heap.size + 1 + 1) tPr _ (0, 0) _ rfl hN Tryz.underlying241 rfl sizePr) rfl ⟨rfl, hB⟩

theorem Blk.congr {w : World} {b : Nat} {cs cs' : List Value} {T : TypeId} (h : Blk w b cs T) (e : cs = cs') : Blk w b cs' T := e ▸ h
/-- A state's cells. -/
def PC (r s : Nat × Nat) (h : H3) (v : Value) : List Value := [U64 r.1, U64 r.2, U64 s.1, U64 s.2, U64 h.a, U64 h.b, U64 h.c, v]
set_option maxRecDepth 100000 in
set_option maxHeartbeats 4000000 in
theorem padd_any (w : World) (p : Nat) (r s : Nat × Nat) (h : H3) (v : Value) (n : Nat × Nat) (hi : Nat) (hp : Blk w p (PC r s h v) tPst) (hh : h.ok) (hn : okP n) (hhi : hi ≤ 1) :
    Calls Tryz.prog 206 #[.pointer (some ⟨p, 0, none⟩), prV n, U64 hi] w fun e w' => e = .returned (.tuple #[]) ∧ Blk w' p (PC r s (adF h n hi) v) tPst ∧ Chg w.heap.size [p] w w' := by
  obtain ⟨a, b, c⟩ := h
  obtain ⟨x, y⟩ := n
  have h1 := fun w => add64_no a x w
  have h2 := fun w => add64_cy b y (cy a x 0) (cy_le a x 0 hh.1 hn.1 (by omega)) w
  have hpl := hp.lt
  have b1 := Blk.new w [U64 x, U64 y] tPr
  have hp1 := hp.alloc (.cells [U64 x, U64 y].toArray tPr)
  have hB1 : Chg w.heap.size [p] w (w.alloc (.cells [U64 x, U64 y].toArray tPr)) := (Chg.refl _ _ _).alloc (Nat.le_refl _) _
  obtain ⟨w1, hw1⟩ : ∃ w1, w.alloc (.cells [U64 x, U64 y].toArray tPr) = w1 := ⟨_, rfl⟩
  rw [hw1] at b1 hp1 hB1
  have HW1 := hid hw1
  clear hw1
  go_enter Tryz.func206, Tryz.ntmps206
  go_upto_region 2 with (fail)
  change Code.wp _ _ _ _ (w.alloc (.cells [U64 x, U64 y].toArray tPr))
  rw [HW1.out]
  clear HW1
  have c4 : w1.cell? ⟨p, 4, none⟩ = some (U64 a) := hp1.cell 4
  have f4 := hp1.frozen 4
  have n0 : w1.cell? ⟨w.heap.size, 0, none⟩ = some (U64 x) := b1.cell 0
  go_region
  have hp2 := (hp1.set 4 (U64 (sm a x 0))).drew
  have b2 := (b1.setNe (a := ⟨p, 4, none⟩) (by simp; omega) (U64 (sm a x 0))).drew
  have hB2 := (hB1.setCell (p := ⟨p, 4, none⟩) (.inl (by simp)) (U64 (sm a x 0))).drew
  clear hp1 b1 hB1 c4 f4 n0 h1
  go_upto_region 3 with (fail)
  change Code.wp _ _ _ _ (w1.setCell ⟨p, 4, none⟩ (U64 (sm a x 0))).drew
  generalize (w1.setCell ⟨p, 4, none⟩ (U64 (sm a x 0))).drew = w2 at *
  have c5 : w2.cell? ⟨p, 5, none⟩ = some (U64 b) := hp2.cell 5
  have f5 := hp2.frozen 5
  have n1 : w2.cell? ⟨w.heap.size, 1, none⟩ = some (U64 y) := b2.cell 1
  have hcy := cy_le b y (cy a x 0) hh.2.1 hn.2 (cy_le a x 0 hh.1 hn.1 (by omega))
  go_region
  have hp3 := (hp2.set 5 (U64 (sm b y (cy a x 0)))).drew
  have hB3 := (hB2.setCell (p := ⟨p, 5, none⟩) (.inl (by simp)) (U64 (sm b y (cy a x 0)))).drew
  clear hp2 b2 hB2 c5 f5 n1 h2
  go_upto_region 4 with (fail)
  change Code.wp _ _ _ _ (w2.setCell ⟨p, 5, none⟩ (U64 (sm b y (cy a x 0)))).drew
  generalize (w2.setCell ⟨p, 5, none⟩ (U64 (sm b y (cy a x 0)))).drew = w3 at *
  have c6 : w3.cell? ⟨p, 6, none⟩ = some (U64 c) := hp3.cell 6
  have f6 := hp3.frozen 6
  have HF := hid (show adF ⟨a, b, c⟩ (x, y) hi = ⟨sm a x 0, sm b y (cy a x 0), (c + (cy b y (cy a x 0) + hi) % 18446744073709551616) % 18446744073709551616⟩ from rfl)
  generalize cy b y (cy a x 0) = z at *
  go_region
  go_end0
  refine ⟨rfl, ?_, ?_⟩
  · rw [HF.out]
    refine Blk.congr (hp3.set 6 _).drew ?_
    show [_, _, _, _, _, _, _, _] = [_, _, _, _, _, _, _, _]
    rw [show IntKind.u64.wrap ((c : Int) + ((z : Int) + (hi : Int))) = (((c + (z + hi) % 18446744073709551616) % 18446744073709551616 : Nat) : Int) from by rw [IntKind.wrap_u64]; omega]
  · exact (hB3.setCell (p := ⟨p, 6, none⟩) (.inl (by simp)) _).drew

set_option maxRecDepth 100000 in
set_option maxHeartbeats 4000000 in
theorem half_any (w : World) (b o n cap : Nat) (l : List UInt8) (hl : RowAt w (some ⟨b, o, none⟩) l) (hn : l.length = n) (h16 : 16 ≤ n) (hc : n ≤ cap) :
    Calls Tryz.prog 205 #[.slice (some ⟨b, o, none⟩) n cap] w fun e w' => e = .returned (prV (halfF l)) ∧ Below w.heap.size w w' := by
  have hN := Blk.new w [U64 0, U64 0] tPr
  have hB : Below w.heap.size w (w.alloc (.cells [U64 0, U64 0].toArray tPr)) := (Below.refl _ _).alloc (Nat.le_refl _) _
  have hl1 := hl.below hB
  have HF := hid (show halfF l = (le (l.take 8), le ((l.drop 8).take 8)) from rfl)
  have hsz : (w.alloc (.cells [U64 0, U64 0].toArray tPr)).heap.size = w.heap.size + 1 := by simp
  obtain ⟨w1, hw1⟩ : ∃ w1, w.alloc (.cells [U64 0, U64 0].toArray tPr) = w1 := ⟨_, rfl⟩
  rw [hw1] at hN hB hl1 hsz
  have HW1 := hid hw1
  have ht1 := hl1.take 8
  have ht2 := (hl1.drop 8).take 8
  have l1 : (l.take 8).length = 8 := by rw [List.length_take]; omega
  have l2 : ((l.drop 8).take 8).length = 8 := by rw [List.length_take, List.length_drop]; omega
  have L1 := hid l1
  have L2 := hid l2
  have q1 : ¬ (n : Int) < 8 := by omega
  have q2 : ¬ (n : Int) < 16 := by omega
  have q3 : (8 : Int) ≤ (cap : Int) := by omega
  have q4 : (16 : Int) ≤ (cap : Int) := by omega
  have q5 : ¬ cap = 8 := by omega
  have q6 : ¬ cap = 0 := by omega
  clear hw1 l1 l2 hl hl1
  generalize l.take 8 = A at *
  generalize (l.drop 8).take 8 = C at *
  go_enter Tryz.func205, Tryz.ntmps205
  go_upto_region 1 with (fail)
  change Code.wp _ _ _ _ (w.alloc (.cells [U64 0, U64 0].toArray tPr))
  rw [HW1.out]
  clear HW1
  try simp only [Act.put]
  refine tkR (fun _ => True) [7] (by kernel_rfl) (fun c a d v w h => by cases d <;> exact h) (trivial) (fun hPF hHeld => ?_)
  refine tkB 0 (.some 3) _ _ rfl rfl (by kernel_rfl) (by kernel_rfl) (by kernel_rfl) (by kernel_rfl) hPF rfl (fun w' => by (go_simp; try with_reducible rfl)) hHeld (fun hHeld => ?_)
  simp only [Act.put, List.setIfInBounds_toArray, List.set_cons_zero, List.set_cons_succ]
  refine tkA 1 (.some 4) _ (.slice (some ⟨b, o, none⟩) 8 cap) rfl rfl (by kernel_rfl) (by kernel_rfl) (by kernel_rfl) (by kernel_rfl) (by kernel_rfl) hPF rfl (fun w' hw' => by (go_simp)) hHeld (fun hHeld => ?_)
  simp only [Act.put, List.setIfInBounds_toArray, List.set_cons_zero, List.set_cons_succ]
  refine tkB 3 (.some 6) _ _ rfl rfl (by kernel_rfl) (by kernel_rfl) (by kernel_rfl) (by kernel_rfl) hPF rfl (fun w' => by (go_simp; try with_reducible rfl)) hHeld (fun hHeld => ?_)
  simp only [Act.put, List.setIfInBounds_toArray, List.set_cons_zero, List.set_cons_succ]
  refine tkA 4 (.some 7) _ (.slice (some ⟨b, o + 8, none⟩) 8 (cap - 8)) rfl rfl (by kernel_rfl) (by kernel_rfl) (by kernel_rfl) (by kernel_rfl) (by kernel_rfl) hPF rfl (fun w' hw' => by (go_simp)) hHeld (fun hHeld => ?_)
  simp only [Act.put, List.setIfInBounds_toArray, List.set_cons_zero, List.set_cons_succ]
  have hS := hHeld (by kernel_rfl)
  refine tkW (rs := [2]) (by kernel_rfl) (by simp) (AllK.cons (o := _) rfl (fun KC hKC => ?_) AllK.nil)
  go_simp
  refine (little_any _ _ 8 cap A ht1.drew L1.out (by omega) (by omega) (by omega)).mono ?_
  rintro e w2 ⟨rfl, hB2⟩
  have hN2 := hN.drew.below hB2 hN.lt
  have ht3 := ht2.drew.chg (Chg.ofBelow (F := []) hB2) (Nat.le_refl _) (fun _ _ => by simp)
  have hBB := hB.drew.trans (hB2.mono hB.size)
  refine hKC.out _ _ (trivial) (fun hHeld => ?_)
  clear hKC KC
  try simp only [Act.put, List.setIfInBounds_toArray, List.set_cons_zero, List.set_cons_succ]
  have hS := hHeld (by kernel_rfl)
  refine tkW (rs := [5]) (by kernel_rfl) (by simp) (AllK.cons (o := _) rfl (fun KC hKC => ?_) AllK.nil)
  go_simp
  refine (little_any _ _ 8 (cap - 8) C ht3 L2.out (by omega) (by omega) (by omega)).mono ?_
  rintro e w3 ⟨rfl, hB3⟩
  have hN3 := hN2.below hB3 hN2.lt
  have hBC := hBB.trans (hB3.mono hBB.size)
  have k0 : w3.cell? ⟨w.heap.size, 0, none⟩ = some (U64 0) := hN3.cell 0
  have k1 : w3.cell? ⟨w.heap.size, 1, none⟩ = some (U64 0) := hN3.cell 1
  have f0 := hN3.frozen 0
  have f1 := hN3.frozen 1
  refine hKC.out _ _ (trivial) (fun hHeld => ?_)
  clear hKC KC
  try simp only [Act.put, List.setIfInBounds_toArray, List.set_cons_zero, List.set_cons_succ]
  refine tkB 6 (.some 9) _ _ rfl rfl (by kernel_rfl) (by kernel_rfl) (by kernel_rfl) (by kernel_rfl) hPF rfl (fun w' => by (go_simp; try with_reducible rfl)) hHeld (fun hHeld => ?_)
  simp only [Act.put, List.setIfInBounds_toArray, List.set_cons_zero, List.set_cons_succ]
  refine tkW (rs := [7]) (by kernel_rfl) (by simp) (AllK.close (o := _) rfl (by kernel_rfl) (fun KC hKC => ?_) AllK.nil)
  go_simp
  refine hKC.out _ _ (fun hHeld => ?_)
  clear hKC KC
  try simp only [Act.put]
  refine tkD (by kernel_rfl) ?_ _
  have hC4 : Chg w3.heap.size [w.heap.size] w3 ((w3.setCell ⟨w.heap.size, 0, none⟩ (U64 (le A))).setCell ⟨w.heap.size, 1, none⟩ (U64 (le C))) := ((Chg.refl _ _ _).setCell (p := ⟨w.heap.size, 0, none⟩) (.inl (by simp)) _).setCell (p := ⟨w.heap.size, 1, none⟩) (.inl (by simp)) _
  have hN4 := (hN3.set 0 (U64 (le A))).set 1 (U64 (le C))
  have HN := hid hN4
  have HB := hid (hBC.trans (hC4.below hBC.size (fun k hk => by simp at hk; omega)))
  clear hN4 hC4 hBC hN3 hB3 hBB hN2 hB2
  go_wp2_with fail
  refine bodyPost_ret (v := prV (le A, le C)) (results_cell_row (P := Tryz.prog) (p := 2) (ty := tPr) rfl _ _ w.heap.size tPr _ (0, 0) _ rfl HN.out Tryz.underlying241 rfl sizePr) rfl ⟨by rw [HF.out], HB.out⟩
end Go.Proofs.YtnmmnlffobnbfaaGreatDoor

/- Poly1305: multiply, walked; printed by wip/gen_pm.py -/
namespace Go.Proofs.YtnmmnlffobnbfaaGreatDoor
open Go.RowKit

theorem setWhole3 {w : World} {b : Nat} {x y z : Value} {T : TypeId} (h : Blk w b [x, y, z] T) (u v t : Value) : Blk (((w.setCell ⟨b, 0, none⟩ u).setCell ⟨b, 1, none⟩ v).setCell ⟨b, 2, none⟩ t) b [u, v, t] T ∧ Chg w.heap.size [b] w (((w.setCell ⟨b, 0, none⟩ u).setCell ⟨b, 1, none⟩ v).setCell ⟨b, 2, none⟩ t) :=
  ⟨((h.set 0 u).set 1 v).set 2 t, (((Chg.refl _ _ _).setCell (p := ⟨b, 0, none⟩) (.inl (by simp)) _).setCell (p := ⟨b, 1, none⟩) (.inl (by simp)) _).setCell (p := ⟨b, 2, none⟩) (.inl (by simp)) _⟩
theorem setWhole2 {w : World} {b : Nat} {x y : Value} {T : TypeId} (h : Blk w b [x, y] T) (u v : Value) : Blk ((w.setCell ⟨b, 0, none⟩ u).setCell ⟨b, 1, none⟩ v) b [u, v] T ∧ Chg w.heap.size [b] w ((w.setCell ⟨b, 0, none⟩ u).setCell ⟨b, 1, none⟩ v) :=
  ⟨(h.set 0 u).set 1 v, ((Chg.refl _ _ _).setCell (p := ⟨b, 0, none⟩) (.inl (by simp)) _).setCell (p := ⟨b, 1, none⟩) (.inl (by simp)) _⟩
abbrev tH3 : TypeId := 243
abbrev tH4 : TypeId := 263
theorem sizeH3 : (Tryz.prog.info? tH3).map (·.size) = some 3 := by kernel_rfl
theorem mod4 (a : Nat) (ha : a < 18446744073709551616) : bits .and .u64 (a : Int) 3 = ((a % 4 : Nat) : Int) := by
  have h := bits_and_u64_nat a 3 ha (by omega)
  have e : a &&& 3 = a % 4 := Nat.and_two_pow_sub_one_eq_mod a 2
  rw [e] at h
  exact h
theorem and_hi (a : Nat) (ha : a < 18446744073709551616) : a &&& 18446744073709551612 = a - a % 4 := by
  have e : (18446744073709551612 : Nat) = (2 ^ 62 - 1) <<< 2 := by decide
  have e2 : a - a % 4 = (a >>> 2) <<< 2 := by rw [Nat.shiftRight_eq_div_pow, Nat.shiftLeft_eq]; omega
  rw [e, e2]
  apply Nat.eq_of_testBit_eq
  intro i
  simp only [Nat.testBit_and, Nat.testBit_shiftLeft, Nat.testBit_two_pow_sub_one, Nat.testBit_shiftRight]
  by_cases h2 : 2 ≤ i
  · by_cases h64 : i < 64
    · simp [h2, show i - 2 < 62 by omega, show 2 + (i - 2) = i by omega]
    · have hz : a.testBit i = false := Nat.testBit_lt_two_pow (Nat.lt_of_lt_of_le ha (by exact Nat.pow_le_pow_right (n := 2) (by decide) (show 64 ≤ i by omega)))
      simp [hz, show 2 + (i - 2) = i by omega]
  · simp [h2]
theorem notLow (a : Nat) (ha : a < 18446744073709551616) : bits .andNot .u64 (a : Int) 3 = ((a - a % 4 : Nat) : Int) := by
  have h := u64_andNot_nat a 3 ha (by omega)
  rw [show 18446744073709551615 - 3 = 18446744073709551612 from rfl, and_hi a ha] at h
  exact h
theorem orHi (a b : Nat) (ha : a < 18446744073709551616) (_ : b < 18446744073709551616) : bits .or .u64 ((a : Int) / 4) (IntKind.u64.wrap ((b : Int) * 4611686018427387904)) = ((a / 4 + b % 4 * 4611686018427387904 : Nat) : Int) := by
  rw [IntKind.wrap_u64, show ((a : Int) / 4) = ((a / 4 : Nat) : Int) from by omega, show ((b : Int) * 4611686018427387904 % 18446744073709551616) = ((b % 4 * 4611686018427387904 : Nat) : Int) from by omega, u64_or_nat _ _ (by omega) (by omega)]
  have := Nat.two_pow_add_eq_or_of_lt (i := 62) (b := a / 4) (by omega) (b % 4)
  rw [Nat.or_comm, show b % 4 * 4611686018427387904 = 2 ^ 62 * (b % 4) by omega, ← this]
  omega
theorem sm_lt (x y c : Nat) : sm x y c < 18446744073709551616 := Nat.mod_lt _ (by decide)
theorem muF_eq (h : H3) (r : Nat × Nat) : muF h r = adF (adF ⟨(mulT h r).1, (mulT h r).2.1, (mulT h r).2.2.1 % 4⟩ ((mulT h r).2.2.1 - (mulT h r).2.2.1 % 4, (mulT h r).2.2.2) 0) ((mulT h r).2.2.1 / 4 + (mulT h r).2.2.2 % 4 * 4611686018427387904, (mulT h r).2.2.2 / 4) 0 := rfl
theorem mulT_eq (h : H3) (r : Nat × Nat) : mulT h r = ((tmF h.a r.1).1, sm (plF (tmF h.b r.1) (tmF h.a r.2)).1 (tmF h.a r.1).2 0, sm (plF (tmF h.c r.1) (tmF h.b r.2)).1 (plF (tmF h.b r.1) (tmF h.a r.2)).2 (cy (plF (tmF h.b r.1) (tmF h.a r.2)).1 (tmF h.a r.1).2 0),
  sm (tmF h.c r.2).1 (plF (tmF h.c r.1) (tmF h.b r.2)).2 (cy (plF (tmF h.c r.1) (tmF h.b r.2)).1 (plF (tmF h.b r.1) (tmF h.a r.2)).2 (cy (plF (tmF h.b r.1) (tmF h.a r.2)).1 (tmF h.a r.1).2 0))) := rfl

set_option maxRecDepth 100000 in
set_option maxHeartbeats 8000000 in
theorem pmul_any (w : World) (p : Nat) (r s : Nat × Nat) (h : H3) (v : Value) (hp : Blk w p (PC r s h v) tPst) (hh : h.ok) (hr : okP r) :
    Calls Tryz.prog 207 #[.pointer (some ⟨p, 0, none⟩)] w fun e w' => e = .returned (.tuple #[]) ∧ Blk w' p (PC r s (muF h r) v) tPst ∧ Chg w.heap.size [p] w w' := by
  have hpl := hp.lt
  have hMU := hid (muF_eq h r)
  have hMT := hid (mulT_eq h r)
  obtain ⟨ha, hb, hc⟩ := hh
  obtain ⟨r1, r2⟩ := r
  obtain ⟨h1, h2, h3⟩ := h
  have hr1 : r1 < 18446744073709551616 := hr.1
  have hr2 : r2 < 18446744073709551616 := hr.2
  have o1 := tmF_ok h1 r1 ha hr1
  have o2 := plF_ok (tmF h2 r1) (tmF h1 r2)
  have o3 := plF_ok (tmF h3 r1) (tmF h2 r2)
  have o4 := tmF_ok h3 r2 hc hr2
  have p1 := tmF_ok h2 r1 hb hr1
  have p2 := tmF_ok h1 r2 ha hr2
  have p3 := tmF_ok h3 r1 hc hr1
  have p4 := tmF_ok h2 r2 hb hr2
  have p5 := tmF_ok h1 r1 ha hr1
  go_enter Tryz.func207, Tryz.ntmps207
  go_upto_region 1 with fail
  go_cut [2, 3] (fun s2 s3 wx => ∃ x2 x3, s2 = .pointer (some ⟨x2, 0, none⟩) ∧ s3 = .pointer (some ⟨x3, 0, none⟩) ∧ w.heap.size ≤ x2 ∧ w.heap.size ≤ x3 ∧ Blk wx x2 [U64 h1, U64 h2, U64 h3] tH3 ∧ Blk wx x3 [U64 r1, U64 r2] tPr ∧ Below w.heap.size w wx)
  case first =>
    try simp only [Act.put]
    refine tkR (fun w' => Below w.heap.size w w') [] (by kernel_rfl) (fun c a d v w h => by cases d <;> exact h) ((Below.refl _ _).drew) (fun hPF hHeld => ?_)
    refine tkB 0 (.some 11) _ _ rfl rfl (by kernel_rfl) (by kernel_rfl) (by kernel_rfl) (by kernel_rfl) hPF rfl (fun w' => by (go_simp; try with_reducible rfl)) hHeld (fun hHeld => ?_)
    simp only [Act.put, List.setIfInBounds_toArray, List.set_cons_zero, List.set_cons_succ]
    refine tkB 1 (.some 12) _ _ rfl rfl (by kernel_rfl) (by kernel_rfl) (by kernel_rfl) (by kernel_rfl) hPF rfl (fun w' => by (go_simp; try with_reducible rfl)) hHeld (fun hHeld => ?_)
    simp only [Act.put, List.setIfInBounds_toArray, List.set_cons_zero, List.set_cons_succ]
    refine tkB 2 (.some 13) _ _ rfl rfl (by kernel_rfl) (by kernel_rfl) (by kernel_rfl) (by kernel_rfl) hPF rfl (fun w' => by (go_simp; try with_reducible rfl)) hHeld (fun hHeld => ?_)
    simp only [Act.put, List.setIfInBounds_toArray, List.set_cons_zero, List.set_cons_succ]
    refine tkL 3 (.some 14) _ rfl rfl 243 (.tmp 13) rfl p 4 [U64 h1, U64 h2, U64 h3] _ (by kernel_rfl) (by kernel_rfl) (by kernel_rfl) (by kernel_rfl) (by kernel_rfl) hPF rfl rfl (fun w' hw' => ((hp.below hw' hpl).range 4 3)) Tryz.underlying243 rfl sizeH3 hHeld (fun hHeld => ?_)
    simp only [Act.put, List.setIfInBounds_toArray, List.set_cons_zero, List.set_cons_succ]
    refine tkB 4 (.some 15) _ _ rfl rfl (by kernel_rfl) (by kernel_rfl) (by kernel_rfl) (by kernel_rfl) hPF rfl (fun w' => by (go_simp; try with_reducible rfl)) hHeld (fun hHeld => ?_)
    simp only [Act.put, List.setIfInBounds_toArray, List.set_cons_zero, List.set_cons_succ]
    refine tkB 5 (.some 16) _ _ rfl rfl (by kernel_rfl) (by kernel_rfl) (by kernel_rfl) (by kernel_rfl) hPF rfl (fun w' => by (go_simp; try with_reducible rfl)) hHeld (fun hHeld => ?_)
    simp only [Act.put, List.setIfInBounds_toArray, List.set_cons_zero, List.set_cons_succ]
    refine tkB 6 (.some 17) _ _ rfl rfl (by kernel_rfl) (by kernel_rfl) (by kernel_rfl) (by kernel_rfl) hPF rfl (fun w' => by (go_simp; try with_reducible rfl)) hHeld (fun hHeld => ?_)
    simp only [Act.put, List.setIfInBounds_toArray, List.set_cons_zero, List.set_cons_succ]
    refine tkL 7 (.some 18) _ rfl rfl 241 (.tmp 17) rfl p 0 [U64 r1, U64 r2] _ (by kernel_rfl) (by kernel_rfl) (by kernel_rfl) (by kernel_rfl) (by kernel_rfl) hPF rfl rfl (fun w' hw' => ((hp.below hw' hpl).range 0 2)) Tryz.underlying241 rfl sizePr hHeld (fun hHeld => ?_)
    simp only [Act.put, List.setIfInBounds_toArray, List.set_cons_zero, List.set_cons_succ]
    have hS := hHeld (by kernel_rfl)
    refine tkW (rs := [8, 9]) (by kernel_rfl) (by simp) (AllK.cons (o := _) rfl (fun KC hKC => ?_) (AllK.cons (o := _) rfl (fun KC hKC => ?_) AllK.nil))
    ·
      go_simp
      refine hKC.out _ _ (((Below.refl _ _).alloc (Nat.le_refl _) _).drew) (fun hHeld => ?_)
      clear hKC KC
      try simp only [Act.put, List.setIfInBounds_toArray, List.set_cons_zero, List.set_cons_succ]
      have hS := hHeld (by kernel_rfl)
      refine tkW (rs := [9]) (by kernel_rfl) (by simp) (AllK.cons (o := _) rfl (fun KC hKC => ?_) AllK.nil)
      go_simp
      refine hKC.out _ _ ((((Below.refl _ _).alloc (Nat.le_refl _) _).alloc (by simp) _).drew) (fun hHeld => ?_)
      clear hKC KC
      try simp only [Act.put, List.setIfInBounds_toArray, List.set_cons_zero, List.set_cons_succ]
      have hS := hHeld (by kernel_rfl)
      refine tkW (rs := [10]) (by kernel_rfl) (by simp) (AllK.cons (o := _) rfl (fun KC hKC => ?_) AllK.nil)
      go_simp
      refine hKC.out _ _ ((((Below.refl _ _).alloc (Nat.le_refl _) _).alloc (by simp) _).drew) (fun hHeld => ?_)
      clear hKC KC
      try simp only [Act.put]
      have hS := hHeld (by kernel_rfl)
      refine tkW (rs := [11]) (by kernel_rfl) (by simp) (AllK.cons (o := _) rfl (fun KC hKC => ?_) AllK.nil)
      go_simp
      refine hKC.out _ _ ((((Below.refl _ _).alloc (Nat.le_refl _) _).alloc (by simp) _).drew) (fun hHeld => ?_)
      clear hKC KC
      try simp only [Act.put]
      refine tkD (by kernel_rfl) ?_ _
      have ga := (Blk.new w [U64 h1, U64 h2, U64 h3] tH3).alloc (.cells [U64 r1, U64 r2].toArray tPr)
      have gb := Blk.new (w.alloc (.cells [U64 h1, U64 h2, U64 h3].toArray tH3)) [U64 r1, U64 r2] tPr
      rw [show (w.alloc (.cells [U64 h1, U64 h2, U64 h3].toArray tH3)).heap.size = w.heap.size + 1 from by simp] at gb
      go_wp2_with fail
      go_meet
      exact ⟨_, _, rfl, rfl, by omega, by omega, ga.drew, gb.drew, (((Below.refl _ _).alloc (Nat.le_refl _) _).alloc (by simp) _).drew⟩
    ·
      go_simp
      refine hKC.out _ _ (((Below.refl _ _).alloc (Nat.le_refl _) _).drew) (fun hHeld => ?_)
      clear hKC KC
      try simp only [Act.put, List.setIfInBounds_toArray, List.set_cons_zero, List.set_cons_succ]
      have hS := hHeld (by kernel_rfl)
      refine tkW (rs := [8]) (by kernel_rfl) (by simp) (AllK.cons (o := _) rfl (fun KC hKC => ?_) AllK.nil)
      go_simp
      refine hKC.out _ _ ((((Below.refl _ _).alloc (Nat.le_refl _) _).alloc (by simp) _).drew) (fun hHeld => ?_)
      clear hKC KC
      try simp only [Act.put, List.setIfInBounds_toArray, List.set_cons_zero, List.set_cons_succ]
      have hS := hHeld (by kernel_rfl)
      refine tkW (rs := [10]) (by kernel_rfl) (by simp) (AllK.cons (o := _) rfl (fun KC hKC => ?_) AllK.nil)
      go_simp
      refine hKC.out _ _ ((((Below.refl _ _).alloc (Nat.le_refl _) _).alloc (by simp) _).drew) (fun hHeld => ?_)
      clear hKC KC
      try simp only [Act.put]
      have hS := hHeld (by kernel_rfl)
      refine tkW (rs := [11]) (by kernel_rfl) (by simp) (AllK.cons (o := _) rfl (fun KC hKC => ?_) AllK.nil)
      go_simp
      refine hKC.out _ _ ((((Below.refl _ _).alloc (Nat.le_refl _) _).alloc (by simp) _).drew) (fun hHeld => ?_)
      clear hKC KC
      try simp only [Act.put]
      refine tkD (by kernel_rfl) ?_ _
      have ga := (Blk.new w [U64 r1, U64 r2] tPr).alloc (.cells [U64 h1, U64 h2, U64 h3].toArray tH3)
      have gb := Blk.new (w.alloc (.cells [U64 r1, U64 r2].toArray tPr)) [U64 h1, U64 h2, U64 h3] tH3
      rw [show (w.alloc (.cells [U64 r1, U64 r2].toArray tPr)).heap.size = w.heap.size + 1 from by simp] at gb
      go_wp2_with fail
      go_meet
      exact ⟨_, _, rfl, rfl, by omega, by omega, gb.drew, ga.drew, (((Below.refl _ _).alloc (Nat.le_refl _) _).alloc (by simp) _).drew⟩
  case rest =>
    obtain ⟨x2, x3, rfl, rfl, n2, n3, g2, g3, hS0⟩ := hcut
    have k20 : wc.cell? ⟨x2, 0, none⟩ = some (U64 h1) := g2.cell 0
    have k30 : wc.cell? ⟨x3, 0, none⟩ = some (U64 r1) := g3.cell 0

    go_wp2_with fail
    refine (times_any wc h1 r1 ha hr1).mono ?_
    rintro e w1 ⟨rfl, hB1⟩
    have hS1 := hS0.trans (hB1.mono hS0.size)
    have g21 := g2.below hB1 g2.lt
    have g31 := g3.below hB1 g3.lt
    clear g2 g3 hS0 hB1 k20 k30
    obtain ⟨f1, hf1⟩ : ∃ f1, tmF h1 r1 = f1 := ⟨_, rfl⟩
    rw [hf1] at hMT o1 ⊢
    have g4 := Blk.new w1 [U64 f1.1, U64 f1.2] tPr
    have g2 := g21.alloc (.cells [U64 f1.1, U64 f1.2].toArray tPr)
    have g3 := g31.alloc (.cells [U64 f1.1, U64 f1.2].toArray tPr)
    have hS2 := hS1.alloc hS1.size (.cells [U64 f1.1, U64 f1.2].toArray tPr)
    have hx2 := g21.lt
    have hx3 := g31.lt
    have n4 := hS1.size
    clear g21 g31 hS1 hf1
    go_upto_region 2 with (fail)
    change Code.wp _ _ _ _ (w1.alloc (.cells [U64 f1.1, U64 f1.2].toArray tPr))
    generalize w1.heap.size = x4 at *
    generalize w1.alloc (.cells [U64 f1.1, U64 f1.2].toArray tPr) = w2 at *
    obtain ⟨f2, hf2⟩ : ∃ f2, plF (tmF h2 r1) (tmF h1 r2) = f2 := ⟨_, rfl⟩
    have HF2 := hid hf2
    rw [hf2] at hMT o2
    clear hf2
    go_upto_region 3 with fail
    go_cut [5] (fun s5 wx => ∃ x5, s5 = .pointer (some ⟨x5, 0, none⟩) ∧ w2.heap.size ≤ x5 ∧ Blk wx x5 [U64 f2.1, U64 f2.2] tPr ∧ Below w2.heap.size w2 wx)
    case first =>
      try simp only [Act.put]
      refine tkR (fun w' => Below w2.heap.size w2 w') [] (by kernel_rfl) (fun c a d v w h => by cases d <;> exact h) ((Below.refl _ _).drew) (fun hPF hHeld => ?_)
      refine tkB 0 (.some 24) _ _ rfl rfl (by kernel_rfl) (by kernel_rfl) (by kernel_rfl) (by kernel_rfl) hPF rfl (fun w' => by (go_simp; try with_reducible rfl)) hHeld (fun hHeld => ?_)
      simp only [Act.put, List.setIfInBounds_toArray, List.set_cons_zero, List.set_cons_succ]
      refine tkA 1 (.some 25) _ _ rfl rfl (by kernel_rfl) (by kernel_rfl) (by kernel_rfl) (by kernel_rfl) (by kernel_rfl) hPF rfl (fun w' hw' => by (have h1' := (g2.below hw' g2.lt).cell 1; go_simp; try with_reducible rfl)) hHeld (fun hHeld => ?_)
      simp only [Act.put, List.setIfInBounds_toArray, List.set_cons_zero, List.set_cons_succ]
      refine tkB 2 (.some 26) _ _ rfl rfl (by kernel_rfl) (by kernel_rfl) (by kernel_rfl) (by kernel_rfl) hPF rfl (fun w' => by (go_simp; try with_reducible rfl)) hHeld (fun hHeld => ?_)
      simp only [Act.put, List.setIfInBounds_toArray, List.set_cons_zero, List.set_cons_succ]
      refine tkA 3 (.some 27) _ _ rfl rfl (by kernel_rfl) (by kernel_rfl) (by kernel_rfl) (by kernel_rfl) (by kernel_rfl) hPF rfl (fun w' hw' => by (have h1' := (g3.below hw' g3.lt).cell 0; go_simp; try with_reducible rfl)) hHeld (fun hHeld => ?_)
      simp only [Act.put, List.setIfInBounds_toArray, List.set_cons_zero, List.set_cons_succ]
      refine tkB 5 (.some 29) _ _ rfl rfl (by kernel_rfl) (by kernel_rfl) (by kernel_rfl) (by kernel_rfl) hPF rfl (fun w' => by (go_simp; try with_reducible rfl)) hHeld (fun hHeld => ?_)
      simp only [Act.put, List.setIfInBounds_toArray, List.set_cons_zero, List.set_cons_succ]
      refine tkA 6 (.some 30) _ _ rfl rfl (by kernel_rfl) (by kernel_rfl) (by kernel_rfl) (by kernel_rfl) (by kernel_rfl) hPF rfl (fun w' hw' => by (have h1' := (g2.below hw' g2.lt).cell 0; go_simp; try with_reducible rfl)) hHeld (fun hHeld => ?_)
      simp only [Act.put, List.setIfInBounds_toArray, List.set_cons_zero, List.set_cons_succ]
      refine tkB 7 (.some 31) _ _ rfl rfl (by kernel_rfl) (by kernel_rfl) (by kernel_rfl) (by kernel_rfl) hPF rfl (fun w' => by (go_simp; try with_reducible rfl)) hHeld (fun hHeld => ?_)
      simp only [Act.put, List.setIfInBounds_toArray, List.set_cons_zero, List.set_cons_succ]
      refine tkA 8 (.some 32) _ _ rfl rfl (by kernel_rfl) (by kernel_rfl) (by kernel_rfl) (by kernel_rfl) (by kernel_rfl) hPF rfl (fun w' hw' => by (have h1' := (g3.below hw' g3.lt).cell 1; go_simp; try with_reducible rfl)) hHeld (fun hHeld => ?_)
      simp only [Act.put, List.setIfInBounds_toArray, List.set_cons_zero, List.set_cons_succ]
      have hS := hHeld (by kernel_rfl)
      refine tkW (rs := [4, 11]) (by kernel_rfl) (by simp) (AllK.cons (o := _) rfl (fun KC hKC => ?_) (AllK.cons (o := _) rfl (fun KC hKC => ?_) AllK.nil))
      ·
        go_simp
        refine (times_any _ h2 r1 hb hr1).mono ?_
        rintro e ww21 ⟨rfl, hB1⟩
        have hS1 := (hS).trans (hB1.mono (hS).size)
        refine hKC.out _ _ (hS1) (fun hHeld => ?_)
        clear hKC KC
        try simp only [Act.put, List.setIfInBounds_toArray, List.set_cons_zero, List.set_cons_succ]
        have hS := hHeld (by kernel_rfl)
        refine tkW (rs := [9, 11]) (by kernel_rfl) (by simp) (AllK.cons (o := _) rfl (fun KC hKC => ?_) (AllK.cons (o := _) rfl (fun KC hKC => ?_) AllK.nil))
        ·
          go_simp
          refine (times_any _ h1 r2 ha hr2).mono ?_
          rintro e ww22 ⟨rfl, hB2⟩
          have hS2 := (hS1).trans (hB2.mono (hS1).size)
          refine hKC.out _ _ (hS2) (fun hHeld => ?_)
          clear hKC KC
          try simp only [Act.put, List.setIfInBounds_toArray, List.set_cons_zero, List.set_cons_succ]
          have hS := hHeld (by kernel_rfl)
          refine tkW (rs := [10, 11]) (by kernel_rfl) (by simp) (AllK.cons (o := _) rfl (fun KC hKC => ?_) (AllK.cons (o := _) rfl (fun KC hKC => ?_) AllK.nil))
          ·
            go_simp
            refine (plus_any _ (tmF h2 r1) (tmF h1 r2) p1 p2).mono ?_
            rintro e ww23 ⟨rfl, hB3⟩
            rw [HF2.out]
            have hS3 := (hS2).trans (hB3.mono (hS2).size)
            refine hKC.out _ _ (hS3) (fun hHeld => ?_)
            clear hKC KC
            try simp only [Act.put, List.setIfInBounds_toArray, List.set_cons_zero, List.set_cons_succ]
            have hS := hHeld (by kernel_rfl)
            refine tkW (rs := [11]) (by kernel_rfl) (by simp) (AllK.cons (o := _) rfl (fun KC hKC => ?_) AllK.nil)
            go_simp
            refine hKC.out _ _ ((hS3).alloc (hS3).size _) (fun hHeld => ?_)
            clear hKC KC
            try simp only [Act.put, List.setIfInBounds_toArray, List.set_cons_zero, List.set_cons_succ]
            have hS := hHeld (by kernel_rfl)
            refine tkW (rs := [12]) (by kernel_rfl) (by simp) (AllK.cons (o := _) rfl (fun KC hKC => ?_) AllK.nil)
            go_simp
            refine hKC.out _ _ (((hS3).alloc (hS3).size _)) (fun hHeld => ?_)
            clear hKC KC
            try simp only [Act.put]
            refine tkD (by kernel_rfl) ?_ _
            have hz := Blk.new ww23 [U64 f2.1, U64 f2.2] tPr
            go_wp2_with fail
            go_meet
            exact ⟨_, rfl, (hS3).size, hz, ((hS3).alloc (hS3).size _)⟩
          ·
            go_simp
            have hS3 : Below w2.heap.size w2 (ww22.alloc (.cells [U64 0, U64 0].toArray tPr)) := (hS2).alloc (hS2).size _
            have gq3 : Blk (ww22.alloc (.cells [U64 0, U64 0].toArray tPr)) ww22.heap.size [U64 0, U64 0] tPr := Blk.new ww22 [U64 0, U64 0] tPr
            have hge : w2.heap.size ≤ ww22.heap.size := (hS2).size
            refine hKC.out _ _ (hS3) (fun hHeld => ?_)
            clear hKC KC
            try simp only [Act.put, List.setIfInBounds_toArray, List.set_cons_zero, List.set_cons_succ]
            have hS := hHeld (by kernel_rfl)
            refine tkW (rs := [10]) (by kernel_rfl) (by simp) (AllK.cons (o := _) rfl (fun KC hKC => ?_) AllK.nil)
            go_simp
            refine (plus_any _ (tmF h2 r1) (tmF h1 r2) p1 p2).mono ?_
            rintro e ww24 ⟨rfl, hB4⟩
            rw [HF2.out]
            have hS4 := (hS3).trans (hB4.mono (hS3).size)
            have gq4 := gq3.below hB4 gq3.lt
            have k0 : ww24.cell? ⟨ww22.heap.size, 0, none⟩ = some (U64 0) := gq4.cell 0
            have k1 : ww24.cell? ⟨ww22.heap.size, 1, none⟩ = some (U64 0) := gq4.cell 1
            have f0 := gq4.frozen 0
            have f1 := gq4.frozen 1
            refine hKC.out _ _ (hS4) (fun hHeld => ?_)
            clear hKC KC
            try simp only [Act.put, List.setIfInBounds_toArray, List.set_cons_zero, List.set_cons_succ]
            have hS := hHeld (by kernel_rfl)
            refine tkW (rs := [12]) (by kernel_rfl) (by simp) (AllK.cons (o := _) rfl (fun KC hKC => ?_) AllK.nil)
            go_simp
            have hz := setWhole2 gq4 (U64 f2.1) (U64 f2.2)
            have hSz := (hS4).trans (hz.2.below (M := w2.heap.size) (hS4).size (fun k hk => by simp at hk; omega))
            refine hKC.out _ _ (hSz) (fun hHeld => ?_)
            clear hKC KC
            try simp only [Act.put]
            refine tkD (by kernel_rfl) ?_ _
            go_wp2_with fail
            go_meet
            exact ⟨_, rfl, hge, hz.1, hSz⟩
        ·
          go_simp
          have hS2 : Below w2.heap.size w2 (ww21.alloc (.cells [U64 0, U64 0].toArray tPr)) := (hS1).alloc (hS1).size _
          have gq2 : Blk (ww21.alloc (.cells [U64 0, U64 0].toArray tPr)) ww21.heap.size [U64 0, U64 0] tPr := Blk.new ww21 [U64 0, U64 0] tPr
          have hge : w2.heap.size ≤ ww21.heap.size := (hS1).size
          refine hKC.out _ _ (hS2) (fun hHeld => ?_)
          clear hKC KC
          try simp only [Act.put, List.setIfInBounds_toArray, List.set_cons_zero, List.set_cons_succ]
          have hS := hHeld (by kernel_rfl)
          refine tkW (rs := [9]) (by kernel_rfl) (by simp) (AllK.cons (o := _) rfl (fun KC hKC => ?_) AllK.nil)
          go_simp
          refine (times_any _ h1 r2 ha hr2).mono ?_
          rintro e ww23 ⟨rfl, hB3⟩
          have hS3 := (hS2).trans (hB3.mono (hS2).size)
          have gq3 := gq2.below hB3 gq2.lt
          refine hKC.out _ _ (hS3) (fun hHeld => ?_)
          clear hKC KC
          try simp only [Act.put, List.setIfInBounds_toArray, List.set_cons_zero, List.set_cons_succ]
          have hS := hHeld (by kernel_rfl)
          refine tkW (rs := [10]) (by kernel_rfl) (by simp) (AllK.cons (o := _) rfl (fun KC hKC => ?_) AllK.nil)
          go_simp
          refine (plus_any _ (tmF h2 r1) (tmF h1 r2) p1 p2).mono ?_
          rintro e ww24 ⟨rfl, hB4⟩
          rw [HF2.out]
          have hS4 := (hS3).trans (hB4.mono (hS3).size)
          have gq4 := gq3.below hB4 gq3.lt
          have k0 : ww24.cell? ⟨ww21.heap.size, 0, none⟩ = some (U64 0) := gq4.cell 0
          have k1 : ww24.cell? ⟨ww21.heap.size, 1, none⟩ = some (U64 0) := gq4.cell 1
          have f0 := gq4.frozen 0
          have f1 := gq4.frozen 1
          refine hKC.out _ _ (hS4) (fun hHeld => ?_)
          clear hKC KC
          try simp only [Act.put, List.setIfInBounds_toArray, List.set_cons_zero, List.set_cons_succ]
          have hS := hHeld (by kernel_rfl)
          refine tkW (rs := [12]) (by kernel_rfl) (by simp) (AllK.cons (o := _) rfl (fun KC hKC => ?_) AllK.nil)
          go_simp
          have hz := setWhole2 gq4 (U64 f2.1) (U64 f2.2)
          have hSz := (hS4).trans (hz.2.below (M := w2.heap.size) (hS4).size (fun k hk => by simp at hk; omega))
          refine hKC.out _ _ (hSz) (fun hHeld => ?_)
          clear hKC KC
          try simp only [Act.put]
          refine tkD (by kernel_rfl) ?_ _
          go_wp2_with fail
          go_meet
          exact ⟨_, rfl, hge, hz.1, hSz⟩
      ·
        go_simp
        have hS1 : Below w2.heap.size w2 (w2.drew.alloc (.cells [U64 0, U64 0].toArray tPr)) := (hS).alloc (hS).size _
        have gq1 : Blk (w2.drew.alloc (.cells [U64 0, U64 0].toArray tPr)) w2.heap.size [U64 0, U64 0] tPr := Blk.new w2.drew [U64 0, U64 0] tPr
        have hge : w2.heap.size ≤ w2.heap.size := (hS).size
        refine hKC.out _ _ (hS1) (fun hHeld => ?_)
        clear hKC KC
        try simp only [Act.put, List.setIfInBounds_toArray, List.set_cons_zero, List.set_cons_succ]
        have hS := hHeld (by kernel_rfl)
        refine tkW (rs := [4]) (by kernel_rfl) (by simp) (AllK.cons (o := _) rfl (fun KC hKC => ?_) AllK.nil)
        go_simp
        refine (times_any _ h2 r1 hb hr1).mono ?_
        rintro e ww22 ⟨rfl, hB2⟩
        have hS2 := (hS1).trans (hB2.mono (hS1).size)
        have gq2 := gq1.below hB2 gq1.lt
        refine hKC.out _ _ (hS2) (fun hHeld => ?_)
        clear hKC KC
        try simp only [Act.put, List.setIfInBounds_toArray, List.set_cons_zero, List.set_cons_succ]
        have hS := hHeld (by kernel_rfl)
        refine tkW (rs := [9]) (by kernel_rfl) (by simp) (AllK.cons (o := _) rfl (fun KC hKC => ?_) AllK.nil)
        go_simp
        refine (times_any _ h1 r2 ha hr2).mono ?_
        rintro e ww23 ⟨rfl, hB3⟩
        have hS3 := (hS2).trans (hB3.mono (hS2).size)
        have gq3 := gq2.below hB3 gq2.lt
        refine hKC.out _ _ (hS3) (fun hHeld => ?_)
        clear hKC KC
        try simp only [Act.put, List.setIfInBounds_toArray, List.set_cons_zero, List.set_cons_succ]
        have hS := hHeld (by kernel_rfl)
        refine tkW (rs := [10]) (by kernel_rfl) (by simp) (AllK.cons (o := _) rfl (fun KC hKC => ?_) AllK.nil)
        go_simp
        refine (plus_any _ (tmF h2 r1) (tmF h1 r2) p1 p2).mono ?_
        rintro e ww24 ⟨rfl, hB4⟩
        rw [HF2.out]
        have hS4 := (hS3).trans (hB4.mono (hS3).size)
        have gq4 := gq3.below hB4 gq3.lt
        have k0 : ww24.cell? ⟨w2.heap.size, 0, none⟩ = some (U64 0) := gq4.cell 0
        have k1 : ww24.cell? ⟨w2.heap.size, 1, none⟩ = some (U64 0) := gq4.cell 1
        have f0 := gq4.frozen 0
        have f1 := gq4.frozen 1
        refine hKC.out _ _ (hS4) (fun hHeld => ?_)
        clear hKC KC
        try simp only [Act.put, List.setIfInBounds_toArray, List.set_cons_zero, List.set_cons_succ]
        have hS := hHeld (by kernel_rfl)
        refine tkW (rs := [12]) (by kernel_rfl) (by simp) (AllK.cons (o := _) rfl (fun KC hKC => ?_) AllK.nil)
        go_simp
        have hz := setWhole2 gq4 (U64 f2.1) (U64 f2.2)
        have hSz := (hS4).trans (hz.2.below (M := w2.heap.size) (hS4).size (fun k hk => by simp at hk; omega))
        refine hKC.out _ _ (hSz) (fun hHeld => ?_)
        clear hKC KC
        try simp only [Act.put]
        refine tkD (by kernel_rfl) ?_ _
        go_wp2_with fail
        go_meet
        exact ⟨_, rfl, hge, hz.1, hSz⟩
    case rest =>
      obtain ⟨x5, rfl, n5, g5, hB2⟩ := hcut
      have g2 := g2.below hB2 g2.lt
      have g3 := g3.below hB2 g3.lt
      have g4 := g4.below hB2 g4.lt
      have hS3 := hS2.trans (hB2.mono hS2.size)
      have hsz2 := hB2.size
      clear hB2 hS2
      obtain ⟨w5, hw5⟩ : ∃ w5, w5 = wc := ⟨wc, rfl⟩
      subst hw5
      obtain ⟨f3, hf3⟩ : ∃ f3, plF (tmF h3 r1) (tmF h2 r2) = f3 := ⟨_, rfl⟩
      have HF3 := hid hf3
      rw [hf3] at hMT o3
      clear hf3
      go_upto_region 4 with fail
      go_cut [6] (fun s5 wx => ∃ x5, s5 = .pointer (some ⟨x5, 0, none⟩) ∧ w5.heap.size ≤ x5 ∧ Blk wx x5 [U64 f3.1, U64 f3.2] tPr ∧ Below w5.heap.size w5 wx)
      case first =>
        try simp only [Act.put]
        refine tkR (fun w' => Below w5.heap.size w5 w') [] (by kernel_rfl) (fun c a d v w h => by cases d <;> exact h) ((Below.refl _ _).drew) (fun hPF hHeld => ?_)
        refine tkB 0 (.some 35) _ _ rfl rfl (by kernel_rfl) (by kernel_rfl) (by kernel_rfl) (by kernel_rfl) hPF rfl (fun w' => by (go_simp; try with_reducible rfl)) hHeld (fun hHeld => ?_)
        simp only [Act.put, List.setIfInBounds_toArray, List.set_cons_zero, List.set_cons_succ]
        refine tkA 1 (.some 36) _ _ rfl rfl (by kernel_rfl) (by kernel_rfl) (by kernel_rfl) (by kernel_rfl) (by kernel_rfl) hPF rfl (fun w' hw' => by (have h1' := (g2.below hw' g2.lt).cell 2; go_simp; try with_reducible rfl)) hHeld (fun hHeld => ?_)
        simp only [Act.put, List.setIfInBounds_toArray, List.set_cons_zero, List.set_cons_succ]
        refine tkB 2 (.some 37) _ _ rfl rfl (by kernel_rfl) (by kernel_rfl) (by kernel_rfl) (by kernel_rfl) hPF rfl (fun w' => by (go_simp; try with_reducible rfl)) hHeld (fun hHeld => ?_)
        simp only [Act.put, List.setIfInBounds_toArray, List.set_cons_zero, List.set_cons_succ]
        refine tkA 3 (.some 38) _ _ rfl rfl (by kernel_rfl) (by kernel_rfl) (by kernel_rfl) (by kernel_rfl) (by kernel_rfl) hPF rfl (fun w' hw' => by (have h1' := (g3.below hw' g3.lt).cell 0; go_simp; try with_reducible rfl)) hHeld (fun hHeld => ?_)
        simp only [Act.put, List.setIfInBounds_toArray, List.set_cons_zero, List.set_cons_succ]
        refine tkB 5 (.some 40) _ _ rfl rfl (by kernel_rfl) (by kernel_rfl) (by kernel_rfl) (by kernel_rfl) hPF rfl (fun w' => by (go_simp; try with_reducible rfl)) hHeld (fun hHeld => ?_)
        simp only [Act.put, List.setIfInBounds_toArray, List.set_cons_zero, List.set_cons_succ]
        refine tkA 6 (.some 41) _ _ rfl rfl (by kernel_rfl) (by kernel_rfl) (by kernel_rfl) (by kernel_rfl) (by kernel_rfl) hPF rfl (fun w' hw' => by (have h1' := (g2.below hw' g2.lt).cell 1; go_simp; try with_reducible rfl)) hHeld (fun hHeld => ?_)
        simp only [Act.put, List.setIfInBounds_toArray, List.set_cons_zero, List.set_cons_succ]
        refine tkB 7 (.some 42) _ _ rfl rfl (by kernel_rfl) (by kernel_rfl) (by kernel_rfl) (by kernel_rfl) hPF rfl (fun w' => by (go_simp; try with_reducible rfl)) hHeld (fun hHeld => ?_)
        simp only [Act.put, List.setIfInBounds_toArray, List.set_cons_zero, List.set_cons_succ]
        refine tkA 8 (.some 43) _ _ rfl rfl (by kernel_rfl) (by kernel_rfl) (by kernel_rfl) (by kernel_rfl) (by kernel_rfl) hPF rfl (fun w' hw' => by (have h1' := (g3.below hw' g3.lt).cell 1; go_simp; try with_reducible rfl)) hHeld (fun hHeld => ?_)
        simp only [Act.put, List.setIfInBounds_toArray, List.set_cons_zero, List.set_cons_succ]
        have hS := hHeld (by kernel_rfl)
        refine tkW (rs := [4, 11]) (by kernel_rfl) (by simp) (AllK.cons (o := _) rfl (fun KC hKC => ?_) (AllK.cons (o := _) rfl (fun KC hKC => ?_) AllK.nil))
        ·
          go_simp
          refine (times_any _ h3 r1 hc hr1).mono ?_
          rintro e ww51 ⟨rfl, hB1⟩
          have hS1 := (hS).trans (hB1.mono (hS).size)
          refine hKC.out _ _ (hS1) (fun hHeld => ?_)
          clear hKC KC
          try simp only [Act.put, List.setIfInBounds_toArray, List.set_cons_zero, List.set_cons_succ]
          have hS := hHeld (by kernel_rfl)
          refine tkW (rs := [9, 11]) (by kernel_rfl) (by simp) (AllK.cons (o := _) rfl (fun KC hKC => ?_) (AllK.cons (o := _) rfl (fun KC hKC => ?_) AllK.nil))
          ·
            go_simp
            refine (times_any _ h2 r2 hb hr2).mono ?_
            rintro e ww52 ⟨rfl, hB2⟩
            have hS2 := (hS1).trans (hB2.mono (hS1).size)
            refine hKC.out _ _ (hS2) (fun hHeld => ?_)
            clear hKC KC
            try simp only [Act.put, List.setIfInBounds_toArray, List.set_cons_zero, List.set_cons_succ]
            have hS := hHeld (by kernel_rfl)
            refine tkW (rs := [10, 11]) (by kernel_rfl) (by simp) (AllK.cons (o := _) rfl (fun KC hKC => ?_) (AllK.cons (o := _) rfl (fun KC hKC => ?_) AllK.nil))
            ·
              go_simp
              refine (plus_any _ (tmF h3 r1) (tmF h2 r2) p3 p4).mono ?_
              rintro e ww53 ⟨rfl, hB3⟩
              rw [HF3.out]
              have hS3 := (hS2).trans (hB3.mono (hS2).size)
              refine hKC.out _ _ (hS3) (fun hHeld => ?_)
              clear hKC KC
              try simp only [Act.put, List.setIfInBounds_toArray, List.set_cons_zero, List.set_cons_succ]
              have hS := hHeld (by kernel_rfl)
              refine tkW (rs := [11]) (by kernel_rfl) (by simp) (AllK.cons (o := _) rfl (fun KC hKC => ?_) AllK.nil)
              go_simp
              refine hKC.out _ _ ((hS3).alloc (hS3).size _) (fun hHeld => ?_)
              clear hKC KC
              try simp only [Act.put, List.setIfInBounds_toArray, List.set_cons_zero, List.set_cons_succ]
              have hS := hHeld (by kernel_rfl)
              refine tkW (rs := [12]) (by kernel_rfl) (by simp) (AllK.cons (o := _) rfl (fun KC hKC => ?_) AllK.nil)
              go_simp
              refine hKC.out _ _ (((hS3).alloc (hS3).size _)) (fun hHeld => ?_)
              clear hKC KC
              try simp only [Act.put]
              refine tkD (by kernel_rfl) ?_ _
              have hz := Blk.new ww53 [U64 f3.1, U64 f3.2] tPr
              go_wp2_with fail
              go_meet
              exact ⟨_, rfl, (hS3).size, hz, ((hS3).alloc (hS3).size _)⟩
            ·
              go_simp
              have hS3 : Below w5.heap.size w5 (ww52.alloc (.cells [U64 0, U64 0].toArray tPr)) := (hS2).alloc (hS2).size _
              have gq3 : Blk (ww52.alloc (.cells [U64 0, U64 0].toArray tPr)) ww52.heap.size [U64 0, U64 0] tPr := Blk.new ww52 [U64 0, U64 0] tPr
              have hge : w5.heap.size ≤ ww52.heap.size := (hS2).size
              refine hKC.out _ _ (hS3) (fun hHeld => ?_)
              clear hKC KC
              try simp only [Act.put, List.setIfInBounds_toArray, List.set_cons_zero, List.set_cons_succ]
              have hS := hHeld (by kernel_rfl)
              refine tkW (rs := [10]) (by kernel_rfl) (by simp) (AllK.cons (o := _) rfl (fun KC hKC => ?_) AllK.nil)
              go_simp
              refine (plus_any _ (tmF h3 r1) (tmF h2 r2) p3 p4).mono ?_
              rintro e ww54 ⟨rfl, hB4⟩
              rw [HF3.out]
              have hS4 := (hS3).trans (hB4.mono (hS3).size)
              have gq4 := gq3.below hB4 gq3.lt
              have k0 : ww54.cell? ⟨ww52.heap.size, 0, none⟩ = some (U64 0) := gq4.cell 0
              have k1 : ww54.cell? ⟨ww52.heap.size, 1, none⟩ = some (U64 0) := gq4.cell 1
              have f0 := gq4.frozen 0
              have f1 := gq4.frozen 1
              refine hKC.out _ _ (hS4) (fun hHeld => ?_)
              clear hKC KC
              try simp only [Act.put, List.setIfInBounds_toArray, List.set_cons_zero, List.set_cons_succ]
              have hS := hHeld (by kernel_rfl)
              refine tkW (rs := [12]) (by kernel_rfl) (by simp) (AllK.cons (o := _) rfl (fun KC hKC => ?_) AllK.nil)
              go_simp
              have hz := setWhole2 gq4 (U64 f3.1) (U64 f3.2)
              have hSz := (hS4).trans (hz.2.below (M := w5.heap.size) (hS4).size (fun k hk => by simp at hk; omega))
              refine hKC.out _ _ (hSz) (fun hHeld => ?_)
              clear hKC KC
              try simp only [Act.put]
              refine tkD (by kernel_rfl) ?_ _
              go_wp2_with fail
              go_meet
              exact ⟨_, rfl, hge, hz.1, hSz⟩
          ·
            go_simp
            have hS2 : Below w5.heap.size w5 (ww51.alloc (.cells [U64 0, U64 0].toArray tPr)) := (hS1).alloc (hS1).size _
            have gq2 : Blk (ww51.alloc (.cells [U64 0, U64 0].toArray tPr)) ww51.heap.size [U64 0, U64 0] tPr := Blk.new ww51 [U64 0, U64 0] tPr
            have hge : w5.heap.size ≤ ww51.heap.size := (hS1).size
            refine hKC.out _ _ (hS2) (fun hHeld => ?_)
            clear hKC KC
            try simp only [Act.put, List.setIfInBounds_toArray, List.set_cons_zero, List.set_cons_succ]
            have hS := hHeld (by kernel_rfl)
            refine tkW (rs := [9]) (by kernel_rfl) (by simp) (AllK.cons (o := _) rfl (fun KC hKC => ?_) AllK.nil)
            go_simp
            refine (times_any _ h2 r2 hb hr2).mono ?_
            rintro e ww53 ⟨rfl, hB3⟩
            have hS3 := (hS2).trans (hB3.mono (hS2).size)
            have gq3 := gq2.below hB3 gq2.lt
            refine hKC.out _ _ (hS3) (fun hHeld => ?_)
            clear hKC KC
            try simp only [Act.put, List.setIfInBounds_toArray, List.set_cons_zero, List.set_cons_succ]
            have hS := hHeld (by kernel_rfl)
            refine tkW (rs := [10]) (by kernel_rfl) (by simp) (AllK.cons (o := _) rfl (fun KC hKC => ?_) AllK.nil)
            go_simp
            refine (plus_any _ (tmF h3 r1) (tmF h2 r2) p3 p4).mono ?_
            rintro e ww54 ⟨rfl, hB4⟩
            rw [HF3.out]
            have hS4 := (hS3).trans (hB4.mono (hS3).size)
            have gq4 := gq3.below hB4 gq3.lt
            have k0 : ww54.cell? ⟨ww51.heap.size, 0, none⟩ = some (U64 0) := gq4.cell 0
            have k1 : ww54.cell? ⟨ww51.heap.size, 1, none⟩ = some (U64 0) := gq4.cell 1
            have f0 := gq4.frozen 0
            have f1 := gq4.frozen 1
            refine hKC.out _ _ (hS4) (fun hHeld => ?_)
            clear hKC KC
            try simp only [Act.put, List.setIfInBounds_toArray, List.set_cons_zero, List.set_cons_succ]
            have hS := hHeld (by kernel_rfl)
            refine tkW (rs := [12]) (by kernel_rfl) (by simp) (AllK.cons (o := _) rfl (fun KC hKC => ?_) AllK.nil)
            go_simp
            have hz := setWhole2 gq4 (U64 f3.1) (U64 f3.2)
            have hSz := (hS4).trans (hz.2.below (M := w5.heap.size) (hS4).size (fun k hk => by simp at hk; omega))
            refine hKC.out _ _ (hSz) (fun hHeld => ?_)
            clear hKC KC
            try simp only [Act.put]
            refine tkD (by kernel_rfl) ?_ _
            go_wp2_with fail
            go_meet
            exact ⟨_, rfl, hge, hz.1, hSz⟩
        ·
          go_simp
          have hS1 : Below w5.heap.size w5 (w5.drew.alloc (.cells [U64 0, U64 0].toArray tPr)) := (hS).alloc (hS).size _
          have gq1 : Blk (w5.drew.alloc (.cells [U64 0, U64 0].toArray tPr)) w5.heap.size [U64 0, U64 0] tPr := Blk.new w5.drew [U64 0, U64 0] tPr
          have hge : w5.heap.size ≤ w5.heap.size := (hS).size
          refine hKC.out _ _ (hS1) (fun hHeld => ?_)
          clear hKC KC
          try simp only [Act.put, List.setIfInBounds_toArray, List.set_cons_zero, List.set_cons_succ]
          have hS := hHeld (by kernel_rfl)
          refine tkW (rs := [4]) (by kernel_rfl) (by simp) (AllK.cons (o := _) rfl (fun KC hKC => ?_) AllK.nil)
          go_simp
          refine (times_any _ h3 r1 hc hr1).mono ?_
          rintro e ww52 ⟨rfl, hB2⟩
          have hS2 := (hS1).trans (hB2.mono (hS1).size)
          have gq2 := gq1.below hB2 gq1.lt
          refine hKC.out _ _ (hS2) (fun hHeld => ?_)
          clear hKC KC
          try simp only [Act.put, List.setIfInBounds_toArray, List.set_cons_zero, List.set_cons_succ]
          have hS := hHeld (by kernel_rfl)
          refine tkW (rs := [9]) (by kernel_rfl) (by simp) (AllK.cons (o := _) rfl (fun KC hKC => ?_) AllK.nil)
          go_simp
          refine (times_any _ h2 r2 hb hr2).mono ?_
          rintro e ww53 ⟨rfl, hB3⟩
          have hS3 := (hS2).trans (hB3.mono (hS2).size)
          have gq3 := gq2.below hB3 gq2.lt
          refine hKC.out _ _ (hS3) (fun hHeld => ?_)
          clear hKC KC
          try simp only [Act.put, List.setIfInBounds_toArray, List.set_cons_zero, List.set_cons_succ]
          have hS := hHeld (by kernel_rfl)
          refine tkW (rs := [10]) (by kernel_rfl) (by simp) (AllK.cons (o := _) rfl (fun KC hKC => ?_) AllK.nil)
          go_simp
          refine (plus_any _ (tmF h3 r1) (tmF h2 r2) p3 p4).mono ?_
          rintro e ww54 ⟨rfl, hB4⟩
          rw [HF3.out]
          have hS4 := (hS3).trans (hB4.mono (hS3).size)
          have gq4 := gq3.below hB4 gq3.lt
          have k0 : ww54.cell? ⟨w5.heap.size, 0, none⟩ = some (U64 0) := gq4.cell 0
          have k1 : ww54.cell? ⟨w5.heap.size, 1, none⟩ = some (U64 0) := gq4.cell 1
          have f0 := gq4.frozen 0
          have f1 := gq4.frozen 1
          refine hKC.out _ _ (hS4) (fun hHeld => ?_)
          clear hKC KC
          try simp only [Act.put, List.setIfInBounds_toArray, List.set_cons_zero, List.set_cons_succ]
          have hS := hHeld (by kernel_rfl)
          refine tkW (rs := [12]) (by kernel_rfl) (by simp) (AllK.cons (o := _) rfl (fun KC hKC => ?_) AllK.nil)
          go_simp
          have hz := setWhole2 gq4 (U64 f3.1) (U64 f3.2)
          have hSz := (hS4).trans (hz.2.below (M := w5.heap.size) (hS4).size (fun k hk => by simp at hk; omega))
          refine hKC.out _ _ (hSz) (fun hHeld => ?_)
          clear hKC KC
          try simp only [Act.put]
          refine tkD (by kernel_rfl) ?_ _
          go_wp2_with fail
          go_meet
          exact ⟨_, rfl, hge, hz.1, hSz⟩
      case rest =>
        obtain ⟨x6, rfl, n6, g6, hB5⟩ := hcut
        have g2 := g2.below hB5 g2.lt
        have g3 := g3.below hB5 g3.lt
        have g4 := g4.below hB5 g4.lt
        have l5 := g5.lt
        have g5 := g5.below hB5 g5.lt
        have hS4 := hS3.trans (hB5.mono hS3.size)
        have hsz5 := hB5.size
        clear hB5 hS3
        obtain ⟨w6, hw6⟩ : ∃ w6, w6 = wc := ⟨wc, rfl⟩
        subst hw6
        have k22 : w6.cell? ⟨x2, 2, none⟩ = some (U64 h3) := g2.cell 2
        have k31 : w6.cell? ⟨x3, 1, none⟩ = some (U64 r2) := g3.cell 1
        go_wp2_with fail
        refine (times_any w6 h3 r2 hc hr2).mono ?_
        rintro e w7 ⟨rfl, hB6⟩
        obtain ⟨f4, hf4⟩ : ∃ f4, tmF h3 r2 = f4 := ⟨_, rfl⟩
        rw [hf4] at hMT o4 ⊢
        have g4 := (g4.below hB6 g4.lt).alloc (.cells [U64 f4.1, U64 f4.2].toArray tPr)
        have g5 := (g5.below hB6 g5.lt).alloc (.cells [U64 f4.1, U64 f4.2].toArray tPr)
        have l6 := g6.lt
        have g6 := (g6.below hB6 g6.lt).alloc (.cells [U64 f4.1, U64 f4.2].toArray tPr)
        have hS5 := hS4.trans (hB6.mono hS4.size)
        have hp7 := (hp.below hS5 hpl).alloc (.cells [U64 f4.1, U64 f4.2].toArray tPr)
        have g7 := Blk.new w7 [U64 f4.1, U64 f4.2] tPr
        have hS6 := hS5.alloc hS5.size (.cells [U64 f4.1, U64 f4.2].toArray tPr)
        have hsz6 := hB6.size
        clear hB6 hS4 hS5 g2 g3 k22 k31 hf4
        go_upto_region 5 with (fail)
        change Code.wp _ _ _ _ (w7.alloc (.cells [U64 f4.1, U64 f4.2].toArray tPr))
        generalize w7.heap.size = x7 at *
        generalize w7.alloc (.cells [U64 f4.1, U64 f4.2].toArray tPr) = w8 at *
        have k40 : w8.cell? ⟨x4, 0, none⟩ = some (U64 f1.1) := g4.cell 0
        have k41 : ∀ o, (w8.alloc o).cell? ⟨x4, 1, none⟩ = some (U64 f1.2) := fun o => (g4.alloc o).cell 1
        have k50 : ∀ o, (w8.alloc o).cell? ⟨x5, 0, none⟩ = some (U64 f2.1) := fun o => (g5.alloc o).cell 0
        have k51 : ∀ o, (w8.alloc o).cell? ⟨x5, 1, none⟩ = some (U64 f2.2) := fun o => (g5.alloc o).cell 1
        have k60 : ∀ o, (w8.alloc o).cell? ⟨x6, 0, none⟩ = some (U64 f3.1) := fun o => (g6.alloc o).cell 0
        have k61 : ∀ o, (w8.alloc o).cell? ⟨x6, 1, none⟩ = some (U64 f3.2) := fun o => (g6.alloc o).cell 1
        have k70 : ∀ o, (w8.alloc o).cell? ⟨x7, 0, none⟩ = some (U64 f4.1) := fun o => (g7.alloc o).cell 0
        have c1le := cy_le f2.1 f1.2 0 o2.1 o1.2 (by omega)
        have c2le := cy_le f3.1 f2.2 (cy f2.1 f1.2 0) o3.1 o2.2 c1le
        have a1 := fun w => add64_no f2.1 f1.2 w
        have a2 := fun w => add64_cy f3.1 f2.2 (cy f2.1 f1.2 0) c1le w
        have a3 := fun w => add64_cy f4.1 f3.2 (cy f3.1 f2.2 (cy f2.1 f1.2 0)) c2le w
        have t1l := sm_lt f2.1 f1.2 0
        have t2l := sm_lt f3.1 f2.2 (cy f2.1 f1.2 0)
        have t3l := sm_lt f4.1 f3.2 (cy f3.1 f2.2 (cy f2.1 f1.2 0))
        have f1l := o1.1
        generalize sm f2.1 f1.2 0 = t1 at *
        generalize sm f3.1 f2.2 (cy f2.1 f1.2 0) = t2 at *
        generalize sm f4.1 f3.2 (cy f3.1 f2.2 (cy f2.1 f1.2 0)) = t3 at *
        generalize cy f2.1 f1.2 0 = c1 at *
        generalize cy f3.1 f2.2 c1 = c2 at *
        generalize f1.1 = t0 at *
        go_upto_region 10 with (fail)
        have gt := Blk.new w8 [U64 t0, U64 t1, U64 t2, U64 t3] tH4
        have hp9 := hp7.alloc (.cells [U64 t0, U64 t1, U64 t2, U64 t3].toArray tH4)
        have hS7 := hS6.alloc hS6.size (.cells [U64 t0, U64 t1, U64 t2, U64 t3].toArray tH4)
        change Code.wp _ _ _ _ (w8.alloc (.cells [U64 t0, U64 t1, U64 t2, U64 t3].toArray tH4))
        have hp8 := hS6.size
        generalize w8.heap.size = x9 at *
        generalize w8.alloc (.cells [U64 t0, U64 t1, U64 t2, U64 t3].toArray tH4) = w9 at *
        clear k40 k41 k50 k51 k60 k61 k70 a1 a2 a3 g4 g5 g6 g7 hp7 hS6
        have m1 := mod4 t2 t2l
        have m2 := notLow t2 t2l
        have d0 : w9.cell? ⟨x9, 0, none⟩ = some (U64 t0) := gt.cell 0
        have d1 : w9.cell? ⟨x9, 1, none⟩ = some (U64 t1) := gt.cell 1
        have d2 : w9.cell? ⟨x9, 2, none⟩ = some (U64 t2) := gt.cell 2
        have e4 : w9.cell? ⟨p, 4, none⟩ = some (U64 h1) := hp9.cell 4
        have e5 : w9.cell? ⟨p, 5, none⟩ = some (U64 h2) := hp9.cell 5
        have e6 : w9.cell? ⟨p, 6, none⟩ = some (U64 h3) := hp9.cell 6
        have y4 := hp9.frozen 4
        have y5 := hp9.frozen 5
        have y6 := hp9.frozen 6
        go_upto_region 11 with (fail)
        have hpa := ((hp9.set 4 (U64 t0)).set 5 (U64 t1)).set 6 (U64 (t2 % 4))
        have hCa : Chg w9.heap.size [p] w9 (((w9.setCell ⟨p, 4, none⟩ (U64 t0)).setCell ⟨p, 5, none⟩ (U64 t1)).setCell ⟨p, 6, none⟩ (U64 (t2 % 4))) := (((Chg.refl _ _ _).setCell (p := ⟨p, 4, none⟩) (.inl (by simp)) _).setCell (p := ⟨p, 5, none⟩) (.inl (by simp)) _).setCell (p := ⟨p, 6, none⟩) (.inl (by simp)) _
        change Code.wp _ _ _ _ (((w9.setCell ⟨p, 4, none⟩ (U64 t0)).setCell ⟨p, 5, none⟩ (U64 t1)).setCell ⟨p, 6, none⟩ (U64 (t2 % 4)))
        generalize ((w9.setCell ⟨p, 4, none⟩ (U64 t0)).setCell ⟨p, 5, none⟩ (U64 t1)).setCell ⟨p, 6, none⟩ (U64 (t2 % 4)) = wa at *
        have gta := gt.chg hCa gt.lt (by simp; omega)
        have hC9 : Chg w.heap.size [p] w wa := (Chg.ofBelow hS7).trans (hCa.mono hS7.size (fun _ _ h => h))
        have hpa : Blk wa p (PC (r1, r2) s ⟨t0, t1, t2 % 4⟩ v) tPst := hpa
        clear d0 d1 d2 e4 e5 e6 y4 y5 y6 hp9 hS7 gt hCa hp
        have d2 : wa.cell? ⟨x9, 2, none⟩ = some (U64 t2) := gta.cell 2
        have d3 : wa.cell? ⟨x9, 3, none⟩ = some (U64 t3) := gta.cell 3
        go_upto_region 12 with (fail)
        have gb := Blk.new wa [U64 (t2 - t2 % 4), U64 t3] tPr
        have hpb := hpa.alloc (.cells [U64 (t2 - t2 % 4), U64 t3].toArray tPr)
        have hCb := hC9.alloc hC9.size (.cells [U64 (t2 - t2 % 4), U64 t3].toArray tPr)
        change Code.wp _ _ _ _ (wa.alloc (.cells [U64 (t2 - t2 % 4), U64 t3].toArray tPr))
        have hpx := hpa.lt
        generalize wa.heap.size = xb at *
        generalize wa.alloc (.cells [U64 (t2 - t2 % 4), U64 t3].toArray tPr) = wb at *
        clear d2 d3 gta hpa hC9
        have q0 : wb.cell? ⟨xb, 0, none⟩ = some (U64 (t2 - t2 % 4)) := gb.cell 0
        have q1 : wb.cell? ⟨xb, 1, none⟩ = some (U64 t3) := gb.cell 1
        have u0l : t2 - t2 % 4 < 18446744073709551616 := by omega
        have hTT := hid (show t2 - t2 % 4 + t2 % 4 = t2 from by omega)
        have hdv := hid (show (t2 - t2 % 4) / 4 = t2 / 4 from by omega)
        obtain ⟨u0, hu0⟩ : ∃ u0, t2 - t2 % 4 = u0 := ⟨_, rfl⟩
        rw [hu0] at q0 gb u0l hdv
        have HU0 := hid hu0
        clear hTT hu0
        go_wp2_with fail
        refine (padd_any wb p (r1, r2) s ⟨t0, t1, t2 % 4⟩ v (u0, t3) 0 hpb ⟨f1l, t1l, by (show t2 % 4 < _; omega)⟩ ⟨u0l, t3l⟩ (by omega)).mono ?_
        rintro e wd ⟨rfl, hpd, hCd⟩
        have gd := gb.chg hCd gb.lt (by simp; omega)
        have hCe := hCb.trans (hCd.mono hCb.size (fun _ _ h => h))
        clear q0 q1 gb hpb hCd hCb
        have q0 : wd.cell? ⟨xb, 0, none⟩ = some (U64 u0) := gd.cell 0
        have q1 : wd.cell? ⟨xb, 1, none⟩ = some (U64 t3) := gd.cell 1
        have m3 := orHi u0 t3 u0l t3l
        have m4 : (t3 : Int) / 4 = ((t3 / 4 : Nat) : Int) := by omega
        obtain ⟨y0, hy0⟩ : ∃ y0, u0 / 4 + t3 % 4 * 4611686018427387904 = y0 := ⟨_, rfl⟩
        obtain ⟨y1, hy1⟩ : ∃ y1, t3 / 4 = y1 := ⟨_, rfl⟩
        have y0l : y0 < 18446744073709551616 := by omega
        have y1l : y1 < 18446744073709551616 := by omega
        rw [hy0] at m3
        rw [hy1] at m4
        have HY0 := hid hy0
        have HY1 := hid hy1
        clear hy0 hy1
        go_wp2_with fail
        refine (padd_any wd p (r1, r2) s _ v (y0, y1) 0 hpd (adF_ok _ _ _) ⟨y0l, y1l⟩ (by omega)).mono ?_
        rintro e wf ⟨rfl, hpf, hCf⟩
        have hCg := hCe.trans (hCf.mono hCe.size (fun _ _ h => h))
        have hfin := hid (show adF (adF ⟨t0, t1, t2 % 4⟩ (u0, t3) 0) (y0, y1) 0 = muF ⟨h1, h2, h3⟩ (r1, r2) from by
          rw [hMU.out, hMT.out]
          show _ = adF (adF ⟨t0, t1, t2 % 4⟩ (t2 - t2 % 4, t3) 0) (t2 / 4 + t3 % 4 * 4611686018427387904, t3 / 4) 0
          rw [HU0.out, ← HY0.out, ← HY1.out, hdv.out])
        clear hCe hCf hpd q0 q1 gd m1 m2 m3 m4
        go_wp2_with fail
        go_end0
        refine ⟨rfl, ?_, hCg⟩
        rw [← hfin.out]
        exact hpf
end Go.Proofs.YtnmmnlffobnbfaaGreatDoor
