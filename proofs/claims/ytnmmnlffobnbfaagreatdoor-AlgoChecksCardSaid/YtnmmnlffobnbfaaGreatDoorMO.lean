/- Wr0 · Xa (joined by merge4.py) -/
import Derived.Test.YtnmmnlffobnbfaaGreatDoorMA
import Derived.Test.YtnmmnlffobnbfaaGreatDoorMF
/- the builtin min, as one step -/
namespace Go.Proofs.YtnmmnlffobnbfaaGreatDoor
open Go.RowKit

theorem wpList_min {P : Program} {ops : Array Oper} {rest : List Oper} {o : Oper} {a : Act} {Q : Exit → Act → World → Prop} {w : World} (hgd : o.guard = none) (x y : Operand) (T : TypeId)
    (ho : o.op = .call { callee := .builtin .min, args := #[x, y], argTypes := #[T, T] }) (m n p : Int) (hx : a.eval x = .int .i64 m) (hy : a.eval y = .int .i64 n) (hp : min m n = p)
    (h : wpList P ops Q rest (a.put o.dst (.int .i64 p)) w) : wpList P ops Q (o :: rest) a w :=
  wpList_plain hgd fun K hK => by
    have hr : (Builtin.min_ #[T, T] o.type #[.int .i64 m, .int .i64 n]) = pure (.int .i64 p) := by
      have e : (if n < m then n else m) = p := by rw [← hp]; split <;> omega
      rw [← e]; rfl
    have h' := hK _ _ h
    unfold Oper.wp execOp
    simp only [ho, resolve, invoke, builtin, Sem.run_bind, Sem.run_pure, Result.andThen_ok, List.map_toArray, List.map_cons, List.map_nil, hx, hy, hr]
    exact h'
end Go.Proofs.YtnmmnlffobnbfaaGreatDoor

/- weave and chacha: several texts in one -/
/- words of 32 bits -/
namespace Go.Proofs.YtnmmnlffobnbfaaGreatDoor
open Go.RowKit

/-- A word as the walk's number: closed to simp. -/
def wv (x : UInt32) : Int := x.toNat
theorem wv_lo (x : UInt32) : 0 ≤ wv x := by unfold wv; omega
theorem wv_hi (x : UInt32) : wv x < 4294967296 := by unfold wv; have := x.toNat_lt; omega
theorem wv_inj {x y : UInt32} (h : wv x = wv y) : x = y := by unfold wv at h; exact UInt32.toNat_inj.1 (by omega)
@[go_sem] theorem w_add (a b : UInt32) : (wv a + wv b) % (4294967296 : Int) = wv (a + b) := by
  unfold wv; rw [UInt32.toNat_add]; omega
@[go_sem] theorem w_xor (a b : UInt32) : bits .xor .u32 (wv a) (wv b) = wv (a ^^^ b) := by
  unfold wv; rw [u32_xor_nat _ _ a.toNat_lt b.toNat_lt]; simp
@[go_sem] theorem w_and (a b : UInt32) : bits .and .u32 (wv a) (wv b) = wv (a &&& b) := by
  unfold wv; rw [u32_and_nat _ _ a.toNat_lt b.toNat_lt]; simp
@[go_sem] theorem w_or (a b : UInt32) : bits .or .u32 (wv a) (wv b) = wv (a ||| b) := by
  unfold wv; rw [u32_or_nat _ _ a.toNat_lt b.toNat_lt]; simp
theorem w_lit (c : Nat) (hc : c < 4294967296) : wv (UInt32.ofNat c) = c := by unfold wv; simp [Nat.mod_eq_of_lt hc]
@[go_sem] theorem w_mul2 (a : UInt32) : wv a * 2 % (4294967296 : Int) = wv (a * 2) := by
  unfold wv; rw [UInt32.toNat_mul]; simp
@[go_sem] theorem w_top (a : UInt32) : wv a / (2147483648 : Int) = wv (a / 2147483648) := by
  unfold wv; rw [UInt32.toNat_div]; simp
@[go_sem] theorem w_mod (a : UInt32) : wv a % (4294967296 : Int) = wv a := Int.emod_eq_of_lt (wv_lo a) (wv_hi a)
@[go_sem] theorem w_topT (a : UInt32) : (wv a).tdiv (2147483648 : Int) = wv (a / 2147483648) := by
  rw [Int.tdiv_eq_ediv_of_nonneg (wv_lo a)]; exact w_top a
def ws (l : List UInt32) : List Value := l.map fun x => .int .u32 (wv x)
theorem ws_length (l : List UInt32) : (ws l).length = l.length := by simp [ws]
theorem ws_get (l : List UInt32) (i : Nat) (h : i < l.length) : (ws l)[i]? = some (.int .u32 (wv (l.getD i 0))) := by
  simp [ws, List.getElem?_eq_getElem h, List.getD]
theorem ws_set (l : List UInt32) (i : Nat) (x : UInt32) : (ws l).set i (.int .u32 (wv x)) = ws (l.set i x) := by simp [ws, List.map_set]
theorem ws_one (l : List UInt32) : ∀ v ∈ ws l, v.oneCell' = true := by
  intro v hv
  simp only [ws, List.mem_map] at hv
  obtain ⟨x, _, rfl⟩ := hv
  rfl
/-- A word turned round to the left, bit by bit. -/
def rotl (x : UInt32) : Nat → UInt32
  | 0 => x
  | s + 1 => rotl x s * 2 + rotl x s / 2147483648
theorem rot_aux (hi B Z : Nat) (h : B ≤ 2147483648) (h2 : Z < 2147483648) : (hi * 4294967296 + B + Z) % 4294967296 = B + Z := by omega
theorem rotl_nat (x : UInt32) (s : Nat) (hs : s ≤ 32) : (rotl x s).toNat = x.toNat * 2 ^ s % 4294967296 + x.toNat / 2 ^ (32 - s) := by
  induction s with
  | zero => have := x.toNat_lt; simp [rotl]; omega
  | succ s ih =>
    have h0 := ih (by omega)
    have hx := x.toNat_lt
    obtain ⟨P, hP⟩ : ∃ P, 2 ^ (31 - s) = P := ⟨_, rfl⟩
    obtain ⟨S, hS⟩ : ∃ S, 2 ^ s = S := ⟨_, rfl⟩
    have hPS : S * P = 2147483648 := by rw [← hP, ← hS, ← Nat.pow_add, show s + (31 - s) = 31 by omega]
    have e1 : 2 ^ (32 - s) = P * 2 := by rw [show 32 - s = (31 - s) + 1 by omega, Nat.pow_succ, hP]
    have e2 : 2 ^ (s + 1) = S * 2 := by rw [Nat.pow_succ, hS]
    have e3 : 32 - (s + 1) = 31 - s := by omega
    have hPp : 0 < P := by rw [← hP]; exact Nat.pow_pos (by decide)
    have hSp : 0 < S := by rw [← hS]; exact Nat.pow_pos (by decide)
    show (rotl x s * 2 + rotl x s / 2147483648).toNat = _
    rw [UInt32.toNat_add, UInt32.toNat_mul, UInt32.toNat_div]
    rw [e1, hS] at h0
    rw [e2, e3, hP]
    generalize x.toNat = X at *
    generalize (rotl x s).toNat = R at *
    obtain ⟨hi, b, lo, hb, hlo, hX⟩ : ∃ hi b lo, b < 2 ∧ lo < P ∧ X = (hi * 2 + b) * P + lo := by
      refine ⟨X / P / 2, X / P % 2, X % P, Nat.mod_lt _ (by omega), Nat.mod_lt _ hPp, ?_⟩
      rw [show X / P / 2 * 2 + X / P % 2 = X / P by omega]
      exact (Nat.div_add_mod' X P).symm
    have hhi : hi * 2 + b < S * 2 := by
      apply Nat.lt_of_mul_lt_mul_right (a := P)
      have : S * 2 * P = 4294967296 := by rw [Nat.mul_right_comm, hPS]
      omega
    have d1 : X / P = hi * 2 + b := by
      rw [hX, Nat.add_comm, Nat.add_mul_div_right _ _ hPp, Nat.div_eq_of_lt hlo, Nat.zero_add]
    have d2 : X / (P * 2) = hi := by rw [← Nat.div_div_eq_div_mul, d1]; omega
    have hloS : lo * S + S ≤ 2147483648 := by
      have h1 := Nat.mul_le_mul_right S (Nat.succ_le_of_lt hlo)
      rw [Nat.succ_mul, Nat.mul_comm P S, hPS] at h1
      exact h1
    have m1 : X * S = hi * 4294967296 + b * 2147483648 + lo * S := by
      rw [hX, Nat.add_mul, Nat.mul_assoc, Nat.mul_comm P S, hPS, Nat.add_mul, Nat.mul_assoc]
    have hhS : hi < S := by omega
    obtain ⟨Z, hZ⟩ : ∃ Z, lo * S = Z := ⟨_, rfl⟩
    rw [hZ] at hloS m1
    have r1 : R = b * 2147483648 + Z + hi := by
      rw [h0, d2, m1]
      have hb1 : b * 2147483648 ≤ 2147483648 := by omega
      have : (hi * 4294967296 + b * 2147483648 + Z) % 4294967296 = b * 2147483648 + Z := by
        exact rot_aux _ _ _ hb1 (by omega)
      rw [this]
    have m2 : X * (S * 2) = hi * 4294967296 * 2 + b * 4294967296 + Z * 2 := by rw [← Nat.mul_assoc, m1]; omega
    have m3 : X * (S * 2) % 4294967296 = Z * 2 := by
      rw [m2, show hi * 4294967296 * 2 + b * 4294967296 + Z * 2 = (hi * 2 + b) * 4294967296 + Z * 2 by omega, Nat.mul_add_mod_self_right]
      exact Nat.mod_eq_of_lt (by omega)
    rw [m3, d1, r1]
    show ((b * 2147483648 + Z + hi) * 2 % 4294967296 + (b * 2147483648 + Z + hi) / 2147483648) % 4294967296 = _
    have hZ2 : Z + hi < 2147483648 := by omega
    clear h0 m1 m2 m3 d1 d2 hX hhi hPS e1 e2 e3 hZ hloS r1
    rcases (by omega : b = 0 ∨ b = 1) with rfl | rfl
    · rw [Nat.mod_eq_of_lt (show (0 * 2147483648 + Z + hi) * 2 < 4294967296 by omega), Nat.div_eq_of_lt (by omega), Nat.mod_eq_of_lt (by omega)]
      omega
    · rw [show (1 * 2147483648 + Z + hi) * 2 = 4294967296 + (Z + hi) * 2 by omega, Nat.add_mod_left, Nat.mod_eq_of_lt (show (Z + hi) * 2 < 4294967296 by omega), show (1 * 2147483648 + Z + hi) / 2147483648 = 1 by omega, Nat.mod_eq_of_lt (by omega)]
      omega
theorem rot_formula (x : UInt32) (s : Nat) (hs : s < 32) : bits .or .u32 (wv x * 2 ^ s % 4294967296) (wv x / 2 ^ (32 - s)) = wv (rotl x s) := by
  have hx := x.toNat_lt
  have e : bits .or .u32 (wv x * 2 ^ s % 4294967296) (wv x / 2 ^ (32 - s)) = bits .or .u32 ((x.toNat * 2 ^ s % 4294967296 : Nat) : Int) ((x.toNat / 2 ^ (32 - s) : Nat) : Int) := by
    unfold wv; congr 1
  rw [e, u32_or_nat _ _ (Nat.mod_lt _ (by decide)) (Nat.lt_of_le_of_lt (Nat.div_le_self _ _) hx)]
  unfold wv
  rw [rotl_nat x s (by omega)]
  congr 1
  have hd : x.toNat * 2 ^ s % 4294967296 = 2 ^ s * (x.toNat % 2 ^ (32 - s)) := by
    have : (4294967296 : Nat) = 2 ^ (32 - s) * 2 ^ s := by rw [← Nat.pow_add, show 32 - s + s = 32 by omega]
    rw [this, Nat.mul_mod_mul_right, Nat.mul_comm]
  rw [hd]
  refine (Nat.two_pow_add_eq_or_of_lt ?_ _).symm
  apply Nat.div_lt_of_lt_mul
  rw [← Nat.pow_add, show 32 - s + s = 32 by omega]
  exact hx

set_option maxRecDepth 100000 in
theorem rot_any (w : World) (x : UInt32) (k : Int) (s : Nat) (hk : bits .and .u64 (IntKind.u64.wrap k) 31 = (s : Int)) (hs : s < 32) :
    Calls Tryz.prog 164 #[.int .u32 (wv x), .int .i64 k] w fun e w' => e = .returned (.int .u32 (wv (rotl x s))) ∧ w = w' := by
  go_enter Tryz.func164, Tryz.ntmps164
  go_wp2_with fail
  go_ret
  exact ⟨by rw [← rot_formula x s hs]; rfl, rfl⟩
set_option maxRecDepth 100000 in
theorem left_any (w : World) (x : UInt32) (k : Int) (s : Nat) (hk : bits .and .u64 (IntKind.u64.wrap k) 31 = (s : Int)) (hs : s < 32) :
    Calls Tryz.prog 120 #[.int .u32 (wv x), .int .i64 k] w fun e w' => e = .returned (.int .u32 (wv (rotl x s))) ∧ w = w' := by
  go_enter Tryz.func120, Tryz.ntmps120
  go_wp2_with (refine (rot_any _ x k s hk hs).mono ?_; rintro e w' ⟨rfl, rfl⟩)
  go_ret
  exact ⟨rfl, rfl⟩
set_option maxRecDepth 100000 in
theorem refleft_any (w : World) (x : UInt32) (k : Nat) (hk : k < 32) :
    Calls Tryz.prog 212 #[.int .u32 (wv x), .int .i64 k] w fun e w' => e = .returned (.int .u32 (wv (rotl x k))) ∧ w = w' := by
  have q2 : (k : Int).tmod 32 = (k : Int) := Int.tmod_eq_of_lt (by omega) (by omega)
  have q3 : ((k : Int) + 32).tmod 32 = (k : Int) := by rw [Int.tmod_eq_emod_of_nonneg (by omega)]; omega
  go_enter Tryz.func212, Tryz.ntmps212
  go_wp2_with fail
  go_loopw [0, 6] (fun y i wr => ∃ j : Nat, j ≤ k ∧ i = .int .i64 j ∧ y = .int .u32 (wv (rotl x j)) ∧ w = wr) (fun _ i _ => k - (intOf i).toNat)
  case atStart => exact ⟨0, by omega, rfl, rfl, rfl⟩
  case round =>
    obtain ⟨j, hj, rfl, rfl, rfl⟩ := hrel
    by_cases hlt : j < k
    · have q4 : (j : Int) < (k : Int) := by omega
      have e : rotl x (j + 1) = rotl x j * 2 + rotl x j / 2147483648 := rfl
      obtain ⟨y, hy⟩ : ∃ y, rotl x j = y := ⟨_, rfl⟩
      rw [hy] at e ⊢
      have He := hid e
      clear e hy
      go_wp2_with fail
      go_roundw
      case rel => exact ⟨j + 1, by omega, by go_num, by rw [He.out, ← w_add], trivial⟩
      case measure => (simp [intOf]; try omega)
    · have q4 : ¬ ((j : Int) < (k : Int)) := by omega
      have hjk : j = k := by omega
      subst hjk
      go_wp2_with fail
      go_ret
      exact ⟨rfl, rfl⟩
end Go.Proofs.YtnmmnlffobnbfaaGreatDoor

/- bits.Little, slices.Clone; the reference's Little -/
namespace Go.Proofs.YtnmmnlffobnbfaaGreatDoor
open Go.RowKit

def le (l : List UInt8) : Nat := be l.reverse
theorem le_lt (l : List UInt8) : le l < 256 ^ l.length := by
  have := be_lt l.reverse
  rwa [List.length_reverse] at this
theorem le_snoc (l : List UInt8) (x : UInt8) : le (l ++ [x]) = le l + 256 ^ l.length * x.toNat := by
  unfold le
  rw [List.reverse_append]
  have e := be_append [x] l.reverse
  have h1 : be [x] = x.toNat := by simp [be]
  rw [h1, List.length_reverse] at e
  show be ([x] ++ l.reverse) = _
  rw [e, Nat.mul_comm, Nat.add_comm]
set_option maxRecDepth 100000 in
set_option maxHeartbeats 1000000 in
theorem reverse2_any (w : World) (b n cap : Nat) (l : List UInt8) (rest : List Value) (T : TypeId) (hb : Blk w b (bys l ++ rest) T) (hn : l.length = n) (h9 : n < 1000000000) :
    Calls Tryz.prog 119 #[.slice (some ⟨b, 0, none⟩) n cap] w fun e w' => e = .returned (.tuple #[]) ∧ Blk w' b (bys l.reverse ++ rest) T ∧ Chg w.heap.size [b] w w' ∧ w.heap.size = w'.heap.size := by
  have hb0 : Blk w b (bys (revTo l 0) ++ rest) T := by rw [revTo_zero]; exact hb
  have Hn := hid hn
  have Hb := hid hb0
  clear hb hn hb0
  go_enter Tryz.func119, Tryz.ntmps119
  go_wp2_with fail
  go_loopw [2, 3] (fun i j wr => ∃ k : Nat, k ≤ n ∧ i = .int .i64 k ∧ j = .int .i64 ((n : Int) - 1 - k) ∧ Blk wr b (bys (revTo l k) ++ rest) T ∧ Chg w.heap.size [b] w wr ∧ w.heap.size = wr.heap.size) (fun i _ _ => n - (intOf i).toNat)
  case atStart => exact ⟨0, by omega, rfl, by simp, Hb.out, Chg.refl _ _ _, rfl⟩
  case round =>
    obtain ⟨k, hk, rfl, rfl, hb, hC, hz⟩ := hrel
    by_cases hlt : k < n - 1 - k
    · have hl := revTo_len l k
      have hn := Hn.out
      obtain ⟨j, hj⟩ : ∃ j, n - 1 - k = j := ⟨_, rfl⟩
      have ej : (n : Int) - 1 - k = (j : Int) := by omega
      have ej1 : (n : Int) - 1 - ((k + 1 : Nat) : Int) = (j : Int) - 1 := by omega
      rw [ej]
      have ck := hb.headCell k (by omega)
      have cj := hb.headCell j (by omega)
      rw [revTo_get _ _ _ (by omega), if_neg (by omega)] at ck
      rw [revTo_get _ _ _ (by omega), if_neg (by omega)] at cj
      have hs := revTo_succ l k (by omega)
      have hne : ¬ k = j := by omega
      rw [show l.length - 1 - k = j by omega] at hs
      have Hs := hid hs
      have fk := hb.frozen k
      have fj := hb.frozen j
      generalize l.getD k 0 = x at *
      generalize l.getD j 0 = y at *
      have q1 : (k : Int) < (j : Int) := by omega
      have q2 : k < n := by omega
      have q3 : j < n := by omega
      have q4 : 0 ≤ (k : Int) := by omega
      have q5 : 0 ≤ (j : Int) := by omega
      have q6 : (k : Int) < (n : Int) := by omega
      have q7 : (j : Int) < (n : Int) := by omega
      clear hs hl hn hj ej
      go_wp2_with fail
      try simp only [Act.put]
      refine tkR (fun w' => w'.cell? ⟨b, k, none⟩ = some (.int .u8 (bv x)) ∧ w'.cell? ⟨b, j, none⟩ = some (.int .u8 (bv y))) [13] (by kernel_rfl) (fun c a d v w h => by cases d <;> exact h) (⟨ck, cj⟩) (fun hPF hHeld => ?_)
      refine tkB 0 (.some 14) _ _ rfl rfl (by kernel_rfl) (by kernel_rfl) (by kernel_rfl) (by kernel_rfl) hPF rfl (fun w' => by (go_simp; try with_reducible rfl)) hHeld (fun hHeld => ?_)
      simp only [Act.put, List.setIfInBounds_toArray, List.set_cons_zero, List.set_cons_succ]
      refine tkB 1 (.some 15) _ _ rfl rfl (by kernel_rfl) (by kernel_rfl) (by kernel_rfl) (by kernel_rfl) hPF rfl (fun w' => by (go_simp; try with_reducible rfl)) hHeld (fun hHeld => ?_)
      simp only [Act.put, List.setIfInBounds_toArray, List.set_cons_zero, List.set_cons_succ]
      refine tkB 2 (.some 16) _ _ rfl rfl (by kernel_rfl) (by kernel_rfl) (by kernel_rfl) (by kernel_rfl) hPF rfl (fun w' => by (go_simp; try with_reducible rfl)) hHeld (fun hHeld => ?_)
      simp only [Act.put, List.setIfInBounds_toArray, List.set_cons_zero, List.set_cons_succ]
      refine tkB 3 (.some 17) _ _ rfl rfl (by kernel_rfl) (by kernel_rfl) (by kernel_rfl) (by kernel_rfl) hPF rfl (fun w' => by (go_simp; try with_reducible rfl)) hHeld (fun hHeld => ?_)
      simp only [Act.put, List.setIfInBounds_toArray, List.set_cons_zero, List.set_cons_succ]
      refine tkB 4 (.some 18) _ _ rfl rfl (by kernel_rfl) (by kernel_rfl) (by kernel_rfl) (by kernel_rfl) hPF rfl (fun w' => by (go_simp; try with_reducible rfl)) hHeld (fun hHeld => ?_)
      simp only [Act.put, List.setIfInBounds_toArray, List.set_cons_zero, List.set_cons_succ]
      refine tkB 5 (.some 19) _ _ rfl rfl (by kernel_rfl) (by kernel_rfl) (by kernel_rfl) (by kernel_rfl) hPF rfl (fun w' => by (go_simp; try with_reducible rfl)) hHeld (fun hHeld => ?_)
      simp only [Act.put, List.setIfInBounds_toArray, List.set_cons_zero, List.set_cons_succ]
      refine tkB 6 (.some 20) _ _ rfl rfl (by kernel_rfl) (by kernel_rfl) (by kernel_rfl) (by kernel_rfl) hPF rfl (fun w' => by (go_simp; try with_reducible rfl)) hHeld (fun hHeld => ?_)
      simp only [Act.put, List.setIfInBounds_toArray, List.set_cons_zero, List.set_cons_succ]
      refine tkA 7 (.some 21) _ _ rfl rfl (by kernel_rfl) (by kernel_rfl) (by kernel_rfl) (by kernel_rfl) (by kernel_rfl) hPF rfl (fun w' hw' => by (have h1 := hw'.2; go_simp; try with_reducible rfl)) hHeld (fun hHeld => ?_)
      simp only [Act.put, List.setIfInBounds_toArray, List.set_cons_zero, List.set_cons_succ]
      refine tkB 8 (.some 22) _ _ rfl rfl (by kernel_rfl) (by kernel_rfl) (by kernel_rfl) (by kernel_rfl) hPF rfl (fun w' => by (go_simp; try with_reducible rfl)) hHeld (fun hHeld => ?_)
      simp only [Act.put, List.setIfInBounds_toArray, List.set_cons_zero, List.set_cons_succ]
      refine tkB 9 (.some 23) _ _ rfl rfl (by kernel_rfl) (by kernel_rfl) (by kernel_rfl) (by kernel_rfl) hPF rfl (fun w' => by (go_simp; try with_reducible rfl)) hHeld (fun hHeld => ?_)
      simp only [Act.put, List.setIfInBounds_toArray, List.set_cons_zero, List.set_cons_succ]
      refine tkB 10 (.some 24) _ _ rfl rfl (by kernel_rfl) (by kernel_rfl) (by kernel_rfl) (by kernel_rfl) hPF rfl (fun w' => by (go_simp; try with_reducible rfl)) hHeld (fun hHeld => ?_)
      simp only [Act.put, List.setIfInBounds_toArray, List.set_cons_zero, List.set_cons_succ]
      refine tkA 11 (.some 25) _ _ rfl rfl (by kernel_rfl) (by kernel_rfl) (by kernel_rfl) (by kernel_rfl) (by kernel_rfl) hPF rfl (fun w' hw' => by (have h1 := hw'.1; go_simp; try with_reducible rfl)) hHeld (fun hHeld => ?_)
      simp only [Act.put, List.setIfInBounds_toArray, List.set_cons_zero, List.set_cons_succ]
      refine tkB 12 (.some 26) _ _ rfl rfl (by kernel_rfl) (by kernel_rfl) (by kernel_rfl) (by kernel_rfl) hPF rfl (fun w' => by (go_simp; try with_reducible rfl)) hHeld (fun hHeld => ?_)
      simp only [Act.put, List.setIfInBounds_toArray, List.set_cons_zero, List.set_cons_succ]
      refine tkW (rs := [13]) (by kernel_rfl) (by simp) (AllK.close (o := _) rfl (by kernel_rfl) (fun KC hKC => ?_) AllK.nil)
      go_simp
      refine hKC.out _ _ (fun hHeld => ?_)
      clear hKC KC
      try simp only [Act.put]
      refine tkB 14 (.some 27) _ _ rfl rfl (by kernel_rfl) (by kernel_rfl) (by kernel_rfl) (by kernel_rfl) hPF rfl (fun w' => by (go_simp; try with_reducible rfl)) hHeld (fun hHeld => ?_)
      simp only [Act.put, List.setIfInBounds_toArray, List.set_cons_zero, List.set_cons_succ]
      refine tkW (rs := [15]) (by kernel_rfl) (by simp) (AllK.close (o := _) rfl (by kernel_rfl) (fun KC hKC => ?_) AllK.nil)
      go_simp
      refine hKC.out _ _ (fun hHeld => ?_)
      clear hKC KC
      try simp only [Act.put]
      refine tkD (by kernel_rfl) ?_ _
      go_wp2_with fail
      go_roundw
      case rel =>
        refine ⟨k + 1, by omega, by go_num, by rw [ej1], ?_, ?_, ?_⟩
        · rw [← Hs.out, ← bys_setAt _ _ _ _ (by simp [revTo_len]; have := Hn.out; omega), ← bys_setAt _ _ _ _ (by simp [revTo_len]; have := Hn.out; omega)]
          exact (hb.drew.set k _).set j _
        · exact ((hC.drew).setCell (p := ⟨b, k, none⟩) (.inl (by simp)) _).setCell (p := ⟨b, j, none⟩) (.inl (by simp)) _
        · simpa using hz
      case measure => simp [intOf]; omega
    · have hr := revTo_all l k (by have := Hn.out; omega)
      rw [hr] at hb
      have q1 : ¬ (k : Int) < (n : Int) - 1 - (k : Int) := by omega
      have Hz := hid hz
      clear hz
      go_wp2_with fail
      go_end0
      exact ⟨rfl, hb, hC, Hz.out⟩


theorem eql_nil (n cap : Nat) (W : World) : (binOp .eql 23 (.slice none n cap) (.slice none 0 0)).run Tryz.prog W = .ok (.bool true) W := by kernel_rfl
theorem eql_some (a : Addr) (n cap : Nat) (W : World) : (binOp .eql 23 (.slice (some a) n cap) (.slice none 0 0)).run Tryz.prog W = .ok (.bool false) W := by kernel_rfl
set_option maxRecDepth 100000 in
set_option maxHeartbeats 1000000 in
theorem clone_any (w : World) (pa : Option Addr) (n cap : Nat) (l : List UInt8) (hl : RowAt w pa l) (hn : l.length = n) (h9 : n < 1000000000) :
    Calls Tryz.prog 62 #[.slice pa n cap] w fun e w' => ∃ v, e = .returned v ∧ OwnR w.heap.size w' v l ∧ Below w.heap.size w w' := by
  cases pa with
  | none =>
    have h0 : l = [] := by
      cases l with
      | nil => rfl
      | cons x l => obtain ⟨_, _, e, _⟩ := hl 0 (by simp); cases e
    subst h0
    simp only [List.length_nil] at hn
    subst hn
    have heq := eql_nil 0 cap
    go_enter Tryz.func62, Tryz.ntmps62
    go_wp2_with fail
    go_ret
    exact ⟨_, rfl, OwnR.nil _ _, Below.refl _ _⟩
  | some a =>
    have Hn := hid hn
    clear hn
    have heq := eql_some a n cap
    go_enter Tryz.func62, Tryz.ntmps62
    have hm := OwnR.made w
    have hB0 : Below w.heap.size w (w.alloc (.cells #[] 5)) := (Below.refl _ _).alloc (Nat.le_refl _) _
    have hl0 := hl.below hB0
    go_wp2_with (refine wpList_addO hm rfl (.tmp 5) (.tmp 6) rfl rfl _ n cap l rfl hl0 Hn.out (by simp; omega) hB0.size ?_; intro v' w1 hown1 hgrow1 _; have hB1 := hB0.grown hgrow1 hB0.size (fun j e => (hm.lt j e).1); rw [List.nil_append] at hown1)
    go_ret
    exact ⟨_, rfl, hown1, hB1⟩
set_option maxRecDepth 100000 in
set_option maxHeartbeats 1000000 in
theorem little_any (w : World) (pa : Option Addr) (n cap : Nat) (l : List UInt8) (hl : RowAt w pa l) (hn : l.length = n) (h8 : n ≤ 8) (hn0 : 0 < n) (hnc : n ≤ cap) :
    Calls Tryz.prog 221 #[.slice pa n cap] w fun e w' => e = .returned (U64 (le l)) ∧ Below w.heap.size w w' := by
  have Hn := hid hn
  have q1 : (n : Int) ≤ (cap : Int) := by omega
  clear hn
  go_enter Tryz.func221, Tryz.ntmps221
  go_wp2_with (refine wpList_min rfl (.tmp 6) (.const (.int .i64 8)) 3 rfl (n : Int) 8 (n : Int) rfl rfl (by omega) ?_)
  refine (clone_any w pa n cap l hl Hn.out (by omega)).mono ?_
  rintro e w1 ⟨v, rfl, hown, hB1⟩
  obtain ⟨g, c, rest, rfl, hc, hg, hb⟩ := hown.blk (by rw [Hn.out]; omega)
  rw [Hn.out] at hc ⊢
  have hlr : l.reverse.length = n := by rw [List.length_reverse]; exact Hn.out
  have Hlr := hid hlr
  clear hlr
  go_wp2_with fail
  refine (reverse2_any w1 g n c l rest tU8 hb Hn.out (by omega)).mono ?_
  rintro e w2 ⟨rfl, hb2, hC2, hz2⟩
  have hB2 := hB1.trans (hC2.below hB1.size (fun k hk => by simp at hk; omega))
  clear hz2 hC2
  go_wp2_with fail
  refine (big_any w2 _ n c l.reverse hb2.headRow Hlr.out h8).mono ?_
  rintro e w3 ⟨rfl, rfl⟩
  go_wp2_with fail
  go_ret
  exact ⟨rfl, hB2⟩
set_option maxRecDepth 100000 in
set_option maxHeartbeats 1000000 in
theorem reflittle_any (w : World) (pa : Option Addr) (n cap : Nat) (l : List UInt8) (hl : RowAt w pa l) (hn : l.length = n) (h8 : n ≤ 7) :
    Calls Tryz.prog 189 #[.slice pa n cap] w fun e w' => e = .returned (U64 (le l)) ∧ w = w' := by
  have Hn := hid hn
  clear hn
  go_enter Tryz.func189, Tryz.ntmps189
  go_wp2_with fail
  go_loopw [3, 4, 5] (fun x u i wr => ∃ k : Nat, k ≤ n ∧ i = .int .i64 k ∧ x = U64 (le (l.take k)) ∧ u = U64 (256 ^ k) ∧ w = wr) (fun _ _ i _ => n - (intOf i).toNat)
  case atStart => exact ⟨0, by omega, rfl, rfl, rfl, rfl⟩
  case round =>
    obtain ⟨k, hk, rfl, rfl, rfl, rfl⟩ := hrel
    by_cases hlt : k < n
    · have hkl : k < l.length := by rw [Hn.out]; exact hlt
      obtain ⟨b, o, rfl, hb, c⟩ := hl k hkl
      have q1 : (k : Int) < (n : Int) := by omega
      have q2 : (k : Int) < 8 := by omega
      have hs : le (l.take (k + 1)) = le (l.take k) + 256 ^ k * (l.getD k 0).toNat := by
        rw [take_succ_getD 0 l k hkl, le_snoc, List.length_take, Nat.min_eq_left (by omega)]
      generalize l.getD k 0 = x at c hs
      have hP : 256 ^ k ≤ 256 ^ 6 := Nat.pow_le_pow_right (by decide) (by omega)
      have hP2 : 256 ^ (k + 1) = 256 ^ k * 256 := Nat.pow_succ ..
      have hle : le (l.take (k + 1)) < 256 ^ 7 := Nat.lt_of_lt_of_le (le_lt _) (Nat.pow_le_pow_right (by decide) (by rw [List.length_take]; omega))
      obtain ⟨P', hPe⟩ : ∃ P', 256 ^ (k + 1) = P' := ⟨_, rfl⟩
      obtain ⟨A', hAe⟩ : ∃ A', le (l.take (k + 1)) = A' := ⟨_, rfl⟩
      rw [hPe] at hP2
      rw [hAe] at hs hle
      generalize 256 ^ k = P at *
      generalize le (l.take k) = A at *
      have HPe := hid hPe
      have HAe := hid hAe
      obtain ⟨m, hm⟩ : ∃ m, P * x.toNat = m := ⟨_, rfl⟩
      have hx := x.toNat_lt
      have hm1 : (P : Int) * bv x = (m : Int) := by unfold bv; rw [← hm]; simp
      rw [hm] at hs
      have Hs := hid hs
      have Hm := hid hm
      have HP2 := hid hP2
      have hm9 : (m : Int) < 72057594037927936 := by omega
      have hA9 : IntKind.u64.wrap ((A : Int) + (m : Int)) = (A' : Int) := by rw [IntKind.wrap_u64]; omega
      have hm8 : IntKind.u64.wrap (m : Int) = (m : Int) := by rw [IntKind.wrap_u64]; omega
      have hP9 : IntKind.u64.wrap ((P : Int) * 256) = (P' : Int) := by rw [IntKind.wrap_u64]; omega
      have hP8 : (P : Int) * 256 % 18446744073709551616 = (P' : Int) := by omega
      have hxw : IntKind.u64.wrap (bv x) = bv x := by have := bv_lo x; have := bv_hi x; rw [IntKind.wrap_u64]; omega
      clear hs hm hP2 hle hPe hAe
      go_wp2_with fail
      go_roundw
      case rel => exact ⟨k + 1, by omega, by go_num, by rw [HAe.out], by rw [HPe.out], trivial⟩
      case measure => simp [intOf]; omega
    · have hke : k = n := by omega
      have q1 : ¬ ((k : Int) < (n : Int)) := by omega
      rw [hke, List.take_of_length_le (by rw [Hn.out]; omega)]
      clear hke
      go_wp2_with fail
      go_ret
      exact ⟨rfl, rfl⟩
end Go.Proofs.YtnmmnlffobnbfaaGreatDoor

/- chacha: a quarter round, both ways -/
namespace Go.Proofs.YtnmmnlffobnbfaaGreatDoor
open Go.RowKit

abbrev W32 (x : UInt32) : Value := .int .u32 (wv x)
/-- A quarter round. -/
def qrA (a b c d : UInt32) (s t : Nat) : UInt32 × UInt32 × UInt32 × UInt32 :=
  (a + b, rotl (b ^^^ (c + rotl (d ^^^ (a + b)) s)) t, c + rotl (d ^^^ (a + b)) s, rotl (d ^^^ (a + b)) s)
def qrF (a b c d : UInt32) : UInt32 × UInt32 × UInt32 × UInt32 :=
  let r := qrA a b c d 16 12
  qrA r.1 r.2.1 r.2.2.1 r.2.2.2 8 7
theorem lk16 : bits .and .u64 (IntKind.u64.wrap 16) 31 = ((16 : Nat) : Int) := by decide +kernel
theorem lk12 : bits .and .u64 (IntKind.u64.wrap 12) 31 = ((12 : Nat) : Int) := by decide +kernel
theorem lk8 : bits .and .u64 (IntKind.u64.wrap 8) 31 = ((8 : Nat) : Int) := by decide +kernel
theorem lk7 : bits .and .u64 (IntKind.u64.wrap 7) 31 = ((7 : Nat) : Int) := by decide +kernel

theorem ix0 (W : World) : (Instr.index 261 (.agg #[.int .i64 16, .int .i64 12, .int .i64 8, .int .i64 7]) (.int .i64 0)).run Tryz.prog W = .ok (.agg #[.int .i64 16, .int .i64 12]) W := by kernel_rfl
theorem ix1 (W : World) : (Instr.index 261 (.agg #[.int .i64 16, .int .i64 12, .int .i64 8, .int .i64 7]) (.int .i64 1)).run Tryz.prog W = .ok (.agg #[.int .i64 8, .int .i64 7]) W := by kernel_rfl
set_option maxRecDepth 100000 in
set_option maxHeartbeats 1000000 in
theorem quarter_any (w : World) (a b c d : UInt32) :
    Calls Tryz.prog 203 #[W32 a, W32 b, W32 c, W32 d] w fun e w' => e = .returned (.tuple #[W32 (qrF a b c d).1, W32 (qrF a b c d).2.1, W32 (qrF a b c d).2.2.1, W32 (qrF a b c d).2.2.2]) ∧ Below w.heap.size w w' := by
  have h0 := ix0
  have h1 := ix1
  go_enter Tryz.func203, Tryz.ntmps203
  go_wp2_with fail
  refine wp_loop_rounds 3 ?_
  rw [rounds_succ]
  go_wp2_with fail
  refine (left_any _ _ 16 16 lk16 (by decide)).mono ?_
  rintro e w' ⟨rfl, rfl⟩
  obtain ⟨d1, hd1⟩ : ∃ y, rotl (d ^^^ (a + b)) 16 = y := ⟨_, rfl⟩
  rw [hd1]
  have Hd1 := hid hd1
  clear hd1
  go_wp2_with fail
  refine (left_any _ _ 12 12 lk12 (by decide)).mono ?_
  rintro e w' ⟨rfl, rfl⟩
  obtain ⟨b1, hb1⟩ : ∃ y, rotl (b ^^^ (c + d1)) 12 = y := ⟨_, rfl⟩
  rw [hb1]
  have Hb1 := hid hb1
  clear hb1
  go_wp2_with fail
  rw [rounds_succ]
  go_wp2_with fail
  refine (left_any _ _ 8 8 lk8 (by decide)).mono ?_
  rintro e w' ⟨rfl, rfl⟩
  obtain ⟨d2, hd2⟩ : ∃ y, rotl (d1 ^^^ (a + b + b1)) 8 = y := ⟨_, rfl⟩
  rw [hd2]
  have Hd2 := hid hd2
  clear hd2
  go_wp2_with fail
  refine (left_any _ _ 7 7 lk7 (by decide)).mono ?_
  rintro e w' ⟨rfl, rfl⟩
  obtain ⟨b2, hb2⟩ : ∃ y, rotl (b1 ^^^ (c + d1 + d2)) 7 = y := ⟨_, rfl⟩
  rw [hb2]
  have Hb2 := hid hb2
  clear hb2
  have hq : qrF a b c d = (a + b + b1, b2, c + d1 + d2, d2) := by
    unfold qrF qrA
    simp only [Hd1.out, Hb1.out, Hd2.out, Hb2.out]
  have Hq := hid hq
  clear hq
  go_wp2_with fail
  rw [rounds_succ]
  go_wp2_with fail
  refine bodyPost_ret (v := .tuple #[W32 (a + b + b1), W32 b2, W32 (c + d1 + d2), W32 d2]) (by simp [results, Tryz.results203, go_sem]) rfl ⟨by rw [Hq.out], ?_⟩
  go_grown
end Go.Proofs.YtnmmnlffobnbfaaGreatDoor

/- chacha: the first state -/
namespace Go.Proofs.YtnmmnlffobnbfaaGreatDoor
open Go.RowKit

abbrev tA32 : TypeId := 35
abbrev tN12 : TypeId := 183
abbrev tS16 : TypeId := 227
/-- Bytes as words, the first k. -/
def wordsF (l : List UInt8) (k : Nat) : List UInt32 := (List.range k).map fun i => UInt32.ofNat (le ((l.drop (4 * i)).take 4))
theorem wordsF_len (l : List UInt8) (k : Nat) : (wordsF l k).length = k := by simp [wordsF]
theorem wordsF_succ (l : List UInt8) (k : Nat) : wordsF l (k + 1) = wordsF l k ++ [UInt32.ofNat (le ((l.drop (4 * k)).take 4))] := by unfold wordsF; rw [List.range_succ, List.map_append]; rfl
def sigma : List UInt32 := [1634760805, 857760878, 2036477234, 1797285236]
def initF (key nonce : List UInt8) (n : UInt32) : List UInt32 := sigma ++ wordsF key 8 ++ [n] ++ wordsF nonce 3
theorem initF_len (key nonce : List UInt8) (n : UInt32) : (initF key nonce n).length = 16 := by simp [initF, sigma, wordsF]
def z16w : List UInt32 := List.replicate 16 0
theorem size132 : (Tryz.prog.info? 227).map (·.size) = some 16 := by kernel_rfl
theorem size32b : (Tryz.prog.info? 35).map (·.size) = some 32 := by kernel_rfl
theorem size12b : (Tryz.prog.info? 183).map (·.size) = some 12 := by kernel_rfl
def inA (key : List UInt8) (k : Nat) : List UInt32 := sigma ++ wordsF key k ++ List.replicate (12 - k) 0
def inB (key nonce : List UInt8) (n : UInt32) (k : Nat) : List UInt32 := sigma ++ wordsF key 8 ++ [n] ++ wordsF nonce k ++ List.replicate (3 - k) 0
theorem inA_len (key : List UInt8) (k : Nat) (h : k ≤ 12) : (inA key k).length = 16 := by simp [inA, sigma, wordsF]; omega
theorem inB_len (key nonce : List UInt8) (n : UInt32) (k : Nat) (h : k ≤ 3) : (inB key nonce n k).length = 16 := by simp [inB, sigma, wordsF]; omega
theorem set_at {α : Type} (A : List α) (k m : Nat) (d x : α) (hA : A.length = k) (hm : 0 < m) : (A ++ List.replicate m d).set k x = A ++ [x] ++ List.replicate (m - 1) d := by
  obtain ⟨m', rfl⟩ : ∃ m', m = m' + 1 := ⟨m - 1, by omega⟩
  rw [List.set_append_right _ _ (by omega), hA, Nat.sub_self, List.replicate_succ, List.set_cons_zero, List.append_assoc]; rfl
theorem inA_set (key : List UInt8) (k : Nat) (h : k < 8) : (inA key k).set (4 + k) (UInt32.ofNat (le ((key.drop (4 * k)).take 4))) = inA key (k + 1) := by
  unfold inA
  rw [set_at _ _ _ _ _ (by simp [sigma, wordsF]; omega) (by omega), wordsF_succ key k, ← List.append_assoc, show 12 - k - 1 = 12 - (k + 1) by omega]
theorem inB_set (key nonce : List UInt8) (n : UInt32) (k : Nat) (h : k < 3) : (inB key nonce n k).set (13 + k) (UInt32.ofNat (le ((nonce.drop (4 * k)).take 4))) = inB key nonce n (k + 1) := by
  unfold inB
  rw [set_at _ _ _ _ _ (by simp [sigma, wordsF]; omega) (by omega), wordsF_succ nonce k, ← List.append_assoc, show 3 - k - 1 = 3 - (k + 1) by omega]
theorem inA_inB (key nonce : List UInt8) (n : UInt32) : (inA key 8).set 12 n = inB key nonce n 0 := by
  unfold inA inB
  rw [set_at _ _ _ _ _ (by simp [sigma, wordsF]) (by omega)]
  simp [wordsF]
theorem inB_all (key nonce : List UInt8) (n : UInt32) : inB key nonce n 3 = initF key nonce n := by unfold inB initF; simp
theorem le4_lt (l : List UInt8) (k : Nat) : le ((l.drop k).take 4) < 4294967296 := by
  have h : 256 ^ ((l.drop k).take 4).length ≤ 256 ^ 4 := Nat.pow_le_pow_right (by decide) (by rw [List.length_take]; omega)
  exact Nat.lt_of_lt_of_le (le_lt _) h
theorem ws_setNum (l : List UInt32) (i : Nat) (x : UInt32) (v : Int) (h : v = wv x) : (ws l).set i (.int .u32 v) = ws (l.set i x) := by subst h; exact ws_set l i x

theorem slice32 (b q : Nat) (hq : q + 4 ≤ 32) (W : World) : (Instr.sliceAt 35 (.pointer (some ⟨b, 0, none⟩)) (some (.int .i64 (q : Int))) (some (.int .i64 ((q : Int) + 4))) none).run Tryz.prog W = .ok (.slice (some ⟨b, q, none⟩) 4 (32 - q)) W := by
  have h1 : (q : Int) + 4 ≤ 32 := by omega
  have h2 : 0 ≤ (q : Int) := by omega
  have h3 : (q : Int) ≤ (q : Int) + 4 := by omega
  have h4 : 0 ≤ (q : Int) + 4 := by omega
  go_simp
  exact ⟨by omega, by omega⟩
theorem slice12 (b q : Nat) (hq : q + 4 ≤ 12) (W : World) : (Instr.sliceAt 183 (.pointer (some ⟨b, 0, none⟩)) (some (.int .i64 (q : Int))) (some (.int .i64 ((q : Int) + 4))) none).run Tryz.prog W = .ok (.slice (some ⟨b, q, none⟩) 4 (12 - q)) W := by
  have h1 : (q : Int) + 4 ≤ 12 := by omega
  have h2 : 0 ≤ (q : Int) := by omega
  have h3 : (q : Int) ≤ (q : Int) + 4 := by omega
  have h4 : 0 ≤ (q : Int) + 4 := by omega
  go_simp
  exact ⟨by omega, by omega⟩

set_option maxRecDepth 100000 in
set_option maxHeartbeats 4000000 in
theorem first_any (w : World) (key nonce : List UInt8) (n : UInt32) (hk : key.length = 32) (hn : nonce.length = 12) :
    Calls Tryz.prog 202 #[.agg (bys key).toArray, .agg (bys nonce).toArray, W32 n] w fun e w' => e = .returned (.agg (ws (initF key nonce n)).toArray) ∧ Below w.heap.size w w' := by
  obtain ⟨wa, hwa⟩ : ∃ wa, ((w.alloc (.cells (bys key).toArray tA32)).alloc (.cells (bys nonce).toArray tN12)).alloc (.cells (ws z16w).toArray tS16) = wa := ⟨_, rfl⟩
  have h0 : Blk wa w.heap.size (bys key) tA32 := by rw [← hwa]; exact ((Blk.new w (bys key) tA32).alloc _).alloc _
  have h1 : Blk wa (w.heap.size + 1) (bys nonce) tN12 := by
    rw [← hwa]
    have := (Blk.new (w.alloc (.cells (bys key).toArray tA32)) (bys nonce) tN12).alloc (.cells (ws z16w).toArray tS16)
    simp only [World.size_alloc] at this; exact this
  have h2 : Blk wa (w.heap.size + 1 + 1) (ws z16w) tS16 := by
    rw [← hwa]
    have := Blk.new ((w.alloc (.cells (bys key).toArray tA32)).alloc (.cells (bys nonce).toArray tN12)) (ws z16w) tS16
    simp only [World.size_alloc] at this; exact this
  have hBa : Below w.heap.size w wa := by rw [← hwa]; exact (((Below.refl _ _).alloc (Nat.le_refl _) _).alloc (by simp) _).alloc (by simp; omega) _
  have hsz : wa.heap.size = w.heap.size + 3 := by rw [← hwa]; simp
  obtain ⟨b7, hb7⟩ : ∃ b, w.heap.size + 1 + 1 + 1 = b := ⟨_, rfl⟩
  have h3 : Blk (wa.alloc (.cells (ws (inA key 0)).toArray tS16)) b7 (ws (inA key 0)) tS16 := by
    have := Blk.new wa (ws (inA key 0)) tS16
    rw [hsz, hb7] at this; exact this
  have hBb : Below wa.heap.size wa (wa.alloc (.cells (ws (inA key 0)).toArray tS16)) := (Below.refl _ _).alloc (Nat.le_refl _) _
  have h0 := h0.below hBb h0.lt
  have h1 := h1.below hBb h1.lt
  have h2 := h2.below hBb h2.lt
  have hB0 := hBa.trans (hBb.mono hBa.size)
  have hsz2 : (wa.alloc (.cells (ws (inA key 0)).toArray tS16)).heap.size = b7 + 1 := by simp [hsz, ← hb7]
  have Hk := hid hk
  have Hn := hid hn
  have Hwa := hid hwa
  have Hb7 := hid hb7
  have Hsz2 := hid hsz2
  have hkr := h0.rowAt0
  have hnr := h1.rowAt0
  clear hk hn hwa hsz hb7 hsz2 hBa hBb
  go_enter Tryz.func202, Tryz.ntmps202
  go_wp2_with fail
  rw [Hb7.out]
  change Code.wp _ _ _ _ ((((w.alloc (.cells (bys key).toArray tA32)).alloc (.cells (bys nonce).toArray tN12)).alloc (.cells (ws z16w).toArray tS16)).alloc (.cells (ws (inA key 0)).toArray tS16))
  rw [Hwa.out]
  generalize wa.alloc (.cells (ws (inA key 0)).toArray tS16) = wb at *
  go_loopw [11] (fun i wr => ∃ k : Nat, k ≤ 8 ∧ i = .int .i64 k ∧ Blk wr b7 (ws (inA key k)) tS16 ∧ Chg wb.heap.size [b7] wb wr) (fun i _ => 8 - (intOf i).toNat)
  case atStart => exact ⟨0, by omega, rfl, h3, Chg.refl _ _ _⟩
  case round =>
    obtain ⟨k, hk, rfl, hb, hC⟩ := hrel
    clear h3
    have hl := inA_len key k (by omega)
    by_cases hlt : k < 8
    · have q1 : (k : Int) < 8 := by omega
      have hrow : RowAt wr (some ⟨w.heap.size, 4 * k, none⟩) ((key.drop (4 * k)).take 4) := ((hkr.chg hC (Nat.le_refl _) (by intro a e; cases e; have := Hb7.out; simp; omega)).drop (4 * k) |> fun h => (by simpa using h : RowAt wr (some ⟨w.heap.size, 4 * k, none⟩) (key.drop (4 * k)))).take 4
      have hrl : ((key.drop (4 * k)).take 4).length = 4 := by rw [List.length_take, List.length_drop, Hk.out]; omega
      have hle := le4_lt key (4 * k)
      have hset := inA_set key k hlt
      obtain ⟨y, hy⟩ : ∃ y, UInt32.ofNat (le ((key.drop (4 * k)).take 4)) = y := ⟨_, rfl⟩
      have hyw : ((le ((key.drop (4 * k)).take 4) : Nat) : Int) = wv y := by rw [← hy, w_lit _ hle]
      rw [hy] at hset
      have c := hb.cell (4 + k)
      rw [ws_get _ _ (by rw [hl]; omega)] at c
      have fk := hb.frozen (4 + k)
      generalize (inA key k).getD (4 + k) 0 = y0 at c
      have Hset := hid hset
      have Hyw := hid hyw
      obtain ⟨q, hq⟩ : ∃ q, 4 * k = q := ⟨_, rfl⟩
      have q2 : (4 : Int) * (k : Int) = (q : Int) := by omega
      have q3 : (q : Int) ≤ 28 := by omega
      have Hq := hid hq
      rw [hq] at hrow hrl
      have Hrl := hid hrl
      clear hset hyw hrl hy hle hq
      have hsl := slice32 w.heap.size q (by omega)
      clear c fk
      go_wp2_with fail
      refine (little_any wr _ 4 (32 - q) _ hrow Hrl.out (by omega) (by omega) (by omega)).mono ?_
      rintro e w2 ⟨rfl, hB2⟩
      have hU : U64 (le ((key.drop q).take 4)) = .int .u64 (wv y) := by have h := Hyw.out; rw [Hq.out] at h; show Value.int .u64 _ = _; rw [h]
      rw [hU]
      have hb2 := hb.below hB2 hb.lt
      have c := hb2.cell (4 + k)
      rw [ws_get _ _ (by rw [hl]; omega)] at c
      have fk := hb2.frozen (4 + k)
      generalize (inA key k).getD (4 + k) 0 = y0 at c
      have hC2 := (hC.trans (Chg.ofBelow (hB2.mono hC.size))).setCell (p := ⟨b7, 4 + k, none⟩) (.inl (by simp)) (.int .u32 (wv y))
      have hb3 := hb2.set (4 + k) (.int .u32 (wv y))
      rw [ws_set, Hset.out] at hb3
      clear hC hb hU hsl hrow hB2 hb2
      go_wp2_with fail
      go_roundw
      case rel => exact ⟨k + 1, by omega, by go_num, hb3, hC2⟩
      case measure => (simp [intOf]; try omega)
    · obtain rfl : k = 8 := by omega
      have q1 : ¬ (((8 : Nat) : Int) < 8) := by omega
      have c := hb.cell 12
      rw [ws_get _ _ (by rw [hl]; omega)] at c
      have fk := hb.frozen 12
      generalize (inA key 8).getD 12 0 = y0 at c
      have hC2 := hC.setCell (p := ⟨b7, 12, none⟩) (.inl (by simp)) (.int .u32 (wv n))
      have hb3 := hb.set 12 (.int .u32 (wv n))
      rw [ws_set, inA_inB key nonce n] at hb3
      clear hC hb hl hk hlt
      go_wp2_with fail
      generalize wr.setCell ⟨b7, 12, none⟩ (.int .u32 (wv n)) = wc at *
      clear c fk
      go_loopw [28] (fun i wx => ∃ k : Nat, k ≤ 3 ∧ i = .int .i64 k ∧ Blk wx b7 (ws (inB key nonce n k)) tS16 ∧ Chg wb.heap.size [b7] wb wx) (fun i _ => 3 - (intOf i).toNat)
      case atStart => exact ⟨0, by omega, rfl, hb3, hC2⟩
      case round =>
        clear hb3 hC2
        obtain ⟨k, hk, rfl, hb, hC⟩ := hrel
        have hl := inB_len key nonce n k (by omega)
        by_cases hlt : k < 3
        · have q1 : (k : Int) < 3 := by omega
          have hrow : RowAt wr (some ⟨w.heap.size + 1, 4 * k, none⟩) ((nonce.drop (4 * k)).take 4) := ((hnr.chg hC (Nat.le_refl _) (by intro a e; cases e; have := Hb7.out; simp; omega)).drop (4 * k) |> fun h => (by simpa using h : RowAt wr (some ⟨w.heap.size + 1, 4 * k, none⟩) (nonce.drop (4 * k)))).take 4
          have hrl : ((nonce.drop (4 * k)).take 4).length = 4 := by rw [List.length_take, List.length_drop, Hn.out]; omega
          have hle := le4_lt nonce (4 * k)
          have hset := inB_set key nonce n k hlt
          obtain ⟨y, hy⟩ : ∃ y, UInt32.ofNat (le ((nonce.drop (4 * k)).take 4)) = y := ⟨_, rfl⟩
          have hyw : ((le ((nonce.drop (4 * k)).take 4) : Nat) : Int) = wv y := by rw [← hy, w_lit _ hle]
          rw [hy] at hset
          have Hset := hid hset
          have Hyw := hid hyw
          obtain ⟨q, hq⟩ : ∃ q, 4 * k = q := ⟨_, rfl⟩
          have q2 : (4 : Int) * (k : Int) = (q : Int) := by omega
          have q3 : (q : Int) ≤ 8 := by omega
          have Hq := hid hq
          rw [hq] at hrow hrl
          have Hrl := hid hrl
          clear hset hyw hrl hy hle hq
          have hsl := slice12 (w.heap.size + 1) q (by omega)
          go_wp2_with fail
          refine (little_any wr _ 4 (12 - q) _ hrow Hrl.out (by omega) (by omega) (by omega)).mono ?_
          rintro e w2 ⟨rfl, hB2⟩
          have hU : U64 (le ((nonce.drop q).take 4)) = .int .u64 (wv y) := by have h := Hyw.out; rw [Hq.out] at h; show Value.int .u64 _ = _; rw [h]
          rw [hU]
          have hb2 := hb.below hB2 hb.lt
          have c := hb2.cell (13 + k)
          rw [ws_get _ _ (by rw [hl]; omega)] at c
          have fk := hb2.frozen (13 + k)
          generalize (inB key nonce n k).getD (13 + k) 0 = y0 at c
          have hC2 := (hC.trans (Chg.ofBelow (hB2.mono hC.size))).setCell (p := ⟨b7, 13 + k, none⟩) (.inl (by simp)) (.int .u32 (wv y))
          have hb3 := hb2.set (13 + k) (.int .u32 (wv y))
          rw [ws_set, Hset.out] at hb3
          clear hC hb hU hsl hrow hB2 hb2
          go_wp2_with fail
          go_roundw
          case rel => exact ⟨k + 1, by omega, by go_num, hb3, hC2⟩
          case measure => (simp [intOf]; try omega)
        · obtain rfl : k = 3 := by omega
          have q1 : ¬ (((3 : Nat) : Int) < 3) := by omega
          rw [inB_all] at hb
          have h2' := h2.chg hC h2.lt (by have := Hb7.out; simp; omega)
          have hil := initF_len key nonce n
          have hsr : (Tryz.prog.info? 227).map (·.size) = some (ws (initF key nonce n)).length := by rw [size132, ws_length, hil]
          have Hil := hid hil
          obtain ⟨R, hR⟩ : ∃ R, initF key nonce n = R := ⟨_, rfl⟩
          rw [hR] at hb hsr Hil
          have HR := hid hR
          have hlR := ws_length R
          clear hR hil hl
          go_wp2_with (first | (refine wpList_load_mid rfl 227 (.tmp 7) rfl b7 0 rfl (ws R) _ hb.whole Tryz.underlying227 rfl hsr ?_) | (refine wpList_store_mid rfl 227 (.tmp 6) (.tmp 43) rfl (w.heap.size + 1 + 1) 0 (ws R).toArray rfl rfl (h2'.there 0 _ (by rw [List.size_toArray, hlR, Hil.out]; decide)) (by rw [size132, List.size_toArray, hlR, Hil.out]) (all_oneCell_toArray (ws_one _)) ?_))
          have g1 := h2'.setCells (ws R) 0 (by rw [hlR, Hil.out]; decide)
          rw [splice_whole _ _ (by rw [hlR, Hil.out]; rfl)] at g1
          refine bodyPost_ret (v := .agg (ws R).toArray) (results_cell_row (P := Tryz.prog) (p := 6) (ty := 227) rfl _ _ (w.heap.size + 1 + 1) tS16 _ (0, 0) _ rfl g1 Tryz.underlying227 rfl hsr) rfl ⟨by rw [HR.out], ?_⟩
          have hB9 : Below w.heap.size wb wr := hC.below hB0.size (by intro k hk; simp at hk; have := Hb7.out; omega)
          exact hB0.trans (hB9.trans (((Chg.refl w.heap.size [] wr).setCells (b := w.heap.size + 1 + 1) (.inr (by omega)) (ws R) 0).below (Nat.le_refl _) (by simp)))
end Go.Proofs.YtnmmnlffobnbfaaGreatDoor
