/- law 10: a key's bytes, its round keys, the example -/
import Derived.Test.YtgellbapbphnlaaGo
import Derived.Test.YtgellbapbphnlaaRts
namespace Go.Proofs.Ytgellbapbphnlaa
open Go.RowKit

abbrev tKy10 : TypeId := 55
def kc10 (K : List UInt8) (long : Bool) (vi va : Value) : List Value := bys K ++ [.bool long, vi, va]
theorem kc10_len (K : List UInt8) (long : Bool) (vi va : Value) (hK : K.length = 32) : (kc10 K long vi va).length = 35 := by simp [kc10, bys, hK]
theorem kc10_at (K : List UInt8) (long : Bool) (vi va : Value) (hK : K.length = 32) : (kc10 K long vi va)[32]? = some (.bool long) ∧ (kc10 K long vi va)[33]? = some vi ∧ (kc10 K long vi va)[34]? = some va := by
  unfold kc10
  refine ⟨?_, ?_, ?_⟩ <;> (rw [List.getElem?_append_right (by rw [bys_length, hK]; decide), bys_length, hK]; rfl)
theorem kc10_row {w : World} {b : Nat} {K : List UInt8} {long : Bool} {vi va : Value} {T : TypeId} (h : Blk w b (kc10 K long vi va) T) (n : Nat) (_ : n ≤ K.length) : RowAt w (some ⟨b, 0, none⟩) (K.take n) := fun k hk => by
  rw [List.length_take] at hk
  refine ⟨b, 0, rfl, h.lt, ?_⟩
  rw [Nat.zero_add, h.cell]
  unfold kc10
  rw [List.getElem?_append_left (by rw [bys_length]; omega), bys_get _ _ (by omega)]
  simp [List.getD, show k < n by omega]
/-- How many bytes a key has. -/
def kn (long : Bool) : Nat := if long then 32 else 16
def km (long : Bool) : Nat := if long then 8 else 4
theorem kn_km (long : Bool) : kn long = 4 * km long ∧ (km long = 4 ∨ km long = 8) ∧ kn long ≤ 32 := by cases long <;> simp [kn, km]
def rkK (K : List UInt8) (long : Bool) : List UInt8 := rkOf (km long) (K.take (kn long))

set_option maxRecDepth 100000 in
set_option maxHeartbeats 1000000 in
theorem bytes10_any (w : World) (K : List UInt8) (long : Bool) (vi va : Value) (hK : K.length = 32) :
    Calls Try.prog 35 #[.agg (kc10 K long vi va).toArray] w fun e w' => e = .returned (.slice (some ⟨w.heap.size, 0, none⟩) (kn long) 32) ∧ Blk w' w.heap.size (kc10 K long vi va) tKy10 ∧ Below w.heap.size w w' := by
  have h0 := Blk.new w (kc10 K long vi va) tKy10
  have hB0 : Below w.heap.size w (w.alloc (.cells (kc10 K long vi va).toArray tKy10)) := (Below.refl _ _).alloc (Nat.le_refl _) _
  have c := h0.cell 32
  rw [(kc10_at _ _ _ _ hK).1] at c
  cases long
  all_goals
    go_enter Try.func35, Try.ntmps35
    go_wp2_with fail
    go_ret
    exact ⟨rfl, h0, hB0⟩
set_option maxRecDepth 100000 in
set_option maxHeartbeats 1000000 in
theorem short10_any (w : World) (K : List UInt8) (long : Bool) (pi pa : Option Addr) (l ci n ca : Nat) (hK : K.length = 32) :
    Calls Try.prog 27 #[.agg (kc10 K long (.slice pi l ci) (.slice pa n ca)).toArray] w fun e w' => e = .returned (.bool (decide (l ≤ 100 ∧ n ≤ 100))) ∧ Below w.heap.size w w' := by
  have h0 := Blk.new w (kc10 K long (.slice pi l ci) (.slice pa n ca)) tKy10
  have hB0 : Below w.heap.size w (w.alloc (.cells (kc10 K long (.slice pi l ci) (.slice pa n ca)).toArray tKy10)) := (Below.refl _ _).alloc (Nat.le_refl _) _
  have c1 := h0.cell 33
  have c2 := h0.cell 34
  rw [(kc10_at _ _ _ _ hK).2.1] at c1
  rw [(kc10_at _ _ _ _ hK).2.2] at c2
  by_cases hl : l ≤ 100
  · have q1 : (l : Int) ≤ 100 := by omega
    by_cases hn : n ≤ 100
    · have q2 : (n : Int) ≤ 100 := by omega
      rw [decide_eq_true (⟨hl, hn⟩ : l ≤ 100 ∧ n ≤ 100)]
      go_enter Try.func27, Try.ntmps27
      go_wp2_with fail
      go_ret
      exact ⟨rfl, hB0⟩
    · have q2 : ¬ ((n : Int) ≤ 100) := by omega
      rw [decide_eq_false (fun h => hn h.2 : ¬ (l ≤ 100 ∧ n ≤ 100))]
      go_enter Try.func27, Try.ntmps27
      go_wp2_with fail
      go_ret
      exact ⟨rfl, hB0⟩
  · have q1 : ¬ ((l : Int) ≤ 100) := by omega
    rw [decide_eq_false (fun h => hl h.1 : ¬ (l ≤ 100 ∧ n ≤ 100))]
    go_enter Try.func27, Try.ntmps27
    go_wp2_with fail
    go_ret
    exact ⟨rfl, hB0⟩
theorem sizeK10 : (Try.prog.info? 55).map (·.size) = some 35 := by kernel_rfl
set_option maxRecDepth 100000 in
set_option maxHeartbeats 1000000 in
theorem keys10_any (w : World) (K : List UInt8) (long : Bool) (vi va : Value) (hK : K.length = 32) :
    Calls Try.prog 28 #[.agg (kc10 K long vi va).toArray] w fun e w' => ∃ kb, e = .returned (.tuple #[.pointer (some ⟨kb, 0, none⟩), .bool true]) ∧ KeysAt w' kb (rkK K long) ∧ Below w.heap.size w w' := by
  have h0 := Blk.new w (kc10 K long vi va) tKy10
  have hB0 : Below w.heap.size w (w.alloc (.cells (kc10 K long vi va).toArray tKy10)) := (Below.refl _ _).alloc (Nat.le_refl _) _
  have hsz : (Try.prog.info? 55).map (·.size) = some (kc10 K long vi va).length := by rw [sizeK10, kc10_len _ _ _ _ hK]
  have hk := kn_km long
  have hl : (K.take (kn long)).length = kn long := by rw [List.length_take]; omega
  have Hk := hid hk
  have Hl := hid hl
  clear hk hl
  go_enter Try.func28, Try.ntmps28
  go_wp2_with (refine wpList_load_mid rfl 55 (.tmp 1) rfl w.heap.size 0 rfl (kc10 K long vi va) _ h0.whole Try.underlying55 rfl hsz ?_)
  change Calls _ _ _ (w.alloc (.cells (kc10 K long vi va).toArray tKy10)) _
  generalize w.alloc (.cells (kc10 K long vi va).toArray tKy10) = w1 at *
  refine (bytes10_any w1 K long vi va hK).mono ?_
  rintro e w2 ⟨rfl, hb2, hB2⟩
  have hr := kc10_row hb2 (kn long) (by rw [hK]; exact Hk.out.2.2)
  have hBB := hB0.trans (hB2.mono hB0.size)
  go_wp2_with fail
  refine (expand_any w2 w1.heap.size 0 (kn long) 32 (km long) (K.take (kn long)) hr Hl.out Hk.out.2.1 Hk.out.1 Hk.out.2.2).mono ?_
  rintro e w3 ⟨kb, rfl, hK3, hB3, _⟩
  have hB3' := hBB.trans (hB3.mono hBB.size)
  go_wp2_with fail
  go_ret2
  exact ⟨kb, rfl, hK3, hB3'⟩

def iv1 : List UInt8 := [0, 0, 0, 0, 0, 0, 0, 0, 0, 0, 0, 0, 0, 0, 0, 1]
def rk0 : List UInt8 := rkOf 4 (List.replicate 16 0)
set_option maxRecDepth 100000 in
theorem enc_iv1 : (enc rk0 iv1).take 4 = [88, 226, 252, 206] := by decide +kernel
theorem zip_nought : ∀ (l : List UInt8), List.zipWith (· ^^^ ·) (List.replicate l.length 0) l = l
  | [] => rfl
  | x :: l => by simp only [List.length_cons, List.replicate_succ, List.zipWith_cons_cons, UInt8.zero_xor, zip_nought l]
theorem seal_iv1 : sealG (enc rk0) (firstF (enc rk0) (List.replicate 12 0)) [] [] = enc rk0 iv1 := by
  have hel : (enc rk0 iv1).length = 16 := enc_l16 4 (List.replicate 16 0) iv1 rfl (.inl rfl) rfl
  have hf : firstF (enc rk0) (List.replicate 12 0) = iv1 := by unfold firstF; rw [if_neg (by decide), if_pos (by decide)]; rfl
  have hg : ∀ h : List UInt8, ghF h (padZ [] ++ padZ [] ++ lenF 0 0) = List.replicate 16 0 := fun h => by
    have e1 : padZ [] ++ padZ [] ++ lenF 0 0 = List.replicate 16 0 := by decide
    rw [e1]
    have e2 : ghN (be h) (List.replicate 16 0) 1 = 0 := by
      have : be (blkZ (List.replicate 16 0) 0) = 0 := by decide
      rw [ghN, ghN, this]; exact zero_mulN _
    unfold ghF
    rw [show nblk (List.replicate 16 (0 : UInt8)).length = 1 from rfl, e2]
    decide
  rw [hf]
  unfold sealG tagF
  show [] ++ _ = _
  rw [List.nil_append]
  show List.zipWith (· ^^^ ·) (ghF (enc rk0 z16) (padZ [] ++ padZ [] ++ lenF 0 0)) (enc rk0 iv1) = _
  rw [hg, ← hel]
  exact zip_nought _

set_option maxRecDepth 100000 in
set_option maxHeartbeats 2000000 in
theorem awake10_any (w : World) : Calls Try.prog 31 #[] w fun e w' => e = .returned (.bool true) ∧ Below w.heap.size w w' := by
  have h0 := Blk.new w (bys (List.replicate 16 0)) tU8
  have hB0 : Below w.heap.size w (w.alloc (.cells (bys (List.replicate 16 0)).toArray tU8)) := (Below.refl _ _).alloc (Nat.le_refl _) _
  have hel : (enc rk0 iv1).length = 16 := enc_l16 4 (List.replicate 16 0) iv1 rfl (.inl rfl) rfl
  have hrl : 16 * roundsOf rk0 + 16 ≤ rk0.length := (rkOf_len 4 (List.replicate 16 0) rfl (.inl rfl)).2
  have HRL := hid hrl
  have HEL := hid hel
  have HS := hid seal_iv1
  clear hel hrl
  have hmk : (Instr.makeSlice 33 (.int .i64 16) (.int .i64 16)).run Try.prog w = .ok (.slice (some ⟨w.heap.size, 0, none⟩) 16 16) (w.alloc (.cells (bys (List.replicate 16 0)).toArray 5)) := make_nulls w 16 (by omega)
  go_enter Try.func31, Try.ntmps31
  go_wp2_with fail
  change Calls _ _ _ (w.alloc (.cells (bys (List.replicate 16 0)).toArray tU8)) _
  generalize w.alloc (.cells (bys (List.replicate 16 0)).toArray tU8) = w1 at *
  refine (expand_any w1 w.heap.size 0 16 16 4 (List.replicate 16 0) h0.rowAt0 rfl (.inl rfl) rfl (Nat.le_refl _)).mono ?_
  rintro e w2 ⟨kb, rfl, hK2, hB2, _⟩
  change KeysAt w2 kb rk0 at hK2
  have hB2 := hB0.trans (hB2.mono hB0.size)
  have hmk2 : (Instr.makeSlice 33 (.int .i64 12) (.int .i64 12)).run Try.prog w2 = .ok (.slice (some ⟨w2.heap.size, 0, none⟩) 12 12) (w2.alloc (.cells (bys (List.replicate 12 0)).toArray 5)) := make_nulls w2 12 (by omega)
  clear h0 hmk
  go_wp2_with fail
  have h3 := Blk.new w2 (bys (List.replicate 12 0)) tU8
  have hB3 : Below w2.heap.size w2 (w2.alloc (.cells (bys (List.replicate 12 0)).toArray tU8)) := (Below.refl _ _).alloc (Nat.le_refl _) _
  change Calls _ _ _ (w2.alloc (.cells (bys (List.replicate 12 0)).toArray tU8)) _
  generalize w2.alloc (.cells (bys (List.replicate 12 0)).toArray tU8) = w3 at *
  refine (gseal_any w3 kb rk0 (hK2.below hB3) HRL.out _ 12 12 (List.replicate 12 0) h3.rowAt0 rfl (by omega) (by omega) none 0 0 [] (RowAt.nil _ _) rfl (by omega) none 0 0 [] (RowAt.nil _ _) rfl (by omega)).mono ?_
  rintro e w4 ⟨v, rfl, hown, hB4⟩
  rw [HS.out] at hown
  have hB4 := hB2.trans ((hB3.trans (hB4.mono hB3.size)).mono hB2.size)
  have hel := HEL.out
  have ht4 := enc_iv1
  obtain ⟨q, hq⟩ : ∃ q, enc rk0 iv1 = q := ⟨_, rfl⟩
  rw [hq] at hown hel ht4
  obtain ⟨x0, x1, x2, x3, r, rfl⟩ : ∃ x0 x1 x2 x3 r, q = x0 :: x1 :: x2 :: x3 :: r := by
    match q, hel with
    | x0 :: x1 :: x2 :: x3 :: r, _ => exact ⟨x0, x1, x2, x3, r, rfl⟩
  simp only [List.take_succ_cons, List.take_zero, List.cons.injEq, and_true] at ht4
  obtain ⟨rfl, rfl, rfl, rfl⟩ := ht4
  obtain ⟨g, c, rest, rfl, hc, _, hgb⟩ := hown.blk (by rw [hel]; decide)
  rw [hel]
  have c0 := hgb.headCell 0 (by rw [hel]; decide)
  have c1 := hgb.headCell 1 (by rw [hel]; decide)
  have c2 := hgb.headCell 2 (by rw [hel]; decide)
  have c3 := hgb.headCell 3 (by rw [hel]; decide)
  have c0 : w4.cell? ⟨g, 0, none⟩ = some (.int .u8 88) := c0
  have c1 : w4.cell? ⟨g, 1, none⟩ = some (.int .u8 226) := c1
  have c2 : w4.cell? ⟨g, 2, none⟩ = some (.int .u8 252) := c2
  have c3 : w4.cell? ⟨g, 3, none⟩ = some (.int .u8 206) := c3
  clear hown hgb hK2 hmk2 h3 hq hel
  go_wp2_with fail
  go_ret
  exact ⟨rfl, hB4⟩
end Go.Proofs.Ytgellbapbphnlaa
