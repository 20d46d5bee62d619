/- bits: Big, PutLittle, PutBig, Count -/
import Derived.Test.YtnmmnlffobnbfaaGreatDoorCn
import Derived.Test.YtnmmnlffobnbfaaGreatDoorBits1
import Derived.Test.YtnmmnlffobnbfaaGreatDoorWp
import Derived.Test.YtnmmnlffobnbfaaGreatDoorAes6
import Derived.Laws.BitsAllLaws
import Derived.Laws.Externs
import Derived.Laws.ShiftsVarLaws
namespace Go.Proofs.YtnmmnlffobnbfaaGreatDoor
open Go.RowKit

abbrev U64 (n : Nat) : Value := .int .u64 n
theorem shl8_or (n : Nat) (x : UInt8) (h : n < 72057594037927936) : bits .or .u64 ((n : Int) * 256) (bv x) = ((n * 256 + x.toNat : Nat) : Int) := by
  have hx := x.toNat_lt
  have e1 : ((n : Int) * 256) = ((n * 256 : Nat) : Int) := by omega
  have e2 : bv x = ((x.toNat : Nat) : Int) := rfl
  rw [e1, e2, u64_or_nat _ _ (by omega) (by omega)]
  have := Nat.two_pow_add_eq_or_of_lt (i := 8) (b := x.toNat) (by omega) n
  rw [show n * 256 = 2 ^ 8 * n by omega, ← this]

set_option maxRecDepth 100000 in
set_option maxHeartbeats 1000000 in
theorem big_any (w : World) (pa : Option Addr) (n cap : Nat) (l : List UInt8) (hl : RowAt w pa l) (hn : l.length = n) (h8 : n ≤ 8) :
    Calls Tryz.prog 46 #[.slice pa n cap] w fun e w' => e = .returned (U64 (be l)) ∧ w = w' := by
  have Hl := hid hl
  clear hl
  have Hn := hid hn
  clear hn
  go_enter Tryz.func46, Tryz.ntmps46
  go_wp2_with fail
  go_loop [3, 8] (fun v i => ∃ k : Nat, k ≤ n ∧ i = .int .i64 k ∧ v = U64 (be (l.take k))) (fun _ i => n - (intOf i).toNat)
  case atStart => exact ⟨0, by omega, rfl, rfl⟩
  case round =>
    obtain ⟨k, hk, rfl, rfl⟩ := hrel
    by_cases hlt : k < n
    · have hs := take_succ_getD 0 l k (by rw [Hn.out]; exact hlt)
      have hb := be_lt (l.take k)
      rw [List.length_take, Nat.min_eq_left (by rw [Hn.out]; omega)] at hb
      have hb7 : be (l.take k) < 72057594037927936 := Nat.lt_of_lt_of_le hb (Nat.le_trans (Nat.pow_le_pow_right (by decide) (show k ≤ 7 by omega)) (by decide))
      have hnx : be (l.take (k + 1)) = be (l.take k) * 256 + (l.getD k 0).toNat := by rw [hs, be_snoc]
      have HNX := hid hnx
      clear hs hb hnx
      obtain ⟨b, o, rfl, _, hc⟩ := Hl.out k (by rw [Hn.out]; exact hlt)
      generalize l.getD k 0 = x at *
      generalize be (l.take k) = q at *
      have hor := shl8_or q x hb7
      have hx0 := bv_lo x
      have hx1 := bv_hi x
      go_wp2_with fail
      go_round
      case rel => exact ⟨k + 1, by omega, by go_num, by rw [HNX.out]; simp only [U64, Int.natCast_add, Int.natCast_mul]; rfl⟩
      case measure => simp [intOf]; omega
    · obtain rfl : k = n := by omega
      have e : l.take k = l := List.take_of_length_le (by rw [Hn.out]; omega)
      rw [e]
      clear e
      go_wp2_with fail
      go_ret
      exact ⟨rfl, rfl⟩

theorem bv_of (n : Nat) : bv (UInt8.ofNat n) = ((n % 256 : Nat) : Int) := by unfold bv; simp
set_option maxRecDepth 100000 in
set_option maxHeartbeats 1000000 in
theorem putl1_any (w : World) (b k x : Nat) (hb : w.cell? ⟨b, 0, none⟩ = some (U64 x)) (hx : x < 18446744073709551616) (hk : k < 100) :
    Calls Tryz.prog 163 #[.int .i64 k, .pointer (some ⟨b, 0, none⟩)] w fun e w' => e = .returned (.int .u8 (bv (UInt8.ofNat (x / 256 ^ k)))) ∧ ∃ m, w.drewN m = w' := by
  have e8 : bv (UInt8.ofNat (x / 256 ^ k)) = ((x / 256 ^ k % 256 : Nat) : Int) := bv_of _
  by_cases h8 : 8 ≤ k
  · have hz : x / 256 ^ k = 0 := Nat.div_eq_of_lt (Nat.lt_of_lt_of_le hx (Nat.le_trans (by decide : 18446744073709551616 ≤ 256 ^ 8) (Nat.pow_le_pow_right (by decide) h8)))
    rw [hz]
    clear hz e8
    go_enter Tryz.func163, Tryz.ntmps163
    go_wp2_with fail
    go_ret
    exact ⟨rfl, 0, rfl⟩
  · have hm : (x : Int) / 2 ^ (8 * k) % 256 = bv (UInt8.ofNat (x / 256 ^ k)) := by
      have hp : (2 : Int) ^ (8 * k) = ((256 ^ k : Nat) : Int) := by rw [Int.pow_mul]; simp
      rw [e8, hp]; omega
    generalize bv (UInt8.ofNat (x / 256 ^ k)) = y at *
    clear e8
    have Hm := hid hm
    clear hm
    have q1 : ¬ (8 : Int) ≤ (k : Int) := by omega
    have q2 : 0 ≤ (k : Int) := by omega
    go_enter Tryz.func163, Tryz.ntmps163
    go_wp2_with fail
    go_ret
    exact ⟨congrArg (fun z => Ending.returned (.int .u8 z)) Hm.out, 0, rfl⟩

theorem callpl1 (args : Array Value) (w : World) : (callFunc 163 args).run Tryz.prog w = .ok (.enter 163 args) w := by kernel_rfl

set_option maxRecDepth 100000 in
set_option maxHeartbeats 1000000 in
theorem putlittle_any (w : World) (x many : Nat) (hx : x < 18446744073709551616) (hk : many ≤ 16) :
    Calls Tryz.prog 118 #[U64 x, .int .i64 many] w fun e w' => e = .returned (.slice (some ⟨w.heap.size + 1, 0, none⟩) many many) ∧ Blk w' (w.heap.size + 1) (bys (leF many x)) tU8 ∧ Below w.heap.size w w' := by
  have hb := Blk.new w [U64 x] 95
  have hB : Below w.heap.size w (w.alloc (.cells [U64 x].toArray 95)) := (Below.refl _ _).alloc (Nat.le_refl _) _
  have hsz : (w.alloc (.cells [U64 x].toArray 95)).heap.size = w.heap.size + 1 := by simp
  have HP := hid (puts_any (w.alloc (.cells [U64 x].toArray 95)) 163 #[.pointer (some ⟨w.heap.size, 0, none⟩)] many (fun i => UInt8.ofNat (x / 256 ^ i)) callpl1 (by
    intro k hk1 w1 hB1
    exact putl1_any w1 _ k x ((hb.below hB1 hb.lt).cell 0) hx (by omega)) (by omega))
  rw [hsz] at HP
  clear hsz hb
  go_enter Tryz.func118, Tryz.ntmps118
  go_wp2_with fail
  refine HP.out.mono ?_
  rintro e w2 ⟨rfl, hb2, hB2⟩
  go_wp2_with fail
  go_ret
  exact ⟨rfl, hb2, hB.trans (hB2.mono (by omega))⟩

/-- l, k places from either end turned round. -/
def revTo (l : List UInt8) (k : Nat) : List UInt8 := (List.range l.length).map fun j => if j < k ∨ l.length - k ≤ j then l.getD (l.length - 1 - j) 0 else l.getD j 0
theorem revTo_len (l : List UInt8) (k : Nat) : (revTo l k).length = l.length := by simp [revTo]
theorem revTo_zero (l : List UInt8) : revTo l 0 = l := by
  apply List.ext_getElem
  · simp [revTo]
  · intro i h1 h2
    simp [revTo, List.getD, List.getElem?_eq_getElem h2]; omega
theorem revTo_get (l : List UInt8) (k j : Nat) (hj : j < l.length) : (revTo l k).getD j 0 = if j < k ∨ l.length - k ≤ j then l.getD (l.length - 1 - j) 0 else l.getD j 0 := by
  simp [revTo, List.getD, hj]
theorem ext_getD {l r : List UInt8} (h : l.length = r.length) (e : ∀ j, j < l.length → l.getD j 0 = r.getD j 0) : l = r := by
  apply List.ext_getElem h
  intro i h1 h2
  have := e i h1
  simpa [List.getD, List.getElem?_eq_getElem h1, List.getElem?_eq_getElem h2] using this
theorem getD_set (l : List UInt8) (i j : Nat) (v : UInt8) (hi : i < l.length) : (l.set i v).getD j 0 = if i = j then v else l.getD j 0 := by
  simp only [List.getD, List.getElem?_set]
  split
  · rename_i h
    subst h
    simp
  · rfl
theorem revTo_succ (l : List UInt8) (k : Nat) (h : k < l.length - 1 - k) : ((revTo l k).set k (l.getD (l.length - 1 - k) 0)).set (l.length - 1 - k) (l.getD k 0) = revTo l (k + 1) := by
  apply ext_getD
  · simp [revTo]
  · intro j hj
    simp only [List.length_set, revTo_len] at hj
    rw [getD_set _ _ _ _ (by rw [List.length_set, revTo_len]; omega), getD_set _ _ _ _ (by rw [revTo_len]; omega), revTo_get _ _ _ hj, revTo_get _ _ _ hj]
    by_cases h1 : l.length - 1 - k = j
    · rw [if_pos h1, if_pos (by omega)]; congr 1; omega
    · rw [if_neg h1]
      by_cases h2 : k = j
      · subst h2; rw [if_pos rfl, if_pos (by omega)]
      · rw [if_neg h2]
        by_cases h3 : j < k ∨ l.length - k ≤ j
        · rw [if_pos h3, if_pos (by omega)]
        · rw [if_neg h3, if_neg (by omega)]
theorem revTo_all (l : List UInt8) (k : Nat) (h : ¬ k < l.length - 1 - k) : revTo l k = l.reverse := by
  apply ext_getD
  · simp [revTo]
  · intro j hj
    rw [revTo_len] at hj
    rw [revTo_get _ _ _ hj]
    have hr : l.reverse.getD j 0 = l.getD (l.length - 1 - j) 0 := by simp [List.getD, List.getElem?_reverse hj]
    rw [hr]
    split
    · rfl
    · congr 1; omega

set_option maxRecDepth 100000 in
set_option maxHeartbeats 1000000 in
theorem reverse_any (w : World) (b n cap : Nat) (l : List UInt8) (T : TypeId) (hb : Blk w b (bys l) T) (hn : l.length = n) (h9 : n < 1000000000) :
    Calls Tryz.prog 119 #[.slice (some ⟨b, 0, none⟩) n cap] w fun e w' => e = .returned (.tuple #[]) ∧ Blk w' b (bys l.reverse) T ∧ Chg w.heap.size [b] w w' ∧ w.heap.size = w'.heap.size := by
  have hb0 : Blk w b (bys (revTo l 0)) T := by rw [revTo_zero]; exact hb
  have Hn := hid hn
  have Hb := hid hb0
  clear hb hn hb0
  go_enter Tryz.func119, Tryz.ntmps119
  go_wp2_with fail
  go_loopw [2, 3] (fun i j wr => ∃ k : Nat, k ≤ n ∧ i = .int .i64 k ∧ j = .int .i64 ((n : Int) - 1 - k) ∧ Blk wr b (bys (revTo l k)) T ∧ Chg w.heap.size [b] w wr ∧ w.heap.size = wr.heap.size) (fun i _ _ => n - (intOf i).toNat)
  case atStart => exact ⟨0, by omega, rfl, by simp, Hb.out, Chg.refl _ _ _, rfl⟩
  case round =>
    obtain ⟨k, hk, rfl, rfl, hb, hC, hz⟩ := hrel
    by_cases hlt : k < n - 1 - k
    · have hl := revTo_len l k
      have hn := Hn.out
      obtain ⟨j, hj⟩ : ∃ j, n - 1 - k = j := ⟨_, rfl⟩
      have ej : (n : Int) - 1 - k = (j : Int) := by omega
      have ej1 : (n : Int) - 1 - ((k + 1 : Nat) : Int) = (j : Int) - 1 := by omega
      rw [ej]
      have ck := hb.cellAt (bys_get _ k (by omega))
      have cj := hb.cellAt (bys_get _ j (by omega))
      rw [revTo_get _ _ _ (by omega), if_neg (by omega)] at ck
      rw [revTo_get _ _ _ (by omega), if_neg (by omega)] at cj
      have hs := revTo_succ l k (by omega)
      have hne : ¬ k = j := by omega
      rw [show l.length - 1 - k = j by omega] at hs
      have Hs := hid hs
      have fk := hb.frozen k
      have fj := hb.frozen j
      generalize l.getD k 0 = x at *
      generalize l.getD j 0 = y at *
      have q1 : (k : Int) < (j : Int) := by omega
      have q2 : k < n := by omega
      have q3 : j < n := by omega
      have q4 : 0 ≤ (k : Int) := by omega
      have q5 : 0 ≤ (j : Int) := by omega
      have q6 : (k : Int) < (n : Int) := by omega
      have q7 : (j : Int) < (n : Int) := by omega
      clear hs hl hn hj ej
      go_wp2_with fail
      try simp only [Act.put]
      refine tkR (fun w' => w'.cell? ⟨b, k, none⟩ = some (.int .u8 (bv x)) ∧ w'.cell? ⟨b, j, none⟩ = some (.int .u8 (bv y))) [13] (by kernel_rfl) (fun c a d v w h => by cases d <;> exact h) (⟨ck, cj⟩) (fun hPF hHeld => ?_)
      refine tkB 0 (.some 14) _ _ rfl rfl (by kernel_rfl) (by kernel_rfl) (by kernel_rfl) (by kernel_rfl) hPF rfl (fun w' => by (go_simp; try with_reducible rfl)) hHeld (fun hHeld => ?_)
      simp only [Act.put, List.setIfInBounds_toArray, List.set_cons_zero, List.set_cons_succ]
      refine tkB 1 (.some 15) _ _ rfl rfl (by kernel_rfl) (by kernel_rfl) (by kernel_rfl) (by kernel_rfl) hPF rfl (fun w' => by (go_simp; try with_reducible rfl)) hHeld (fun hHeld => ?_)
      simp only [Act.put, List.setIfInBounds_toArray, List.set_cons_zero, List.set_cons_succ]
      refine tkB 2 (.some 16) _ _ rfl rfl (by kernel_rfl) (by kernel_rfl) (by kernel_rfl) (by kernel_rfl) hPF rfl (fun w' => by (go_simp; try with_reducible rfl)) hHeld (fun hHeld => ?_)
      simp only [Act.put, List.setIfInBounds_toArray, List.set_cons_zero, List.set_cons_succ]
      refine tkB 3 (.some 17) _ _ rfl rfl (by kernel_rfl) (by kernel_rfl) (by kernel_rfl) (by kernel_rfl) hPF rfl (fun w' => by (go_simp; try with_reducible rfl)) hHeld (fun hHeld => ?_)
      simp only [Act.put, List.setIfInBounds_toArray, List.set_cons_zero, List.set_cons_succ]
      refine tkB 4 (.some 18) _ _ rfl rfl (by kernel_rfl) (by kernel_rfl) (by kernel_rfl) (by kernel_rfl) hPF rfl (fun w' => by (go_simp; try with_reducible rfl)) hHeld (fun hHeld => ?_)
      simp only [Act.put, List.setIfInBounds_toArray, List.set_cons_zero, List.set_cons_succ]
      refine tkB 5 (.some 19) _ _ rfl rfl (by kernel_rfl) (by kernel_rfl) (by kernel_rfl) (by kernel_rfl) hPF rfl (fun w' => by (go_simp; try with_reducible rfl)) hHeld (fun hHeld => ?_)
      simp only [Act.put, List.setIfInBounds_toArray, List.set_cons_zero, List.set_cons_succ]
      refine tkB 6 (.some 20) _ _ rfl rfl (by kernel_rfl) (by kernel_rfl) (by kernel_rfl) (by kernel_rfl) hPF rfl (fun w' => by (go_simp; try with_reducible rfl)) hHeld (fun hHeld => ?_)
      simp only [Act.put, List.setIfInBounds_toArray, List.set_cons_zero, List.set_cons_succ]
      refine tkA 7 (.some 21) _ _ rfl rfl (by kernel_rfl) (by kernel_rfl) (by kernel_rfl) (by kernel_rfl) (by kernel_rfl) hPF rfl (fun w' hw' => by (have h1 := hw'.2; go_simp; try with_reducible rfl)) hHeld (fun hHeld => ?_)
      simp only [Act.put, List.setIfInBounds_toArray, List.set_cons_zero, List.set_cons_succ]
      refine tkB 8 (.some 22) _ _ rfl rfl (by kernel_rfl) (by kernel_rfl) (by kernel_rfl) (by kernel_rfl) hPF rfl (fun w' => by (go_simp; try with_reducible rfl)) hHeld (fun hHeld => ?_)
      simp only [Act.put, List.setIfInBounds_toArray, List.set_cons_zero, List.set_cons_succ]
      refine tkB 9 (.some 23) _ _ rfl rfl (by kernel_rfl) (by kernel_rfl) (by kernel_rfl) (by kernel_rfl) hPF rfl (fun w' => by (go_simp; try with_reducible rfl)) hHeld (fun hHeld => ?_)
      simp only [Act.put, List.setIfInBounds_toArray, List.set_cons_zero, List.set_cons_succ]
      refine tkB 10 (.some 24) _ _ rfl rfl (by kernel_rfl) (by kernel_rfl) (by kernel_rfl) (by kernel_rfl) hPF rfl (fun w' => by (go_simp; try with_reducible rfl)) hHeld (fun hHeld => ?_)
      simp only [Act.put, List.setIfInBounds_toArray, List.set_cons_zero, List.set_cons_succ]
      refine tkA 11 (.some 25) _ _ rfl rfl (by kernel_rfl) (by kernel_rfl) (by kernel_rfl) (by kernel_rfl) (by kernel_rfl) hPF rfl (fun w' hw' => by (have h1 := hw'.1; go_simp; try with_reducible rfl)) hHeld (fun hHeld => ?_)
      simp only [Act.put, List.setIfInBounds_toArray, List.set_cons_zero, List.set_cons_succ]
      refine tkB 12 (.some 26) _ _ rfl rfl (by kernel_rfl) (by kernel_rfl) (by kernel_rfl) (by kernel_rfl) hPF rfl (fun w' => by (go_simp; try with_reducible rfl)) hHeld (fun hHeld => ?_)
      simp only [Act.put, List.setIfInBounds_toArray, List.set_cons_zero, List.set_cons_succ]
      refine tkW (rs := [13]) (by kernel_rfl) (by simp) (AllK.close (o := _) rfl (by kernel_rfl) (fun KC hKC => ?_) AllK.nil)
      go_simp
      refine hKC.out _ _ (fun hHeld => ?_)
      clear hKC KC
      try simp only [Act.put]
      refine tkB 14 (.some 27) _ _ rfl rfl (by kernel_rfl) (by kernel_rfl) (by kernel_rfl) (by kernel_rfl) hPF rfl (fun w' => by (go_simp; try with_reducible rfl)) hHeld (fun hHeld => ?_)
      simp only [Act.put, List.setIfInBounds_toArray, List.set_cons_zero, List.set_cons_succ]
      refine tkW (rs := [15]) (by kernel_rfl) (by simp) (AllK.close (o := _) rfl (by kernel_rfl) (fun KC hKC => ?_) AllK.nil)
      go_simp
      refine hKC.out _ _ (fun hHeld => ?_)
      clear hKC KC
      try simp only [Act.put]
      refine tkD (by kernel_rfl) ?_ _
      go_wp2_with fail
      go_roundw
      case rel =>
        refine ⟨k + 1, by omega, by go_num, by rw [ej1], ?_, ?_, ?_⟩
        · rw [← Hs.out, ← bys_set, ← bys_set]
          exact (hb.drew.set k _).set j _
        · exact ((hC.drew).setCell (p := ⟨b, k, none⟩) (.inl (by simp)) _).setCell (p := ⟨b, j, none⟩) (.inl (by simp)) _
        · simpa using hz
      case measure => simp [intOf]; omega
    · have hr := revTo_all l k (by have := Hn.out; omega)
      rw [hr] at hb
      have q1 : ¬ (k : Int) < (n : Int) - 1 - (k : Int) := by omega
      have Hz := hid hz
      clear hz
      go_wp2_with fail
      go_end0
      exact ⟨rfl, hb, hC, Hz.out⟩

set_option maxRecDepth 100000 in
set_option maxHeartbeats 1000000 in
theorem putbig_any (w : World) (x many : Nat) (hx : x < 18446744073709551616) (hk : many ≤ 16) :
    Calls Tryz.prog 69 #[U64 x, .int .i64 many] w fun e w' => e = .returned (.slice (some ⟨w.heap.size + 1, 0, none⟩) many many) ∧ Blk w' (w.heap.size + 1) (bys (toBe many x)) tU8 ∧ Below w.heap.size w w' := by
  go_enter Tryz.func69, Tryz.ntmps69
  go_wp2_with fail
  refine (putlittle_any w x many hx hk).mono ?_
  rintro e w2 ⟨rfl, hb2, hB2⟩
  go_wp2_with fail
  refine (reverse_any w2 _ many many (leF many x) _ hb2 (leF_len _ _) (by omega)).mono ?_
  rintro e w3 ⟨rfl, hb3, hC3, _⟩
  go_wp2_with fail
  go_ret
  exact ⟨rfl, hb3, hB2.trans (hC3.below hB2.size (fun k hk => by simp at hk; omega))⟩


theorem add64_run (x y : Nat) (w : World) : (callFunc 214 #[U64 x, U64 y, .int .u64 0]).run Tryz.prog w =
    .ok (.value (.tuple #[U64 ((x + y) % 18446744073709551616), U64 ((x + y) / 18446744073709551616)])) w := by
  rw [run_callFunc_extern Tryz.func214 (by kernel_rfl) (by kernel_rfl) (by kernel_rfl) (e := add64Entry) (by kernel_rfl), run_add64 x y 0 (by omega) (by omega) (by omega) (by omega)]
  simp only [Result.andThen, U64]
  congr 5 <;> omega

set_option maxRecDepth 100000 in
set_option maxHeartbeats 1000000 in
theorem count_any (w : World) (c : List UInt8) (n : Nat) (hc : c.length = 16) (_ : n < 18446744073709551616) :
    Calls Tryz.prog 195 #[.agg (bys c).toArray, U64 n] w fun e w' => e = .returned (.agg (bys (cnt c n)).toArray) ∧ Below w.heap.size w w' := by
  have Hc := hid hc
  clear hc
  have h0 : Blk ((w.alloc (.cells (bys c).toArray tA16)).alloc (.cells (bys z16).toArray tA16)) w.heap.size (bys c) tA16 := (Blk.new w (bys c) tA16).alloc _
  have h1 : Blk ((w.alloc (.cells (bys c).toArray tA16)).alloc (.cells (bys z16).toArray tA16)) (w.heap.size + 1) (bys z16) tA16 := by
    have := Blk.new (w.alloc (.cells (bys c).toArray tA16)) (bys z16) tA16
    simpa using this
  have hB : Below w.heap.size w ((w.alloc (.cells (bys c).toArray tA16)).alloc (.cells (bys z16).toArray tA16)) := ((Below.refl _ _).alloc (Nat.le_refl _) _).alloc (by simp) _
  go_enter Tryz.func195, Tryz.ntmps195
  go_wp2_with fail
  change Calls _ _ _ ((w.alloc (.cells (bys c).toArray tA16)).alloc (.cells (bys z16).toArray tA16)) _
  have hz : ((w.alloc (.cells (bys c).toArray tA16)).alloc (.cells (bys z16).toArray tA16)).heap.size = w.heap.size + 2 := by simp
  generalize ((w.alloc (.cells (bys c).toArray tA16)).alloc (.cells (bys z16).toArray tA16)) = w1 at *
  have hd := hid (cnt_halves c n Hc.out)
  have hlo := be_lt (c.drop 8)
  rw [List.length_drop, Hc.out] at hlo
  have hhi := be_lt (c.take 8)
  rw [List.length_take, Hc.out] at hhi
  refine (big_any w1 _ 8 8 (c.drop 8) ((h0.rowAt 8 8).congr (by rw [List.take_of_length_le]; simp [Hc.out])) (by rw [List.length_drop, Hc.out]) (by omega)).mono ?_
  rintro e w2 ⟨rfl, rfl⟩
  have hadd := add64_run (be (c.drop 8)) n w1
  go_wp2_with fail
  clear hadd
  refine (big_any w1 _ 8 16 (c.take 8) ((h0.rowAt 0 8).congr (by simp)) (by rw [List.length_take, Hc.out]; rfl) (by omega)).mono ?_
  rintro e w2 ⟨rfl, rfl⟩
  obtain ⟨lo, hlo'⟩ : ∃ lo, (be (c.drop 8) + n) % 18446744073709551616 = lo := ⟨_, rfl⟩
  obtain ⟨cy, hcy⟩ : ∃ cy, (be (c.drop 8) + n) / 18446744073709551616 = cy := ⟨_, rfl⟩
  obtain ⟨hi, hhi'⟩ : ∃ hi, (be (c.take 8) + cy) % 18446744073709551616 = hi := ⟨_, rfl⟩
  have hl64 : lo < 18446744073709551616 := by omega
  have hh64 : hi < 18446744073709551616 := by omega
  have hsum : IntKind.u64.wrap ((be (c.take 8) : Int) + (cy : Int)) = (hi : Int) := by rw [IntKind.wrap_u64]; omega
  have hsum2 : ((be (c.take 8) : Int) + (cy : Int)) % 18446744073709551616 = (hi : Int) := by omega
  rw [hcy, hhi', hlo'] at hd
  rw [hlo', hcy]
  clear hlo' hhi' hcy hlo hhi
  generalize be (c.take 8) = bh at *
  go_wp2_with fail
  have h2 : Blk (w1.alloc (.cells (bys z16).toArray tA16)) (w.heap.size + 2) (bys z16) tA16 := by
    have := Blk.new w1 (bys z16) tA16
    rw [hz] at this; exact this
  have hB2 : Below w.heap.size w (w1.alloc (.cells (bys z16).toArray tA16)) := hB.alloc (by omega) _
  have h1a : Blk (w1.alloc (.cells (bys z16).toArray tA16)) (w.heap.size + 1) (bys z16) tA16 := h1.alloc _
  have hz2 : (w1.alloc (.cells (bys z16).toArray tA16)).heap.size = w.heap.size + 3 := by simp [hz]
  change Code.wp _ _ _ _ (w1.alloc (.cells (bys z16).toArray tA16))
  generalize w1.alloc (.cells (bys z16).toArray tA16) = w2 at *
  clear h0 h1 hB hz hsum hsum2
  try simp only [Act.put]
  refine tkR (fun _ => True) [] (by kernel_rfl) (fun c a d v w h => by cases d <;> exact h) (trivial) (fun hPF hHeld => ?_)
  refine tkB 0 (.some 20) _ _ rfl rfl (by kernel_rfl) (by kernel_rfl) (by kernel_rfl) (by kernel_rfl) hPF rfl (fun w' => by (go_simp; try with_reducible rfl)) hHeld (fun hHeld => ?_)
  simp only [Act.put, List.setIfInBounds_toArray, List.set_cons_zero, List.set_cons_succ]
  refine tkB 1 (.some 21) _ _ rfl rfl (by kernel_rfl) (by kernel_rfl) (by kernel_rfl) (by kernel_rfl) hPF rfl (fun w' => by (go_simp; try with_reducible rfl)) hHeld (fun hHeld => ?_)
  simp only [Act.put, List.setIfInBounds_toArray, List.set_cons_zero, List.set_cons_succ]
  have hS := hHeld (by kernel_rfl)
  refine tkW (rs := [2]) (by kernel_rfl) (by simp) (AllK.cons (o := _) rfl (fun KC hKC => ?_) AllK.nil)
  go_simp
  refine (putbig_any _ hi 8 hh64 (by omega)).mono ?_
  rintro e w3 ⟨rfl, hp3, hB3⟩
  have h2b := (h2.drew).below hB3 (by have := h2.lt; simpa using this)
  have h1b := (h1a.drew).below hB3 (by have := h1a.lt; simpa using this)
  have hBb := (hB2.drew).trans (hB3.mono hB2.size)
  clear hB3 hB2 h1a h2
  refine hKC.out _ _ (trivial) (fun hHeld => ?_)
  clear hKC KC
  try simp only [Act.put, List.setIfInBounds_toArray, List.set_cons_zero, List.set_cons_succ]
  have hS := hHeld (by kernel_rfl)
  refine tkW (rs := [3]) (by kernel_rfl) (by simp) (AllK.cons (o := _) rfl (fun KC hKC => ?_) AllK.nil)
  refine wantIt rfl (wp_copy_blk (.some 23) rfl (.tmp 20) (.tmp 22) 23 23 rfl 5 under33b (by kernel_rfl) (w.heap.size + 2) 0 16 16 (w2.drew.heap.size + 1) 0 8 8 rfl rfl (bys z16) (bys (toBe 8 hi)) tA16 tU8 h2b hp3 8 rfl (by decide) (by rw [bys_length, toBe_len]; decide) (bys_one _) ?_)
  intro w4 h2c hC4 hs4
  refine hKC.out _ _ (trivial) (fun hHeld => ?_)
  clear hKC KC
  try simp only [Act.put, List.setIfInBounds_toArray, List.set_cons_zero, List.set_cons_succ]
  refine tkD (by kernel_rfl) ?_ _
  have h2d : Blk w4 (w.heap.size + 2) (bys (toBe 8 hi ++ List.replicate 8 0)) tA16 := by
    have e : splice (bys z16) 0 ((List.drop 0 (bys (toBe 8 hi))).take 8) = bys (toBe 8 hi ++ List.replicate 8 0) := by
      have hl := toBe_len 8 hi
      simp only [splice, List.drop_zero]
      rw [show (bys (toBe 8 hi)).take 8 = bys (toBe 8 hi) from List.take_of_length_le (by rw [bys_length, hl]; exact Nat.le_refl _), bys_length, hl]
      simp [bys, z16]
    rw [← e]; exact h2c
  have hne : w.heap.size + 1 ≠ w.heap.size + 2 := by omega
  have h1c := h1b.chg hC4 h1b.lt (by simp)
  have hBc := hBb.trans (hC4.below (M := w.heap.size) hBb.size (fun k hk => by simp at hk; omega))
  clear h2c hC4 hs4 h1b hBb h2b hp3
  go_wp2_with fail
  try simp only [Act.put]
  refine tkR (fun _ => True) [] (by kernel_rfl) (fun c a d v w h => by cases d <;> exact h) (trivial) (fun hPF hHeld => ?_)
  refine tkB 0 (.some 24) _ _ rfl rfl (by kernel_rfl) (by kernel_rfl) (by kernel_rfl) (by kernel_rfl) hPF rfl (fun w' => by (go_simp; try with_reducible rfl)) hHeld (fun hHeld => ?_)
  simp only [Act.put, List.setIfInBounds_toArray, List.set_cons_zero, List.set_cons_succ]
  refine tkB 1 (.some 25) _ _ rfl rfl (by kernel_rfl) (by kernel_rfl) (by kernel_rfl) (by kernel_rfl) hPF rfl (fun w' => by (go_simp; try with_reducible rfl)) hHeld (fun hHeld => ?_)
  simp only [Act.put, List.setIfInBounds_toArray, List.set_cons_zero, List.set_cons_succ]
  have hS := hHeld (by kernel_rfl)
  refine tkW (rs := [2]) (by kernel_rfl) (by simp) (AllK.cons (o := _) rfl (fun KC hKC => ?_) AllK.nil)
  go_simp
  refine (putbig_any _ lo 8 hl64 (by omega)).mono ?_
  rintro e w5 ⟨rfl, hp3, hB3⟩
  have h2b := (h2d.drew).below hB3 (by have := h2d.lt; simpa using this)
  have h1b := (h1c.drew).below hB3 (by have := h1c.lt; simpa using this)
  have hBb := (hBc.drew).trans (hB3.mono hBc.size)
  clear hB3 h2d h1c hBc
  refine hKC.out _ _ (trivial) (fun hHeld => ?_)
  clear hKC KC
  try simp only [Act.put, List.setIfInBounds_toArray, List.set_cons_zero, List.set_cons_succ]
  have hS := hHeld (by kernel_rfl)
  refine tkW (rs := [3]) (by kernel_rfl) (by simp) (AllK.cons (o := _) rfl (fun KC hKC => ?_) AllK.nil)
  refine wantIt rfl (wp_copy_blk (.some 27) rfl (.tmp 24) (.tmp 26) 23 23 rfl 5 under33b (by kernel_rfl) (w.heap.size + 2) 8 8 8 (w4.drew.heap.size + 1) 0 8 8 rfl rfl (bys (toBe 8 hi ++ List.replicate 8 0)) (bys (toBe 8 lo)) tA16 tU8 h2b hp3 8 rfl (by rw [bys_length, List.length_append, toBe_len]; decide) (by rw [bys_length, toBe_len]; decide) (bys_one _) ?_)
  intro w6 h2c hC4 hs4
  refine hKC.out _ _ (trivial) (fun hHeld => ?_)
  clear hKC KC
  try simp only [Act.put, List.setIfInBounds_toArray, List.set_cons_zero, List.set_cons_succ]
  refine tkD (by kernel_rfl) ?_ _
  have h2d : Blk w6 (w.heap.size + 2) (bys (cnt c n)) tA16 := by
    have e : splice (bys (toBe 8 hi ++ List.replicate 8 0)) 8 ((List.drop 0 (bys (toBe 8 lo))).take 8) = bys (cnt c n) := by
      have hl := toBe_len 8 lo
      have hh := toBe_len 8 hi
      rw [hd.out]
      simp only [splice, List.drop_zero]
      rw [show (bys (toBe 8 lo)).take 8 = bys (toBe 8 lo) from List.take_of_length_le (by rw [bys_length, hl]; exact Nat.le_refl _), bys_length, hl]
      simp [bys, hh]
    rw [← e]; exact h2c
  have h1c := h1b.chg hC4 h1b.lt (by simp)
  have hBd := hBb.trans (hC4.below (M := w.heap.size) hBb.size (fun k hk => by simp at hk; omega))
  clear h2c hC4 hs4 h1b hBb h2b hp3
  have hcl := cnt_len c n
  obtain ⟨q, hq⟩ : ∃ q, cnt c n = q := ⟨_, rfl⟩
  rw [hq] at hcl h2d
  have Hq := hid hq
  clear hd hq
  have hsz : (Tryz.prog.info? 100).map (·.size) = some (bys q).length := by rw [size54, bys_length, hcl]
  go_wp2_with (first | (refine wpList_load_mid rfl 100 (.tmp 8) rfl (w.heap.size + 2) 0 rfl (bys q) _ h2d.whole under54 rfl hsz ?_) | (refine wpList_store_mid rfl 100 (.tmp 4) (.tmp 28) rfl (w.heap.size + 1) 0 (bys q).toArray rfl rfl (h1c.there 0 _ (by rw [List.size_toArray, bys_length, bys_length, hcl]; decide)) (by rw [size54, List.size_toArray, bys_length, hcl]) (all_oneCell_toArray (bys_one _)) ?_))
  have h1d := h1c.setCells (bys q) 0 (by rw [bys_length, bys_length, hcl]; decide)
  rw [splice_whole _ _ (by rw [bys_length, bys_length, hcl]; rfl)] at h1d
  refine bodyPost_ret (v := .agg (bys q).toArray) (results_cell_row (P := Tryz.prog) (p := 4) (ty := 100) rfl _ _ (w.heap.size + 1) tA16 _ (0, 0) _ rfl h1d under54 rfl (by rw [size54, List.size_toArray, bys_length, hcl])) rfl ⟨by rw [Hq.out], ?_⟩
  exact hBd.trans (((Chg.refl (w.heap.size) [] w6).setCells (.inr (by omega)) _ _).below (Nat.le_refl _) (by simp))
end Go.Proofs.YtnmmnlffobnbfaaGreatDoor
