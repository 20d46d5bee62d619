/- the reference's PutLittle, PutBig, Count -/
import Derived.Test.YtgellbapbphnlaaPs
import Derived.Test.YtgellbapbphnlaaBg
namespace Go.Proofs.Ytgellbapbphnlaa
open Go.RowKit

theorem leF_succ (k n : Nat) : leF (k + 1) n = leF k n ++ [UInt8.ofNat (n / 256 ^ k)] := by unfold leF; rw [List.range_succ, List.map_append]; rfl

set_option maxRecDepth 100000 in
set_option maxHeartbeats 1000000 in
theorem rputlittle_any (w : World) (x many : Nat) (hx : x < 18446744073709551616) (hm : many ≤ 16) :
    Calls Try.prog 87 #[U64 x, .int .i64 many] w fun e w' => ∃ v, e = .returned v ∧ OwnR w.heap.size w' v (leF many x) ∧ Below w.heap.size w w' := by
  go_enter Try.func87, Try.ntmps87
  go_wp2_with fail
  go_loopw [0, 5, 6] (fun z v i wr => ∃ k : Nat, k ≤ many ∧ i = .int .i64 k ∧ z = U64 (x / 256 ^ k) ∧ OwnR w.heap.size wr v (leF k x) ∧ Below w.heap.size w wr) (fun _ _ i _ => many - (intOf i).toNat)
  case atStart => exact ⟨0, by omega, rfl, by simp, OwnR.nil _ _, Below.refl _ _⟩
  case round =>
    obtain ⟨k, hk, rfl, rfl, hown, hB⟩ := hrel
    have Hown := hid hown
    clear hown
    by_cases hlt : k < many
    · have hs := hB.size
      have hz : x / 256 ^ (k + 1) = x / 256 ^ k / 256 := by rw [Nat.pow_succ, Nat.div_div_eq_div_mul]
      have hzl : x / 256 ^ k < 18446744073709551616 := Nat.lt_of_le_of_lt (Nat.div_le_self _ _) hx
      have hsu := leF_succ k x
      have hlen := leF_len k x
      have Hz := hid hz
      have Hsu := hid hsu
      have Hlen := hid hlen
      have hb := bv_of (x / 256 ^ k)
      generalize x / 256 ^ k = z at *
      have hb2 : (z : Int) % 256 = bv (UInt8.ofNat z) := by rw [hb]; omega
      generalize UInt8.ofNat z = y at *
      clear hz hsu hlen hb
      have hb3 : (z : Int).tmod 256 = bv y := by rw [Int.tmod_eq_emod_of_nonneg (by omega)]; exact hb2
      have y0 := bv_lo y
      have y1 := bv_hi y
      obtain ⟨q, hq⟩ : ∃ q, z / 256 = q := ⟨_, rfl⟩
      rw [hq] at Hz
      have hd : (z : Int) / 256 = (q : Int) := by omega
      have hd2 : (z : Int).tdiv 256 = (q : Int) := by rw [Int.tdiv_eq_ediv_of_nonneg (by omega)]; exact hd
      have hql : q < 18446744073709551616 := by omega
      have hqw : IntKind.u64.wrap (q : Int) = (q : Int) := by rw [IntKind.wrap_u64]; omega
      clear hq
      go_wp2_with (refine wpList_push rfl (.tmp 12) (.tmp 16) rfl w.heap.size _ _ rfl Hown.out y rfl (by rw [Hlen.out]; omega) hs ?_; intro v' w3 hown3 hgrow3 _; have hB3 := hB.grown hgrow3 hs (fun j e => (Hown.out.lt j e).1); rw [← Hsu.out] at hown3; have Hown3 := hid hown3; clear hown3 hgrow3)
      go_roundw
      case rel => exact ⟨k + 1, by omega, by go_num, by rw [Hz.out], Hown3.out, hB3⟩
      case measure => (simp [intOf]; try omega)
    · obtain rfl : k = many := by omega
      go_wp2_with fail
      go_ret
      exact ⟨_, rfl, Hown.out, hB⟩

def upTo (l : List UInt8) (m : Nat) : List UInt8 := l.reverse.take m
theorem upTo_succ (l : List UInt8) (m : Nat) (h : m < l.length) : upTo l (m + 1) = upTo l m ++ [l.getD (l.length - 1 - m) 0] := by
  unfold upTo
  rw [take_succ_getD 0 _ _ (by rw [List.length_reverse]; exact h)]
  congr 2
  simp [List.getD, List.getElem?_reverse h]
theorem upTo_len (l : List UInt8) (m : Nat) (h : m ≤ l.length) : (upTo l m).length = m := by simp [upTo, h]

set_option maxRecDepth 100000 in
set_option maxHeartbeats 1000000 in
theorem rputbig_any (w : World) (x many : Nat) (hx : x < 18446744073709551616) (hm : many ≤ 16) :
    Calls Try.prog 83 #[U64 x, .int .i64 many] w fun e w' => ∃ v, e = .returned v ∧ OwnR w.heap.size w' v (toBe many x) ∧ Below w.heap.size w w' := by
  go_enter Try.func83, Try.ntmps83
  go_wp2_with fail
  refine (rputlittle_any w x many hx hm).mono ?_
  rintro e w1 ⟨v1, rfl, hown1, hB1⟩
  have hlen := leF_len many x
  have hte : toBe many x = upTo (leF many x) many := by unfold toBe upTo; rw [List.take_of_length_le (by simp [hlen])]
  have Hte := hid hte
  obtain ⟨pl, pc, rfl, _, hR1⟩ := hown1.row
  rw [hlen]
  have hO1 : Off [] pl := fun a e => by simp
  generalize leF many x = l at *
  clear hte hown1
  have HR1 := hid hR1
  have Hlen := hid hlen
  clear hR1 hlen
  go_wp2_with fail
  go_loopw [6, 7] (fun v i wr => ∃ k : Nat, k ≤ many ∧ i = .int .i64 ((many : Int) - 1 - k) ∧ OwnR w1.heap.size wr v (upTo l k) ∧ Below w1.heap.size w1 wr) (fun _ i _ => (intOf i + 1).toNat)
  case atStart => exact ⟨0, by omega, by simp, OwnR.nil _ _, Below.refl _ _⟩
  case round =>
    obtain ⟨k, hk, rfl, hown, hB⟩ := hrel
    have Hown := hid hown
    clear hown
    by_cases hlt : k < many
    · have hs := hB.size
      have hsu := upTo_succ l k (by rw [Hlen.out]; exact hlt)
      have hul := upTo_len l k (by rw [Hlen.out]; omega)
      rw [Hlen.out] at hsu
      obtain ⟨j, hj⟩ : ∃ j, many - 1 - k = j := ⟨_, rfl⟩
      have ej : (many : Int) - 1 - k = (j : Int) := by omega
      have ej1 : (many : Int) - 1 - ((k + 1 : Nat) : Int) = (j : Int) - 1 := by omega
      rw [ej]
      rw [hj] at hsu
      obtain ⟨b, o, rfl, _, hc⟩ := (HR1.out.below hB) j (by rw [Hlen.out]; omega)
      have Hsu := hid hsu
      have Hul := hid hul
      generalize l.getD j 0 = y at *
      have q1 : (j : Int) < (many : Int) := by omega
      have q2 : 0 ≤ (j : Int) := by omega
      clear hsu hul hj ej
      go_wp2_with (refine wpList_push rfl (.tmp 18) (.tmp 23) rfl w1.heap.size _ _ rfl Hown.out y rfl (by rw [Hul.out]; omega) hs ?_; intro v' w3 hown3 hgrow3 _; have hB3 := hB.grown hgrow3 hs (fun j e => (Hown.out.lt j e).1); rw [← Hsu.out] at hown3; have Hown3 := hid hown3; clear hown3 hgrow3)
      go_roundw
      case rel => exact ⟨k + 1, by omega, by rw [ej1], Hown3.out, hB3⟩
      case measure => (simp [intOf]; try omega)
    · obtain rfl : k = many := by omega
      have q1 : ¬ (0 : Int) ≤ (k : Int) - 1 - (k : Int) := by omega
      go_wp2_with fail
      go_ret
      rw [Hte.out]
      exact ⟨_, rfl, Hown.out.mono hB1.size, hB1.trans (hB.mono hB1.size)⟩

/-- The reference's count, m bytes done. -/
def rcX (c a : List UInt8) (m : Nat) : Nat := be (c.drop (16 - m)) + be (a.drop (16 - m))
def rcC (c a : List UInt8) (m : Nat) : List UInt8 := c.take (16 - m) ++ toBe m (rcX c a m)
theorem be_drop (c : List UInt8) (i : Nat) (h : i < c.length) : be (c.drop i) = (c.getD i 0).toNat * 256 ^ (c.length - (i + 1)) + be (c.drop (i + 1)) := by
  rw [List.drop_eq_getElem_cons h]
  have : be (c[i] :: c.drop (i + 1)) = be [c[i]] * 256 ^ (c.drop (i + 1)).length + be (c.drop (i + 1)) := be_append [c[i]] _
  rw [this, List.length_drop]
  have e : be [c[i]] = c[i].toNat := by simp [be]
  rw [e]
  simp [List.getD, List.getElem?_eq_getElem h]
theorem rc_get (c a : List UInt8) (m : Nat) (hc : c.length = 16) (hm : m < 16) : (rcC c a m).getD (15 - m) 0 = c.getD (15 - m) 0 := by
  unfold rcC
  rw [List.getD, List.getElem?_append_left (by rw [List.length_take, hc]; omega), List.getElem?_take]
  simp [show 15 - m < 16 - m by omega, List.getD]
theorem rc_len (c a : List UInt8) (m : Nat) (hc : c.length = 16) (hm : m ≤ 16) : (rcC c a m).length = 16 := by
  unfold rcC; rw [List.length_append, List.length_take, toBe_len, hc]; omega
theorem rc_step (c a : List UInt8) (m s : Nat) (hc : c.length = 16) (ha : a.length = 16) (hm : m < 16) (hs : s = (c.getD (15 - m) 0).toNat + (a.getD (15 - m) 0).toNat + rcX c a m / 256 ^ m) :
    (rcC c a m).set (15 - m) (UInt8.ofNat s) = rcC c a (m + 1) ∧ rcX c a (m + 1) / 256 ^ (m + 1) = s / 256 := by
  have e1 := be_drop c (15 - m) (by omega)
  have e2 := be_drop a (15 - m) (by omega)
  rw [hc, show 16 - (15 - m + 1) = m by omega, show 15 - m + 1 = 16 - m by omega] at e1
  rw [ha, show 16 - (15 - m + 1) = m by omega, show 15 - m + 1 = 16 - m by omega] at e2
  have hx : rcX c a (m + 1) = ((c.getD (15 - m) 0).toNat + (a.getD (15 - m) 0).toNat) * 256 ^ m + rcX c a m := by
    unfold rcX
    rw [show 16 - (m + 1) = 15 - m by omega, e1, e2, Nat.add_mul]; omega
  have hp : 0 < 256 ^ m := Nat.pow_pos (by decide)
  have hdiv : rcX c a (m + 1) / 256 ^ m = s := by
    rw [hx, Nat.add_comm, Nat.add_mul_div_right _ _ hp, hs]; omega
  have hmod : rcX c a (m + 1) % 256 ^ m = rcX c a m % 256 ^ m := by rw [hx, Nat.add_comm, Nat.add_mul_mod_self_right]
  refine ⟨?_, by rw [Nat.pow_succ, ← Nat.div_div_eq_div_mul, hdiv]⟩
  have ht : toBe (m + 1) (rcX c a (m + 1)) = UInt8.ofNat s :: toBe m (rcX c a m) := by
    rw [Nat.add_comm m 1, toBe_add, Nat.add_comm 1 m, hdiv, toBe_congr m hmod]
    simp [toBe, leF]
  unfold rcC
  rw [ht, show 16 - (m + 1) = 15 - m by omega, show 16 - m = 15 - m + 1 by omega, take_succ_getD 0 c (15 - m) (by omega), List.append_assoc,
    List.set_append_right _ _ (by rw [List.length_take]; omega), List.length_take, Nat.min_eq_left (by omega), Nat.sub_self]
  rfl
theorem rc_zero (c a : List UInt8) (hc : c.length = 16) (ha : a.length = 16) : rcC c a 0 = c ∧ rcX c a 0 = 0 := by
  unfold rcC rcX
  rw [List.take_of_length_le (by omega), List.drop_of_length_le (by omega), List.drop_of_length_le (by omega)]
  simp [toBe, leF, be]
theorem rc_all (c : List UInt8) (n : Nat) : rcC c (toBe 16 n) 16 = cnt c n := by
  unfold rcC rcX cnt
  rw [List.drop_zero, List.drop_zero, be_toBe]
  simp only [Nat.sub_self, List.take_zero, List.nil_append]
  apply toBe_congr
  simp

set_option maxRecDepth 100000 in
set_option maxHeartbeats 1000000 in
theorem rcount_any (w : World) (c : List UInt8) (n : Nat) (hc : c.length = 16) (hn : n < 18446744073709551616) :
    Calls Try.prog 46 #[.agg (bys c).toArray, U64 n] w fun e w' => e = .returned (.agg (bys (cnt c n)).toArray) ∧ Below w.heap.size w w' := by
  have Hc := hid hc
  clear hc
  have h0 : Blk ((w.alloc (.cells (bys c).toArray tA16)).alloc (.cells (bys z16).toArray tA16)) w.heap.size (bys c) tA16 := (Blk.new w (bys c) tA16).alloc _
  have h1 : Blk ((w.alloc (.cells (bys c).toArray tA16)).alloc (.cells (bys z16).toArray tA16)) (w.heap.size + 1) (bys z16) tA16 := by
    have := Blk.new (w.alloc (.cells (bys c).toArray tA16)) (bys z16) tA16
    simpa using this
  have hB : Below w.heap.size w ((w.alloc (.cells (bys c).toArray tA16)).alloc (.cells (bys z16).toArray tA16)) := ((Below.refl _ _).alloc (Nat.le_refl _) _).alloc (by simp) _
  go_enter Try.func46, Try.ntmps46
  go_wp2_with fail
  change Calls _ _ _ ((w.alloc (.cells (bys c).toArray tA16)).alloc (.cells (bys z16).toArray tA16)) _
  have hz : ((w.alloc (.cells (bys c).toArray tA16)).alloc (.cells (bys z16).toArray tA16)).heap.size = w.heap.size + 2 := by simp
  generalize ((w.alloc (.cells (bys c).toArray tA16)).alloc (.cells (bys z16).toArray tA16)) = w1 at *
  have HA := hid (rputbig_any w1 n 16 hn (by omega))
  have hal := toBe_len 16 n
  have hall := rc_all c n
  obtain ⟨A, hA⟩ : ∃ A, toBe 16 n = A := ⟨_, rfl⟩
  rw [hA] at HA hal hall
  have Hal := hid hal
  have Hall := hid hall
  clear hA hal hall
  refine HA.out.mono ?_
  rintro e w2 ⟨v, rfl, hown, hB2⟩
  obtain ⟨pa, pc, rfl, _, hR⟩ := hown.row
  rw [Hal.out]
  have h0 := h0.below hB2 h0.lt
  have h1 := h1.below hB2 h1.lt
  have hne : ∀ a, pa = some a → w.heap.size + 2 ≤ a.block := fun a e => by
    subst e
    have := (hown.lt a.block rfl).1; omega
  have hBw := hB.trans (hB2.mono hB.size)
  have HR := hid hR
  have Hz := hid hz
  have Hne := hid hne
  clear hown hR hB2 hB HA hz hne
  have hz0 := rc_zero c A Hc.out Hal.out
  rw [← hz0.1] at h0
  go_wp2_with fail
  go_loopw [6, 7, 8] (fun cy i s wr => ∃ m : Nat, m ≤ 16 ∧ i = .int .i64 (15 - (m : Int)) ∧ cy = .int .i64 ((rcX c A m / 256 ^ m : Nat) : Int) ∧ Blk wr w.heap.size (bys (rcC c A m)) tA16 ∧ Blk wr (w.heap.size + 1) (bys z16) tA16 ∧ Chg w2.heap.size [w.heap.size] w2 wr) (fun _ i _ _ => (intOf i + 1).toNat)
  case atStart => exact ⟨0, by omega, rfl, by rw [hz0.2]; rfl, h0, h1, Chg.refl _ _ _⟩
  case round =>
    obtain ⟨m, hm, rfl, rfl, hC0, hC1, hch⟩ := hrel
    clear h0 h1 hz0
    by_cases hlt : m < 16
    · have hlen := rc_len c A m Hc.out hm
      obtain ⟨j, hj⟩ : ∃ j, 15 - m = j := ⟨_, rfl⟩
      have ej : (15 : Int) - m = (j : Int) := by omega
      have ej1 : (15 : Int) - ((m + 1 : Nat) : Int) = (j : Int) - 1 := by omega
      have hxb : rcX c A m / 256 ^ m ≤ 1 := by
        have b1 := be_lt (c.drop (16 - m))
        have b2 := be_lt (A.drop (16 - m))
        rw [List.length_drop, Hc.out, show 16 - (16 - m) = m by omega] at b1
        rw [List.length_drop, Hal.out, show 16 - (16 - m) = m by omega] at b2
        have : rcX c A m < 2 * 256 ^ m := by unfold rcX; omega
        have := (Nat.div_lt_iff_lt_mul (Nat.pow_pos (by decide : 0 < 256))).2 this
        omega
      have hst := rc_step c A m _ Hc.out Hal.out hlt rfl
      have hget := rc_get c A m Hc.out hlt
      rw [hj] at hst hget
      have cc := hC0.cellAt (bys_get _ j (by omega))
      have cf := hC0.frozen j
      rw [hget] at cc
      obtain ⟨b, o, rfl, hbl, ca⟩ := (HR.out.chg hch (Nat.le_refl _) (fun a e => by have := Hne.out a e; simp; omega)) j (by rw [Hal.out]; omega)
      rw [ej]
      obtain ⟨cy, hcy⟩ : ∃ cy, rcX c A m / 256 ^ m = cy := ⟨_, rfl⟩
      rw [hcy] at hst hxb ⊢
      obtain ⟨s, hs⟩ : ∃ s, (c.getD j 0).toNat + (A.getD j 0).toNat + cy = s := ⟨_, rfl⟩
      rw [hs] at hst
      have Hst := hid hst
      have HSS := hid hs
      have x1 := (c.getD j 0).toNat_lt
      have y1 := (A.getD j 0).toNat_lt
      have ex : bv (c.getD j 0) = ((c.getD j 0).toNat : Int) := rfl
      have ey : bv (A.getD j 0) = ((A.getD j 0).toNat : Int) := rfl
      rw [ex] at cc
      rw [ey] at ca
      generalize (c.getD j 0).toNat = xx at *
      generalize (A.getD j 0).toNat = yy at *
      have q1 : 0 ≤ (j : Int) := by omega
      have q2 : (j : Int) < 16 := by omega
      have hsum : (xx : Int) + (yy : Int) + (cy : Int) = (s : Int) := by omega
      obtain ⟨r, hr⟩ : ∃ r : Int, bv (UInt8.ofNat s) = r := ⟨_, rfl⟩
      have hr2 : (s : Int) % 256 = r := by rw [← hr, bv_of]; omega
      have hr3 : (s : Int).tmod 256 = r := by rw [Int.tmod_eq_emod_of_nonneg (by omega)]; exact hr2
      have hr0 : 0 ≤ r := by omega
      have hr1 : r < 256 := by omega
      obtain ⟨s2, hs2⟩ : ∃ s2, s / 256 = s2 := ⟨_, rfl⟩
      have hd : (s : Int) / 256 = (s2 : Int) := by omega
      have hd2 : (s : Int).tdiv 256 = (s2 : Int) := by rw [Int.tdiv_eq_ediv_of_nonneg (by omega)]; exact hd
      rw [hs2] at Hst
      have Hr := hid hr
      have hrw : IntKind.u8.wrap r = r := by rw [IntKind.wrap_u8]; omega
      clear hlen hst hget hcy ej hj ex ey hs hs2 hr
      go_wp2_with fail
      try simp only [Act.put]
      refine tkR (fun w' => w'.cell? ⟨w.heap.size, j, none⟩ = some (.int .u8 xx) ∧ w'.cell? ⟨b, o + j, none⟩ = some (.int .u8 yy)) [] (by kernel_rfl) (fun c a d v w h => by cases d <;> exact h) (⟨cc, ca⟩) (fun hPF hHeld => ?_)
      refine tkB 0 (.some 15) _ _ rfl rfl (by kernel_rfl) (by kernel_rfl) (by kernel_rfl) (by kernel_rfl) hPF rfl (fun w' => by (go_simp; try with_reducible rfl)) hHeld (fun hHeld => ?_)
      simp only [Act.put, List.setIfInBounds_toArray, List.set_cons_zero, List.set_cons_succ]
      refine tkB 1 (.some 16) _ _ rfl rfl (by kernel_rfl) (by kernel_rfl) (by kernel_rfl) (by kernel_rfl) hPF rfl (fun w' => by (go_simp; try with_reducible rfl)) hHeld (fun hHeld => ?_)
      simp only [Act.put, List.setIfInBounds_toArray, List.set_cons_zero, List.set_cons_succ]
      refine tkA 2 (.some 17) _ _ rfl rfl (by kernel_rfl) (by kernel_rfl) (by kernel_rfl) (by kernel_rfl) (by kernel_rfl) hPF rfl (fun w' hw' => by (have h1 := hw'.1; go_simp; try with_reducible rfl)) hHeld (fun hHeld => ?_)
      simp only [Act.put, List.setIfInBounds_toArray, List.set_cons_zero, List.set_cons_succ]
      refine tkB 3 (.some 18) _ _ rfl rfl (by kernel_rfl) (by kernel_rfl) (by kernel_rfl) (by kernel_rfl) hPF rfl (fun w' => by (go_simp; try with_reducible rfl)) hHeld (fun hHeld => ?_)
      simp only [Act.put, List.setIfInBounds_toArray, List.set_cons_zero, List.set_cons_succ]
      refine tkB 4 (.some 19) _ _ rfl rfl (by kernel_rfl) (by kernel_rfl) (by kernel_rfl) (by kernel_rfl) hPF rfl (fun w' => by (go_simp; try with_reducible rfl)) hHeld (fun hHeld => ?_)
      simp only [Act.put, List.setIfInBounds_toArray, List.set_cons_zero, List.set_cons_succ]
      refine tkB 5 (.some 20) _ _ rfl rfl (by kernel_rfl) (by kernel_rfl) (by kernel_rfl) (by kernel_rfl) hPF rfl (fun w' => by (go_simp; try with_reducible rfl)) hHeld (fun hHeld => ?_)
      simp only [Act.put, List.setIfInBounds_toArray, List.set_cons_zero, List.set_cons_succ]
      refine tkB 6 (.some 21) _ _ rfl rfl (by kernel_rfl) (by kernel_rfl) (by kernel_rfl) (by kernel_rfl) hPF rfl (fun w' => by (go_simp; try with_reducible rfl)) hHeld (fun hHeld => ?_)
      simp only [Act.put, List.setIfInBounds_toArray, List.set_cons_zero, List.set_cons_succ]
      refine tkA 7 (.some 22) _ _ rfl rfl (by kernel_rfl) (by kernel_rfl) (by kernel_rfl) (by kernel_rfl) (by kernel_rfl) hPF rfl (fun w' hw' => by (have h1 := hw'.2; go_simp; try with_reducible rfl)) hHeld (fun hHeld => ?_)
      simp only [Act.put, List.setIfInBounds_toArray, List.set_cons_zero, List.set_cons_succ]
      refine tkB 8 (.some 23) _ _ rfl rfl (by kernel_rfl) (by kernel_rfl) (by kernel_rfl) (by kernel_rfl) hPF rfl (fun w' => by (go_simp; try with_reducible rfl)) hHeld (fun hHeld => ?_)
      simp only [Act.put, List.setIfInBounds_toArray, List.set_cons_zero, List.set_cons_succ]
      refine tkB 9 (.some 24) _ _ rfl rfl (by kernel_rfl) (by kernel_rfl) (by kernel_rfl) (by kernel_rfl) hPF rfl (fun w' => by (go_simp; try with_reducible rfl)) hHeld (fun hHeld => ?_)
      simp only [Act.put, List.setIfInBounds_toArray, List.set_cons_zero, List.set_cons_succ]
      refine tkB 10 (.some 25) _ _ rfl rfl (by kernel_rfl) (by kernel_rfl) (by kernel_rfl) (by kernel_rfl) hPF rfl (fun w' => by (go_simp; try with_reducible rfl)) hHeld (fun hHeld => ?_)
      simp only [Act.put, List.setIfInBounds_toArray, List.set_cons_zero, List.set_cons_succ]
      refine tkB 11 (.some 26) _ _ rfl rfl (by kernel_rfl) (by kernel_rfl) (by kernel_rfl) (by kernel_rfl) hPF rfl (fun w' => by (go_simp; try with_reducible rfl)) hHeld (fun hHeld => ?_)
      simp only [Act.put, List.setIfInBounds_toArray, List.set_cons_zero, List.set_cons_succ]
      refine tkB 12 (.some 8) _ _ rfl rfl (by kernel_rfl) (by kernel_rfl) (by kernel_rfl) (by kernel_rfl) hPF rfl (fun w' => by (go_simp; try with_reducible rfl)) hHeld (fun hHeld => ?_)
      simp only [Act.put, List.setIfInBounds_toArray, List.set_cons_zero, List.set_cons_succ]
      refine tkD (by kernel_rfl) ?_ _
      go_wp2_with fail
      go_roundw
      case rel =>
        refine ⟨m + 1, by omega, by rw [ej1], by rw [Hst.out.2, ← hd, ← hsum], ?_, ?_, ?_⟩
        · rw [← Hst.out.1, ← bys_set, Hr.out]
          exact hC0.drew.set j _
        · exact (hC1.drew).setNe (by simp) _
        · exact (hch.drew).setCell (p := ⟨w.heap.size, j, none⟩) (.inl (by simp)) _
      case measure => (simp [intOf]; try omega)
    · obtain rfl : m = 16 := by omega
      rw [Hall.out] at hC0
      have hcl := cnt_len c n
      have q1 : ¬ (0 : Int) ≤ 15 - (16 : Nat) := by omega
      have hlt1 := hBw.trans (hch.below (M := w.heap.size) (by have := hBw.size; omega) (fun k hk => by simp at hk; omega))
      obtain ⟨q, hq⟩ : ∃ q, cnt c n = q := ⟨_, rfl⟩
      rw [hq] at hcl hC0
      have Hq := hid hq
      have hsz : (Try.prog.info? 36).map (·.size) = some (bys q).length := by rw [size54, bys_length, hcl]
      clear hq hch
      go_wp2_with (first | (refine wpList_load_mid rfl 36 (.tmp 2) rfl w.heap.size 0 rfl (bys q) _ hC0.whole under54 rfl hsz ?_) | (refine wpList_store_mid rfl 36 (.tmp 4) (.tmp 34) rfl (w.heap.size + 1) 0 (bys q).toArray rfl rfl (hC1.there 0 _ (by rw [List.size_toArray, bys_length, bys_length, hcl]; decide)) (by rw [size54, List.size_toArray, bys_length, hcl]) (all_oneCell_toArray (bys_one _)) ?_))
      have h1d := hC1.setCells (bys q) 0 (by rw [bys_length, bys_length, hcl]; decide)
      rw [splice_whole _ _ (by rw [bys_length, bys_length, hcl]; rfl)] at h1d
      refine bodyPost_ret (v := .agg (bys q).toArray) (results_cell_row (P := Try.prog) (p := 4) (ty := 36) rfl _ _ (w.heap.size + 1) tA16 _ (0, 0) _ rfl h1d under54 rfl (by rw [size54, List.size_toArray, bys_length, hcl])) rfl ⟨by rw [Hq.out], ?_⟩
      exact hlt1.trans (((Chg.refl (w.heap.size) [] wr).setCells (.inr (by omega)) _ _).below (Nat.le_refl _) (by simp))
end Go.Proofs.Ytgellbapbphnlaa
