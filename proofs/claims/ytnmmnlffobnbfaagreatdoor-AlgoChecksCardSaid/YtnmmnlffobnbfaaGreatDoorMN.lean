/- Gm4 · Gn4 · Gy4 · Gx4 · Go4 (joined by merge4.py) -/
import Derived.Test.YtnmmnlffobnbfaaGreatDoorMI
import Derived.Test.YtnmmnlffobnbfaaGreatDoorMJ
/- gcm: Pad, padded, Lengths -/
namespace Go.Proofs.YtnmmnlffobnbfaaGreatDoor
open Go.RowKit

def padN (n : Nat) : Nat := (16 - n % 16) % 16
theorem padZ_form (b : List UInt8) : padZ b = b ++ List.replicate (padN b.length) 0 := rfl
set_option maxRecDepth 100000 in
set_option maxHeartbeats 1000000 in
theorem gpad_any (w : World) (n : Nat) (h9 : n < 1000000000) : Calls Tryz.prog 217 #[.int .i64 n] w fun e w' => e = .returned (.int .i64 (padN n)) ∧ w = w' := by
  obtain ⟨r, hr⟩ : ∃ r, n % 16 = r := ⟨_, rfl⟩
  obtain ⟨d, hd⟩ : ∃ d, (16 - r) % 16 = d := ⟨_, rfl⟩
  have e0 : padN n = d := by unfold padN; rw [hr, hd]
  rw [e0]
  by_cases h1 : n < 1
  · obtain rfl : d = 0 := by omega
    have q1 : (n : Int) < 1 := by omega
    clear hr hd e0
    go_enter Tryz.func217, Tryz.ntmps217
    go_wp2_with fail
    go_ret
    exact ⟨rfl, rfl⟩
  · have q1 : ¬ ((n : Int) < 1) := by omega
    have q2 : (n : Int).tmod 16 = (r : Int) := by rw [Int.tmod_eq_emod_of_nonneg (by omega)]; omega
    have q3 : (n : Int) % 16 = (r : Int) := by omega
    obtain ⟨s, hs⟩ : ∃ s, 16 - r = s := ⟨_, rfl⟩
    have q4 : (16 : Int) - (r : Int) = (s : Int) := by omega
    have q5 : (s : Int).tmod 16 = (d : Int) := by rw [Int.tmod_eq_emod_of_nonneg (by omega)]; omega
    have q6 : (s : Int) % 16 = (d : Int) := by omega
    have q7 : (s : Int) ≤ 16 := by omega
    have q8 : 0 ≤ (s : Int) := by omega
    clear hr hd e0 hs
    go_enter Tryz.func217, Tryz.ntmps217
    go_wp2_with fail
    go_ret
    exact ⟨rfl, rfl⟩

theorem make_nulls (W : World) (d : Nat) (h : d ≤ 140737488355328) : (Instr.makeSlice 23 (.int .i64 d) (.int .i64 d)).run Tryz.prog W = .ok (.slice (some ⟨W.heap.size, 0, none⟩) d d) (W.alloc (.cells (bys (List.replicate d 0)).toArray 5)) := by
  have hmk := run_make_row' (P := Tryz.prog) (w := W) 23 5 (.int .u8 0) 1 under33b info5 rfl .i64 .i64 d (by omega) (by omega)
  rw [madeCells_bys] at hmk
  exact hmk
set_option maxRecDepth 100000 in
set_option maxHeartbeats 1000000 in
theorem padded_any' (w : World) (pb : Option Addr) (n cap : Nat) (b : List UInt8) (hb : RowAt w pb b) (hn : b.length = n) (h9 : n < 999999000) :
    Calls Tryz.prog 199 #[.slice pb n cap] w fun e w' => ∃ v, e = .returned v ∧ OwnR w.heap.size w' v (padZ b) ∧ Below w.heap.size w w' := by
  obtain ⟨d, hd⟩ : ∃ d, padN n = d := ⟨_, rfl⟩
  have hd16 : d < 16 := by rw [← hd]; unfold padN; omega
  have hmk := fun W => make_nulls W d (by omega)
  have hz : padZ b = b ++ List.replicate d 0 := by rw [padZ_form, hn, hd]
  rw [hz]
  have Hd := hid hd
  have Hn := hid hn
  clear hz hd hn
  go_enter Tryz.func199, Tryz.ntmps199
  go_wp2_with fail
  refine (gpad_any w n (by omega)).mono ?_
  rintro e w1 ⟨rfl, rfl⟩
  rw [Hd.out]
  go_wp2_with fail
  have hz := Blk.new w (bys (List.replicate d 0)) tU8
  have hc := Blk.new (w.alloc (.cells (bys (List.replicate d 0)).toArray 5)) [.slice pb n cap, .slice (some ⟨w.heap.size, 0, none⟩) d d] tBytes
  have hz := hz.alloc (.cells #[.slice pb n cap, .slice (some ⟨w.heap.size, 0, none⟩) d d] tBytes)
  have hB : Below w.heap.size w ((w.alloc (.cells (bys (List.replicate d 0)).toArray 5)).alloc (.cells #[.slice pb n cap, .slice (some ⟨w.heap.size, 0, none⟩) d d] tBytes)) := ((Below.refl _ _).alloc (Nat.le_refl _) _).alloc (by simp) _
  simp only [World.size_alloc] at hc
  change Calls _ _ _ ((w.alloc (.cells (bys (List.replicate d 0)).toArray 5)).alloc (.cells #[.slice pb n cap, .slice (some ⟨w.heap.size, 0, none⟩) d d] tBytes)) _
  have hs := hB.size
  generalize ((w.alloc (.cells (bys (List.replicate d 0)).toArray 5)).alloc (.cells #[.slice pb n cap, .slice (some ⟨w.heap.size, 0, none⟩) d d] tBytes)) = w1 at *
  refine (concat2_any w1 _ pb _ n cap d d b (List.replicate d 0) _ hc (hb.below hB) hz.rowAt0 Hn.out (by simp) (by omega)).mono ?_
  rintro e w2 ⟨v, rfl, hown, hB2⟩
  go_wp2_with fail
  go_ret
  exact ⟨v, rfl, hown.mono hs, hB.trans (hB2.mono hs)⟩

/-- Two lengths, in bits. -/
def lenF (a m : Nat) : List UInt8 := toBe 16 (8 * a * 18446744073709551616 + 8 * m)
set_option maxRecDepth 100000 in
set_option maxHeartbeats 1000000 in
theorem glengths_any (w : World) (a m : Nat) (ha : a < 1000000000) (hm : m < 1000000000) :
    Calls Tryz.prog 200 #[.int .i64 a, .int .i64 m] w fun e w' => e = .returned (.agg (bys (lenF a m)).toArray) ∧ Below w.heap.size w w' := by
  obtain ⟨x, hx⟩ : ∃ x, 8 * a = x := ⟨_, rfl⟩
  obtain ⟨y, hy⟩ : ∃ y, 8 * m = y := ⟨_, rfl⟩
  obtain ⟨n, hn⟩ : ∃ n, x * 18446744073709551616 + y = n := ⟨_, rfl⟩
  have hl : lenF a m = toBe 16 n := by unfold lenF; rw [hx, hy, hn]
  have hnl : n < 2 ^ 128 := by omega
  have e1 : hiN n = x := by rw [← hn]; exact hiN_of (by omega)
  have e2 : loN n = y := by rw [← hn]; exact loN_of (by omega)
  have ele : ([U64 x, U64 y] : List Value) = elc n := by unfold elc; rw [e1, e2]
  have q1 : (8 : Int) * (a : Int) = (x : Int) := by omega
  have q2 : (8 : Int) * (m : Int) = (y : Int) := by omega
  have q3 : (a : Int) ≤ 1000000000 := by omega
  have q4 : (m : Int) ≤ 1000000000 := by omega
  have q5 : (x : Int) ≤ 8000000000 := by omega
  have q6 : (y : Int) ≤ 8000000000 := by omega
  have q7 : 0 ≤ (x : Int) := by omega
  have q8 : 0 ≤ (y : Int) := by omega
  have hr0 := Blk.new w (bys z16) tA16
  have hB0 : Below w.heap.size w (w.alloc (.cells (bys z16).toArray tA16)) := (Below.refl _ _).alloc (Nat.le_refl _) _
  have Hele := hid ele
  have Hnl := hid hnl
  rw [hl]
  clear hx hy hn hl hnl e1 e2 ele ha hm
  go_enter Tryz.func200, Tryz.ntmps200
  go_wp2_with fail
  change Calls _ _ #[.agg [U64 x, U64 y].toArray] (w.alloc (.cells (bys z16).toArray tA16)) _
  rw [Hele.out]
  generalize w.alloc (.cells (bys z16).toArray tA16) = w1 at *
  refine (block_any w1 n Hnl.out).mono ?_
  rintro e w3 ⟨rfl, hB3⟩
  have hR3 := hr0.below hB3 hr0.lt
  have hBB := hB0.trans (hB3.mono hB0.size)
  have hql := toBe_len 16 n
  obtain ⟨q, hq⟩ : ∃ q, toBe 16 n = q := ⟨_, rfl⟩
  rw [hq] at hql ⊢
  have Hq := hid hq
  clear hq
  go_wp2_with (refine wpList_store_mid rfl 100 (.tmp 4) (.tmp 12) rfl w.heap.size 0 (bys q).toArray rfl rfl (hR3.there 0 _ (by rw [List.size_toArray, bys_length, bys_length, hql]; decide)) (by rw [size54, List.size_toArray, bys_length, hql]) (all_oneCell_toArray (bys_one _)) ?_)
  have h1d := hR3.setCells (bys q) 0 (by rw [bys_length, bys_length, hql]; decide)
  rw [splice_whole _ _ (by rw [bys_length, bys_length, hql]; rfl)] at h1d
  refine bodyPost_ret (v := .agg (bys q).toArray) (results_cell_row (P := Tryz.prog) (p := 4) (ty := 100) rfl _ _ w.heap.size tA16 _ (0, 0) _ rfl h1d under54 rfl (by rw [size54, List.size_toArray, bys_length, hql])) rfl ⟨by rw [Hq.out], ?_⟩
  exact hBB.trans (((Chg.refl (w.heap.size) [] w3).setCells (.inr (Nat.le_refl _)) _ _).below (Nat.le_refl _) (by simp))

/-- A row as it lies in a row of rows. -/
structure RowIn where
  p : Option Addr
  n : Nat
  c : Nat
  b : List UInt8
abbrev RowIn.v (r : RowIn) : Value := .slice r.p r.n r.c
/-- Rows, padded, one behind the other. -/
def padAll (R : List RowIn) : List UInt8 := (R.map fun r => padZ r.b).flatten
theorem padAll_snoc (R : List RowIn) (r : RowIn) : padAll (R ++ [r]) = padAll R ++ padZ r.b := by simp [padAll]
def hashF (E : List UInt8 → List UInt8) (a m : Nat) (R : List RowIn) : List UInt8 := ghF (E z16) (padAll R ++ lenF a m)
theorem padZ_le (b : List UInt8) : (padZ b).length ≤ b.length + 15 := by unfold padZ; rw [List.length_append, List.length_replicate]; omega
theorem padAll_le : ∀ (R : List RowIn) (B : Nat), (∀ r ∈ R, r.b.length ≤ B) → (padAll R).length ≤ R.length * (B + 15)
  | [], _, _ => by simp [padAll]
  | r :: R, B, h => by
    have h1 := padAll_le R B (fun r hr => h r (List.mem_cons_of_mem _ hr))
    have h2 := padZ_le r.b
    have h3 := h r (List.mem_cons_self ..)
    have : padAll (r :: R) = padZ r.b ++ padAll R := by simp [padAll]
    rw [this, List.length_append, List.length_cons, Nat.add_mul]; omega

set_option maxRecDepth 100000 in
set_option maxHeartbeats 4000000 in
theorem hash_any (w : World) (kv : Option Addr) (E : List UInt8 → List UInt8) (hk : KeyV w kv E) (a m : Nat) (ha : a < 1000000000) (hm : m < 1000000000) (rb : Nat) (R : List RowIn) (N : Nat) (hN : R.length = N) (hN9 : N ≤ 10)
    (hrb : Blk w rb (R.map RowIn.v) tBytes) (hR : ∀ r ∈ R, RowAt w r.p r.b ∧ r.b.length = r.n ∧ r.n < 1000000) :
    Calls Tryz.prog 180 #[.pointer kv, .int .i64 a, .int .i64 m, .slice (some ⟨rb, 0, none⟩) N N] w fun e w' => e = .returned (.agg (bys (hashF E a m R)).toArray) ∧ Below w.heap.size w w' := by
  have hr0 := Blk.new w (bys z16) tA16
  have hB0 : Below w.heap.size w (w.alloc (.cells (bys z16).toArray tA16)) := (Below.refl _ _).alloc (Nat.le_refl _) _
  have Hrb := hid hrb
  have HR := hid hR
  have HN := hid hN
  have Hk := hid hk
  clear hrb hR hN hk
  go_enter Tryz.func180, Tryz.ntmps180
  go_wp2_with fail
  change Code.wp _ _ _ _ (w.alloc (.cells (bys z16).toArray tA16))
  generalize w.alloc (.cells (bys z16).toArray tA16) = W at *
  have lr := hr0.lt
  go_loopw [9, 15] (fun v i wr => ∃ k : Nat, k ≤ N ∧ i = .int .i64 k ∧ OwnR W.heap.size wr v (padAll (R.take k)) ∧ Below W.heap.size W wr) (fun _ i _ => N - (intOf i).toNat)
  case atStart => exact ⟨0, by omega, rfl, by simp [padAll]; exact OwnR.nil _ _, Below.refl _ _⟩
  case round =>
    obtain ⟨k, hk, rfl, hown, hB⟩ := hrel
    have Hown := hid hown
    clear hown
    by_cases hlt : k < N
    · obtain ⟨r, hr⟩ : ∃ r, R[k]? = some r := ⟨_, List.getElem?_eq_getElem (by rw [HN.out]; exact hlt)⟩
      have hmem : r ∈ R := List.mem_of_getElem? hr
      obtain ⟨hrow, hrl, hr9⟩ := HR.out r hmem
      have hBw := hB0.trans (hB.mono hB0.size)
      have hc := (Hrb.out.below hBw Hrb.out.lt).cell k
      rw [List.getElem?_map, hr] at hc
      simp only [Option.map_some, RowIn.v] at hc
      have hsn : R.take (k + 1) = R.take k ++ [r] := by rw [List.take_add_one, hr]; rfl
      have hpa : padAll (R.take (k + 1)) = padAll (R.take k) ++ padZ r.b := by rw [hsn, padAll_snoc]
      have hle := padAll_le (R.take k) 1000000 (fun r hr => by have := HR.out r (List.mem_of_mem_take hr); omega)
      have hle2 : (padAll (R.take k)).length ≤ 20000000 := by
        refine Nat.le_trans hle ?_
        have : (R.take k).length ≤ 10 := by rw [List.length_take]; omega
        exact Nat.le_trans (Nat.mul_le_mul_right _ this) (by decide)
      have hple := padZ_le r.b
      have hroww := hrow.below hBw
      obtain ⟨p, n, c, b⟩ := r
      simp only at hrow hrl hr9 hc hpa hple hroww
      have Hpa := hid hpa
      have Hle2 := hid hle2
      have Hple := hid hple
      have Hrl := hid hrl
      have hs := hB.size
      have q1 : (k : Int) < (N : Int) := by omega
      clear hmem hr hsn hpa hle hle2 hple hrl hrow
      go_wp2_with fail
      refine (padded_any' _ p n c b hroww Hrl.out (by omega)).mono ?_
      rintro e w2 ⟨v2, rfl, hown2, hB2⟩
      obtain ⟨p2, c2, rfl, hc2, hr2⟩ := hown2.row
      have hv2 := Hown.out.below hB2
      have hB3 := hB.trans (hB2.mono hB.size)
      have hs3 := hB3.size
      go_upto_region 6 with (refine wpList_addO hv2 rfl (.tmp 19) (.tmp 21) rfl rfl p2 _ c2 _ rfl hr2 rfl (by have h1 := Hle2.out; have h2 := Hple.out; have h3 := Hrl.out; omega) hs3 ?_; intro v4 w4 hown4 hgrow4 _)
      have hB4 := hB3.grown hgrow4 hs3 (fun j e => (hv2.lt j e).1)
      rw [← Hpa.out] at hown4
      have Hown4 := hid hown4
      clear hown4 hgrow4
      go_wp2_with fail
      go_roundw
      case rel => exact ⟨k + 1, by omega, by go_num, Hown4.out, hB4⟩
      case measure => (simp [intOf]; try omega)
    · have hkN : k = N := by omega
      have ho := Hown.out
      rw [hkN, List.take_of_length_le (by rw [HN.out]; exact Nat.le_refl _)] at ho
      have q1 : ¬ ((k : Int) < (N : Int)) := by omega
      have hle := padAll_le R 1000000 (fun r hr => by have := HR.out r hr; omega)
      have hle2 : (padAll R).length ≤ 20000000 := by
        refine Nat.le_trans hle ?_
        exact Nat.le_trans (Nat.mul_le_mul_right _ (show R.length ≤ 10 by rw [HN.out]; exact hN9)) (by decide)
      obtain ⟨X, hX⟩ : ∃ X, padAll R = X := ⟨_, rfl⟩
      rw [hX] at ho hle2
      have HX := hid hX
      have hs := hB.size
      clear hX hle Hown hkN hlt
      go_wp2_with fail
      refine (glengths_any _ a m ha hm).mono ?_
      rintro e w2 ⟨rfl, hB2⟩
      have ho2 := ho.below hB2
      have hB3 := hB.trans (hB2.mono hB.size)
      have hll : (lenF a m).length = 16 := toBe_len _ _
      obtain ⟨L, hL⟩ : ∃ L, lenF a m = L := ⟨_, rfl⟩
      rw [hL] at hll ⊢
      have HL := hid hL
      have hb0 : Blk (w2.alloc (.cells (bys z16).toArray tA16)) w2.heap.size (bys z16) tA16 := Blk.new _ _ _
      have hB4 := hB3.alloc hB3.size (.cells (bys z16).toArray tA16)
      have ho4 := ho2.below ((Below.refl w2.heap.size w2).alloc (Nat.le_refl _) (.cells (bys z16).toArray tA16))
      obtain ⟨lb, hlb⟩ : ∃ lb, w2.heap.size = lb := ⟨_, rfl⟩
      rw [hlb] at hb0
      have hb1 := hb0.setCells (bys L) 0 (by rw [bys_length, bys_length, hll]; decide)
      rw [splice_whole _ _ (by rw [bys_length, bys_length, hll]; rfl)] at hb1
      have hC5 := (Chg.refl (w2.alloc (.cells (bys z16).toArray tA16)).heap.size [lb] (w2.alloc (.cells (bys z16).toArray tA16))).setCells (b := lb) (.inl (by simp)) (bys L) 0
      have hsl := hB3.size
      have ho5 := ho4.chg hC5 (Nat.le_refl _) (fun j e => by have := (ho2.lt j e).2; simp; omega)
      have hB5 := hB4.trans (hC5.below (M := W.heap.size) hB4.size (fun k hk => by simp at hk; omega))
      have hlen5 : w2.heap.size < ((w2.alloc (.cells (bys z16).toArray tA16)).setCells lb 0 (bys L)).heap.size := by rw [size_setCells]; simp
      have hlW : W.heap.size ≤ lb := by omega
      clear hB2 hB3 hB4 ho ho2 ho4 hC5 hL hB hs
      go_upto_region 8 with (refine wpList_store_mid rfl 100 (.tmp 12) (.tmp 26) rfl lb 0 (bys L).toArray (by rw [← hlb]; rfl) rfl (hb0.there 0 _ (by rw [List.size_toArray, bys_length, bys_length, hll]; decide)) (by rw [size54, List.size_toArray, bys_length, hll]) (all_oneCell_toArray (bys_one _)) ?_)
      change Code.wp _ _ _ _ ((w2.alloc (.cells (bys z16).toArray tA16)).setCells lb 0 (bys L))
      generalize (w2.alloc (.cells (bys z16).toArray tA16)).setCells lb 0 (bys L) = w5 at *
      have hkv := Hk.out.below (hB0.trans (hB5.mono hB0.size))
      have hz0 : (z16 : List UInt8).length = 16 := rfl
      try simp only [Act.put]
      refine tkR (fun _ => True) [] (by kernel_rfl) (fun c a d v w h => by cases d <;> exact h) (trivial) (fun hPF hHeld => ?_)
      refine tkB 0 (.some 27) _ _ rfl rfl (by kernel_rfl) (by kernel_rfl) (by kernel_rfl) (by kernel_rfl) hPF rfl (fun w' => by (go_simp; try with_reducible rfl)) hHeld (fun hHeld => ?_)
      simp only [Act.put, List.setIfInBounds_toArray, List.set_cons_zero, List.set_cons_succ]
      refine tkB 1 (.some 28) _ _ rfl rfl (by kernel_rfl) (by kernel_rfl) (by kernel_rfl) (by kernel_rfl) hPF rfl (fun w' => by (go_simp; try with_reducible rfl)) hHeld (fun hHeld => ?_)
      simp only [Act.put, List.setIfInBounds_toArray, List.set_cons_zero, List.set_cons_succ]
      refine tkB 3 (.some 30) _ _ rfl rfl (by kernel_rfl) (by kernel_rfl) (by kernel_rfl) (by kernel_rfl) hPF rfl (fun w' => by (go_simp; try with_reducible rfl)) hHeld (fun hHeld => ?_)
      simp only [Act.put, List.setIfInBounds_toArray, List.set_cons_zero, List.set_cons_succ]
      refine tkB 4 (.some 31) _ _ rfl rfl (by kernel_rfl) (by kernel_rfl) (by kernel_rfl) (by kernel_rfl) hPF rfl (fun w' => by (go_simp; try with_reducible rfl)) hHeld (fun hHeld => ?_)
      simp only [Act.put, List.setIfInBounds_toArray, List.set_cons_zero, List.set_cons_succ]
      have hS := hHeld (by kernel_rfl)
      refine tkW (rs := [2]) (by kernel_rfl) (by simp) (AllK.cons (o := _) rfl (fun KC hKC => ?_) AllK.nil)
      go_simp
      change Calls _ _ #[_, .agg (bys z16).toArray] _ _
      refine (keyv_enc hkv.drew z16 rfl).mono ?_
      rintro e w6 ⟨rfl, hB6⟩
      have ho6 := ho5.drew.below hB6
      have hb6 := hb1.drew.below hB6 hb1.lt
      have hB6 := hB5.drew.trans (hB6.mono hB5.size)
      refine hKC.out _ _ (trivial) (fun hHeld => ?_)
      clear hKC KC
      try simp only [Act.put, List.setIfInBounds_toArray, List.set_cons_zero, List.set_cons_succ]
      have hS := hHeld (by kernel_rfl)
      refine tkW (rs := [5]) (by kernel_rfl) (by simp) (AllK.cons (o := _) rfl (fun KC hKC => ?_) AllK.nil)
      refine wantIt rfl (wp_add (.some 32) rfl (.tmp 30) (.tmp 31) rfl W.heap.size _ X rfl ho6 (some ⟨lb, 0, none⟩) 16 16 L rfl hb6.rowAt0 hll (by omega) hB6.size ?_)
      intro v7 w7 ho7 hg7 _
      have hB7 := hB6.grown hg7 hB6.size (fun j e => (ho6.lt j e).1)
      obtain ⟨p7, c7, rfl, hc7, hr7⟩ := ho7.row
      refine hKC.out _ _ (trivial) (fun hHeld => ?_)
      clear hKC KC
      try simp only [Act.put, List.setIfInBounds_toArray, List.set_cons_zero, List.set_cons_succ]
      have hS := hHeld (by kernel_rfl)
      refine tkW (rs := [6]) (by kernel_rfl) (by simp) (AllK.cons (o := _) rfl (fun KC hKC => ?_) AllK.nil)
      go_simp
      refine (gsum_any _ (E z16) (hkv.len z16 rfl) p7 (X.length + 16) c7 (X ++ L) hr7 (by rw [List.length_append, hll]) (by rw [List.length_append, hll] at hc7; exact hc7) (by omega)).mono ?_
      rintro e w8 ⟨rfl, hB8⟩
      have hB8 := hB7.trans (hB8.mono hB7.size)
      have hr8 := hr0.below hB8 lr
      have hgl := ghF_len (E z16) (X ++ L)
      obtain ⟨q, hq⟩ : ∃ q, ghF (E z16) (X ++ L) = q := ⟨_, rfl⟩
      rw [hq] at hgl
      try rw [hq]
      refine hKC.out _ _ (trivial) (fun hHeld => ?_)
      clear hKC KC
      try simp only [Act.put, List.setIfInBounds_toArray, List.set_cons_zero, List.set_cons_succ]
      have hS := hHeld (by kernel_rfl)
      refine tkW (rs := [7]) (by kernel_rfl) (by simp) (AllK.cons (o := _) rfl (fun KC hKC => ?_) AllK.nil)
      refine wantIt rfl (wp_storeD none rfl 100 (.tmp 8) (.tmp 33) rfl w.heap.size 0 (bys q).toArray rfl rfl (hr8.there 0 _ (by rw [List.size_toArray, bys_length, bys_length, hgl]; decide)) (by rw [size54, List.size_toArray, bys_length, hgl]) (all_oneCell_toArray (bys_one _)) ?_)
      refine hKC.out _ _ (trivial) (fun hHeld => ?_)
      clear hKC KC
      try simp only [Act.put]
      refine tkD (by kernel_rfl) ?_ _
      go_wp2_with fail
      have h1d := hr8.setCells (bys q) 0 (by rw [bys_length, bys_length, hgl]; decide)
      rw [splice_whole _ _ (by rw [bys_length, bys_length, hgl]; rfl)] at h1d
      refine bodyPost_ret (v := .agg (bys q).toArray) (results_cell_row (P := Tryz.prog) (p := 8) (ty := 100) rfl _ _ w.heap.size tA16 _ (0, 0) _ rfl h1d under54 rfl (by rw [size54, List.size_toArray, bys_length, hgl])) rfl ⟨by unfold hashF; rw [HX.out, HL.out, hq], ?_⟩
      exact (hB0.trans (hB8.mono hB0.size)).trans (((Chg.refl (w.heap.size) [] w8).setCells (.inr (Nat.le_refl _)) _ _).below (by have := hB0.size; have := hB8.size; omega) (by simp))
end Go.Proofs.YtnmmnlffobnbfaaGreatDoor

/- gcm: right, First, stream, tag -/
namespace Go.Proofs.YtnmmnlffobnbfaaGreatDoor
open Go.RowKit

theorem rounds_any (w : World) (kb : Nat) (rk : List UInt8) (hk : KeysAt w kb rk) :
    Calls Tryz.prog 172 #[.pointer (some ⟨kb, 0, none⟩)] w fun e w' => ∃ r : Nat, 0 < r ∧ r < 100 ∧ e = .returned (.int .i64 r) ∧ w = w' := by
  obtain ⟨tb, wb, n, cap, ex, h1, _, _, h4, h5⟩ := hk
  refine (rounds_some w kb tb n cap _ h1 (by omega) (by omega)).mono ?_
  rintro e w' ⟨rfl, rfl⟩
  exact ⟨n / 4 - 1, by omega, by omega, rfl, rfl⟩
set_option maxRecDepth 100000 in
set_option maxHeartbeats 1000000 in
theorem right_any (w : World) (kb : Nat) (rk : List UInt8) (hk : KeysAt w kb rk) (pb : Option Addr) (n cap : Nat) :
    Calls Tryz.prog 178 #[.pointer (some ⟨kb, 0, none⟩), .slice pb n cap] w fun e w' => e = .returned (.int .i64 (if n = 0 then 6 else 0)) ∧ w = w' := by
  go_enter Tryz.func178, Tryz.ntmps178
  go_wp2_with fail
  refine (rounds_any w kb rk hk).mono ?_
  rintro e w' ⟨r, hr, hr1, rfl, rfl⟩
  have q1 : ((r : Int) == 0) = false := by rw [beq_eq_false_iff_ne]; omega
  by_cases h : n = 0
  · subst h
    go_wp2_with fail
    go_ret
    exact ⟨rfl, rfl⟩
  · have q2 : ((n : Int) == 0) = false := by rw [beq_eq_false_iff_ne]; omega
    go_wp2_with fail
    go_ret
    exact ⟨rfl, rfl⟩
set_option maxRecDepth 100000 in
set_option maxHeartbeats 1000000 in
theorem right_nil (w : World) (pb : Option Addr) (n cap : Nat) :
    Calls Tryz.prog 178 #[.pointer none, .slice pb n cap] w fun e w' => e = .returned (.int .i64 5) ∧ w = w' := by
  go_enter Tryz.func178, Tryz.ntmps178
  go_wp2_with fail
  refine (rounds_nil w).mono ?_
  rintro e w' ⟨rfl, rfl⟩
  go_wp2_with fail
  go_ret
  exact ⟨rfl, rfl⟩

theorem arrayAt16 (w : World) (a : Option Addr) (len cap : Nat) (h : 16 ≤ len) : (Instr.arrayAt 100 (.slice a len cap)).run Tryz.prog w = .ok (.pointer a) w :=
  run_arrayAt w 100 5 16 a len cap under54 h
def one4 : List UInt8 := [0, 0, 0, 1]
/-- The first counter. -/
def firstF (E : List UInt8 → List UInt8) (iv : List UInt8) : List UInt8 :=
  if iv.length = 0 then z16 else if iv.length = 12 then iv ++ one4 else ghF (E z16) (padZ iv ++ lenF 0 iv.length)
theorem firstF_len (E : List UInt8 → List UInt8) (iv : List UInt8) : (firstF E iv).length = 16 := by
  unfold firstF
  split
  · rfl
  · split
    · rename_i h; rw [List.length_append, h]; rfl
    · exact ghF_len _ _
theorem RowAt.range {w : World} {b o : Nat} {l : List UInt8} (h : RowAt w (some ⟨b, o, none⟩) l) : w.rangeAt b o (bys l) := fun j v hv => by
  have hj : j < l.length := by rw [← bys_length]; exact (List.getElem?_eq_some_iff.1 hv).1
  obtain ⟨b', o', e, _, hc⟩ := h j hj
  injection e with e; injection e with e1 e2; subst e1 e2
  rw [bys_get l j hj] at hv
  cases hv
  exact hc

set_option maxRecDepth 100000 in
set_option maxHeartbeats 2000000 in
theorem gfirst_any (w : World) (kb : Nat) (rk : List UInt8) (hk : KeysAt w kb rk) (hrl : 16 * roundsOf rk + 16 ≤ rk.length) (pb : Option Addr) (n cap : Nat) (iv : List UInt8) (hb : RowAt w pb iv) (hn : iv.length = n) (h9 : n < 100000) :
    Calls Tryz.prog 179 #[.pointer (some ⟨kb, 0, none⟩), .slice pb n cap] w fun e w' => e = .returned (.agg (bys (firstF (enc rk) iv)).toArray) ∧ Below w.heap.size w w' := by
  have hr0 := Blk.new w (bys z16) tA16
  have hB0 : Below w.heap.size w (w.alloc (.cells (bys z16).toArray tA16)) := (Below.refl _ _).alloc (Nat.le_refl _) _
  have Hn := hid hn
  have hfl := firstF_len (enc rk) iv
  have hff : firstF (enc rk) iv = firstF (enc rk) iv := rfl
  conv at hff => rhs; unfold firstF
  rw [hn] at hff
  obtain ⟨q, hq⟩ : ∃ q, firstF (enc rk) iv = q := ⟨_, rfl⟩
  rw [hq] at hff hfl
  have Hff := hid hff
  rw [hq]
  have hkv : KeyV w (some ⟨kb, 0, none⟩) (enc rk) := .inr ⟨kb, rk, rfl, hk, rfl, hrl⟩
  clear hn hq hff
  have hsq : (Tryz.prog.info? 100).map (·.size) = some (bys q).length := by rw [size54, bys_length, hfl]
  have hend : ∀ w', Blk w' w.heap.size (bys z16) tA16 → Below w.heap.size w w' → Blk (w'.setCells w.heap.size 0 (bys q)) w.heap.size (bys q) tA16 ∧ Below w.heap.size w (w'.setCells w.heap.size 0 (bys q)) := fun w' h1 h2 => by
    have h1d := h1.setCells (bys q) 0 (by rw [bys_length, bys_length, hfl]; decide)
    rw [splice_whole _ _ (by rw [bys_length, bys_length, hfl]; rfl)] at h1d
    exact ⟨h1d, h2.trans (((Chg.refl (w.heap.size) [] w').setCells (.inr (Nat.le_refl _)) _ _).below (Nat.le_refl _) (by simp))⟩
  have Hend := hid hend
  clear hend
  go_enter Tryz.func179, Tryz.ntmps179
  go_wp2_with fail
  change Calls _ _ _ (w.alloc (.cells (bys z16).toArray tA16)) _
  have hk1 := hk.below hB0
  have hkv1 := hkv.below hB0
  have hb1 := hb.below hB0
  generalize w.alloc (.cells (bys z16).toArray tA16) = W at *
  refine (right_any W kb rk hk1 pb n cap).mono ?_
  rintro e w' ⟨rfl, rfl⟩
  by_cases h0 : n = 0
  · rw [if_pos h0]
    have hff := Hff.out
    rw [if_pos h0] at hff
    have Hf2 := hid hff
    clear hff
    go_wp2_with (refine wpList_store_mid rfl 100 (.tmp 4) (.tmp 10) rfl w.heap.size 0 (bys q).toArray rfl (by rw [Hf2.out]; rfl) (hr0.there 0 _ (by rw [List.size_toArray, bys_length, bys_length, hfl]; decide)) (by rw [size54, List.size_toArray, bys_length, hfl]) (all_oneCell_toArray (bys_one _)) ?_)
    obtain ⟨h1, h2⟩ := Hend.out _ hr0 hB0
    refine bodyPost_ret (v := .agg (bys q).toArray) (results_cell_row (P := Tryz.prog) (p := 4) (ty := 100) rfl _ _ w.heap.size tA16 _ (0, 0) _ rfl h1 under54 rfl hsq) rfl ⟨rfl, h2⟩
  · rw [if_neg h0]
    have hff := Hff.out
    rw [if_neg h0] at hff
    by_cases h12 : n = 12
    · rw [if_pos h12] at hff
      have q1 : ((n : Int) == 12) = true := by rw [beq_iff_eq]; omega
      have Hf2 := hid hff
      clear hff h12
      go_wp2_with fail
      have ho := Blk.new W (bys one4) tU8
      have hc := Blk.new (W.alloc (.cells (bys one4).toArray 5)) [.slice pb n cap, .slice (some ⟨W.heap.size, 0, none⟩) 4 4] tBytes
      have ho := ho.alloc (.cells #[.slice pb n cap, .slice (some ⟨W.heap.size, 0, none⟩) 4 4] tBytes)
      have hB : Below W.heap.size W ((W.alloc (.cells (bys one4).toArray 5)).alloc (.cells #[.slice pb n cap, .slice (some ⟨W.heap.size, 0, none⟩) 4 4] tBytes)) := ((Below.refl _ _).alloc (Nat.le_refl _) _).alloc (by simp) _
      simp only [World.size_alloc] at hc
      change Calls _ _ _ ((W.alloc (.cells (bys one4).toArray 5)).alloc (.cells #[.slice pb n cap, .slice (some ⟨W.heap.size, 0, none⟩) 4 4] tBytes)) _
      have hs := hB.size
      generalize ((W.alloc (.cells (bys one4).toArray 5)).alloc (.cells #[.slice pb n cap, .slice (some ⟨W.heap.size, 0, none⟩) 4 4] tBytes)) = w1 at *
      refine (concat2_any w1 _ pb _ n cap 4 4 iv one4 _ hc (hb1.below hB) ho.rowAt0 Hn.out rfl (by omega)).mono ?_
      rintro e w2 ⟨v, rfl, hown, hB2⟩
      rw [← Hf2.out] at hown
      have hBB := hB.trans (hB2.mono hs)
      obtain ⟨g, c, rest, rfl, hcc, hg, hgb⟩ := hown.blk (by rw [hfl]; decide)
      rw [hfl] at hcc ⊢
      have hrow := hgb.headRow
      have harr := arrayAt16 w2 (some ⟨g, 0, none⟩) 16 c (Nat.le_refl _)
      have hr2 := hr0.below hBB hr0.lt
      have hB3 := hB0.trans (hBB.mono hB0.size)
      have hrng := hrow.range
      clear hown hB2 hB hc ho hgb
      go_wp2_with (first | (refine wpList_load_mid rfl 100 (.tmp 19) rfl g 0 rfl (bys q) _ hrng under54 rfl hsq ?_) | (refine wpList_store_mid rfl 100 (.tmp 4) (.tmp 20) rfl w.heap.size 0 (bys q).toArray rfl rfl (hr2.there 0 _ (by rw [List.size_toArray, bys_length, bys_length, hfl]; decide)) (by rw [size54, List.size_toArray, bys_length, hfl]) (all_oneCell_toArray (bys_one _)) ?_))
      obtain ⟨h1, h2⟩ := Hend.out _ hr2 hB3
      refine bodyPost_ret (v := .agg (bys q).toArray) (results_cell_row (P := Tryz.prog) (p := 4) (ty := 100) rfl _ _ w.heap.size tA16 _ (0, 0) _ rfl h1 under54 rfl hsq) rfl ⟨rfl, h2⟩
    · rw [if_neg h12] at hff
      have q1 : ((n : Int) == 12) = false := by rw [beq_eq_false_iff_ne]; omega
      have Hf2 := hid hff
      clear hff
      go_wp2_with fail
      have hc := Blk.new W [.slice pb n cap] tBytes
      have hB : Below W.heap.size W (W.alloc (.cells #[.slice pb n cap] tBytes)) := (Below.refl _ _).alloc (Nat.le_refl _) _
      change Calls _ _ #[_, .int .i64 ((0 : Nat) : Int), _, _] (W.alloc (.cells #[.slice pb n cap] tBytes)) _
      generalize W.alloc (.cells #[.slice pb n cap] tBytes) = w1 at *
      refine (hash_any w1 _ (enc rk) (hkv1.below hB) 0 n (by omega) (by omega) W.heap.size [⟨pb, n, cap, iv⟩] 1 rfl (by omega) hc (by intro r hr; simp at hr; subst hr; exact ⟨hb1.below hB, Hn.out, by show n < 1000000; omega⟩)).mono ?_
      rintro e w2 ⟨rfl, hB2⟩
      have hhf : hashF (enc rk) 0 n [⟨pb, n, cap, iv⟩] = q := by rw [Hf2.out]; unfold hashF padAll; simp
      rw [hhf]
      have hs := hB.size
      have hBB := hB.trans (hB2.mono hs)
      have hr2 := hr0.below hBB hr0.lt
      have hB3 := hB0.trans (hBB.mono hB0.size)
      go_wp2_with (refine wpList_store_mid rfl 100 (.tmp 4) (.tmp 26) rfl w.heap.size 0 (bys q).toArray rfl rfl (hr2.there 0 _ (by rw [List.size_toArray, bys_length, bys_length, hfl]; decide)) (by rw [size54, List.size_toArray, bys_length, hfl]) (all_oneCell_toArray (bys_one _)) ?_)
      obtain ⟨h1, h2⟩ := Hend.out _ hr2 hB3
      refine bodyPost_ret (v := .agg (bys q).toArray) (results_cell_row (P := Tryz.prog) (p := 4) (ty := 100) rfl _ _ w.heap.size tA16 _ (0, 0) _ rfl h1 under54 rfl hsq) rfl ⟨rfl, h2⟩
end Go.Proofs.YtnmmnlffobnbfaaGreatDoor

/- gcm: stream, tag -/
namespace Go.Proofs.YtnmmnlffobnbfaaGreatDoor
open Go.RowKit

/-- A counter, k on, in its last four bytes. -/
def gcnt (c : List UInt8) (k : Nat) : List UInt8 := c.take 12 ++ toBe 4 (be (c.drop 12) + k)
theorem gcnt_len {c : List UInt8} (h : c.length = 16) (k : Nat) : (gcnt c k).length = 16 := by unfold gcnt; rw [List.length_append, List.length_take, toBe_len, h]; rfl
/-- k blocks of the stream. -/
def gblk (E : List UInt8 → List UInt8) (c : List UInt8) : Nat → List UInt8
  | 0 => []
  | k + 1 => gblk E c k ++ E (gcnt c (k + 1))
theorem gblk_len (E : List UInt8 → List UInt8) (c : List UInt8) (hE : ∀ s : List UInt8, s.length = 16 → (E s).length = 16) (hc : c.length = 16) : ∀ k, (gblk E c k).length = 16 * k
  | 0 => rfl
  | k + 1 => by rw [gblk, List.length_append, gblk_len E c hE hc k, hE _ (gcnt_len hc _)]; omega
def streamF (E : List UInt8 → List UInt8) (c : List UInt8) (m : Nat) : List UInt8 := (gblk E c (nblk m)).take m
theorem streamF_len (E : List UInt8 → List UInt8) (c : List UInt8) (m : Nat) (hE : ∀ s : List UInt8, s.length = 16 → (E s).length = 16) (hc : c.length = 16) : (streamF E c m).length = m := by
  unfold streamF
  rw [List.length_take, gblk_len E c hE hc]; unfold nblk; omega

set_option maxRecDepth 100000 in
set_option maxHeartbeats 4000000 in
theorem gstream_any (w : World) (kv : Option Addr) (E : List UInt8 → List UInt8) (hk : KeyV w kv E) (c : List UInt8) (hc : c.length = 16) (m : Nat) (hm : m < 1000000) :
    Calls Tryz.prog 138 #[.pointer kv, .agg (bys c).toArray, .int .i64 m] w fun e w' => ∃ pa cap, e = .returned (.slice pa m cap) ∧ RowAt w' pa (streamF E c m) ∧ m ≤ cap ∧ Below w.heap.size w w' := by
  have h0 := Blk.new w (bys c) tA16
  have hB0 : Below w.heap.size w (w.alloc (.cells (bys c).toArray tA16)) := (Below.refl _ _).alloc (Nat.le_refl _) _
  have hrw := ((h0.rowAt 12 4).congr (show (c.drop 12).take 4 = c.drop 12 by rw [List.take_of_length_le]; simp [hc]))
  have hdl : (c.drop 12).length = 4 := by rw [List.length_drop, hc]
  have hbl := be_lt (c.drop 12)
  rw [hdl] at hbl
  obtain ⟨x, hx⟩ : ∃ x, be (c.drop 12) = x := ⟨_, rfl⟩
  have hg : ∀ k, gcnt c k = c.take 12 ++ toBe 4 (x + k) := fun k => by unfold gcnt; rw [hx]
  have hgl := fun k => gcnt_len hc k
  have hbe : gblk E c 0 = [] := rfl
  obtain ⟨K, hK⟩ : ∃ K, nblk m = K := ⟨_, rfl⟩
  have hK9 : K ≤ 1000000 := by rw [← hK]; unfold nblk; omega
  have q1 : ((m : Int) + 16 - 1).tdiv 16 = (K : Int) := by rw [Int.tdiv_eq_ediv_of_nonneg (by omega), ← hK]; unfold nblk; omega
  have q2 : ((m : Int) + 16 - 1) / 16 = (K : Int) := by rw [← hK]; unfold nblk; omega
  have hEl : ∀ s : List UInt8, s.length = 16 → (E s).length = 16 := fun s hs => hk.len s hs
  have hgb := gblk_len E c hEl hc
  have Hc := hid hc
  have Hk := hid hk
  have HK := hid hK
  have Hg := hid hg
  have Hgl := hid hgl
  have Hgb := hid hgb
  have HEl := hid hEl
  have hxl : x < 4294967296 := by rw [← hx]; exact hbl
  clear hc hk hK hg hgl hgb hEl
  go_enter Tryz.func138, Tryz.ntmps138
  go_wp2_with fail
  change Calls _ _ _ (w.alloc (.cells (bys c).toArray tA16)) _
  generalize w.alloc (.cells (bys c).toArray tA16) = W at *
  refine (big_any W _ 4 4 (c.drop 12) hrw hdl (by omega)).mono ?_
  rintro e w' ⟨rfl, rfl⟩
  rw [hx]
  have q3 : IntKind.u32.wrap (x : Int) = (x : Int) := by rw [IntKind.wrap_u32]; omega
  have q4 : (x : Int) % 4294967296 = (x : Int) := by omega
  have lW := h0.lt
  go_wp2_with fail
  go_loopw [8, 18] (fun v i wx => ∃ k : Nat, k ≤ K ∧ i = .int .i64 k ∧ OwnR W.heap.size wx v (gblk E c k) ∧ (∃ t4 : List UInt8, t4.length = 4 ∧ Blk wx w.heap.size (bys (c.take 12 ++ t4)) tA16) ∧ Chg W.heap.size [w.heap.size] W wx) (fun _ i _ => K - (intOf i).toNat)
  case atStart => exact ⟨0, by omega, rfl, OwnR.nil _ _, ⟨c.drop 12, hdl, by rw [List.take_append_drop]; exact h0⟩, Chg.refl _ _ _⟩
  case round =>
    obtain ⟨k, hk, rfl, hown, ⟨t4, ht4, hb4⟩, hC⟩ := hrel
    have Hown := hid hown
    have hsz := hC.size
    clear hown h0
    by_cases hlt : k < K
    · obtain ⟨y1, hy1⟩ : ∃ y1, (x + k) % 4294967296 = y1 := ⟨_, rfl⟩
      obtain ⟨y2, hy2⟩ : ∃ y2, (y1 + 1) % 4294967296 = y2 := ⟨_, rfl⟩
      have r0 : IntKind.u32.wrap (k : Int) = (k : Int) := by rw [IntKind.wrap_u32]; omega
      have r1 : IntKind.u32.wrap ((x : Int) + (k : Int)) = (y1 : Int) := by rw [IntKind.wrap_u32]; omega
      have r2 : IntKind.u32.wrap ((y1 : Int) + 1) = (y2 : Int) := by rw [IntKind.wrap_u32]; omega
      have r3 : IntKind.u64.wrap (y2 : Int) = (y2 : Int) := by rw [IntKind.wrap_u64]; omega
      have hy64 : y2 < 18446744073709551616 := by omega
      have ht : toBe 4 y2 = toBe 4 (x + (k + 1)) := toBe_congr 4 (by show y2 % 4294967296 = (x + (k + 1)) % 4294967296; omega)
      have hg1 := Hg.out (k + 1)
      have hgl := Hgl.out (k + 1)
      rw [← ht] at hg1
      have hgs : gblk E c (k + 1) = gblk E c k ++ E (gcnt c (k + 1)) := rfl
      obtain ⟨G, hG⟩ : ∃ G, gcnt c (k + 1) = G := ⟨_, rfl⟩
      rw [hG] at hg1 hgl hgs
      have hspl : splice (bys (c.take 12 ++ t4)) 12 ((List.drop 0 (bys (toBe 4 y2))).take 4) = bys G := by
        have hl := toBe_len 4 y2
        have h12 : (c.take 12).length = 12 := by rw [List.length_take, Hc.out]; rfl
        have e1 : bys (c.take 12 ++ t4) = bys (c.take 12) ++ bys t4 := by simp [bys]
        have e2 : bys G = bys (c.take 12) ++ bys (toBe 4 y2) := by rw [hg1]; simp [bys]
        rw [e1, e2]
        unfold splice
        rw [List.drop_zero, List.take_of_length_le (l := bys (toBe 4 y2)) (by rw [bys_length, hl]; exact Nat.le_refl _), List.take_append_of_le_length (by rw [bys_length, h12]; exact Nat.le_refl _), List.take_of_length_le (by rw [bys_length, h12]; exact Nat.le_refl _),
          List.drop_of_length_le (by rw [List.length_append, bys_length, bys_length, bys_length, h12, ht4, hl]; decide), List.append_nil]
      have hl12 : (bys (c.take 12 ++ t4)).length = 16 := by rw [bys_length, List.length_append, List.length_take, Hc.out, ht4]; rfl
      have Hspl := hid hspl
      have Hgs := hid hgs
      have q5 : (k : Int) < (K : Int) := by omega
      have hCd := hC.drew
      have hEG := HEl.out G hgl
      have Hg1 := hid hg1
      clear hspl hgs hg1 hG ht hy1 hy2 hC
      obtain ⟨Z, hZ⟩ : ∃ Z, bys (c.take 12 ++ t4) = Z := ⟨_, rfl⟩
      rw [hZ] at hb4 hl12 Hspl
      clear hZ
      go_upto_region 6 with fail
      try simp only [Act.put]
      refine tkR (fun _ => True) [] (by kernel_rfl) (fun c a d v w h => by cases d <;> exact h) (trivial) (fun hPF hHeld => ?_)
      refine tkB 0 (.some 21) _ _ rfl rfl (by kernel_rfl) (by kernel_rfl) (by kernel_rfl) (by kernel_rfl) hPF rfl (fun w' => by (go_simp; try with_reducible rfl)) hHeld (fun hHeld => ?_)
      simp only [Act.put, List.setIfInBounds_toArray, List.set_cons_zero, List.set_cons_succ]
      refine tkB 1 (.some 22) _ _ rfl rfl (by kernel_rfl) (by kernel_rfl) (by kernel_rfl) (by kernel_rfl) hPF rfl (fun w' => by (go_simp; try with_reducible rfl)) hHeld (fun hHeld => ?_)
      simp only [Act.put, List.setIfInBounds_toArray, List.set_cons_zero, List.set_cons_succ]
      refine tkB 2 (.some 23) _ _ rfl rfl (by kernel_rfl) (by kernel_rfl) (by kernel_rfl) (by kernel_rfl) hPF rfl (fun w' => by (go_simp; try with_reducible rfl)) hHeld (fun hHeld => ?_)
      simp only [Act.put, List.setIfInBounds_toArray, List.set_cons_zero, List.set_cons_succ]
      refine tkB 3 (.some 24) _ _ rfl rfl (by kernel_rfl) (by kernel_rfl) (by kernel_rfl) (by kernel_rfl) hPF rfl (fun w' => by (go_simp; try with_reducible rfl)) hHeld (fun hHeld => ?_)
      simp only [Act.put, List.setIfInBounds_toArray, List.set_cons_zero, List.set_cons_succ]
      refine tkB 4 (.some 25) _ _ rfl rfl (by kernel_rfl) (by kernel_rfl) (by kernel_rfl) (by kernel_rfl) hPF rfl (fun w' => by (go_simp; try with_reducible rfl)) hHeld (fun hHeld => ?_)
      simp only [Act.put, List.setIfInBounds_toArray, List.set_cons_zero, List.set_cons_succ]
      refine tkB 5 (.some 26) _ _ rfl rfl (by kernel_rfl) (by kernel_rfl) (by kernel_rfl) (by kernel_rfl) hPF rfl (fun w' => by (go_simp; try with_reducible rfl)) hHeld (fun hHeld => ?_)
      simp only [Act.put, List.setIfInBounds_toArray, List.set_cons_zero, List.set_cons_succ]
      refine tkB 6 (.some 27) _ _ rfl rfl (by kernel_rfl) (by kernel_rfl) (by kernel_rfl) (by kernel_rfl) hPF rfl (fun w' => by (go_simp; try with_reducible rfl)) hHeld (fun hHeld => ?_)
      simp only [Act.put, List.setIfInBounds_toArray, List.set_cons_zero, List.set_cons_succ]
      have hS := hHeld (by kernel_rfl)
      refine tkW (rs := [7]) (by kernel_rfl) (by simp) (AllK.cons (o := _) rfl (fun KC hKC => ?_) AllK.nil)
      go_simp
      refine (putbig_any _ y2 4 hy64 (by omega)).mono ?_
      rintro e w3 ⟨rfl, hp3, hB3⟩
      have hb5 := hb4.drew.below hB3 hb4.lt
      have hown5 := Hown.out.drew.below hB3
      have hC5 := hCd.trans ((Chg.ofBelow hB3).mono (M := W.heap.size) (G := [w.heap.size]) hsz (fun _ _ h => h))
      have hs5 := hB3.size
      refine hKC.out _ _ (trivial) (fun hHeld => ?_)
      clear hKC KC
      try simp only [Act.put, List.setIfInBounds_toArray, List.set_cons_zero, List.set_cons_succ]
      have hS := hHeld (by kernel_rfl)
      refine tkW (rs := [8]) (by kernel_rfl) (by simp) (AllK.cons (o := _) rfl (fun KC hKC => ?_) AllK.nil)
      refine wantIt rfl (wp_copy_blk (.some 29) rfl (.tmp 21) (.tmp 28) 23 23 rfl 5 under33b (by kernel_rfl) w.heap.size 12 4 4 (wr.drew.heap.size + 1) 0 4 4 rfl rfl Z (bys (toBe 4 y2)) tA16 tU8 hb5 hp3 4 rfl (by rw [hl12]; decide) (by rw [bys_length, toBe_len]; decide) (bys_one _) ?_)
      intro w6 hb6 hC6 hs6
      rw [Hspl.out] at hb6
      have hown6 := hown5.chg hC6 (Nat.le_refl _) (fun j e => by have := (Hown.out.lt j e).1; simp; omega)
      have hs56 : W.heap.size ≤ w3.heap.size := Nat.le_trans hsz hs5
      have hC7 := hC5.trans (hC6.mono (M := W.heap.size) (G := [w.heap.size]) hs56 (fun _ _ h => h))
      refine hKC.out _ _ (trivial) (fun hHeld => ?_)
      clear hKC KC
      try simp only [Act.put, List.setIfInBounds_toArray, List.set_cons_zero, List.set_cons_succ]
      refine tkD (by kernel_rfl) ?_ _
      have hsx : (Tryz.prog.info? 100).map (·.size) = some (bys G).length := by rw [size54, bys_length, hgl]
      have hBw := hB0.trans (hC7.below (M := w.heap.size) hB0.size (fun k hk => by simp at hk; omega))
      have hkv := Hk.out.below hBw
      clear hb5 hp3 hC5 hs5 hC6 hs6 hown5 hCd
      go_wp2_with (refine wpList_load_mid rfl 100 (.tmp 4) rfl w.heap.size 0 rfl (bys G) _ hb6.whole under54 rfl hsx ?_)
      refine (keyv_enc hkv G hgl).mono ?_
      rintro e w8 ⟨rfl, hB8⟩
      have hb8 := hb6.below hB8 hb6.lt
      have hown8 := hown6.below hB8
      have hC8 := hC7.trans ((Chg.ofBelow hB8).mono (M := W.heap.size) (G := [w.heap.size]) hC7.size (fun _ _ h => h))
      have hs8 := hC8.size
      obtain ⟨Y, hY⟩ : ∃ Y, E G = Y := ⟨_, rfl⟩
      have hgs := Hgs.out
      rw [hY] at hEG hgs ⊢
      have hl0 : Blk (w8.alloc (.cells (bys z16).toArray tA16)) w8.heap.size (bys z16) tA16 := Blk.new _ _ _
      have hl1 := hl0.setCells (bys Y) 0 (by rw [bys_length, bys_length, hEG]; decide)
      rw [splice_whole _ _ (by rw [bys_length, bys_length, hEG]; rfl)] at hl1
      have hBa : Below w8.heap.size w8 ((w8.alloc (.cells (bys z16).toArray tA16)).setCells w8.heap.size 0 (bys Y)) := ((Below.refl _ _).alloc (Nat.le_refl _) _).trans (((Chg.refl (w8.alloc (.cells (bys z16).toArray tA16)).heap.size [w8.heap.size] (w8.alloc (.cells (bys z16).toArray tA16))).setCells (b := w8.heap.size) (.inl (by simp)) (bys Y) 0).below (M := w8.heap.size) (by simp) (fun k hk => by simp at hk; omega))
      have hb9 := hb8.below hBa hb8.lt
      have hown9 := hown8.below hBa
      have hC9 := hC8.trans ((Chg.ofBelow hBa).mono (M := W.heap.size) (G := [w.heap.size]) hs8 (fun _ _ h => h))
      have hs9 := hC9.size
      have Hgs2 := hid hgs
      clear hb8 hown8 hC8 hb6 hown6 hC7 hB8 hBa hY hgs Hgs hkv
      go_upto_region 8 with (refine wpList_store_mid rfl 100 (.tmp 10) (.tmp 32) rfl w8.heap.size 0 (bys Y).toArray rfl rfl (hl0.there 0 _ (by rw [List.size_toArray, bys_length, bys_length, hEG]; decide)) (by rw [size54, List.size_toArray, bys_length, hEG]) (all_oneCell_toArray (bys_one _)) ?_)
      change Code.wp _ _ _ _ ((w8.alloc (.cells (bys z16).toArray tA16)).setCells w8.heap.size 0 (bys Y))
      generalize (w8.alloc (.cells (bys z16).toArray tA16)).setCells w8.heap.size 0 (bys Y) = w9 at *
      have hgbl := Hgb.out k
      go_upto_region 9 with (refine wpList_addO hown9 rfl (.tmp 33) (.tmp 34) rfl rfl (some ⟨w8.heap.size, 0, none⟩) 16 16 Y rfl hl1.rowAt0 hEG (by rw [hgbl]; omega) hs9 ?_; intro v10 w10 hown10 hgrow10 _)
      rw [← Hgs2.out] at hown10
      have hC10 := hC9.grown hgrow10 hs9 (fun j e => .inr (hown9.lt j e).1)
      have hb10 := hb9.kept hgrow10 (fun e => by have := (hown9.lt _ e).1; omega)
      have hGsp : ∃ t4 : List UInt8, t4.length = 4 ∧ Blk w10 w.heap.size (bys (c.take 12 ++ t4)) tA16 := ⟨toBe 4 y2, toBe_len _ _, by rw [← Hg1.out]; exact hb10⟩
      have Hown10 := hid hown10
      clear hown10 hgrow10 hb9 hown9 hl0 hl1
      go_wp2_with fail
      go_roundw
      case rel => exact ⟨k + 1, by omega, by go_num, Hown10.out, hGsp, hC10⟩
      case measure => (simp [intOf]; try omega)
    · have hkK : k = K := by omega
      have ho := Hown.out
      have hl := Hgb.out k
      obtain ⟨pa, cp, rfl, hcp, hrow⟩ := ho.row
      have q5 : ¬ ((k : Int) < (K : Int)) := by omega
      have hmK : m ≤ 16 * k := by rw [hkK, ← HK.out]; unfold nblk; omega
      rw [hl] at hcp ⊢
      have hrm := hrow.take m
      have hst : (gblk E c k).take m = streamF E c m := by unfold streamF; rw [HK.out, hkK]
      rw [hst] at hrm
      have Hrm := hid hrm
      have hmc : m ≤ cp := by omega
      have q6 : (m : Int) ≤ (cp : Int) := by omega
      have hBw := hB0.trans (hC.below (M := w.heap.size) hB0.size (fun k hk => by simp at hk; omega))
      clear hkK hst hrm hrow hC hb4 Hown ho hl hlt
      go_wp2_with fail
      go_ret
      exact ⟨pa, cp, rfl, Hrm.out, hmc, hBw⟩

def gtagF (E : List UInt8 → List UInt8) (c aad sealed : List UInt8) : List UInt8 := List.zipWith (· ^^^ ·) (ghF (E z16) (padZ aad ++ padZ sealed ++ lenF aad.length sealed.length)) (E c)
theorem gtagF_len (E : List UInt8 → List UInt8) (c aad sealed : List UInt8) (h : (E c).length = 16) : (gtagF E c aad sealed).length = 16 := by
  unfold gtagF; rw [List.length_zipWith, ghF_len, h]; rfl

set_option maxRecDepth 100000 in
set_option maxHeartbeats 4000000 in
theorem tag_any (w : World) (kv : Option Addr) (E : List UInt8 → List UInt8) (hk : KeyV w kv E) (c : List UInt8) (hc : c.length = 16) (pa : Option Addr) (n ca : Nat) (a : List UInt8) (ha : RowAt w pa a) (hn : a.length = n) (hn9 : n < 1000000)
    (pb : Option Addr) (m cb : Nat) (b : List UInt8) (hb : RowAt w pb b) (hm : b.length = m) (hm9 : m < 1000000) :
    Calls Tryz.prog 136 #[.pointer kv, .agg (bys c).toArray, .slice pa n ca, .slice pb m cb] w fun e w' => ∃ g, e = .returned (.slice (some ⟨g, 0, none⟩) 16 16) ∧ w.heap.size ≤ g ∧ Blk w' g (bys (gtagF E c a b)) tU8 ∧ Below w.heap.size w w' := by
  have h0 := Blk.new w (bys c) tA16
  have hB0 : Below w.heap.size w (w.alloc (.cells (bys c).toArray tA16)) := (Below.refl _ _).alloc (Nat.le_refl _) _
  have hsc : (Tryz.prog.info? 100).map (·.size) = some (bys c).length := by rw [size54, bys_length, hc]
  have htl := gtagF_len E c a b (hk.len c hc)
  have htf : gtagF E c a b = List.zipWith (· ^^^ ·) (hashF E n m [⟨pa, n, ca, a⟩, ⟨pb, m, cb, b⟩]) (E c) := by
    unfold gtagF hashF padAll; rw [hn, hm]; simp
  have hhl : (hashF E n m [⟨pa, n, ca, a⟩, ⟨pb, m, cb, b⟩]).length = 16 := ghF_len _ _
  have hel := hk.len c hc
  have Ha := hid ha
  have Hb := hid hb
  have Hn := hid hn
  have Hm := hid hm
  have Hk := hid hk
  have Hc := hid hc
  obtain ⟨H, hH⟩ : ∃ H, hashF E n m [⟨pa, n, ca, a⟩, ⟨pb, m, cb, b⟩] = H := ⟨_, rfl⟩
  rw [hH] at htf hhl
  have HH := hid hH
  have Htf := hid htf
  clear ha hb hn hm hk hc hH htf
  go_enter Tryz.func136, Tryz.ntmps136
  go_wp2_with fail
  have hw1 : Blk ((w.alloc (.cells (bys c).toArray tA16)).alloc (.cells #[.slice pa n ca, .slice pb m cb] tBytes)) (w.heap.size + 1) [.slice pa n ca, .slice pb m cb] tBytes := by
    have := Blk.new (w.alloc (.cells (bys c).toArray tA16)) [.slice pa n ca, .slice pb m cb] tBytes
    simp only [World.size_alloc] at this; exact this
  have h01 := h0.alloc (.cells #[.slice pa n ca, .slice pb m cb] tBytes)
  have hB1 : Below w.heap.size w ((w.alloc (.cells (bys c).toArray tA16)).alloc (.cells #[.slice pa n ca, .slice pb m cb] tBytes)) := hB0.alloc (by simp) _
  change Calls _ _ _ ((w.alloc (.cells (bys c).toArray tA16)).alloc (.cells #[.slice pa n ca, .slice pb m cb] tBytes)) _
  generalize (w.alloc (.cells (bys c).toArray tA16)).alloc (.cells #[.slice pa n ca, .slice pb m cb] tBytes) = w1 at *
  refine (hash_any w1 kv E (Hk.out.below hB1) n m (by omega) (by omega) (w.heap.size + 1) [⟨pa, n, ca, a⟩, ⟨pb, m, cb, b⟩] 2 rfl (by omega) hw1 (by
    intro r hr
    simp only [List.mem_cons, List.not_mem_nil, or_false] at hr
    rcases hr with rfl | rfl
    · exact ⟨Ha.out.below hB1, Hn.out, hn9⟩
    · exact ⟨Hb.out.below hB1, Hm.out, hm9⟩)).mono ?_
  rintro e w2 ⟨rfl, hB2⟩
  rw [HH.out]
  have h02 := h01.below hB2 h01.lt
  have hBB := hB1.trans (hB2.mono hB1.size)
  have hs0 : Blk (w2.alloc (.cells (bys z16).toArray tA16)) w2.heap.size (bys z16) tA16 := Blk.new _ _ _
  have hs1 := hs0.setCells (bys H) 0 (by rw [bys_length, bys_length, hhl]; decide)
  rw [splice_whole _ _ (by rw [bys_length, bys_length, hhl]; rfl)] at hs1
  have hBa : Below w2.heap.size w2 ((w2.alloc (.cells (bys z16).toArray tA16)).setCells w2.heap.size 0 (bys H)) := ((Below.refl _ _).alloc (Nat.le_refl _) _).trans (((Chg.refl (w2.alloc (.cells (bys z16).toArray tA16)).heap.size [w2.heap.size] (w2.alloc (.cells (bys z16).toArray tA16))).setCells (b := w2.heap.size) (.inl (by simp)) (bys H) 0).below (M := w2.heap.size) (by simp) (fun k hk => by simp at hk; omega))
  have h03 := h02.below hBa h02.lt
  have hB3 := hBB.trans (hBa.mono hBB.size)
  clear h0 h01 hB0 hB1 hB2 h02 hBB hw1
  go_upto_region 2 with (refine wpList_store_mid rfl 100 (.tmp 9) (.tmp 19) rfl w2.heap.size 0 (bys H).toArray rfl rfl (hs0.there 0 _ (by rw [List.size_toArray, bys_length, bys_length, hhl]; decide)) (by rw [size54, List.size_toArray, bys_length, hhl]) (all_oneCell_toArray (bys_one _)) ?_)
  change Code.wp _ _ _ _ ((w2.alloc (.cells (bys z16).toArray tA16)).setCells w2.heap.size 0 (bys H))
  generalize (w2.alloc (.cells (bys z16).toArray tA16)).setCells w2.heap.size 0 (bys H) = w3 at *
  generalize w2.heap.size = sb at *
  go_wp2_with (refine wpList_load_mid rfl 100 (.tmp 5) rfl w.heap.size 0 rfl (bys c) _ h03.whole under54 rfl hsc ?_)
  refine (keyv_enc (Hk.out.below hB3) c Hc.out).mono ?_
  rintro e w4 ⟨rfl, hB4⟩
  have hs4 := hs1.below hB4 hs1.lt
  have hB5 := hB3.trans (hB4.mono hB3.size)
  obtain ⟨Y, hY⟩ : ∃ Y, E c = Y := ⟨_, rfl⟩
  have htf := Htf.out
  rw [hY] at hel htf ⊢
  have he0 : Blk (w4.alloc (.cells (bys z16).toArray tA16)) w4.heap.size (bys z16) tA16 := Blk.new _ _ _
  have he1 := he0.setCells (bys Y) 0 (by rw [bys_length, bys_length, hel]; decide)
  rw [splice_whole _ _ (by rw [bys_length, bys_length, hel]; rfl)] at he1
  have hBa : Below w4.heap.size w4 ((w4.alloc (.cells (bys z16).toArray tA16)).setCells w4.heap.size 0 (bys Y)) := ((Below.refl _ _).alloc (Nat.le_refl _) _).trans (((Chg.refl (w4.alloc (.cells (bys z16).toArray tA16)).heap.size [w4.heap.size] (w4.alloc (.cells (bys z16).toArray tA16))).setCells (b := w4.heap.size) (.inl (by simp)) (bys Y) 0).below (M := w4.heap.size) (by simp) (fun k hk => by simp at hk; omega))
  have hs5 := hs4.below hBa hs4.lt
  have hB6 := hB5.trans (hBa.mono hB5.size)
  have Htf2 := hid htf
  clear hs0 hs1 h03 hB3 hB4 hs4 hB5 hY htf Htf
  go_upto_region 3 with (refine wpList_store_mid rfl 100 (.tmp 10) (.tmp 22) rfl w4.heap.size 0 (bys Y).toArray rfl rfl (he0.there 0 _ (by rw [List.size_toArray, bys_length, bys_length, hel]; decide)) (by rw [size54, List.size_toArray, bys_length, hel]) (all_oneCell_toArray (bys_one _)) ?_)
  change Code.wp _ _ _ _ ((w4.alloc (.cells (bys z16).toArray tA16)).setCells w4.heap.size 0 (bys Y))
  generalize (w4.alloc (.cells (bys z16).toArray tA16)).setCells w4.heap.size 0 (bys Y) = w5 at *
  generalize w4.heap.size = eb at *
  have hfin := hB6.size
  try simp only [Act.put]
  refine tkR (fun _ => True) [] (by kernel_rfl) (fun c a d v w h => by cases d <;> exact h) (trivial) (fun hPF hHeld => ?_)
  refine tkB 0 (.some 23) _ _ rfl rfl (by kernel_rfl) (by kernel_rfl) (by kernel_rfl) (by kernel_rfl) hPF rfl (fun w' => by (go_simp; try with_reducible rfl)) hHeld (fun hHeld => ?_)
  simp only [Act.put, List.setIfInBounds_toArray, List.set_cons_zero, List.set_cons_succ]
  refine tkB 1 (.some 24) _ _ rfl rfl (by kernel_rfl) (by kernel_rfl) (by kernel_rfl) (by kernel_rfl) hPF rfl (fun w' => by (go_simp; try with_reducible rfl)) hHeld (fun hHeld => ?_)
  simp only [Act.put, List.setIfInBounds_toArray, List.set_cons_zero, List.set_cons_succ]
  have hS := hHeld (by kernel_rfl)
  refine tkW (rs := [2]) (by kernel_rfl) (by simp) (AllK.cons (o := _) rfl (fun KC hKC => ?_) AllK.nil)
  go_simp
  refine (xor_any _ (some ⟨sb, 0, none⟩) (some ⟨eb, 0, none⟩) 16 16 16 16 16 H Y hs5.drew.rowAt0 he1.drew.rowAt0 hhl hel (by omega) rfl).mono ?_
  rintro e w7 ⟨rfl, hX, hB7⟩
  rw [← Htf2.out] at hX
  have hB8 := hB6.drew.trans (hB7.mono hB6.size)
  refine hKC.out _ _ (trivial) (fun hHeld => ?_)
  clear hKC KC
  try simp only [Act.put, List.setIfInBounds_toArray, List.set_cons_zero, List.set_cons_succ]
  refine tkB 3 (.some 8) _ _ rfl rfl (by kernel_rfl) (by kernel_rfl) (by kernel_rfl) (by kernel_rfl) hPF rfl (fun w' => by (go_simp; try with_reducible rfl)) hHeld (fun hHeld => ?_)
  simp only [Act.put, List.setIfInBounds_toArray, List.set_cons_zero, List.set_cons_succ]
  refine tkD (by kernel_rfl) ?_ _
  go_wp2_with fail
  go_ret
  exact ⟨_, rfl, by (show _ ≤ w5.heap.size + 2; omega), hX, hB8⟩
end Go.Proofs.YtnmmnlffobnbfaaGreatDoor

/- gcm: Seal -/
namespace Go.Proofs.YtnmmnlffobnbfaaGreatDoor
open Go.RowKit

theorem OwnR.ofBlk {w : World} {g base n : Nat} {l : List UInt8} (h : Blk w g (bys l) tU8) (hb : base ≤ g) (hl : l.length = n) (h9 : n < 1000000000) : OwnR base w (.slice (some ⟨g, 0, none⟩) n n) l := by
  subst hl
  exact ⟨by rw [bys_length, Nat.mul_one], .inr ⟨g, l.length, (bys l).toArray, rfl, hb, h, Nat.le_refl _, by unfold maxLen; omega, by rw [List.size_toArray, bys_length, Nat.mul_one], by rw [Nat.mul_one, ← bys_length l]; simp⟩⟩

/-- A text, sealed under a first counter. -/
def sealG (E : List UInt8 → List UInt8) (c aad b : List UInt8) : List UInt8 :=
  List.zipWith (· ^^^ ·) b (streamF E c b.length) ++ gtagF E c aad (List.zipWith (· ^^^ ·) b (streamF E c b.length))
abbrev tPK : TypeId := 134

set_option maxRecDepth 100000 in
set_option maxHeartbeats 4000000 in
theorem seal1_any (w : World) (kv : Option Addr) (E : List UInt8 → List UInt8) (hk : KeyV w kv E) (c : List UInt8) (hc : c.length = 16) (bb kb ab : Nat) (pa : Option Addr) (n ca : Nat) (a : List UInt8) (ha : RowAt w pa a) (hn : a.length = n) (hn9 : n < 1000000)
    (pb : Option Addr) (m cb : Nat) (b : List UInt8) (hb : RowAt w pb b) (hm : b.length = m) (hm9 : m < 1000000)
    (h1 : Blk w bb [.slice pb m cb] tBytes) (h2 : Blk w kb [.pointer kv] tPK) (h3 : Blk w ab [.slice pa n ca] tBytes) :
    Calls Tryz.prog 139 #[.agg (bys c).toArray, .pointer (some ⟨bb, 0, none⟩), .pointer (some ⟨kb, 0, none⟩), .pointer (some ⟨ab, 0, none⟩)] w fun e w' => ∃ v, e = .returned (.tuple #[v, .int .i64 0]) ∧ OwnR w.heap.size w' v (sealG E c a b) ∧ Below w.heap.size w w' := by
  have h0 := Blk.new w (bys c) tA16
  have hB0 : Below w.heap.size w (w.alloc (.cells (bys c).toArray tA16)) := (Below.refl _ _).alloc (Nat.le_refl _) _
  have hsc : (Tryz.prog.info? 100).map (·.size) = some (bys c).length := by rw [size54, bys_length, hc]
  have hsl := streamF_len E c m (fun s hs => hk.len s hs) hc
  have h1 := h1.below hB0 h1.lt
  have h2 := h2.below hB0 h2.lt
  have h3 := h3.below hB0 h3.lt
  have Ha := hid (ha.below hB0)
  have Hb := hid (hb.below hB0)
  have Hk := hid (hk.below hB0)
  have hel := hk.len c hc
  obtain ⟨S, hS⟩ : ∃ S, streamF E c m = S := ⟨_, rfl⟩
  obtain ⟨X, hX⟩ : ∃ X, List.zipWith (· ^^^ ·) b S = X := ⟨_, rfl⟩
  have hXl : X.length = m := by rw [← hX, List.length_zipWith, ← hS, hsl, hm, Nat.min_self]
  have htl := gtagF_len E c a X hel
  have hsg : sealG E c a b = X ++ gtagF E c a X := by unfold sealG; rw [hm, hS, hX]
  rw [hS] at hsl
  have HS := hid hS
  have HX := hid hX
  have Hsg := hid hsg
  have Hm := hid hm
  have Hn := hid hn
  clear ha hb hk hS hX hsg hm hn
  go_enter Tryz.func139, Tryz.ntmps139
  go_wp2_with fail
  change Code.wp _ _ _ _ (w.alloc (.cells (bys c).toArray tA16))
  generalize w.alloc (.cells (bys c).toArray tA16) = w1 at *
  have hbd : Below w1.heap.size w1 w1.drew := (Below.refl _ _).drew
  have lw := h0.lt
  try simp only [Act.put]
  refine tkR (fun w' => Below w1.heap.size w1 w') [] (by kernel_rfl) (fun c a d v w h => by cases d <;> exact h) (hbd) (fun hPF hHeld => ?_)
  refine tkA 0 (.some 8) _ _ rfl rfl (by kernel_rfl) (by kernel_rfl) (by kernel_rfl) (by kernel_rfl) (by kernel_rfl) hPF rfl (fun w' hw' => by (have q := (h1.below hw' h1.lt).cell 0; simp only [List.getElem?_cons_zero] at q; go_simp; try with_reducible rfl)) hHeld (fun hHeld => ?_)
  simp only [Act.put, List.setIfInBounds_toArray, List.set_cons_zero, List.set_cons_succ]
  refine tkA 1 (.some 9) _ _ rfl rfl (by kernel_rfl) (by kernel_rfl) (by kernel_rfl) (by kernel_rfl) (by kernel_rfl) hPF rfl (fun w' hw' => by (have q := (h2.below hw' h2.lt).cell 0; simp only [List.getElem?_cons_zero] at q; go_simp; try with_reducible rfl)) hHeld (fun hHeld => ?_)
  simp only [Act.put, List.setIfInBounds_toArray, List.set_cons_zero, List.set_cons_succ]
  refine tkL 2 (.some 10) _ rfl rfl 100 (.tmp 4) rfl w.heap.size 0 (bys c) _ (by kernel_rfl) (by kernel_rfl) (by kernel_rfl) (by kernel_rfl) (by kernel_rfl) hPF rfl rfl (fun w' hw' => (h0.below hw' h0.lt).whole) under54 rfl hsc hHeld (fun hHeld => ?_)
  simp only [Act.put, List.setIfInBounds_toArray, List.set_cons_zero, List.set_cons_succ]
  refine tkA 3 (.some 11) _ _ rfl rfl (by kernel_rfl) (by kernel_rfl) (by kernel_rfl) (by kernel_rfl) (by kernel_rfl) hPF rfl (fun w' hw' => by (have q := (h1.below hw' h1.lt).cell 0; simp only [List.getElem?_cons_zero] at q; go_simp; try with_reducible rfl)) hHeld (fun hHeld => ?_)
  simp only [Act.put, List.setIfInBounds_toArray, List.set_cons_zero, List.set_cons_succ]
  refine tkB 4 (.some 12) _ _ rfl rfl (by kernel_rfl) (by kernel_rfl) (by kernel_rfl) (by kernel_rfl) hPF rfl (fun w' => by (go_simp; try with_reducible rfl)) hHeld (fun hHeld => ?_)
  simp only [Act.put, List.setIfInBounds_toArray, List.set_cons_zero, List.set_cons_succ]
  have hS := hHeld (by kernel_rfl)
  refine tkW (rs := [5]) (by kernel_rfl) (by simp) (AllK.cons (o := _) rfl (fun KC hKC => ?_) AllK.nil)
  go_simp
  refine (gstream_any _ kv E (Hk.out.below hS) c hc m hm9).mono ?_
  rintro e w2 ⟨p2, c2, rfl, hr2, hc2, hB2⟩
  rw [HS.out] at hr2
  have hS2 := hS.trans (hB2.mono hS.size)
  refine hKC.out _ _ (hS2) (fun hHeld => ?_)
  clear hKC KC
  try simp only [Act.put, List.setIfInBounds_toArray, List.set_cons_zero, List.set_cons_succ]
  have hS := hHeld (by kernel_rfl)
  refine tkW (rs := [6]) (by kernel_rfl) (by simp) (AllK.cons (o := _) rfl (fun KC hKC => ?_) AllK.nil)
  go_simp
  refine (xor_any _ pb p2 m cb m c2 m b S (Hb.out.below hS2) hr2 Hm.out hsl (by omega) (Nat.min_self m).symm).mono ?_
  rintro e w3 ⟨rfl, hx3, hB3⟩
  rw [HX.out] at hx3
  have hS3 := hS2.trans (hB3.mono hS2.size)
  have hge := hS2.size
  refine hKC.out _ _ (hS3) (fun hHeld => ?_)
  clear hKC KC
  try simp only [Act.put, List.setIfInBounds_toArray, List.set_cons_zero, List.set_cons_succ]
  refine tkB 7 (.some 7) _ _ rfl rfl (by kernel_rfl) (by kernel_rfl) (by kernel_rfl) (by kernel_rfl) hPF rfl (fun w' => by (go_simp; try with_reducible rfl)) hHeld (fun hHeld => ?_)
  simp only [Act.put, List.setIfInBounds_toArray, List.set_cons_zero, List.set_cons_succ]
  refine tkD (by kernel_rfl) ?_ _
  have l1 := h1.lt
  have l2 := h2.lt
  have l3 := h3.lt
  have h0 := h0.below hS3 h0.lt
  have h1 := h1.below hS3 h1.lt
  have h2 := h2.below hS3 h2.lt
  have h3 := h3.below hS3 h3.lt
  have q2 := h2.cell 0
  have q3 := h3.cell 0
  simp only [List.getElem?_cons_zero] at q2 q3
  have hBw := hB0.trans (hS3.mono hB0.size)
  have hkv3 := Hk.out.below hS3
  have ha3 := Ha.out.below hS3
  have hs3 := hS3.size
  clear hr2 hB2 hB3 hbd
  go_wp2_with (refine wpList_load_mid rfl 100 (.tmp 4) rfl w.heap.size 0 rfl (bys c) _ h0.whole under54 rfl hsc ?_)
  refine (tag_any w3 kv E hkv3 c hc pa n ca a ha3 Hn.out hn9 (some ⟨w2.heap.size + 2, 0, none⟩) m m X hx3.rowAt0 hXl hm9).mono ?_
  rintro e w4 ⟨g, rfl, hg, hT, hB4⟩
  have hown := (OwnR.ofBlk (base := w.heap.size) hx3 (by omega) hXl (by omega)).below hB4
  have hBw4 := hBw.trans (hB4.mono hBw.size)
  have hs4 := hBw4.size
  have Hown := hid hown
  have hT := hT
  clear hown
  go_wp2_with (refine wpList_addO Hown.out rfl (.tmp 15) (.tmp 20) rfl rfl (some ⟨g, 0, none⟩) 16 16 (gtagF E c a X) rfl hT.rowAt0 htl (by omega) hs4 ?_; intro v5 w5 hown5 hgrow5 _)
  have hBw5 := hBw4.grown hgrow5 hs4 (fun j e => (Hown.out.lt j e).1)
  go_ret2
  exact ⟨v5, rfl, by rw [Hsg.out]; exact hown5, hBw5⟩

set_option maxRecDepth 100000 in
set_option maxHeartbeats 2000000 in
/-- does, with a function that comes to R. -/
theorem does_any (w : World) (kb : Nat) (rk : List UInt8) (hk : KeysAt w kb rk) (hrl : 16 * roundsOf rk + 16 ≤ rk.length) (pb : Option Addr) (n cap : Nat) (iv : List UInt8) (hb : RowAt w pb iv) (hn : iv.length = n) (h9 : n < 100000) (h0 : n ≠ 0)
    (F : Nat) (caps : Array Value) (R : Value → Value → World → Prop) (hcf : ∀ args w, (callFunc F args).run Tryz.prog w = .ok (.enter F args) w)
    (hF : ∀ W, Below w.heap.size w W → Calls Tryz.prog F (#[.agg (bys (firstF (enc rk) iv)).toArray] ++ caps) W fun e W' => ∃ a b, e = .returned (.tuple #[a, b]) ∧ R a b W') :
    Calls Tryz.prog 133 #[.pointer (some ⟨kb, 0, none⟩), .slice pb n cap, .func (.func F) #[] caps] w fun e w' => ∃ a b, e = .returned (.tuple #[a, b]) ∧ R a b w' := by
  have HF := hid hF
  clear hF
  go_enter Tryz.func133, Tryz.ntmps133
  go_wp2_with fail
  refine (right_any w kb rk hk pb n cap).mono ?_
  rintro e w' ⟨rfl, rfl⟩
  rw [if_neg h0]
  go_wp2_with fail
  refine (gfirst_any w kb rk hk hrl pb n cap iv hb hn h9).mono ?_
  rintro e w1 ⟨rfl, hB1⟩
  go_wp2_with fail
  refine (HF.out w1 hB1).mono ?_
  rintro e w2 ⟨a, b, rfl, hR⟩
  go_wp2_with fail
  go_ret2
  exact ⟨a, b, rfl, hR⟩
set_option maxRecDepth 100000 in
set_option maxHeartbeats 2000000 in
theorem does_iv0 (w : World) (kb : Nat) (rk : List UInt8) (hk : KeysAt w kb rk) (pb : Option Addr) (cap F : Nat) (caps : Array Value) :
    Calls Tryz.prog 133 #[.pointer (some ⟨kb, 0, none⟩), .slice pb 0 cap, .func (.func F) #[] caps] w fun e w' => e = .returned (.tuple #[.slice none 0 0, .int .i64 6]) ∧ w = w' := by
  go_enter Tryz.func133, Tryz.ntmps133
  go_wp2_with fail
  refine (right_any w kb rk hk pb 0 cap).mono ?_
  rintro e w' ⟨rfl, rfl⟩
  rw [if_pos rfl]
  go_wp2_with fail
  go_ret2
  exact ⟨rfl, rfl⟩
set_option maxRecDepth 100000 in
set_option maxHeartbeats 2000000 in
theorem does_nil (w : World) (pb : Option Addr) (n cap F : Nat) (caps : Array Value) :
    Calls Tryz.prog 133 #[.pointer none, .slice pb n cap, .func (.func F) #[] caps] w fun e w' => e = .returned (.tuple #[.slice none 0 0, .int .i64 5]) ∧ w = w' := by
  go_enter Tryz.func133, Tryz.ntmps133
  go_wp2_with fail
  refine (right_nil w pb n cap).mono ?_
  rintro e w' ⟨rfl, rfl⟩
  go_wp2_with fail
  go_ret2
  exact ⟨rfl, rfl⟩

/-- The three boxes of Seal and of Open. -/
structure Boxes (w w' : World) (kv av bv' : Value) : Prop where
  k : Blk w' w.heap.size [kv] tPK
  a : Blk w' (w.heap.size + 1) [av] tBytes
  b : Blk w' (w.heap.size + 1 + 1) [bv'] tBytes
  B : Below w.heap.size w w'
theorem boxes_new (w : World) (kv av bv' : Value) : Boxes w (((w.alloc (.cells #[kv] tPK)).alloc (.cells #[av] tBytes)).alloc (.cells #[bv'] tBytes)) kv av bv' :=
  ⟨((Blk.new w [kv] tPK).alloc _).alloc _, by (have := (Blk.new (w.alloc (.cells #[kv] tPK)) [av] tBytes).alloc (.cells #[bv'] tBytes); simp only [World.size_alloc] at this; exact this),
    by (have := Blk.new ((w.alloc (.cells #[kv] tPK)).alloc (.cells #[av] tBytes)) [bv'] tBytes; simp only [World.size_alloc] at this; exact this), (((Below.refl _ _).alloc (Nat.le_refl _) _).alloc (by simp) _).alloc (by simp; omega) _⟩
theorem callseal1 (args : Array Value) (w : World) : (callFunc 139 args).run Tryz.prog w = .ok (.enter 139 args) w := by kernel_rfl

set_option maxRecDepth 100000 in
set_option maxHeartbeats 2000000 in
/-- gcm.Seal. -/
theorem gseal_any (w : World) (kb : Nat) (rk : List UInt8) (hk : KeysAt w kb rk) (hrl : 16 * roundsOf rk + 16 ≤ rk.length) (pi : Option Addr) (l ci : Nat) (iv : List UInt8) (hi : RowAt w pi iv) (hl : iv.length = l) (h9 : l < 100000) (h0 : l ≠ 0)
    (pa : Option Addr) (n ca : Nat) (a : List UInt8) (ha : RowAt w pa a) (hn : a.length = n) (hn9 : n < 1000000) (pb : Option Addr) (m cb : Nat) (b : List UInt8) (hb : RowAt w pb b) (hm : b.length = m) (hm9 : m < 1000000) :
    Calls Tryz.prog 93 #[.pointer (some ⟨kb, 0, none⟩), .slice pi l ci, .slice pa n ca, .slice pb m cb] w fun e w' => ∃ v, e = .returned (.tuple #[v, .int .i64 0]) ∧ OwnR w.heap.size w' v (sealG (enc rk) (firstF (enc rk) iv) a b) ∧ Below w.heap.size w w' := by
  have hX := boxes_new w (.pointer (some ⟨kb, 0, none⟩)) (.slice pa n ca) (.slice pb m cb)
  have Hk := hid hk
  have Hi := hid hi
  have Ha := hid ha
  have Hb := hid hb
  have Hl := hid hl
  have Hn := hid hn
  have Hm := hid hm
  clear hk hi ha hb hl hn hm
  go_enter Tryz.func93, Tryz.ntmps93
  go_wp2_with fail
  change Calls _ _ _ (((w.alloc (.cells #[.pointer (some ⟨kb, 0, none⟩)] tPK)).alloc (.cells #[.slice pa n ca] tBytes)).alloc (.cells #[.slice pb m cb] tBytes)) _
  generalize (((w.alloc (.cells #[.pointer (some ⟨kb, 0, none⟩)] tPK)).alloc (.cells #[.slice pa n ca] tBytes)).alloc (.cells #[.slice pb m cb] tBytes)) = W at *
  refine (does_any W kb rk (Hk.out.below hX.B) hrl pi l ci iv (Hi.out.below hX.B) Hl.out h9 h0 139 _ (fun v e W' => e = .int .i64 0 ∧ OwnR w.heap.size W' v (sealG (enc rk) (firstF (enc rk) iv) a b) ∧ Below w.heap.size w W') callseal1 (fun W2 hB2 => ?_)).mono ?_
  · have hBB := hX.B.trans (hB2.mono hX.B.size)
    have hkv : KeyV W2 (some ⟨kb, 0, none⟩) (enc rk) := .inr ⟨kb, rk, rfl, Hk.out.below hBB, rfl, hrl⟩
    refine (seal1_any W2 (some ⟨kb, 0, none⟩) (enc rk) hkv _ (firstF_len _ _) (w.heap.size + 1 + 1) w.heap.size (w.heap.size + 1) pa n ca a (Ha.out.below hBB) Hn.out hn9 pb m cb b (Hb.out.below hBB) Hm.out hm9 (hX.b.below hB2 hX.b.lt) (hX.k.below hB2 hX.k.lt) (hX.a.below hB2 hX.a.lt)).mono ?_
    rintro e W3 ⟨v, rfl, hown, hB3⟩
    exact ⟨v, _, rfl, rfl, hown.mono hBB.size, hBB.trans (hB3.mono hBB.size)⟩
  · rintro e w2 ⟨v, e2, rfl, rfl, hown, hB⟩
    go_wp2_with fail
    go_ret2
    exact ⟨v, rfl, hown, hB⟩
set_option maxRecDepth 100000 in
set_option maxHeartbeats 2000000 in
theorem gseal_iv0 (w : World) (kb : Nat) (rk : List UInt8) (hk : KeysAt w kb rk) (pi : Option Addr) (ci : Nat) (pa : Option Addr) (n ca : Nat) (pb : Option Addr) (m cb : Nat) :
    Calls Tryz.prog 93 #[.pointer (some ⟨kb, 0, none⟩), .slice pi 0 ci, .slice pa n ca, .slice pb m cb] w fun e w' => e = .returned (.tuple #[.slice none 0 0, .int .i64 6]) ∧ Below w.heap.size w w' := by
  have hX := boxes_new w (.pointer (some ⟨kb, 0, none⟩)) (.slice pa n ca) (.slice pb m cb)
  have Hk := hid hk
  clear hk
  go_enter Tryz.func93, Tryz.ntmps93
  go_wp2_with fail
  change Calls _ _ _ (((w.alloc (.cells #[.pointer (some ⟨kb, 0, none⟩)] tPK)).alloc (.cells #[.slice pa n ca] tBytes)).alloc (.cells #[.slice pb m cb] tBytes)) _
  generalize (((w.alloc (.cells #[.pointer (some ⟨kb, 0, none⟩)] tPK)).alloc (.cells #[.slice pa n ca] tBytes)).alloc (.cells #[.slice pb m cb] tBytes)) = W at *
  refine (does_iv0 W kb rk (Hk.out.below hX.B) pi ci _ _).mono ?_
  rintro e w2 ⟨rfl, rfl⟩
  go_wp2_with fail
  go_ret2
  exact ⟨rfl, hX.B⟩
set_option maxRecDepth 100000 in
set_option maxHeartbeats 2000000 in
theorem gseal_nil (w : World) (pi : Option Addr) (l ci : Nat) (pa : Option Addr) (n ca : Nat) (pb : Option Addr) (m cb : Nat) :
    Calls Tryz.prog 93 #[.pointer none, .slice pi l ci, .slice pa n ca, .slice pb m cb] w fun e w' => e = .returned (.tuple #[.slice none 0 0, .int .i64 5]) ∧ Below w.heap.size w w' := by
  have hX := boxes_new w (.pointer none) (.slice pa n ca) (.slice pb m cb)
  go_enter Tryz.func93, Tryz.ntmps93
  go_wp2_with fail
  change Calls _ _ _ (((w.alloc (.cells #[.pointer none] tPK)).alloc (.cells #[.slice pa n ca] tBytes)).alloc (.cells #[.slice pb m cb] tBytes)) _
  generalize (((w.alloc (.cells #[.pointer none] tPK)).alloc (.cells #[.slice pa n ca] tBytes)).alloc (.cells #[.slice pb m cb] tBytes)) = W at *
  refine (does_nil W pi l ci _ _).mono ?_
  rintro e w2 ⟨rfl, rfl⟩
  go_wp2_with fail
  go_ret2
  exact ⟨rfl, hX.B⟩
end Go.Proofs.YtnmmnlffobnbfaaGreatDoor

/- bits.Equal; gcm: Open -/
namespace Go.Proofs.YtnmmnlffobnbfaaGreatDoor
open Go.RowKit

/-- What differs in the first k bytes. -/
def difF (X Y : List UInt8) : Nat → UInt8
  | 0 => 0
  | k + 1 => difF X Y k ||| (X.getD k 0 ^^^ Y.getD k 0)
theorem or_eq_zero {a b : UInt8} : a ||| b = 0 ↔ a = 0 ∧ b = 0 := by
  constructor
  · intro h
    have h1 : (a ||| b).toNat = 0 := by rw [h]; rfl
    rw [UInt8.toNat_or] at h1
    have h2 := Nat.or_eq_zero_iff.1 h1
    exact ⟨UInt8.toNat_inj.1 h2.1, UInt8.toNat_inj.1 h2.2⟩
  · rintro ⟨rfl, rfl⟩; rfl
theorem xor_eq_zero8 {a b : UInt8} : a ^^^ b = 0 ↔ a = b := by
  constructor
  · intro h
    have : (a ^^^ b) ^^^ b = b := by rw [h, UInt8.zero_xor]
    rwa [UInt8.xor_assoc, UInt8.xor_self, UInt8.xor_zero] at this
  · rintro rfl; exact UInt8.xor_self
theorem difF_zero (X Y : List UInt8) : ∀ k, difF X Y k = 0 ↔ ∀ j, j < k → X.getD j 0 = Y.getD j 0
  | 0 => ⟨fun _ _ h => absurd h (Nat.not_lt_zero _), fun _ => rfl⟩
  | k + 1 => by
    rw [difF, or_eq_zero, difF_zero X Y k, xor_eq_zero8]
    constructor
    · rintro ⟨h1, h2⟩ j hj
      by_cases e : j = k
      · rw [e]; exact h2
      · exact h1 j (by omega)
    · intro h; exact ⟨fun j hj => h j (by omega), h k (by omega)⟩
theorem difF_all (X Y : List UInt8) (h : X.length = Y.length) : difF X Y X.length = 0 ↔ X = Y := by
  rw [difF_zero]
  exact ⟨fun e => ext_getD h e, fun e j _ => by rw [e]⟩

set_option maxRecDepth 100000 in
set_option maxHeartbeats 2000000 in
theorem equal_any (w : World) (pa pb : Option Addr) (n ca cb : Nat) (X Y : List UInt8) (hX : RowAt w pa X) (hY : RowAt w pb Y) (hx : X.length = n) (hy : Y.length = n) (h9 : n < 1000000000) :
    Calls Tryz.prog 135 #[.slice pa n ca, .slice pb n cb] w fun e w' => e = .returned (.bool (decide (X = Y))) ∧ Below w.heap.size w w' := by
  have HX := hid hX
  have HY := hid hY
  have Hx := hid hx
  have Hy := hid hy
  clear hX hY hx hy
  go_enter Tryz.func135, Tryz.ntmps135
  go_wp2_with fail
  go_loopw [5, 14] (fun v i wx => ∃ k : Nat, k ≤ n ∧ i = .int .i64 k ∧ v = .int .u8 (bv (difF X Y k)) ∧ Below w.heap.size w wx) (fun _ i _ => n - (intOf i).toNat)
  case atStart => exact ⟨0, by omega, rfl, rfl, Below.refl _ _⟩
  case round =>
    obtain ⟨k, hk, rfl, rfl, hB⟩ := hrel
    by_cases hlt : k < n
    · obtain ⟨ba, oa, rfl, h1, h2⟩ := (HX.out.below hB) k (by rw [Hx.out]; exact hlt)
      obtain ⟨bb, ob, rfl, h3, h4⟩ := (HY.out.below hB) k (by rw [Hy.out]; exact hlt)
      have hd : difF X Y (k + 1) = difF X Y k ||| (X.getD k 0 ^^^ Y.getD k 0) := rfl
      have Hd := hid hd
      generalize difF X Y k = d at *
      generalize X.getD k 0 = x at *
      generalize Y.getD k 0 = y at *
      have q1 : (k : Int) < (n : Int) := by omega
      have q2 : 0 ≤ (k : Int) := by omega
      clear hd
      go_wp2_with fail
      try simp only [Act.put]
      refine tkR (fun w' => w'.cell? ⟨ba, oa + k, none⟩ = some (.int .u8 (bv x)) ∧ w'.cell? ⟨bb, ob + k, none⟩ = some (.int .u8 (bv y))) [] (by kernel_rfl) (fun c a d v w h => by cases d <;> exact h) (⟨h2, h4⟩) (fun hPF hHeld => ?_)
      refine tkB 0 (.some 17) _ _ rfl rfl (by kernel_rfl) (by kernel_rfl) (by kernel_rfl) (by kernel_rfl) hPF rfl (fun w' => by (go_simp; try with_reducible rfl)) hHeld (fun hHeld => ?_)
      simp only [Act.put, List.setIfInBounds_toArray, List.set_cons_zero, List.set_cons_succ]
      refine tkB 1 (.some 18) _ _ rfl rfl (by kernel_rfl) (by kernel_rfl) (by kernel_rfl) (by kernel_rfl) hPF rfl (fun w' => by (go_simp; try with_reducible rfl)) hHeld (fun hHeld => ?_)
      simp only [Act.put, List.setIfInBounds_toArray, List.set_cons_zero, List.set_cons_succ]
      refine tkB 2 (.some 19) _ _ rfl rfl (by kernel_rfl) (by kernel_rfl) (by kernel_rfl) (by kernel_rfl) hPF rfl (fun w' => by (go_simp; try with_reducible rfl)) hHeld (fun hHeld => ?_)
      simp only [Act.put, List.setIfInBounds_toArray, List.set_cons_zero, List.set_cons_succ]
      refine tkB 3 (.some 20) _ _ rfl rfl (by kernel_rfl) (by kernel_rfl) (by kernel_rfl) (by kernel_rfl) hPF rfl (fun w' => by (go_simp; try with_reducible rfl)) hHeld (fun hHeld => ?_)
      simp only [Act.put, List.setIfInBounds_toArray, List.set_cons_zero, List.set_cons_succ]
      refine tkA 4 (.some 21) _ _ rfl rfl (by kernel_rfl) (by kernel_rfl) (by kernel_rfl) (by kernel_rfl) (by kernel_rfl) hPF rfl (fun w' hw' => by (have q := hw'.1; go_simp; try with_reducible rfl)) hHeld (fun hHeld => ?_)
      simp only [Act.put, List.setIfInBounds_toArray, List.set_cons_zero, List.set_cons_succ]
      refine tkB 5 (.some 22) _ _ rfl rfl (by kernel_rfl) (by kernel_rfl) (by kernel_rfl) (by kernel_rfl) hPF rfl (fun w' => by (go_simp; try with_reducible rfl)) hHeld (fun hHeld => ?_)
      simp only [Act.put, List.setIfInBounds_toArray, List.set_cons_zero, List.set_cons_succ]
      refine tkB 6 (.some 23) _ _ rfl rfl (by kernel_rfl) (by kernel_rfl) (by kernel_rfl) (by kernel_rfl) hPF rfl (fun w' => by (go_simp; try with_reducible rfl)) hHeld (fun hHeld => ?_)
      simp only [Act.put, List.setIfInBounds_toArray, List.set_cons_zero, List.set_cons_succ]
      refine tkB 7 (.some 24) _ _ rfl rfl (by kernel_rfl) (by kernel_rfl) (by kernel_rfl) (by kernel_rfl) hPF rfl (fun w' => by (go_simp; try with_reducible rfl)) hHeld (fun hHeld => ?_)
      simp only [Act.put, List.setIfInBounds_toArray, List.set_cons_zero, List.set_cons_succ]
      refine tkA 8 (.some 25) _ _ rfl rfl (by kernel_rfl) (by kernel_rfl) (by kernel_rfl) (by kernel_rfl) (by kernel_rfl) hPF rfl (fun w' hw' => by (have q := hw'.2; go_simp; try with_reducible rfl)) hHeld (fun hHeld => ?_)
      simp only [Act.put, List.setIfInBounds_toArray, List.set_cons_zero, List.set_cons_succ]
      refine tkB 9 (.some 26) _ _ rfl rfl (by kernel_rfl) (by kernel_rfl) (by kernel_rfl) (by kernel_rfl) hPF rfl (fun w' => by (go_simp; try with_reducible rfl)) hHeld (fun hHeld => ?_)
      simp only [Act.put, List.setIfInBounds_toArray, List.set_cons_zero, List.set_cons_succ]
      refine tkB 10 (.some 27) _ _ rfl rfl (by kernel_rfl) (by kernel_rfl) (by kernel_rfl) (by kernel_rfl) hPF rfl (fun w' => by (go_simp; try with_reducible rfl)) hHeld (fun hHeld => ?_)
      simp only [Act.put, List.setIfInBounds_toArray, List.set_cons_zero, List.set_cons_succ]
      refine tkB 11 (.some 5) _ _ rfl rfl (by kernel_rfl) (by kernel_rfl) (by kernel_rfl) (by kernel_rfl) hPF rfl (fun w' => by (go_simp; try with_reducible rfl)) hHeld (fun hHeld => ?_)
      simp only [Act.put, List.setIfInBounds_toArray, List.set_cons_zero, List.set_cons_succ]
      refine tkD (by kernel_rfl) ?_ _
      go_wp2_with fail
      go_roundw
      case rel => exact ⟨k + 1, by omega, by go_num, by rw [Hd.out], hB.drew⟩
      case measure => (simp [intOf]; try omega)
    · have hkn : k = n := by omega
      have hz : (bv (difF X Y k) == 0) = decide (X = Y) := by
        rw [hkn, ← Hx.out]
        have h := difF_all X Y (by rw [Hx.out, Hy.out])
        by_cases e : X = Y
        · rw [decide_eq_true e, h.2 e]; rfl
        · rw [decide_eq_false e, beq_eq_false_iff_ne]
          intro e2
          exact e (h.1 (bv_inj e2))
      have q1 : ¬ ((k : Int) < (n : Int)) := by omega
      generalize bv (difF X Y k) = d at *
      clear hkn hlt
      go_wp2_with fail
      go_ret
      exact ⟨rfl, hB⟩

/-- What Open answers: the text, or that the tag is another one. -/
def openG (E : List UInt8 → List UInt8) (c aad b : List UInt8) : Option (List UInt8) :=
  if b.drop (b.length - 16) = gtagF E c aad (b.take (b.length - 16)) then some (List.zipWith (· ^^^ ·) (b.take (b.length - 16)) (streamF E c (b.length - 16))) else none
/-- How Open's answer lies. -/
def OpenA (base : Nat) (w : World) (v e : Value) (b : List UInt8) (o : Option (List UInt8)) : Prop :=
  if b.length < 16 then v = .slice none 0 0 ∧ e = .int .i64 17 else match o with
    | none => v = .slice none 0 0 ∧ e = .int .i64 7
    | some l => e = .int .i64 0 ∧ OwnR base w v l
set_option maxRecDepth 100000 in
set_option maxHeartbeats 4000000 in
theorem open1_any (w : World) (kv : Option Addr) (E : List UInt8 → List UInt8) (hk : KeyV w kv E) (c : List UInt8) (hc : c.length = 16) (xb kb ab : Nat) (pa : Option Addr) (n ca : Nat) (a : List UInt8) (ha : RowAt w pa a) (hn : a.length = n) (hn9 : n < 1000000)
    (pb : Option Addr) (m cb : Nat) (b : List UInt8) (hb : RowAt w pb b) (hm : b.length = m) (hm9 : m < 1000000) (hmc : m ≤ cb)
    (h1 : Blk w xb [.slice pb m cb] tBytes) (h2 : Blk w kb [.pointer kv] tPK) (h3 : Blk w ab [.slice pa n ca] tBytes) :
    Calls Tryz.prog 134 #[.agg (bys c).toArray, .pointer (some ⟨xb, 0, none⟩), .pointer (some ⟨kb, 0, none⟩), .pointer (some ⟨ab, 0, none⟩)] w fun e w' => ∃ v er, e = .returned (.tuple #[v, er]) ∧ OpenA w.heap.size w' v er b (openG E c a b) ∧ Below w.heap.size w w' := by
  have h0 := Blk.new w (bys c) tA16
  have hB0 : Below w.heap.size w (w.alloc (.cells (bys c).toArray tA16)) := (Below.refl _ _).alloc (Nat.le_refl _) _
  have hsc : (Tryz.prog.info? 100).map (·.size) = some (bys c).length := by rw [size54, bys_length, hc]
  have h1 := h1.below hB0 h1.lt
  have h2 := h2.below hB0 h2.lt
  have h3 := h3.below hB0 h3.lt
  have Ha := hid (ha.below hB0)
  have Hb := hid (hb.below hB0)
  have Hk := hid (hk.below hB0)
  have hel := hk.len c hc
  have hlen := fun m => streamF_len E c m (fun s hs => hk.len s hs) hc
  have Hm := hid hm
  have Hn := hid hn
  have l1 := h1.lt
  have l2 := h2.lt
  have l3 := h3.lt
  have lw := h0.lt
  clear ha hk hm hn
  by_cases h16 : m < 16
  · have q1 : (m : Int) - 16 < 0 := by omega
    have c1 := h1.cell 0
    simp only [List.getElem?_cons_zero] at c1
    go_enter Tryz.func134, Tryz.ntmps134
    go_wp2_with fail
    go_ret2
    exact ⟨_, _, rfl, by unfold OpenA; rw [if_pos (by rw [Hm.out]; exact h16)]; exact ⟨rfl, rfl⟩, hB0⟩
  · obtain ⟨n', hn'⟩ : ∃ n', m - 16 = n' := ⟨_, rfl⟩
    have q1 : (m : Int) - 16 = (n' : Int) := by omega
    have q2 : ¬ ((n' : Int) < 0) := by omega
    obtain ⟨bb, bo, rfl, _, _⟩ := Hb.out 0 (by rw [Hm.out]; omega)
    have q3 : (n' : Int) ≤ (m : Int) := by omega
    have q4 : 0 ≤ (n' : Int) := by omega
    have q5 : ¬ cb = n' := by omega
    have q6 : m - n' = 16 := by omega
    have q7 : n' ≤ m := by omega
    have q8 : n' ≤ cb := by omega
    have q9 : (n' : Int) ≤ (cb : Int) := by omega
    have q10 : m ≤ cb := hmc
    have hwr : IntKind.i64.wrap (n' : Int) = (n' : Int) := by rw [IntKind.wrap_i64]; omega
    obtain ⟨t, ht⟩ : ∃ t, b.take n' = t := ⟨_, rfl⟩
    obtain ⟨d, hd⟩ : ∃ d, b.drop n' = d := ⟨_, rfl⟩
    have htl : t.length = n' := by rw [← ht, List.length_take, Hm.out]; omega
    have hdl : d.length = 16 := by rw [← hd, List.length_drop, Hm.out]; omega
    have hog : openG E c a b = if d = gtagF E c a t then some (List.zipWith (· ^^^ ·) t (streamF E c n')) else none := by unfold openG; rw [Hm.out, hn', ht, hd]
    have hTl := gtagF_len E c a t hel
    obtain ⟨T, hT⟩ : ∃ T, gtagF E c a t = T := ⟨_, rfl⟩
    rw [hT] at hog hTl
    have HT := hid hT
    have Hog := hid hog
    have Ht := hid ht
    have Hd := hid hd
    clear hT hog ht hd hn'
    have c1 := h1.cell 0
    simp only [List.getElem?_cons_zero] at c1
    go_enter Tryz.func134, Tryz.ntmps134
    go_wp2_with fail
    change Code.wp _ _ _ _ (w.alloc (.cells (bys c).toArray tA16))
    generalize w.alloc (.cells (bys c).toArray tA16) = w1 at *
    have hbd : Below w1.heap.size w1 w1.drew := (Below.refl _ _).drew
    try simp only [Act.put]
    refine tkR (fun w' => Below w1.heap.size w1 w') [] (by kernel_rfl) (fun c a d v w h => by cases d <;> exact h) (hbd) (fun hPF hHeld => ?_)
    refine tkA 0 (.some 15) _ _ rfl rfl (by kernel_rfl) (by kernel_rfl) (by kernel_rfl) (by kernel_rfl) (by kernel_rfl) hPF rfl (fun w' hw' => by (have q := (h1.below hw' h1.lt).cell 0; simp only [List.getElem?_cons_zero] at q; go_simp; try with_reducible rfl)) hHeld (fun hHeld => ?_)
    simp only [Act.put, List.setIfInBounds_toArray, List.set_cons_zero, List.set_cons_succ]
    refine tkB 1 (.some 16) _ _ rfl rfl (by kernel_rfl) (by kernel_rfl) (by kernel_rfl) (by kernel_rfl) hPF rfl (fun w' => by (go_simp; try with_reducible rfl)) hHeld (fun hHeld => ?_)
    simp only [Act.put, List.setIfInBounds_toArray, List.set_cons_zero, List.set_cons_succ]
    refine tkB 2 (.some 17) _ _ rfl rfl (by kernel_rfl) (by kernel_rfl) (by kernel_rfl) (by kernel_rfl) hPF rfl (fun w' => by (go_simp; try with_reducible rfl)) hHeld (fun hHeld => ?_)
    simp only [Act.put, List.setIfInBounds_toArray, List.set_cons_zero, List.set_cons_succ]
    refine tkA 3 (.some 18) _ _ rfl rfl (by kernel_rfl) (by kernel_rfl) (by kernel_rfl) (by kernel_rfl) (by kernel_rfl) hPF rfl (fun w' hw' => by (have q := (h2.below hw' h2.lt).cell 0; simp only [List.getElem?_cons_zero] at q; go_simp; try with_reducible rfl)) hHeld (fun hHeld => ?_)
    simp only [Act.put, List.setIfInBounds_toArray, List.set_cons_zero, List.set_cons_succ]
    refine tkL 4 (.some 19) _ rfl rfl 100 (.tmp 4) rfl w.heap.size 0 (bys c) _ (by kernel_rfl) (by kernel_rfl) (by kernel_rfl) (by kernel_rfl) (by kernel_rfl) hPF rfl rfl (fun w' hw' => (h0.below hw' h0.lt).whole) under54 rfl hsc hHeld (fun hHeld => ?_)
    simp only [Act.put, List.setIfInBounds_toArray, List.set_cons_zero, List.set_cons_succ]
    refine tkA 5 (.some 20) _ _ rfl rfl (by kernel_rfl) (by kernel_rfl) (by kernel_rfl) (by kernel_rfl) (by kernel_rfl) hPF rfl (fun w' hw' => by (have q := (h3.below hw' h3.lt).cell 0; simp only [List.getElem?_cons_zero] at q; go_simp; try with_reducible rfl)) hHeld (fun hHeld => ?_)
    simp only [Act.put, List.setIfInBounds_toArray, List.set_cons_zero, List.set_cons_succ]
    refine tkA 6 (.some 21) _ _ rfl rfl (by kernel_rfl) (by kernel_rfl) (by kernel_rfl) (by kernel_rfl) (by kernel_rfl) hPF rfl (fun w' hw' => by (have q := (h1.below hw' h1.lt).cell 0; simp only [List.getElem?_cons_zero] at q; go_simp; try with_reducible rfl)) hHeld (fun hHeld => ?_)
    simp only [Act.put, List.setIfInBounds_toArray, List.set_cons_zero, List.set_cons_succ]
    refine tkB 7 (.some 22) _ _ rfl rfl (by kernel_rfl) (by kernel_rfl) (by kernel_rfl) (by kernel_rfl) hPF rfl (fun w' => by (go_simp; try with_reducible rfl)) hHeld (fun hHeld => ?_)
    simp only [Act.put, List.setIfInBounds_toArray, List.set_cons_zero, List.set_cons_succ]
    refine tkB 8 (.some 23) _ _ rfl rfl (by kernel_rfl) (by kernel_rfl) (by kernel_rfl) (by kernel_rfl) hPF rfl (fun w' => by (go_simp; try with_reducible rfl)) hHeld (fun hHeld => ?_)
    simp only [Act.put, List.setIfInBounds_toArray, List.set_cons_zero, List.set_cons_succ]
    have hS := hHeld (by kernel_rfl)
    refine tkW (rs := [9]) (by kernel_rfl) (by simp) (AllK.cons (o := _) rfl (fun KC hKC => ?_) AllK.nil)
    go_simp
    refine (tag_any _ kv E (Hk.out.below hS) c hc pa n ca a (Ha.out.below hS) Hn.out hn9 (some ⟨bb, bo, none⟩) n' cb t (((Hb.out.below hS).take n').congr Ht.out) htl (by omega)).mono ?_
    rintro e w2 ⟨g, rfl, hg, hrT, hB2⟩
    rw [HT.out] at hrT
    have hS2 := hS.trans (hB2.mono hS.size)
    refine hKC.out _ _ (hS2) (fun hHeld => ?_)
    clear hKC KC
    try simp only [Act.put, List.setIfInBounds_toArray, List.set_cons_zero, List.set_cons_succ]
    have hS := hHeld (by kernel_rfl)
    refine tkW (rs := [10]) (by kernel_rfl) (by simp) (AllK.cons (o := _) rfl (fun KC hKC => ?_) AllK.nil)
    go_simp
    refine (equal_any _ (some ⟨bb, bo + n', none⟩) (some ⟨g, 0, none⟩) 16 (cb - n') 16 d T (((Hb.out.below hS2).drop n').congr Hd.out) hrT.rowAt0 hdl hTl (by omega)).mono ?_
    rintro e w3 ⟨rfl, hB3⟩
    have hS3 := hS2.trans (hB3.mono hS2.size)
    obtain ⟨eqb, heqb⟩ : ∃ z, decide (d = T) = z := ⟨_, rfl⟩
    rw [heqb]
    have Heqb := hid heqb
    clear heqb
    refine hKC.out _ _ (hS3) (fun hHeld => ?_)
    clear hKC KC
    try simp only [Act.put, List.setIfInBounds_toArray, List.set_cons_zero, List.set_cons_succ]
    refine tkB 11 (.some 26) _ _ rfl rfl (by kernel_rfl) (by kernel_rfl) (by kernel_rfl) (by kernel_rfl) hPF rfl (fun w' => by (go_simp; try with_reducible rfl)) hHeld (fun hHeld => ?_)
    simp only [Act.put, List.setIfInBounds_toArray, List.set_cons_zero, List.set_cons_succ]
    refine tkB 12 (.some 14) _ _ rfl rfl (by kernel_rfl) (by kernel_rfl) (by kernel_rfl) (by kernel_rfl) hPF rfl (fun w' => by (go_simp; try with_reducible rfl)) hHeld (fun hHeld => ?_)
    simp only [Act.put, List.setIfInBounds_toArray, List.set_cons_zero, List.set_cons_succ]
    refine tkD (by kernel_rfl) ?_ _
    have hBw := hB0.trans (hS3.mono hB0.size)
    cases eqb with
    | true =>
      have hdT : d = T := of_decide_eq_true Heqb.out
      have hog := Hog.out
      rw [if_pos hdT] at hog
      obtain ⟨S, hS⟩ : ∃ S, streamF E c n' = S := ⟨_, rfl⟩
      obtain ⟨X, hX⟩ : ∃ X, List.zipWith (· ^^^ ·) t S = X := ⟨_, rfl⟩
      have hSl := hlen n'
      rw [hS] at hSl hog
      rw [hX] at hog
      have hXl : X.length = n' := by rw [← hX, List.length_zipWith, htl, hSl, Nat.min_self]
      have HS := hid hS
      have HX := hid hX
      have Hog2 := hid hog
      have h0 := h0.below hS3 h0.lt
      have h1 := h1.below hS3 h1.lt
      have h2 := h2.below hS3 h2.lt
      have hkv3 := Hk.out.below hS3
      have hb3 := Hb.out.below hS3
      have hs3 := hS3.size
      have ls := hBw.size
      clear hS2 hHeld hPF hbd hrT hS hX hog hdT
      go_wp2_with fail
      have hbd : Below w3.heap.size w3 w3.drew := (Below.refl _ _).drew
      try simp only [Act.put]
      refine tkR (fun w' => Below w3.heap.size w3 w') [] (by kernel_rfl) (fun c a d v w h => by cases d <;> exact h) (hbd) (fun hPF hHeld => ?_)
      refine tkA 0 (.some 27) _ _ rfl rfl (by kernel_rfl) (by kernel_rfl) (by kernel_rfl) (by kernel_rfl) (by kernel_rfl) hPF rfl (fun w' hw' => by (have q := (h1.below hw' h1.lt).cell 0; simp only [List.getElem?_cons_zero] at q; go_simp; try with_reducible rfl)) hHeld (fun hHeld => ?_)
      simp only [Act.put, List.setIfInBounds_toArray, List.set_cons_zero, List.set_cons_succ]
      refine tkB 1 (.some 28) _ _ rfl rfl (by kernel_rfl) (by kernel_rfl) (by kernel_rfl) (by kernel_rfl) hPF rfl (fun w' => by (go_simp; try with_reducible rfl)) hHeld (fun hHeld => ?_)
      simp only [Act.put, List.setIfInBounds_toArray, List.set_cons_zero, List.set_cons_succ]
      refine tkB 2 (.some 29) _ _ rfl rfl (by kernel_rfl) (by kernel_rfl) (by kernel_rfl) (by kernel_rfl) hPF rfl (fun w' => by (go_simp; try with_reducible rfl)) hHeld (fun hHeld => ?_)
      simp only [Act.put, List.setIfInBounds_toArray, List.set_cons_zero, List.set_cons_succ]
      refine tkA 3 (.some 30) _ _ rfl rfl (by kernel_rfl) (by kernel_rfl) (by kernel_rfl) (by kernel_rfl) (by kernel_rfl) hPF rfl (fun w' hw' => by (have q := (h2.below hw' h2.lt).cell 0; simp only [List.getElem?_cons_zero] at q; go_simp; try with_reducible rfl)) hHeld (fun hHeld => ?_)
      simp only [Act.put, List.setIfInBounds_toArray, List.set_cons_zero, List.set_cons_succ]
      refine tkL 4 (.some 31) _ rfl rfl 100 (.tmp 4) rfl w.heap.size 0 (bys c) _ (by kernel_rfl) (by kernel_rfl) (by kernel_rfl) (by kernel_rfl) (by kernel_rfl) hPF rfl rfl (fun w' hw' => (h0.below hw' h0.lt).whole) under54 rfl hsc hHeld (fun hHeld => ?_)
      simp only [Act.put, List.setIfInBounds_toArray, List.set_cons_zero, List.set_cons_succ]
      refine tkB 5 (.some 32) _ _ rfl rfl (by kernel_rfl) (by kernel_rfl) (by kernel_rfl) (by kernel_rfl) hPF rfl (fun w' => by (go_simp; try with_reducible rfl)) hHeld (fun hHeld => ?_)
      simp only [Act.put, List.setIfInBounds_toArray, List.set_cons_zero, List.set_cons_succ]
      have hS := hHeld (by kernel_rfl)
      refine tkW (rs := [6]) (by kernel_rfl) (by simp) (AllK.cons (o := _) rfl (fun KC hKC => ?_) AllK.nil)
      go_simp
      refine (gstream_any _ kv E (hkv3.below hS) c hc n' (by omega)).mono ?_
      rintro e w4 ⟨p2, c2, rfl, hr2, hc2, hB2⟩
      rw [HS.out] at hr2
      have hS2 := hS.trans (hB2.mono hS.size)
      refine hKC.out _ _ (hS2) (fun hHeld => ?_)
      clear hKC KC
      try simp only [Act.put, List.setIfInBounds_toArray, List.set_cons_zero, List.set_cons_succ]
      have hS := hHeld (by kernel_rfl)
      refine tkW (rs := [7]) (by kernel_rfl) (by simp) (AllK.cons (o := _) rfl (fun KC hKC => ?_) AllK.nil)
      go_simp
      refine (xor_any _ (some ⟨bb, bo, none⟩) p2 n' cb n' c2 n' t S (((hb3.below hS2).take n').congr Ht.out) hr2 htl hSl (by omega) (Nat.min_self n').symm).mono ?_
      rintro e w5 ⟨rfl, hx5, hB3⟩
      rw [HX.out] at hx5
      have hS4 := hS2.trans (hB3.mono hS2.size)
      have hge := hS2.size
      refine hKC.out _ _ (hS4) (fun hHeld => ?_)
      clear hKC KC
      try simp only [Act.put, List.setIfInBounds_toArray, List.set_cons_zero, List.set_cons_succ]
      refine tkB 8 (.some 5) _ _ rfl rfl (by kernel_rfl) (by kernel_rfl) (by kernel_rfl) (by kernel_rfl) hPF rfl (fun w' => by (go_simp; try with_reducible rfl)) hHeld (fun hHeld => ?_)
      simp only [Act.put, List.setIfInBounds_toArray, List.set_cons_zero, List.set_cons_succ]
      refine tkB 9 (.some 6) _ _ rfl rfl (by kernel_rfl) (by kernel_rfl) (by kernel_rfl) (by kernel_rfl) hPF rfl (fun w' => by (go_simp; try with_reducible rfl)) hHeld (fun hHeld => ?_)
      simp only [Act.put, List.setIfInBounds_toArray, List.set_cons_zero, List.set_cons_succ]
      refine tkD (by kernel_rfl) ?_ _
      have hown := OwnR.ofBlk (base := w.heap.size) hx5 (by omega) hXl (by omega)
      have Hown := hid hown
      clear hown hx5 hr2 hB2 hB3
      go_wp2_with fail
      go_ret2
      exact ⟨_, _, rfl, by unfold OpenA; rw [if_neg (by rw [Hm.out]; exact h16), Hog2.out]; exact ⟨rfl, Hown.out⟩, hBw.trans (hS4.mono hBw.size)⟩
    | false =>
      have hdT : ¬ d = T := of_decide_eq_false Heqb.out
      have hog := Hog.out
      rw [if_neg hdT] at hog
      have Hog2 := hid hog
      clear hog hdT
      go_wp2_with fail
      go_ret2
      exact ⟨_, _, rfl, by unfold OpenA; rw [if_neg (by rw [Hm.out]; exact h16), Hog2.out]; exact ⟨rfl, rfl⟩, hBw⟩
theorem callopen1 (args : Array Value) (w : World) : (callFunc 134 args).run Tryz.prog w = .ok (.enter 134 args) w := by kernel_rfl
theorem OpenA.mono {base base' : Nat} {w : World} {v e : Value} {b : List UInt8} {o : Option (List UInt8)} (h : OpenA base w v e b o) (hb : base' ≤ base) : OpenA base' w v e b o := by
  unfold OpenA at *
  split
  · rename_i h1; rw [if_pos h1] at h; exact h
  · rename_i h1
    rw [if_neg h1] at h
    cases o with
    | none => exact h
    | some l => exact ⟨h.1, h.2.mono hb⟩
set_option maxRecDepth 100000 in
set_option maxHeartbeats 2000000 in
/-- gcm.Open. -/
theorem gopen_any (w : World) (kb : Nat) (rk : List UInt8) (hk : KeysAt w kb rk) (hrl : 16 * roundsOf rk + 16 ≤ rk.length) (pi : Option Addr) (l ci : Nat) (iv : List UInt8) (hi : RowAt w pi iv) (hl : iv.length = l) (h9 : l < 100000) (h0 : l ≠ 0)
    (pa : Option Addr) (n ca : Nat) (a : List UInt8) (ha : RowAt w pa a) (hn : a.length = n) (hn9 : n < 1000000) (pb : Option Addr) (m cb : Nat) (b : List UInt8) (hb : RowAt w pb b) (hm : b.length = m) (hm9 : m < 1000000) (hmc : m ≤ cb) :
    Calls Tryz.prog 92 #[.pointer (some ⟨kb, 0, none⟩), .slice pi l ci, .slice pa n ca, .slice pb m cb] w fun e w' => ∃ v er, e = .returned (.tuple #[v, er]) ∧ OpenA w.heap.size w' v er b (openG (enc rk) (firstF (enc rk) iv) a b) ∧ Below w.heap.size w w' := by
  have hX := boxes_new w (.pointer (some ⟨kb, 0, none⟩)) (.slice pa n ca) (.slice pb m cb)
  have Hk := hid hk
  have Hi := hid hi
  have Ha := hid ha
  have Hb := hid hb
  have Hl := hid hl
  have Hn := hid hn
  have Hm := hid hm
  clear hk hi ha hb hl hn hm
  go_enter Tryz.func92, Tryz.ntmps92
  go_wp2_with fail
  change Calls _ _ _ (((w.alloc (.cells #[.pointer (some ⟨kb, 0, none⟩)] tPK)).alloc (.cells #[.slice pa n ca] tBytes)).alloc (.cells #[.slice pb m cb] tBytes)) _
  generalize (((w.alloc (.cells #[.pointer (some ⟨kb, 0, none⟩)] tPK)).alloc (.cells #[.slice pa n ca] tBytes)).alloc (.cells #[.slice pb m cb] tBytes)) = W at *
  refine (does_any W kb rk (Hk.out.below hX.B) hrl pi l ci iv (Hi.out.below hX.B) Hl.out h9 h0 134 _ (fun v e W' => OpenA w.heap.size W' v e b (openG (enc rk) (firstF (enc rk) iv) a b) ∧ Below w.heap.size w W') callopen1 (fun W2 hB2 => ?_)).mono ?_
  · have hBB := hX.B.trans (hB2.mono hX.B.size)
    have hkv : KeyV W2 (some ⟨kb, 0, none⟩) (enc rk) := .inr ⟨kb, rk, rfl, Hk.out.below hBB, rfl, hrl⟩
    refine (open1_any W2 (some ⟨kb, 0, none⟩) (enc rk) hkv _ (firstF_len _ _) (w.heap.size + 1 + 1) w.heap.size (w.heap.size + 1) pa n ca a (Ha.out.below hBB) Hn.out hn9 pb m cb b (Hb.out.below hBB) Hm.out hm9 hmc (hX.b.below hB2 hX.b.lt) (hX.k.below hB2 hX.k.lt) (hX.a.below hB2 hX.a.lt)).mono ?_
    rintro e W3 ⟨v, er, rfl, hown, hB3⟩
    exact ⟨v, er, rfl, hown.mono hBB.size, hBB.trans (hB3.mono hBB.size)⟩
  · rintro e w2 ⟨v, e2, rfl, hown, hB⟩
    go_wp2_with fail
    go_ret2
    exact ⟨v, e2, rfl, hown, hB⟩
set_option maxRecDepth 100000 in
set_option maxHeartbeats 2000000 in
theorem gopen_iv0 (w : World) (kb : Nat) (rk : List UInt8) (hk : KeysAt w kb rk) (pi : Option Addr) (ci : Nat) (pa : Option Addr) (n ca : Nat) (pb : Option Addr) (m cb : Nat) :
    Calls Tryz.prog 92 #[.pointer (some ⟨kb, 0, none⟩), .slice pi 0 ci, .slice pa n ca, .slice pb m cb] w fun e w' => e = .returned (.tuple #[.slice none 0 0, .int .i64 6]) ∧ Below w.heap.size w w' := by
  have hX := boxes_new w (.pointer (some ⟨kb, 0, none⟩)) (.slice pa n ca) (.slice pb m cb)
  have Hk := hid hk
  clear hk
  go_enter Tryz.func92, Tryz.ntmps92
  go_wp2_with fail
  change Calls _ _ _ (((w.alloc (.cells #[.pointer (some ⟨kb, 0, none⟩)] tPK)).alloc (.cells #[.slice pa n ca] tBytes)).alloc (.cells #[.slice pb m cb] tBytes)) _
  generalize (((w.alloc (.cells #[.pointer (some ⟨kb, 0, none⟩)] tPK)).alloc (.cells #[.slice pa n ca] tBytes)).alloc (.cells #[.slice pb m cb] tBytes)) = W at *
  refine (does_iv0 W kb rk (Hk.out.below hX.B) pi ci _ _).mono ?_
  rintro e w2 ⟨rfl, rfl⟩
  go_wp2_with fail
  go_ret2
  exact ⟨rfl, hX.B⟩
end Go.Proofs.YtnmmnlffobnbfaaGreatDoor
