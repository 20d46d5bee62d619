/- gcm: Pad, padded, Lengths -/
import Derived.Test.YtgellbapbphnlaaGs
import Derived.Test.YtgellbapbphnlaaGq
namespace Go.Proofs.Ytgellbapbphnlaa
open Go.RowKit

def padN (n : Nat) : Nat := (16 - n % 16) % 16
theorem padZ_form (b : List UInt8) : padZ b = b ++ List.replicate (padN b.length) 0 := rfl
set_option maxRecDepth 100000 in
set_option maxHeartbeats 1000000 in
theorem gpad_any (w : World) (n : Nat) (h9 : n < 1000000000) : Calls Try.prog 106 #[.int .i64 n] w fun e w' => e = .returned (.int .i64 (padN n)) ∧ w = w' := by
  obtain ⟨r, hr⟩ : ∃ r, n % 16 = r := ⟨_, rfl⟩
  obtain ⟨d, hd⟩ : ∃ d, (16 - r) % 16 = d := ⟨_, rfl⟩
  have e0 : padN n = d := by unfold padN; rw [hr, hd]
  rw [e0]
  by_cases h1 : n < 1
  · obtain rfl : d = 0 := by omega
    have q1 : (n : Int) < 1 := by omega
    clear hr hd e0
    go_enter Try.func106, Try.ntmps106
    go_wp2_with fail
    go_ret
    exact ⟨rfl, rfl⟩
  · have q1 : ¬ ((n : Int) < 1) := by omega
    have q2 : (n : Int).tmod 16 = (r : Int) := by rw [Int.tmod_eq_emod_of_nonneg (by omega)]; omega
    have q3 : (n : Int) % 16 = (r : Int) := by omega
    obtain ⟨s, hs⟩ : ∃ s, 16 - r = s := ⟨_, rfl⟩
    have q4 : (16 : Int) - (r : Int) = (s : Int) := by omega
    have q5 : (s : Int).tmod 16 = (d : Int) := by rw [Int.tmod_eq_emod_of_nonneg (by omega)]; omega
    have q6 : (s : Int) % 16 = (d : Int) := by omega
    have q7 : (s : Int) ≤ 16 := by omega
    have q8 : 0 ≤ (s : Int) := by omega
    clear hr hd e0 hs
    go_enter Try.func106, Try.ntmps106
    go_wp2_with fail
    go_ret
    exact ⟨rfl, rfl⟩

theorem make_nulls (W : World) (d : Nat) (h : d ≤ 140737488355328) : (Instr.makeSlice 33 (.int .i64 d) (.int .i64 d)).run Try.prog W = .ok (.slice (some ⟨W.heap.size, 0, none⟩) d d) (W.alloc (.cells (bys (List.replicate d 0)).toArray 5)) := by
  have hmk := run_make_row' (P := Try.prog) (w := W) 33 5 (.int .u8 0) 1 under33b info5 rfl .i64 .i64 d (by omega) (by omega)
  rw [madeCells_bys] at hmk
  exact hmk
set_option maxRecDepth 100000 in
set_option maxHeartbeats 1000000 in
theorem padded_any' (w : World) (pb : Option Addr) (n cap : Nat) (b : List UInt8) (hb : RowAt w pb b) (hn : b.length = n) (h9 : n < 999999000) :
    Calls Try.prog 93 #[.slice pb n cap] w fun e w' => ∃ v, e = .returned v ∧ OwnR w.heap.size w' v (padZ b) ∧ Below w.heap.size w w' := by
  obtain ⟨d, hd⟩ : ∃ d, padN n = d := ⟨_, rfl⟩
  have hd16 : d < 16 := by rw [← hd]; unfold padN; omega
  have hmk := fun W => make_nulls W d (by omega)
  have hz : padZ b = b ++ List.replicate d 0 := by rw [padZ_form, hn, hd]
  rw [hz]
  have Hd := hid hd
  have Hn := hid hn
  clear hz hd hn
  go_enter Try.func93, Try.ntmps93
  go_wp2_with fail
  refine (gpad_any w n (by omega)).mono ?_
  rintro e w1 ⟨rfl, rfl⟩
  rw [Hd.out]
  go_wp2_with fail
  have hz := Blk.new w (bys (List.replicate d 0)) tU8
  have hc := Blk.new (w.alloc (.cells (bys (List.replicate d 0)).toArray 5)) [.slice pb n cap, .slice (some ⟨w.heap.size, 0, none⟩) d d] tBytes
  have hz := hz.alloc (.cells #[.slice pb n cap, .slice (some ⟨w.heap.size, 0, none⟩) d d] tBytes)
  have hB : Below w.heap.size w ((w.alloc (.cells (bys (List.replicate d 0)).toArray 5)).alloc (.cells #[.slice pb n cap, .slice (some ⟨w.heap.size, 0, none⟩) d d] tBytes)) := ((Below.refl _ _).alloc (Nat.le_refl _) _).alloc (by simp) _
  simp only [World.size_alloc] at hc
  change Calls _ _ _ ((w.alloc (.cells (bys (List.replicate d 0)).toArray 5)).alloc (.cells #[.slice pb n cap, .slice (some ⟨w.heap.size, 0, none⟩) d d] tBytes)) _
  have hs := hB.size
  generalize ((w.alloc (.cells (bys (List.replicate d 0)).toArray 5)).alloc (.cells #[.slice pb n cap, .slice (some ⟨w.heap.size, 0, none⟩) d d] tBytes)) = w1 at *
  refine (concat2_any w1 _ pb _ n cap d d b (List.replicate d 0) _ hc (hb.below hB) hz.rowAt0 Hn.out (by simp) (by omega)).mono ?_
  rintro e w2 ⟨v, rfl, hown, hB2⟩
  go_wp2_with fail
  go_ret
  exact ⟨v, rfl, hown.mono hs, hB.trans (hB2.mono hs)⟩

/-- Two lengths, in bits. -/
def lenF (a m : Nat) : List UInt8 := toBe 16 (8 * a * 18446744073709551616 + 8 * m)
set_option maxRecDepth 100000 in
set_option maxHeartbeats 1000000 in
theorem glengths_any (w : World) (a m : Nat) (ha : a < 1000000000) (hm : m < 1000000000) :
    Calls Try.prog 94 #[.int .i64 a, .int .i64 m] w fun e w' => e = .returned (.agg (bys (lenF a m)).toArray) ∧ Below w.heap.size w w' := by
  obtain ⟨x, hx⟩ : ∃ x, 8 * a = x := ⟨_, rfl⟩
  obtain ⟨y, hy⟩ : ∃ y, 8 * m = y := ⟨_, rfl⟩
  obtain ⟨n, hn⟩ : ∃ n, x * 18446744073709551616 + y = n := ⟨_, rfl⟩
  have hl : lenF a m = toBe 16 n := by unfold lenF; rw [hx, hy, hn]
  have hnl : n < 2 ^ 128 := by omega
  have e1 : hiN n = x := by rw [← hn]; exact hiN_of (by omega)
  have e2 : loN n = y := by rw [← hn]; exact loN_of (by omega)
  have ele : ([U64 x, U64 y] : List Value) = elc n := by unfold elc; rw [e1, e2]
  have q1 : (8 : Int) * (a : Int) = (x : Int) := by omega
  have q2 : (8 : Int) * (m : Int) = (y : Int) := by omega
  have q3 : (a : Int) ≤ 1000000000 := by omega
  have q4 : (m : Int) ≤ 1000000000 := by omega
  have q5 : (x : Int) ≤ 8000000000 := by omega
  have q6 : (y : Int) ≤ 8000000000 := by omega
  have q7 : 0 ≤ (x : Int) := by omega
  have q8 : 0 ≤ (y : Int) := by omega
  have hr0 := Blk.new w (bys z16) tA16
  have hB0 : Below w.heap.size w (w.alloc (.cells (bys z16).toArray tA16)) := (Below.refl _ _).alloc (Nat.le_refl _) _
  have Hele := hid ele
  have Hnl := hid hnl
  rw [hl]
  clear hx hy hn hl hnl e1 e2 ele ha hm
  go_enter Try.func94, Try.ntmps94
  go_wp2_with fail
  change Calls _ _ #[.agg [U64 x, U64 y].toArray] (w.alloc (.cells (bys z16).toArray tA16)) _
  rw [Hele.out]
  generalize w.alloc (.cells (bys z16).toArray tA16) = w1 at *
  refine (block_any w1 n Hnl.out).mono ?_
  rintro e w3 ⟨rfl, hB3⟩
  have hR3 := hr0.below hB3 hr0.lt
  have hBB := hB0.trans (hB3.mono hB0.size)
  have hql := toBe_len 16 n
  obtain ⟨q, hq⟩ : ∃ q, toBe 16 n = q := ⟨_, rfl⟩
  rw [hq] at hql ⊢
  have Hq := hid hq
  clear hq
  go_wp2_with (refine wpList_store_mid rfl 36 (.tmp 4) (.tmp 12) rfl w.heap.size 0 (bys q).toArray rfl rfl (hR3.there 0 _ (by rw [List.size_toArray, bys_length, bys_length, hql]; decide)) (by rw [size54, List.size_toArray, bys_length, hql]) (all_oneCell_toArray (bys_one _)) ?_)
  have h1d := hR3.setCells (bys q) 0 (by rw [bys_length, bys_length, hql]; decide)
  rw [splice_whole _ _ (by rw [bys_length, bys_length, hql]; rfl)] at h1d
  refine bodyPost_ret (v := .agg (bys q).toArray) (results_cell_row (P := Try.prog) (p := 4) (ty := 36) rfl _ _ w.heap.size tA16 _ (0, 0) _ rfl h1d under54 rfl (by rw [size54, List.size_toArray, bys_length, hql])) rfl ⟨by rw [Hq.out], ?_⟩
  exact hBB.trans (((Chg.refl (w.heap.size) [] w3).setCells (.inr (Nat.le_refl _)) _ _).below (Nat.le_refl _) (by simp))

/-- A row as it lies in a row of rows. -/
structure RowIn where
  p : Option Addr
  n : Nat
  c : Nat
  b : List UInt8
abbrev RowIn.v (r : RowIn) : Value := .slice r.p r.n r.c
/-- Rows, padded, one behind the other. -/
def padAll (R : List RowIn) : List UInt8 := (R.map fun r => padZ r.b).flatten
theorem padAll_snoc (R : List RowIn) (r : RowIn) : padAll (R ++ [r]) = padAll R ++ padZ r.b := by simp [padAll]
def hashF (E : List UInt8 → List UInt8) (a m : Nat) (R : List RowIn) : List UInt8 := ghF (E z16) (padAll R ++ lenF a m)
theorem padZ_le (b : List UInt8) : (padZ b).length ≤ b.length + 15 := by unfold padZ; rw [List.length_append, List.length_replicate]; omega
theorem padAll_le : ∀ (R : List RowIn) (B : Nat), (∀ r ∈ R, r.b.length ≤ B) → (padAll R).length ≤ R.length * (B + 15)
  | [], _, _ => by simp [padAll]
  | r :: R, B, h => by
    have h1 := padAll_le R B (fun r hr => h r (List.mem_cons_of_mem _ hr))
    have h2 := padZ_le r.b
    have h3 := h r (List.mem_cons_self ..)
    have : padAll (r :: R) = padZ r.b ++ padAll R := by simp [padAll]
    rw [this, List.length_append, List.length_cons, Nat.add_mul]; omega

set_option maxRecDepth 100000 in
set_option maxHeartbeats 4000000 in
theorem hash_any (w : World) (kv : Option Addr) (E : List UInt8 → List UInt8) (hk : KeyV w kv E) (a m : Nat) (ha : a < 1000000000) (hm : m < 1000000000) (rb : Nat) (R : List RowIn) (N : Nat) (hN : R.length = N) (hN9 : N ≤ 10)
    (hrb : Blk w rb (R.map RowIn.v) tBytes) (hR : ∀ r ∈ R, RowAt w r.p r.b ∧ r.b.length = r.n ∧ r.n < 1000000) :
    Calls Try.prog 59 #[.pointer kv, .int .i64 a, .int .i64 m, .slice (some ⟨rb, 0, none⟩) N N] w fun e w' => e = .returned (.agg (bys (hashF E a m R)).toArray) ∧ Below w.heap.size w w' := by
  have hr0 := Blk.new w (bys z16) tA16
  have hB0 : Below w.heap.size w (w.alloc (.cells (bys z16).toArray tA16)) := (Below.refl _ _).alloc (Nat.le_refl _) _
  have Hrb := hid hrb
  have HR := hid hR
  have HN := hid hN
  have Hk := hid hk
  clear hrb hR hN hk
  go_enter Try.func59, Try.ntmps59
  go_wp2_with fail
  change Code.wp _ _ _ _ (w.alloc (.cells (bys z16).toArray tA16))
  generalize w.alloc (.cells (bys z16).toArray tA16) = W at *
  have lr := hr0.lt
  go_loopw [9, 15] (fun v i wr => ∃ k : Nat, k ≤ N ∧ i = .int .i64 k ∧ OwnR W.heap.size wr v (padAll (R.take k)) ∧ Below W.heap.size W wr) (fun _ i _ => N - (intOf i).toNat)
  case atStart => exact ⟨0, by omega, rfl, by simp [padAll]; exact OwnR.nil _ _, Below.refl _ _⟩
  case round =>
    obtain ⟨k, hk, rfl, hown, hB⟩ := hrel
    have Hown := hid hown
    clear hown
    by_cases hlt : k < N
    · obtain ⟨r, hr⟩ : ∃ r, R[k]? = some r := ⟨_, List.getElem?_eq_getElem (by rw [HN.out]; exact hlt)⟩
      have hmem : r ∈ R := List.mem_of_getElem? hr
      obtain ⟨hrow, hrl, hr9⟩ := HR.out r hmem
      have hBw := hB0.trans (hB.mono hB0.size)
      have hc := (Hrb.out.below hBw Hrb.out.lt).cell k
      rw [List.getElem?_map, hr] at hc
      simp only [Option.map_some, RowIn.v] at hc
      have hsn : R.take (k + 1) = R.take k ++ [r] := by rw [List.take_add_one, hr]; rfl
      have hpa : padAll (R.take (k + 1)) = padAll (R.take k) ++ padZ r.b := by rw [hsn, padAll_snoc]
      have hle := padAll_le (R.take k) 1000000 (fun r hr => by have := HR.out r (List.mem_of_mem_take hr); omega)
      have hle2 : (padAll (R.take k)).length ≤ 20000000 := by
        refine Nat.le_trans hle ?_
        have : (R.take k).length ≤ 10 := by rw [List.length_take]; omega
        exact Nat.le_trans (Nat.mul_le_mul_right _ this) (by decide)
      have hple := padZ_le r.b
      have hroww := hrow.below hBw
      obtain ⟨p, n, c, b⟩ := r
      simp only at hrow hrl hr9 hc hpa hple hroww
      have Hpa := hid hpa
      have Hle2 := hid hle2
      have Hple := hid hple
      have Hrl := hid hrl
      have hs := hB.size
      have q1 : (k : Int) < (N : Int) := by omega
      clear hmem hr hsn hpa hle hle2 hple hrl hrow
      go_wp2_with fail
      refine (padded_any' _ p n c b hroww Hrl.out (by omega)).mono ?_
      rintro e w2 ⟨v2, rfl, hown2, hB2⟩
      obtain ⟨p2, c2, rfl, hc2, hr2⟩ := hown2.row
      have hv2 := Hown.out.below hB2
      have hB3 := hB.trans (hB2.mono hB.size)
      have hs3 := hB3.size
      go_upto_region 6 with (refine wpList_addO hv2 rfl (.tmp 19) (.tmp 21) rfl rfl p2 _ c2 _ rfl hr2 rfl (by have h1 := Hle2.out; have h2 := Hple.out; have h3 := Hrl.out; omega) hs3 ?_; intro v4 w4 hown4 hgrow4 _)
      have hB4 := hB3.grown hgrow4 hs3 (fun j e => (hv2.lt j e).1)
      rw [← Hpa.out] at hown4
      have Hown4 := hid hown4
      clear hown4 hgrow4
      go_wp2_with fail
      go_roundw
      case rel => exact ⟨k + 1, by omega, by go_num, Hown4.out, hB4⟩
      case measure => (simp [intOf]; try omega)
    · have hkN : k = N := by omega
      have ho := Hown.out
      rw [hkN, List.take_of_length_le (by rw [HN.out]; exact Nat.le_refl _)] at ho
      have q1 : ¬ ((k : Int) < (N : Int)) := by omega
      have hle := padAll_le R 1000000 (fun r hr => by have := HR.out r hr; omega)
      have hle2 : (padAll R).length ≤ 20000000 := by
        refine Nat.le_trans hle ?_
        exact Nat.le_trans (Nat.mul_le_mul_right _ (show R.length ≤ 10 by rw [HN.out]; exact hN9)) (by decide)
      obtain ⟨X, hX⟩ : ∃ X, padAll R = X := ⟨_, rfl⟩
      rw [hX] at ho hle2
      have HX := hid hX
      have hs := hB.size
      clear hX hle Hown hkN hlt
      go_wp2_with fail
      refine (glengths_any _ a m ha hm).mono ?_
      rintro e w2 ⟨rfl, hB2⟩
      have ho2 := ho.below hB2
      have hB3 := hB.trans (hB2.mono hB.size)
      have hll : (lenF a m).length = 16 := toBe_len _ _
      obtain ⟨L, hL⟩ : ∃ L, lenF a m = L := ⟨_, rfl⟩
      rw [hL] at hll ⊢
      have HL := hid hL
      have hb0 : Blk (w2.alloc (.cells (bys z16).toArray tA16)) w2.heap.size (bys z16) tA16 := Blk.new _ _ _
      have hB4 := hB3.alloc hB3.size (.cells (bys z16).toArray tA16)
      have ho4 := ho2.below ((Below.refl w2.heap.size w2).alloc (Nat.le_refl _) (.cells (bys z16).toArray tA16))
      obtain ⟨lb, hlb⟩ : ∃ lb, w2.heap.size = lb := ⟨_, rfl⟩
      rw [hlb] at hb0
      have hb1 := hb0.setCells (bys L) 0 (by rw [bys_length, bys_length, hll]; decide)
      rw [splice_whole _ _ (by rw [bys_length, bys_length, hll]; rfl)] at hb1
      have hC5 := (Chg.refl (w2.alloc (.cells (bys z16).toArray tA16)).heap.size [lb] (w2.alloc (.cells (bys z16).toArray tA16))).setCells (b := lb) (.inl (by simp)) (bys L) 0
      have hsl := hB3.size
      have ho5 := ho4.chg hC5 (Nat.le_refl _) (fun j e => by have := (ho2.lt j e).2; simp; omega)
      have hB5 := hB4.trans (hC5.below (M := W.heap.size) hB4.size (fun k hk => by simp at hk; omega))
      have hlen5 : w2.heap.size < ((w2.alloc (.cells (bys z16).toArray tA16)).setCells lb 0 (bys L)).heap.size := by rw [size_setCells]; simp
      have hlW : W.heap.size ≤ lb := by omega
      clear hB2 hB3 hB4 ho ho2 ho4 hC5 hL hB hs
      go_upto_region 8 with (refine wpList_store_mid rfl 36 (.tmp 12) (.tmp 26) rfl lb 0 (bys L).toArray (by rw [← hlb]; rfl) rfl (hb0.there 0 _ (by rw [List.size_toArray, bys_length, bys_length, hll]; decide)) (by rw [size54, List.size_toArray, bys_length, hll]) (all_oneCell_toArray (bys_one _)) ?_)
      change Code.wp _ _ _ _ ((w2.alloc (.cells (bys z16).toArray tA16)).setCells lb 0 (bys L))
      generalize (w2.alloc (.cells (bys z16).toArray tA16)).setCells lb 0 (bys L) = w5 at *
      have hkv := Hk.out.below (hB0.trans (hB5.mono hB0.size))
      have hz0 : (z16 : List UInt8).length = 16 := rfl
      try simp only [Act.put]
      refine tkR (fun _ => True) [] (by kernel_rfl) (fun c a d v w h => by cases d <;> exact h) (trivial) (fun hPF hHeld => ?_)
      refine tkB 0 (.some 27) _ _ rfl rfl (by kernel_rfl) (by kernel_rfl) (by kernel_rfl) (by kernel_rfl) hPF rfl (fun w' => by (go_simp; try with_reducible rfl)) hHeld (fun hHeld => ?_)
      simp only [Act.put, List.setIfInBounds_toArray, List.set_cons_zero, List.set_cons_succ]
      refine tkB 1 (.some 28) _ _ rfl rfl (by kernel_rfl) (by kernel_rfl) (by kernel_rfl) (by kernel_rfl) hPF rfl (fun w' => by (go_simp; try with_reducible rfl)) hHeld (fun hHeld => ?_)
      simp only [Act.put, List.setIfInBounds_toArray, List.set_cons_zero, List.set_cons_succ]
      refine tkB 3 (.some 30) _ _ rfl rfl (by kernel_rfl) (by kernel_rfl) (by kernel_rfl) (by kernel_rfl) hPF rfl (fun w' => by (go_simp; try with_reducible rfl)) hHeld (fun hHeld => ?_)
      simp only [Act.put, List.setIfInBounds_toArray, List.set_cons_zero, List.set_cons_succ]
      refine tkB 4 (.some 31) _ _ rfl rfl (by kernel_rfl) (by kernel_rfl) (by kernel_rfl) (by kernel_rfl) hPF rfl (fun w' => by (go_simp; try with_reducible rfl)) hHeld (fun hHeld => ?_)
      simp only [Act.put, List.setIfInBounds_toArray, List.set_cons_zero, List.set_cons_succ]
      have hS := hHeld (by kernel_rfl)
      refine tkW (rs := [2]) (by kernel_rfl) (by simp) (AllK.cons (o := _) rfl (fun KC hKC => ?_) AllK.nil)
      go_simp
      change Calls _ _ #[_, .agg (bys z16).toArray] _ _
      refine (keyv_enc hkv.drew z16 rfl).mono ?_
      rintro e w6 ⟨rfl, hB6⟩
      have ho6 := ho5.drew.below hB6
      have hb6 := hb1.drew.below hB6 hb1.lt
      have hB6 := hB5.drew.trans (hB6.mono hB5.size)
      refine hKC.out _ _ (trivial) (fun hHeld => ?_)
      clear hKC KC
      try simp only [Act.put, List.setIfInBounds_toArray, List.set_cons_zero, List.set_cons_succ]
      have hS := hHeld (by kernel_rfl)
      refine tkW (rs := [5]) (by kernel_rfl) (by simp) (AllK.cons (o := _) rfl (fun KC hKC => ?_) AllK.nil)
      refine wantIt rfl (wp_add (.some 32) rfl (.tmp 30) (.tmp 31) rfl W.heap.size _ X rfl ho6 (some ⟨lb, 0, none⟩) 16 16 L rfl hb6.rowAt0 hll (by omega) hB6.size ?_)
      intro v7 w7 ho7 hg7 _
      have hB7 := hB6.grown hg7 hB6.size (fun j e => (ho6.lt j e).1)
      obtain ⟨p7, c7, rfl, hc7, hr7⟩ := ho7.row
      refine hKC.out _ _ (trivial) (fun hHeld => ?_)
      clear hKC KC
      try simp only [Act.put, List.setIfInBounds_toArray, List.set_cons_zero, List.set_cons_succ]
      have hS := hHeld (by kernel_rfl)
      refine tkW (rs := [6]) (by kernel_rfl) (by simp) (AllK.cons (o := _) rfl (fun KC hKC => ?_) AllK.nil)
      go_simp
      refine (gsum_any _ (E z16) (hkv.len z16 rfl) p7 (X.length + 16) c7 (X ++ L) hr7 (by rw [List.length_append, hll]) (by rw [List.length_append, hll] at hc7; exact hc7) (by omega)).mono ?_
      rintro e w8 ⟨rfl, hB8⟩
      have hB8 := hB7.trans (hB8.mono hB7.size)
      have hr8 := hr0.below hB8 lr
      have hgl := ghF_len (E z16) (X ++ L)
      obtain ⟨q, hq⟩ : ∃ q, ghF (E z16) (X ++ L) = q := ⟨_, rfl⟩
      rw [hq] at hgl
      try rw [hq]
      refine hKC.out _ _ (trivial) (fun hHeld => ?_)
      clear hKC KC
      try simp only [Act.put, List.setIfInBounds_toArray, List.set_cons_zero, List.set_cons_succ]
      have hS := hHeld (by kernel_rfl)
      refine tkW (rs := [7]) (by kernel_rfl) (by simp) (AllK.cons (o := _) rfl (fun KC hKC => ?_) AllK.nil)
      refine wantIt rfl (wp_storeD none rfl 36 (.tmp 8) (.tmp 33) rfl w.heap.size 0 (bys q).toArray rfl rfl (hr8.there 0 _ (by rw [List.size_toArray, bys_length, bys_length, hgl]; decide)) (by rw [size54, List.size_toArray, bys_length, hgl]) (all_oneCell_toArray (bys_one _)) ?_)
      refine hKC.out _ _ (trivial) (fun hHeld => ?_)
      clear hKC KC
      try simp only [Act.put]
      refine tkD (by kernel_rfl) ?_ _
      go_wp2_with fail
      have h1d := hr8.setCells (bys q) 0 (by rw [bys_length, bys_length, hgl]; decide)
      rw [splice_whole _ _ (by rw [bys_length, bys_length, hgl]; rfl)] at h1d
      refine bodyPost_ret (v := .agg (bys q).toArray) (results_cell_row (P := Try.prog) (p := 8) (ty := 36) rfl _ _ w.heap.size tA16 _ (0, 0) _ rfl h1d under54 rfl (by rw [size54, List.size_toArray, bys_length, hgl])) rfl ⟨by unfold hashF; rw [HX.out, HL.out, hq], ?_⟩
      exact (hB0.trans (hB8.mono hB0.size)).trans (((Chg.refl (w.heap.size) [] w8).setCells (.inr (Nat.le_refl _)) _ _).below (by have := hB0.size; have := hB8.size; omega) (by simp))
end Go.Proofs.Ytgellbapbphnlaa
