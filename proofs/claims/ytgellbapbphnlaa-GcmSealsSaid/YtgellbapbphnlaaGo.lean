/- bits.Equal; gcm: Open -/
import Derived.Test.YtgellbapbphnlaaGx
namespace Go.Proofs.Ytgellbapbphnlaa
open Go.RowKit

/-- What differs in the first k bytes. -/
def difF (X Y : List UInt8) : Nat → UInt8
  | 0 => 0
  | k + 1 => difF X Y k ||| (X.getD k 0 ^^^ Y.getD k 0)
theorem or_eq_zero {a b : UInt8} : a ||| b = 0 ↔ a = 0 ∧ b = 0 := by
  constructor
  · intro h
    have h1 : (a ||| b).toNat = 0 := by rw [h]; rfl
    rw [UInt8.toNat_or] at h1
    have h2 := Nat.or_eq_zero_iff.1 h1
    exact ⟨UInt8.toNat_inj.1 h2.1, UInt8.toNat_inj.1 h2.2⟩
  · rintro ⟨rfl, rfl⟩; rfl
theorem xor_eq_zero8 {a b : UInt8} : a ^^^ b = 0 ↔ a = b := by
  constructor
  · intro h
    have : (a ^^^ b) ^^^ b = b := by rw [h, UInt8.zero_xor]
    rwa [UInt8.xor_assoc, UInt8.xor_self, UInt8.xor_zero] at this
  · rintro rfl; exact UInt8.xor_self
theorem difF_zero (X Y : List UInt8) : ∀ k, difF X Y k = 0 ↔ ∀ j, j < k → X.getD j 0 = Y.getD j 0
  | 0 => ⟨fun _ _ h => absurd h (Nat.not_lt_zero _), fun _ => rfl⟩
  | k + 1 => by
    rw [difF, or_eq_zero, difF_zero X Y k, xor_eq_zero8]
    constructor
    · rintro ⟨h1, h2⟩ j hj
      by_cases e : j = k
      · rw [e]; exact h2
      · exact h1 j (by omega)
    · intro h; exact ⟨fun j hj => h j (by omega), h k (by omega)⟩
theorem difF_all (X Y : List UInt8) (h : X.length = Y.length) : difF X Y X.length = 0 ↔ X = Y := by
  rw [difF_zero]
  exact ⟨fun e => ext_getD h e, fun e j _ => by rw [e]⟩

set_option maxRecDepth 100000 in
set_option maxHeartbeats 2000000 in
theorem equal_any (w : World) (pa pb : Option Addr) (n ca cb : Nat) (X Y : List UInt8) (hX : RowAt w pa X) (hY : RowAt w pb Y) (hx : X.length = n) (hy : Y.length = n) (h9 : n < 1000000000) :
    Calls Try.prog 69 #[.slice pa n ca, .slice pb n cb] w fun e w' => e = .returned (.bool (decide (X = Y))) ∧ Below w.heap.size w w' := by
  have HX := hid hX
  have HY := hid hY
  have Hx := hid hx
  have Hy := hid hy
  clear hX hY hx hy
  go_enter Try.func69, Try.ntmps69
  go_wp2_with fail
  go_loopw [5, 14] (fun v i wx => ∃ k : Nat, k ≤ n ∧ i = .int .i64 k ∧ v = .int .u8 (bv (difF X Y k)) ∧ Below w.heap.size w wx) (fun _ i _ => n - (intOf i).toNat)
  case atStart => exact ⟨0, by omega, rfl, rfl, Below.refl _ _⟩
  case round =>
    obtain ⟨k, hk, rfl, rfl, hB⟩ := hrel
    by_cases hlt : k < n
    · obtain ⟨ba, oa, rfl, h1, h2⟩ := (HX.out.below hB) k (by rw [Hx.out]; exact hlt)
      obtain ⟨bb, ob, rfl, h3, h4⟩ := (HY.out.below hB) k (by rw [Hy.out]; exact hlt)
      have hd : difF X Y (k + 1) = difF X Y k ||| (X.getD k 0 ^^^ Y.getD k 0) := rfl
      have Hd := hid hd
      generalize difF X Y k = d at *
      generalize X.getD k 0 = x at *
      generalize Y.getD k 0 = y at *
      have q1 : (k : Int) < (n : Int) := by omega
      have q2 : 0 ≤ (k : Int) := by omega
      clear hd
      go_wp2_with fail
      try simp only [Act.put]
      refine tkR (fun w' => w'.cell? ⟨ba, oa + k, none⟩ = some (.int .u8 (bv x)) ∧ w'.cell? ⟨bb, ob + k, none⟩ = some (.int .u8 (bv y))) [] (by kernel_rfl) (fun c a d v w h => by cases d <;> exact h) (⟨h2, h4⟩) (fun hPF hHeld => ?_)
      refine tkB 0 (.some 17) _ _ rfl rfl (by kernel_rfl) (by kernel_rfl) (by kernel_rfl) (by kernel_rfl) hPF rfl (fun w' => by (go_simp; try with_reducible rfl)) hHeld (fun hHeld => ?_)
      simp only [Act.put, List.setIfInBounds_toArray, List.set_cons_zero, List.set_cons_succ]
      refine tkB 1 (.some 18) _ _ rfl rfl (by kernel_rfl) (by kernel_rfl) (by kernel_rfl) (by kernel_rfl) hPF rfl (fun w' => by (go_simp; try with_reducible rfl)) hHeld (fun hHeld => ?_)
      simp only [Act.put, List.setIfInBounds_toArray, List.set_cons_zero, List.set_cons_succ]
      refine tkB 2 (.some 19) _ _ rfl rfl (by kernel_rfl) (by kernel_rfl) (by kernel_rfl) (by kernel_rfl) hPF rfl (fun w' => by (go_simp; try with_reducible rfl)) hHeld (fun hHeld => ?_)
      simp only [Act.put, List.setIfInBounds_toArray, List.set_cons_zero, List.set_cons_succ]
      refine tkB 3 (.some 20) _ _ rfl rfl (by kernel_rfl) (by kernel_rfl) (by kernel_rfl) (by kernel_rfl) hPF rfl (fun w' => by (go_simp; try with_reducible rfl)) hHeld (fun hHeld => ?_)
      simp only [Act.put, List.setIfInBounds_toArray, List.set_cons_zero, List.set_cons_succ]
      refine tkA 4 (.some 21) _ _ rfl rfl (by kernel_rfl) (by kernel_rfl) (by kernel_rfl) (by kernel_rfl) (by kernel_rfl) hPF rfl (fun w' hw' => by (have q := hw'.1; go_simp; try with_reducible rfl)) hHeld (fun hHeld => ?_)
      simp only [Act.put, List.setIfInBounds_toArray, List.set_cons_zero, List.set_cons_succ]
      refine tkB 5 (.some 22) _ _ rfl rfl (by kernel_rfl) (by kernel_rfl) (by kernel_rfl) (by kernel_rfl) hPF rfl (fun w' => by (go_simp; try with_reducible rfl)) hHeld (fun hHeld => ?_)
      simp only [Act.put, List.setIfInBounds_toArray, List.set_cons_zero, List.set_cons_succ]
      refine tkB 6 (.some 23) _ _ rfl rfl (by kernel_rfl) (by kernel_rfl) (by kernel_rfl) (by kernel_rfl) hPF rfl (fun w' => by (go_simp; try with_reducible rfl)) hHeld (fun hHeld => ?_)
      simp only [Act.put, List.setIfInBounds_toArray, List.set_cons_zero, List.set_cons_succ]
      refine tkB 7 (.some 24) _ _ rfl rfl (by kernel_rfl) (by kernel_rfl) (by kernel_rfl) (by kernel_rfl) hPF rfl (fun w' => by (go_simp; try with_reducible rfl)) hHeld (fun hHeld => ?_)
      simp only [Act.put, List.setIfInBounds_toArray, List.set_cons_zero, List.set_cons_succ]
      refine tkA 8 (.some 25) _ _ rfl rfl (by kernel_rfl) (by kernel_rfl) (by kernel_rfl) (by kernel_rfl) (by kernel_rfl) hPF rfl (fun w' hw' => by (have q := hw'.2; go_simp; try with_reducible rfl)) hHeld (fun hHeld => ?_)
      simp only [Act.put, List.setIfInBounds_toArray, List.set_cons_zero, List.set_cons_succ]
      refine tkB 9 (.some 26) _ _ rfl rfl (by kernel_rfl) (by kernel_rfl) (by kernel_rfl) (by kernel_rfl) hPF rfl (fun w' => by (go_simp; try with_reducible rfl)) hHeld (fun hHeld => ?_)
      simp only [Act.put, List.setIfInBounds_toArray, List.set_cons_zero, List.set_cons_succ]
      refine tkB 10 (.some 27) _ _ rfl rfl (by kernel_rfl) (by kernel_rfl) (by kernel_rfl) (by kernel_rfl) hPF rfl (fun w' => by (go_simp; try with_reducible rfl)) hHeld (fun hHeld => ?_)
      simp only [Act.put, List.setIfInBounds_toArray, List.set_cons_zero, List.set_cons_succ]
      refine tkB 11 (.some 5) _ _ rfl rfl (by kernel_rfl) (by kernel_rfl) (by kernel_rfl) (by kernel_rfl) hPF rfl (fun w' => by (go_simp; try with_reducible rfl)) hHeld (fun hHeld => ?_)
      simp only [Act.put, List.setIfInBounds_toArray, List.set_cons_zero, List.set_cons_succ]
      refine tkD (by kernel_rfl) ?_ _
      go_wp2_with fail
      go_roundw
      case rel => exact ⟨k + 1, by omega, by go_num, by rw [Hd.out], hB.drew⟩
      case measure => (simp [intOf]; try omega)
    · have hkn : k = n := by omega
      have hz : (bv (difF X Y k) == 0) = decide (X = Y) := by
        rw [hkn, ← Hx.out]
        have h := difF_all X Y (by rw [Hx.out, Hy.out])
        by_cases e : X = Y
        · rw [decide_eq_true e, h.2 e]; rfl
        · rw [decide_eq_false e, beq_eq_false_iff_ne]
          intro e2
          exact e (h.1 (bv_inj e2))
      have q1 : ¬ ((k : Int) < (n : Int)) := by omega
      generalize bv (difF X Y k) = d at *
      clear hkn hlt
      go_wp2_with fail
      go_ret
      exact ⟨rfl, hB⟩

/-- What Open answers: the text, or that the tag is another one. -/
def openG (E : List UInt8 → List UInt8) (c aad b : List UInt8) : Option (List UInt8) :=
  if b.drop (b.length - 16) = tagF E c aad (b.take (b.length - 16)) then some (List.zipWith (· ^^^ ·) (b.take (b.length - 16)) (streamF E c (b.length - 16))) else none
/-- How Open's answer lies. -/
def OpenA (base : Nat) (w : World) (v e : Value) (b : List UInt8) (o : Option (List UInt8)) : Prop :=
  if b.length < 16 then v = .slice none 0 0 ∧ e = .int .i64 17 else match o with
    | none => v = .slice none 0 0 ∧ e = .int .i64 7
    | some l => e = .int .i64 0 ∧ OwnR base w v l
set_option maxRecDepth 100000 in
set_option maxHeartbeats 4000000 in
theorem open1_any (w : World) (kv : Option Addr) (E : List UInt8 → List UInt8) (hk : KeyV w kv E) (c : List UInt8) (hc : c.length = 16) (xb kb ab : Nat) (pa : Option Addr) (n ca : Nat) (a : List UInt8) (ha : RowAt w pa a) (hn : a.length = n) (hn9 : n < 1000000)
    (pb : Option Addr) (m cb : Nat) (b : List UInt8) (hb : RowAt w pb b) (hm : b.length = m) (hm9 : m < 1000000) (hmc : m ≤ cb)
    (h1 : Blk w xb [.slice pb m cb] tBytes) (h2 : Blk w kb [.pointer kv] tPK) (h3 : Blk w ab [.slice pa n ca] tBytes) :
    Calls Try.prog 68 #[.agg (bys c).toArray, .pointer (some ⟨xb, 0, none⟩), .pointer (some ⟨kb, 0, none⟩), .pointer (some ⟨ab, 0, none⟩)] w fun e w' => ∃ v er, e = .returned (.tuple #[v, er]) ∧ OpenA w.heap.size w' v er b (openG E c a b) ∧ Below w.heap.size w w' := by
  have h0 := Blk.new w (bys c) tA16
  have hB0 : Below w.heap.size w (w.alloc (.cells (bys c).toArray tA16)) := (Below.refl _ _).alloc (Nat.le_refl _) _
  have hsc : (Try.prog.info? 36).map (·.size) = some (bys c).length := by rw [size54, bys_length, hc]
  have h1 := h1.below hB0 h1.lt
  have h2 := h2.below hB0 h2.lt
  have h3 := h3.below hB0 h3.lt
  have Ha := hid (ha.below hB0)
  have Hb := hid (hb.below hB0)
  have Hk := hid (hk.below hB0)
  have hel := hk.len c hc
  have hlen := fun m => streamF_len E c m (fun s hs => hk.len s hs) hc
  have Hm := hid hm
  have Hn := hid hn
  have l1 := h1.lt
  have l2 := h2.lt
  have l3 := h3.lt
  have lw := h0.lt
  clear ha hk hm hn
  by_cases h16 : m < 16
  · have q1 : (m : Int) - 16 < 0 := by omega
    have c1 := h1.cell 0
    simp only [List.getElem?_cons_zero] at c1
    go_enter Try.func68, Try.ntmps68
    go_wp2_with fail
    go_ret2
    exact ⟨_, _, rfl, by unfold OpenA; rw [if_pos (by rw [Hm.out]; exact h16)]; exact ⟨rfl, rfl⟩, hB0⟩
  · obtain ⟨n', hn'⟩ : ∃ n', m - 16 = n' := ⟨_, rfl⟩
    have q1 : (m : Int) - 16 = (n' : Int) := by omega
    have q2 : ¬ ((n' : Int) < 0) := by omega
    obtain ⟨bb, bo, rfl, _, _⟩ := Hb.out 0 (by rw [Hm.out]; omega)
    have q3 : (n' : Int) ≤ (m : Int) := by omega
    have q4 : 0 ≤ (n' : Int) := by omega
    have q5 : ¬ cb = n' := by omega
    have q6 : m - n' = 16 := by omega
    have q7 : n' ≤ m := by omega
    have q8 : n' ≤ cb := by omega
    have q9 : (n' : Int) ≤ (cb : Int) := by omega
    have q10 : m ≤ cb := hmc
    have hwr : IntKind.i64.wrap (n' : Int) = (n' : Int) := by rw [IntKind.wrap_i64]; omega
    obtain ⟨t, ht⟩ : ∃ t, b.take n' = t := ⟨_, rfl⟩
    obtain ⟨d, hd⟩ : ∃ d, b.drop n' = d := ⟨_, rfl⟩
    have htl : t.length = n' := by rw [← ht, List.length_take, Hm.out]; omega
    have hdl : d.length = 16 := by rw [← hd, List.length_drop, Hm.out]; omega
    have hog : openG E c a b = if d = tagF E c a t then some (List.zipWith (· ^^^ ·) t (streamF E c n')) else none := by unfold openG; rw [Hm.out, hn', ht, hd]
    have hTl := tagF_len E c a t hel
    obtain ⟨T, hT⟩ : ∃ T, tagF E c a t = T := ⟨_, rfl⟩
    rw [hT] at hog hTl
    have HT := hid hT
    have Hog := hid hog
    have Ht := hid ht
    have Hd := hid hd
    clear hT hog ht hd hn'
    have c1 := h1.cell 0
    simp only [List.getElem?_cons_zero] at c1
    go_enter Try.func68, Try.ntmps68
    go_wp2_with fail
    change Code.wp _ _ _ _ (w.alloc (.cells (bys c).toArray tA16))
    generalize w.alloc (.cells (bys c).toArray tA16) = w1 at *
    have hbd : Below w1.heap.size w1 w1.drew := (Below.refl _ _).drew
    try simp only [Act.put]
    refine tkR (fun w' => Below w1.heap.size w1 w') [] (by kernel_rfl) (fun c a d v w h => by cases d <;> exact h) (hbd) (fun hPF hHeld => ?_)
    refine tkA 0 (.some 15) _ _ rfl rfl (by kernel_rfl) (by kernel_rfl) (by kernel_rfl) (by kernel_rfl) (by kernel_rfl) hPF rfl (fun w' hw' => by (have q := (h1.below hw' h1.lt).cell 0; simp only [List.getElem?_cons_zero] at q; go_simp; try with_reducible rfl)) hHeld (fun hHeld => ?_)
    simp only [Act.put, List.setIfInBounds_toArray, List.set_cons_zero, List.set_cons_succ]
    refine tkB 1 (.some 16) _ _ rfl rfl (by kernel_rfl) (by kernel_rfl) (by kernel_rfl) (by kernel_rfl) hPF rfl (fun w' => by (go_simp; try with_reducible rfl)) hHeld (fun hHeld => ?_)
    simp only [Act.put, List.setIfInBounds_toArray, List.set_cons_zero, List.set_cons_succ]
    refine tkB 2 (.some 17) _ _ rfl rfl (by kernel_rfl) (by kernel_rfl) (by kernel_rfl) (by kernel_rfl) hPF rfl (fun w' => by (go_simp; try with_reducible rfl)) hHeld (fun hHeld => ?_)
    simp only [Act.put, List.setIfInBounds_toArray, List.set_cons_zero, List.set_cons_succ]
    refine tkA 3 (.some 18) _ _ rfl rfl (by kernel_rfl) (by kernel_rfl) (by kernel_rfl) (by kernel_rfl) (by kernel_rfl) hPF rfl (fun w' hw' => by (have q := (h2.below hw' h2.lt).cell 0; simp only [List.getElem?_cons_zero] at q; go_simp; try with_reducible rfl)) hHeld (fun hHeld => ?_)
    simp only [Act.put, List.setIfInBounds_toArray, List.set_cons_zero, List.set_cons_succ]
    refine tkL 4 (.some 19) _ rfl rfl 36 (.tmp 4) rfl w.heap.size 0 (bys c) _ (by kernel_rfl) (by kernel_rfl) (by kernel_rfl) (by kernel_rfl) (by kernel_rfl) hPF rfl rfl (fun w' hw' => (h0.below hw' h0.lt).whole) under54 rfl hsc hHeld (fun hHeld => ?_)
    simp only [Act.put, List.setIfInBounds_toArray, List.set_cons_zero, List.set_cons_succ]
    refine tkA 5 (.some 20) _ _ rfl rfl (by kernel_rfl) (by kernel_rfl) (by kernel_rfl) (by kernel_rfl) (by kernel_rfl) hPF rfl (fun w' hw' => by (have q := (h3.below hw' h3.lt).cell 0; simp only [List.getElem?_cons_zero] at q; go_simp; try with_reducible rfl)) hHeld (fun hHeld => ?_)
    simp only [Act.put, List.setIfInBounds_toArray, List.set_cons_zero, List.set_cons_succ]
    refine tkA 6 (.some 21) _ _ rfl rfl (by kernel_rfl) (by kernel_rfl) (by kernel_rfl) (by kernel_rfl) (by kernel_rfl) hPF rfl (fun w' hw' => by (have q := (h1.below hw' h1.lt).cell 0; simp only [List.getElem?_cons_zero] at q; go_simp; try with_reducible rfl)) hHeld (fun hHeld => ?_)
    simp only [Act.put, List.setIfInBounds_toArray, List.set_cons_zero, List.set_cons_succ]
    refine tkB 7 (.some 22) _ _ rfl rfl (by kernel_rfl) (by kernel_rfl) (by kernel_rfl) (by kernel_rfl) hPF rfl (fun w' => by (go_simp; try with_reducible rfl)) hHeld (fun hHeld => ?_)
    simp only [Act.put, List.setIfInBounds_toArray, List.set_cons_zero, List.set_cons_succ]
    refine tkB 8 (.some 23) _ _ rfl rfl (by kernel_rfl) (by kernel_rfl) (by kernel_rfl) (by kernel_rfl) hPF rfl (fun w' => by (go_simp; try with_reducible rfl)) hHeld (fun hHeld => ?_)
    simp only [Act.put, List.setIfInBounds_toArray, List.set_cons_zero, List.set_cons_succ]
    have hS := hHeld (by kernel_rfl)
    refine tkW (rs := [9]) (by kernel_rfl) (by simp) (AllK.cons (o := _) rfl (fun KC hKC => ?_) AllK.nil)
    go_simp
    refine (tag_any _ kv E (Hk.out.below hS) c hc pa n ca a (Ha.out.below hS) Hn.out hn9 (some ⟨bb, bo, none⟩) n' cb t (((Hb.out.below hS).take n').congr Ht.out) htl (by omega)).mono ?_
    rintro e w2 ⟨g, rfl, hg, hrT, hB2⟩
    rw [HT.out] at hrT
    have hS2 := hS.trans (hB2.mono hS.size)
    refine hKC.out _ _ (hS2) (fun hHeld => ?_)
    clear hKC KC
    try simp only [Act.put, List.setIfInBounds_toArray, List.set_cons_zero, List.set_cons_succ]
    have hS := hHeld (by kernel_rfl)
    refine tkW (rs := [10]) (by kernel_rfl) (by simp) (AllK.cons (o := _) rfl (fun KC hKC => ?_) AllK.nil)
    go_simp
    refine (equal_any _ (some ⟨bb, bo + n', none⟩) (some ⟨g, 0, none⟩) 16 (cb - n') 16 d T (((Hb.out.below hS2).drop n').congr Hd.out) hrT.rowAt0 hdl hTl (by omega)).mono ?_
    rintro e w3 ⟨rfl, hB3⟩
    have hS3 := hS2.trans (hB3.mono hS2.size)
    obtain ⟨eqb, heqb⟩ : ∃ z, decide (d = T) = z := ⟨_, rfl⟩
    rw [heqb]
    have Heqb := hid heqb
    clear heqb
    refine hKC.out _ _ (hS3) (fun hHeld => ?_)
    clear hKC KC
    try simp only [Act.put, List.setIfInBounds_toArray, List.set_cons_zero, List.set_cons_succ]
    refine tkB 11 (.some 26) _ _ rfl rfl (by kernel_rfl) (by kernel_rfl) (by kernel_rfl) (by kernel_rfl) hPF rfl (fun w' => by (go_simp; try with_reducible rfl)) hHeld (fun hHeld => ?_)
    simp only [Act.put, List.setIfInBounds_toArray, List.set_cons_zero, List.set_cons_succ]
    refine tkB 12 (.some 14) _ _ rfl rfl (by kernel_rfl) (by kernel_rfl) (by kernel_rfl) (by kernel_rfl) hPF rfl (fun w' => by (go_simp; try with_reducible rfl)) hHeld (fun hHeld => ?_)
    simp only [Act.put, List.setIfInBounds_toArray, List.set_cons_zero, List.set_cons_succ]
    refine tkD (by kernel_rfl) ?_ _
    have hBw := hB0.trans (hS3.mono hB0.size)
    cases eqb with
    | true =>
      have hdT : d = T := of_decide_eq_true Heqb.out
      have hog := Hog.out
      rw [if_pos hdT] at hog
      obtain ⟨S, hS⟩ : ∃ S, streamF E c n' = S := ⟨_, rfl⟩
      obtain ⟨X, hX⟩ : ∃ X, List.zipWith (· ^^^ ·) t S = X := ⟨_, rfl⟩
      have hSl := hlen n'
      rw [hS] at hSl hog
      rw [hX] at hog
      have hXl : X.length = n' := by rw [← hX, List.length_zipWith, htl, hSl, Nat.min_self]
      have HS := hid hS
      have HX := hid hX
      have Hog2 := hid hog
      have h0 := h0.below hS3 h0.lt
      have h1 := h1.below hS3 h1.lt
      have h2 := h2.below hS3 h2.lt
      have hkv3 := Hk.out.below hS3
      have hb3 := Hb.out.below hS3
      have hs3 := hS3.size
      have ls := hBw.size
      clear hS2 hHeld hPF hbd hrT hS hX hog hdT
      go_wp2_with fail
      have hbd : Below w3.heap.size w3 w3.drew := (Below.refl _ _).drew
      try simp only [Act.put]
      refine tkR (fun w' => Below w3.heap.size w3 w') [] (by kernel_rfl) (fun c a d v w h => by cases d <;> exact h) (hbd) (fun hPF hHeld => ?_)
      refine tkA 0 (.some 27) _ _ rfl rfl (by kernel_rfl) (by kernel_rfl) (by kernel_rfl) (by kernel_rfl) (by kernel_rfl) hPF rfl (fun w' hw' => by (have q := (h1.below hw' h1.lt).cell 0; simp only [List.getElem?_cons_zero] at q; go_simp; try with_reducible rfl)) hHeld (fun hHeld => ?_)
      simp only [Act.put, List.setIfInBounds_toArray, List.set_cons_zero, List.set_cons_succ]
      refine tkB 1 (.some 28) _ _ rfl rfl (by kernel_rfl) (by kernel_rfl) (by kernel_rfl) (by kernel_rfl) hPF rfl (fun w' => by (go_simp; try with_reducible rfl)) hHeld (fun hHeld => ?_)
      simp only [Act.put, List.setIfInBounds_toArray, List.set_cons_zero, List.set_cons_succ]
      refine tkB 2 (.some 29) _ _ rfl rfl (by kernel_rfl) (by kernel_rfl) (by kernel_rfl) (by kernel_rfl) hPF rfl (fun w' => by (go_simp; try with_reducible rfl)) hHeld (fun hHeld => ?_)
      simp only [Act.put, List.setIfInBounds_toArray, List.set_cons_zero, List.set_cons_succ]
      refine tkA 3 (.some 30) _ _ rfl rfl (by kernel_rfl) (by kernel_rfl) (by kernel_rfl) (by kernel_rfl) (by kernel_rfl) hPF rfl (fun w' hw' => by (have q := (h2.below hw' h2.lt).cell 0; simp only [List.getElem?_cons_zero] at q; go_simp; try with_reducible rfl)) hHeld (fun hHeld => ?_)
      simp only [Act.put, List.setIfInBounds_toArray, List.set_cons_zero, List.set_cons_succ]
      refine tkL 4 (.some 31) _ rfl rfl 36 (.tmp 4) rfl w.heap.size 0 (bys c) _ (by kernel_rfl) (by kernel_rfl) (by kernel_rfl) (by kernel_rfl) (by kernel_rfl) hPF rfl rfl (fun w' hw' => (h0.below hw' h0.lt).whole) under54 rfl hsc hHeld (fun hHeld => ?_)
      simp only [Act.put, List.setIfInBounds_toArray, List.set_cons_zero, List.set_cons_succ]
      refine tkB 5 (.some 32) _ _ rfl rfl (by kernel_rfl) (by kernel_rfl) (by kernel_rfl) (by kernel_rfl) hPF rfl (fun w' => by (go_simp; try with_reducible rfl)) hHeld (fun hHeld => ?_)
      simp only [Act.put, List.setIfInBounds_toArray, List.set_cons_zero, List.set_cons_succ]
      have hS := hHeld (by kernel_rfl)
      refine tkW (rs := [6]) (by kernel_rfl) (by simp) (AllK.cons (o := _) rfl (fun KC hKC => ?_) AllK.nil)
      go_simp
      refine (stream_any _ kv E (hkv3.below hS) c hc n' (by omega)).mono ?_
      rintro e w4 ⟨p2, c2, rfl, hr2, hc2, hB2⟩
      rw [HS.out] at hr2
      have hS2 := hS.trans (hB2.mono hS.size)
      refine hKC.out _ _ (hS2) (fun hHeld => ?_)
      clear hKC KC
      try simp only [Act.put, List.setIfInBounds_toArray, List.set_cons_zero, List.set_cons_succ]
      have hS := hHeld (by kernel_rfl)
      refine tkW (rs := [7]) (by kernel_rfl) (by simp) (AllK.cons (o := _) rfl (fun KC hKC => ?_) AllK.nil)
      go_simp
      refine (xor_any _ (some ⟨bb, bo, none⟩) p2 n' cb n' c2 n' t S (((hb3.below hS2).take n').congr Ht.out) hr2 htl hSl (by omega) (Nat.min_self n').symm).mono ?_
      rintro e w5 ⟨rfl, hx5, hB3⟩
      rw [HX.out] at hx5
      have hS4 := hS2.trans (hB3.mono hS2.size)
      have hge := hS2.size
      refine hKC.out _ _ (hS4) (fun hHeld => ?_)
      clear hKC KC
      try simp only [Act.put, List.setIfInBounds_toArray, List.set_cons_zero, List.set_cons_succ]
      refine tkB 8 (.some 5) _ _ rfl rfl (by kernel_rfl) (by kernel_rfl) (by kernel_rfl) (by kernel_rfl) hPF rfl (fun w' => by (go_simp; try with_reducible rfl)) hHeld (fun hHeld => ?_)
      simp only [Act.put, List.setIfInBounds_toArray, List.set_cons_zero, List.set_cons_succ]
      refine tkB 9 (.some 6) _ _ rfl rfl (by kernel_rfl) (by kernel_rfl) (by kernel_rfl) (by kernel_rfl) hPF rfl (fun w' => by (go_simp; try with_reducible rfl)) hHeld (fun hHeld => ?_)
      simp only [Act.put, List.setIfInBounds_toArray, List.set_cons_zero, List.set_cons_succ]
      refine tkD (by kernel_rfl) ?_ _
      have hown := OwnR.ofBlk (base := w.heap.size) hx5 (by omega) hXl (by omega)
      have Hown := hid hown
      clear hown hx5 hr2 hB2 hB3
      go_wp2_with fail
      go_ret2
      exact ⟨_, _, rfl, by unfold OpenA; rw [if_neg (by rw [Hm.out]; exact h16), Hog2.out]; exact ⟨rfl, Hown.out⟩, hBw.trans (hS4.mono hBw.size)⟩
    | false =>
      have hdT : ¬ d = T := of_decide_eq_false Heqb.out
      have hog := Hog.out
      rw [if_neg hdT] at hog
      have Hog2 := hid hog
      clear hog hdT
      go_wp2_with fail
      go_ret2
      exact ⟨_, _, rfl, by unfold OpenA; rw [if_neg (by rw [Hm.out]; exact h16), Hog2.out]; exact ⟨rfl, rfl⟩, hBw⟩
theorem callopen1 (args : Array Value) (w : World) : (callFunc 68 args).run Try.prog w = .ok (.enter 68 args) w := by kernel_rfl
theorem OpenA.mono {base base' : Nat} {w : World} {v e : Value} {b : List UInt8} {o : Option (List UInt8)} (h : OpenA base w v e b o) (hb : base' ≤ base) : OpenA base' w v e b o := by
  unfold OpenA at *
  split
  · rename_i h1; rw [if_pos h1] at h; exact h
  · rename_i h1
    rw [if_neg h1] at h
    cases o with
    | none => exact h
    | some l => exact ⟨h.1, h.2.mono hb⟩
set_option maxRecDepth 100000 in
set_option maxHeartbeats 2000000 in
/-- gcm.Open. -/
theorem gopen_any (w : World) (kb : Nat) (rk : List UInt8) (hk : KeysAt w kb rk) (hrl : 16 * roundsOf rk + 16 ≤ rk.length) (pi : Option Addr) (l ci : Nat) (iv : List UInt8) (hi : RowAt w pi iv) (hl : iv.length = l) (h9 : l < 100000) (h0 : l ≠ 0)
    (pa : Option Addr) (n ca : Nat) (a : List UInt8) (ha : RowAt w pa a) (hn : a.length = n) (hn9 : n < 1000000) (pb : Option Addr) (m cb : Nat) (b : List UInt8) (hb : RowAt w pb b) (hm : b.length = m) (hm9 : m < 1000000) (hmc : m ≤ cb) :
    Calls Try.prog 37 #[.pointer (some ⟨kb, 0, none⟩), .slice pi l ci, .slice pa n ca, .slice pb m cb] w fun e w' => ∃ v er, e = .returned (.tuple #[v, er]) ∧ OpenA w.heap.size w' v er b (openG (enc rk) (firstF (enc rk) iv) a b) ∧ Below w.heap.size w w' := by
  have hX := boxes_new w (.pointer (some ⟨kb, 0, none⟩)) (.slice pa n ca) (.slice pb m cb)
  have Hk := hid hk
  have Hi := hid hi
  have Ha := hid ha
  have Hb := hid hb
  have Hl := hid hl
  have Hn := hid hn
  have Hm := hid hm
  clear hk hi ha hb hl hn hm
  go_enter Try.func37, Try.ntmps37
  go_wp2_with fail
  change Calls _ _ _ (((w.alloc (.cells #[.pointer (some ⟨kb, 0, none⟩)] tPK)).alloc (.cells #[.slice pa n ca] tBytes)).alloc (.cells #[.slice pb m cb] tBytes)) _
  generalize (((w.alloc (.cells #[.pointer (some ⟨kb, 0, none⟩)] tPK)).alloc (.cells #[.slice pa n ca] tBytes)).alloc (.cells #[.slice pb m cb] tBytes)) = W at *
  refine (does_any W kb rk (Hk.out.below hX.B) hrl pi l ci iv (Hi.out.below hX.B) Hl.out h9 h0 68 _ (fun v e W' => OpenA w.heap.size W' v e b (openG (enc rk) (firstF (enc rk) iv) a b) ∧ Below w.heap.size w W') callopen1 (fun W2 hB2 => ?_)).mono ?_
  · have hBB := hX.B.trans (hB2.mono hX.B.size)
    have hkv : KeyV W2 (some ⟨kb, 0, none⟩) (enc rk) := .inr ⟨kb, rk, rfl, Hk.out.below hBB, rfl, hrl⟩
    refine (open1_any W2 (some ⟨kb, 0, none⟩) (enc rk) hkv _ (firstF_len _ _) (w.heap.size + 1 + 1) w.heap.size (w.heap.size + 1) pa n ca a (Ha.out.below hBB) Hn.out hn9 pb m cb b (Hb.out.below hBB) Hm.out hm9 hmc (hX.b.below hB2 hX.b.lt) (hX.k.below hB2 hX.k.lt) (hX.a.below hB2 hX.a.lt)).mono ?_
    rintro e W3 ⟨v, er, rfl, hown, hB3⟩
    exact ⟨v, er, rfl, hown.mono hBB.size, hBB.trans (hB3.mono hBB.size)⟩
  · rintro e w2 ⟨v, e2, rfl, hown, hB⟩
    go_wp2_with fail
    go_ret2
    exact ⟨v, e2, rfl, hown, hB⟩
set_option maxRecDepth 100000 in
set_option maxHeartbeats 2000000 in
theorem gopen_iv0 (w : World) (kb : Nat) (rk : List UInt8) (hk : KeysAt w kb rk) (pi : Option Addr) (ci : Nat) (pa : Option Addr) (n ca : Nat) (pb : Option Addr) (m cb : Nat) :
    Calls Try.prog 37 #[.pointer (some ⟨kb, 0, none⟩), .slice pi 0 ci, .slice pa n ca, .slice pb m cb] w fun e w' => e = .returned (.tuple #[.slice none 0 0, .int .i64 6]) ∧ Below w.heap.size w w' := by
  have hX := boxes_new w (.pointer (some ⟨kb, 0, none⟩)) (.slice pa n ca) (.slice pb m cb)
  have Hk := hid hk
  clear hk
  go_enter Try.func37, Try.ntmps37
  go_wp2_with fail
  change Calls _ _ _ (((w.alloc (.cells #[.pointer (some ⟨kb, 0, none⟩)] tPK)).alloc (.cells #[.slice pa n ca] tBytes)).alloc (.cells #[.slice pb m cb] tBytes)) _
  generalize (((w.alloc (.cells #[.pointer (some ⟨kb, 0, none⟩)] tPK)).alloc (.cells #[.slice pa n ca] tBytes)).alloc (.cells #[.slice pb m cb] tBytes)) = W at *
  refine (does_iv0 W kb rk (Hk.out.below hX.B) pi ci _ _).mono ?_
  rintro e w2 ⟨rfl, rfl⟩
  go_wp2_with fail
  go_ret2
  exact ⟨rfl, hX.B⟩
end Go.Proofs.Ytgellbapbphnlaa
