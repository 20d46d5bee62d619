/- gcm: Seal -/
import Derived.Test.YtgellbapbphnlaaGy
namespace Go.Proofs.Ytgellbapbphnlaa
open Go.RowKit

theorem OwnR.ofBlk {w : World} {g base n : Nat} {l : List UInt8} (h : Blk w g (bys l) tU8) (hb : base ≤ g) (hl : l.length = n) (h9 : n < 1000000000) : OwnR base w (.slice (some ⟨g, 0, none⟩) n n) l := by
  subst hl
  exact ⟨by rw [bys_length, Nat.mul_one], .inr ⟨g, l.length, (bys l).toArray, rfl, hb, h, Nat.le_refl _, by unfold maxLen; omega, by rw [List.size_toArray, bys_length, Nat.mul_one], by rw [Nat.mul_one, ← bys_length l]; simp⟩⟩

/-- A text, sealed under a first counter. -/
def sealG (E : List UInt8 → List UInt8) (c aad b : List UInt8) : List UInt8 :=
  List.zipWith (· ^^^ ·) b (streamF E c b.length) ++ tagF E c aad (List.zipWith (· ^^^ ·) b (streamF E c b.length))
abbrev tPK : TypeId := 43

set_option maxRecDepth 100000 in
set_option maxHeartbeats 4000000 in
theorem seal1_any (w : World) (kv : Option Addr) (E : List UInt8 → List UInt8) (hk : KeyV w kv E) (c : List UInt8) (hc : c.length = 16) (bb kb ab : Nat) (pa : Option Addr) (n ca : Nat) (a : List UInt8) (ha : RowAt w pa a) (hn : a.length = n) (hn9 : n < 1000000)
    (pb : Option Addr) (m cb : Nat) (b : List UInt8) (hb : RowAt w pb b) (hm : b.length = m) (hm9 : m < 1000000)
    (h1 : Blk w bb [.slice pb m cb] tBytes) (h2 : Blk w kb [.pointer kv] tPK) (h3 : Blk w ab [.slice pa n ca] tBytes) :
    Calls Try.prog 53 #[.agg (bys c).toArray, .pointer (some ⟨bb, 0, none⟩), .pointer (some ⟨kb, 0, none⟩), .pointer (some ⟨ab, 0, none⟩)] w fun e w' => ∃ v, e = .returned (.tuple #[v, .int .i64 0]) ∧ OwnR w.heap.size w' v (sealG E c a b) ∧ Below w.heap.size w w' := by
  have h0 := Blk.new w (bys c) tA16
  have hB0 : Below w.heap.size w (w.alloc (.cells (bys c).toArray tA16)) := (Below.refl _ _).alloc (Nat.le_refl _) _
  have hsc : (Try.prog.info? 36).map (·.size) = some (bys c).length := by rw [size54, bys_length, hc]
  have hsl := streamF_len E c m (fun s hs => hk.len s hs) hc
  have h1 := h1.below hB0 h1.lt
  have h2 := h2.below hB0 h2.lt
  have h3 := h3.below hB0 h3.lt
  have Ha := hid (ha.below hB0)
  have Hb := hid (hb.below hB0)
  have Hk := hid (hk.below hB0)
  have hel := hk.len c hc
  obtain ⟨S, hS⟩ : ∃ S, streamF E c m = S := ⟨_, rfl⟩
  obtain ⟨X, hX⟩ : ∃ X, List.zipWith (· ^^^ ·) b S = X := ⟨_, rfl⟩
  have hXl : X.length = m := by rw [← hX, List.length_zipWith, ← hS, hsl, hm, Nat.min_self]
  have htl := tagF_len E c a X hel
  have hsg : sealG E c a b = X ++ tagF E c a X := by unfold sealG; rw [hm, hS, hX]
  rw [hS] at hsl
  have HS := hid hS
  have HX := hid hX
  have Hsg := hid hsg
  have Hm := hid hm
  have Hn := hid hn
  clear ha hb hk hS hX hsg hm hn
  go_enter Try.func53, Try.ntmps53
  go_wp2_with fail
  change Code.wp _ _ _ _ (w.alloc (.cells (bys c).toArray tA16))
  generalize w.alloc (.cells (bys c).toArray tA16) = w1 at *
  have hbd : Below w1.heap.size w1 w1.drew := (Below.refl _ _).drew
  have lw := h0.lt
  try simp only [Act.put]
  refine tkR (fun w' => Below w1.heap.size w1 w') [] (by kernel_rfl) (fun c a d v w h => by cases d <;> exact h) (hbd) (fun hPF hHeld => ?_)
  refine tkA 0 (.some 8) _ _ rfl rfl (by kernel_rfl) (by kernel_rfl) (by kernel_rfl) (by kernel_rfl) (by kernel_rfl) hPF rfl (fun w' hw' => by (have q := (h1.below hw' h1.lt).cell 0; simp only [List.getElem?_cons_zero] at q; go_simp; try with_reducible rfl)) hHeld (fun hHeld => ?_)
  simp only [Act.put, List.setIfInBounds_toArray, List.set_cons_zero, List.set_cons_succ]
  refine tkA 1 (.some 9) _ _ rfl rfl (by kernel_rfl) (by kernel_rfl) (by kernel_rfl) (by kernel_rfl) (by kernel_rfl) hPF rfl (fun w' hw' => by (have q := (h2.below hw' h2.lt).cell 0; simp only [List.getElem?_cons_zero] at q; go_simp; try with_reducible rfl)) hHeld (fun hHeld => ?_)
  simp only [Act.put, List.setIfInBounds_toArray, List.set_cons_zero, List.set_cons_succ]
  refine tkL 2 (.some 10) _ rfl rfl 36 (.tmp 4) rfl w.heap.size 0 (bys c) _ (by kernel_rfl) (by kernel_rfl) (by kernel_rfl) (by kernel_rfl) (by kernel_rfl) hPF rfl rfl (fun w' hw' => (h0.below hw' h0.lt).whole) under54 rfl hsc hHeld (fun hHeld => ?_)
  simp only [Act.put, List.setIfInBounds_toArray, List.set_cons_zero, List.set_cons_succ]
  refine tkA 3 (.some 11) _ _ rfl rfl (by kernel_rfl) (by kernel_rfl) (by kernel_rfl) (by kernel_rfl) (by kernel_rfl) hPF rfl (fun w' hw' => by (have q := (h1.below hw' h1.lt).cell 0; simp only [List.getElem?_cons_zero] at q; go_simp; try with_reducible rfl)) hHeld (fun hHeld => ?_)
  simp only [Act.put, List.setIfInBounds_toArray, List.set_cons_zero, List.set_cons_succ]
  refine tkB 4 (.some 12) _ _ rfl rfl (by kernel_rfl) (by kernel_rfl) (by kernel_rfl) (by kernel_rfl) hPF rfl (fun w' => by (go_simp; try with_reducible rfl)) hHeld (fun hHeld => ?_)
  simp only [Act.put, List.setIfInBounds_toArray, List.set_cons_zero, List.set_cons_succ]
  have hS := hHeld (by kernel_rfl)
  refine tkW (rs := [5]) (by kernel_rfl) (by simp) (AllK.cons (o := _) rfl (fun KC hKC => ?_) AllK.nil)
  go_simp
  refine (stream_any _ kv E (Hk.out.below hS) c hc m hm9).mono ?_
  rintro e w2 ⟨p2, c2, rfl, hr2, hc2, hB2⟩
  rw [HS.out] at hr2
  have hS2 := hS.trans (hB2.mono hS.size)
  refine hKC.out _ _ (hS2) (fun hHeld => ?_)
  clear hKC KC
  try simp only [Act.put, List.setIfInBounds_toArray, List.set_cons_zero, List.set_cons_succ]
  have hS := hHeld (by kernel_rfl)
  refine tkW (rs := [6]) (by kernel_rfl) (by simp) (AllK.cons (o := _) rfl (fun KC hKC => ?_) AllK.nil)
  go_simp
  refine (xor_any _ pb p2 m cb m c2 m b S (Hb.out.below hS2) hr2 Hm.out hsl (by omega) (Nat.min_self m).symm).mono ?_
  rintro e w3 ⟨rfl, hx3, hB3⟩
  rw [HX.out] at hx3
  have hS3 := hS2.trans (hB3.mono hS2.size)
  have hge := hS2.size
  refine hKC.out _ _ (hS3) (fun hHeld => ?_)
  clear hKC KC
  try simp only [Act.put, List.setIfInBounds_toArray, List.set_cons_zero, List.set_cons_succ]
  refine tkB 7 (.some 7) _ _ rfl rfl (by kernel_rfl) (by kernel_rfl) (by kernel_rfl) (by kernel_rfl) hPF rfl (fun w' => by (go_simp; try with_reducible rfl)) hHeld (fun hHeld => ?_)
  simp only [Act.put, List.setIfInBounds_toArray, List.set_cons_zero, List.set_cons_succ]
  refine tkD (by kernel_rfl) ?_ _
  have l1 := h1.lt
  have l2 := h2.lt
  have l3 := h3.lt
  have h0 := h0.below hS3 h0.lt
  have h1 := h1.below hS3 h1.lt
  have h2 := h2.below hS3 h2.lt
  have h3 := h3.below hS3 h3.lt
  have q2 := h2.cell 0
  have q3 := h3.cell 0
  simp only [List.getElem?_cons_zero] at q2 q3
  have hBw := hB0.trans (hS3.mono hB0.size)
  have hkv3 := Hk.out.below hS3
  have ha3 := Ha.out.below hS3
  have hs3 := hS3.size
  clear hr2 hB2 hB3 hbd
  go_wp2_with (refine wpList_load_mid rfl 36 (.tmp 4) rfl w.heap.size 0 rfl (bys c) _ h0.whole under54 rfl hsc ?_)
  refine (tag_any w3 kv E hkv3 c hc pa n ca a ha3 Hn.out hn9 (some ⟨w2.heap.size + 2, 0, none⟩) m m X hx3.rowAt0 hXl hm9).mono ?_
  rintro e w4 ⟨g, rfl, hg, hT, hB4⟩
  have hown := (OwnR.ofBlk (base := w.heap.size) hx3 (by omega) hXl (by omega)).below hB4
  have hBw4 := hBw.trans (hB4.mono hBw.size)
  have hs4 := hBw4.size
  have Hown := hid hown
  have hT := hT
  clear hown
  go_wp2_with (refine wpList_addO Hown.out rfl (.tmp 15) (.tmp 20) rfl rfl (some ⟨g, 0, none⟩) 16 16 (tagF E c a X) rfl hT.rowAt0 htl (by omega) hs4 ?_; intro v5 w5 hown5 hgrow5 _)
  have hBw5 := hBw4.grown hgrow5 hs4 (fun j e => (Hown.out.lt j e).1)
  go_ret2
  exact ⟨v5, rfl, by rw [Hsg.out]; exact hown5, hBw5⟩

set_option maxRecDepth 100000 in
set_option maxHeartbeats 2000000 in
/-- does, with a function that comes to R. -/
theorem does_any (w : World) (kb : Nat) (rk : List UInt8) (hk : KeysAt w kb rk) (hrl : 16 * roundsOf rk + 16 ≤ rk.length) (pb : Option Addr) (n cap : Nat) (iv : List UInt8) (hb : RowAt w pb iv) (hn : iv.length = n) (h9 : n < 100000) (h0 : n ≠ 0)
    (F : Nat) (caps : Array Value) (R : Value → Value → World → Prop) (hcf : ∀ args w, (callFunc F args).run Try.prog w = .ok (.enter F args) w)
    (hF : ∀ W, Below w.heap.size w W → Calls Try.prog F (#[.agg (bys (firstF (enc rk) iv)).toArray] ++ caps) W fun e W' => ∃ a b, e = .returned (.tuple #[a, b]) ∧ R a b W') :
    Calls Try.prog 52 #[.pointer (some ⟨kb, 0, none⟩), .slice pb n cap, .func (.func F) #[] caps] w fun e w' => ∃ a b, e = .returned (.tuple #[a, b]) ∧ R a b w' := by
  have HF := hid hF
  clear hF
  go_enter Try.func52, Try.ntmps52
  go_wp2_with fail
  refine (right_any w kb rk hk pb n cap).mono ?_
  rintro e w' ⟨rfl, rfl⟩
  rw [if_neg h0]
  go_wp2_with fail
  refine (first_any w kb rk hk hrl pb n cap iv hb hn h9).mono ?_
  rintro e w1 ⟨rfl, hB1⟩
  go_wp2_with fail
  refine (HF.out w1 hB1).mono ?_
  rintro e w2 ⟨a, b, rfl, hR⟩
  go_wp2_with fail
  go_ret2
  exact ⟨a, b, rfl, hR⟩
set_option maxRecDepth 100000 in
set_option maxHeartbeats 2000000 in
theorem does_iv0 (w : World) (kb : Nat) (rk : List UInt8) (hk : KeysAt w kb rk) (pb : Option Addr) (cap F : Nat) (caps : Array Value) :
    Calls Try.prog 52 #[.pointer (some ⟨kb, 0, none⟩), .slice pb 0 cap, .func (.func F) #[] caps] w fun e w' => e = .returned (.tuple #[.slice none 0 0, .int .i64 6]) ∧ w = w' := by
  go_enter Try.func52, Try.ntmps52
  go_wp2_with fail
  refine (right_any w kb rk hk pb 0 cap).mono ?_
  rintro e w' ⟨rfl, rfl⟩
  rw [if_pos rfl]
  go_wp2_with fail
  go_ret2
  exact ⟨rfl, rfl⟩
set_option maxRecDepth 100000 in
set_option maxHeartbeats 2000000 in
theorem does_nil (w : World) (pb : Option Addr) (n cap F : Nat) (caps : Array Value) :
    Calls Try.prog 52 #[.pointer none, .slice pb n cap, .func (.func F) #[] caps] w fun e w' => e = .returned (.tuple #[.slice none 0 0, .int .i64 5]) ∧ w = w' := by
  go_enter Try.func52, Try.ntmps52
  go_wp2_with fail
  refine (right_nil w pb n cap).mono ?_
  rintro e w' ⟨rfl, rfl⟩
  go_wp2_with fail
  go_ret2
  exact ⟨rfl, rfl⟩

/-- The three boxes of Seal and of Open. -/
structure Boxes (w w' : World) (kv av bv' : Value) : Prop where
  k : Blk w' w.heap.size [kv] tPK
  a : Blk w' (w.heap.size + 1) [av] tBytes
  b : Blk w' (w.heap.size + 1 + 1) [bv'] tBytes
  B : Below w.heap.size w w'
theorem boxes_new (w : World) (kv av bv' : Value) : Boxes w (((w.alloc (.cells #[kv] tPK)).alloc (.cells #[av] tBytes)).alloc (.cells #[bv'] tBytes)) kv av bv' :=
  ⟨((Blk.new w [kv] tPK).alloc _).alloc _, by (have := (Blk.new (w.alloc (.cells #[kv] tPK)) [av] tBytes).alloc (.cells #[bv'] tBytes); simp only [World.size_alloc] at this; exact this),
    by (have := Blk.new ((w.alloc (.cells #[kv] tPK)).alloc (.cells #[av] tBytes)) [bv'] tBytes; simp only [World.size_alloc] at this; exact this), (((Below.refl _ _).alloc (Nat.le_refl _) _).alloc (by simp) _).alloc (by simp; omega) _⟩
theorem callseal1 (args : Array Value) (w : World) : (callFunc 53 args).run Try.prog w = .ok (.enter 53 args) w := by kernel_rfl

set_option maxRecDepth 100000 in
set_option maxHeartbeats 2000000 in
/-- gcm.Seal. -/
theorem gseal_any (w : World) (kb : Nat) (rk : List UInt8) (hk : KeysAt w kb rk) (hrl : 16 * roundsOf rk + 16 ≤ rk.length) (pi : Option Addr) (l ci : Nat) (iv : List UInt8) (hi : RowAt w pi iv) (hl : iv.length = l) (h9 : l < 100000) (h0 : l ≠ 0)
    (pa : Option Addr) (n ca : Nat) (a : List UInt8) (ha : RowAt w pa a) (hn : a.length = n) (hn9 : n < 1000000) (pb : Option Addr) (m cb : Nat) (b : List UInt8) (hb : RowAt w pb b) (hm : b.length = m) (hm9 : m < 1000000) :
    Calls Try.prog 29 #[.pointer (some ⟨kb, 0, none⟩), .slice pi l ci, .slice pa n ca, .slice pb m cb] w fun e w' => ∃ v, e = .returned (.tuple #[v, .int .i64 0]) ∧ OwnR w.heap.size w' v (sealG (enc rk) (firstF (enc rk) iv) a b) ∧ Below w.heap.size w w' := by
  have hX := boxes_new w (.pointer (some ⟨kb, 0, none⟩)) (.slice pa n ca) (.slice pb m cb)
  have Hk := hid hk
  have Hi := hid hi
  have Ha := hid ha
  have Hb := hid hb
  have Hl := hid hl
  have Hn := hid hn
  have Hm := hid hm
  clear hk hi ha hb hl hn hm
  go_enter Try.func29, Try.ntmps29
  go_wp2_with fail
  change Calls _ _ _ (((w.alloc (.cells #[.pointer (some ⟨kb, 0, none⟩)] tPK)).alloc (.cells #[.slice pa n ca] tBytes)).alloc (.cells #[.slice pb m cb] tBytes)) _
  generalize (((w.alloc (.cells #[.pointer (some ⟨kb, 0, none⟩)] tPK)).alloc (.cells #[.slice pa n ca] tBytes)).alloc (.cells #[.slice pb m cb] tBytes)) = W at *
  refine (does_any W kb rk (Hk.out.below hX.B) hrl pi l ci iv (Hi.out.below hX.B) Hl.out h9 h0 53 _ (fun v e W' => e = .int .i64 0 ∧ OwnR w.heap.size W' v (sealG (enc rk) (firstF (enc rk) iv) a b) ∧ Below w.heap.size w W') callseal1 (fun W2 hB2 => ?_)).mono ?_
  · have hBB := hX.B.trans (hB2.mono hX.B.size)
    have hkv : KeyV W2 (some ⟨kb, 0, none⟩) (enc rk) := .inr ⟨kb, rk, rfl, Hk.out.below hBB, rfl, hrl⟩
    refine (seal1_any W2 (some ⟨kb, 0, none⟩) (enc rk) hkv _ (firstF_len _ _) (w.heap.size + 1 + 1) w.heap.size (w.heap.size + 1) pa n ca a (Ha.out.below hBB) Hn.out hn9 pb m cb b (Hb.out.below hBB) Hm.out hm9 (hX.b.below hB2 hX.b.lt) (hX.k.below hB2 hX.k.lt) (hX.a.below hB2 hX.a.lt)).mono ?_
    rintro e W3 ⟨v, rfl, hown, hB3⟩
    exact ⟨v, _, rfl, rfl, hown.mono hBB.size, hBB.trans (hB3.mono hBB.size)⟩
  · rintro e w2 ⟨v, e2, rfl, rfl, hown, hB⟩
    go_wp2_with fail
    go_ret2
    exact ⟨v, rfl, hown, hB⟩
set_option maxRecDepth 100000 in
set_option maxHeartbeats 2000000 in
theorem gseal_iv0 (w : World) (kb : Nat) (rk : List UInt8) (hk : KeysAt w kb rk) (pi : Option Addr) (ci : Nat) (pa : Option Addr) (n ca : Nat) (pb : Option Addr) (m cb : Nat) :
    Calls Try.prog 29 #[.pointer (some ⟨kb, 0, none⟩), .slice pi 0 ci, .slice pa n ca, .slice pb m cb] w fun e w' => e = .returned (.tuple #[.slice none 0 0, .int .i64 6]) ∧ Below w.heap.size w w' := by
  have hX := boxes_new w (.pointer (some ⟨kb, 0, none⟩)) (.slice pa n ca) (.slice pb m cb)
  have Hk := hid hk
  clear hk
  go_enter Try.func29, Try.ntmps29
  go_wp2_with fail
  change Calls _ _ _ (((w.alloc (.cells #[.pointer (some ⟨kb, 0, none⟩)] tPK)).alloc (.cells #[.slice pa n ca] tBytes)).alloc (.cells #[.slice pb m cb] tBytes)) _
  generalize (((w.alloc (.cells #[.pointer (some ⟨kb, 0, none⟩)] tPK)).alloc (.cells #[.slice pa n ca] tBytes)).alloc (.cells #[.slice pb m cb] tBytes)) = W at *
  refine (does_iv0 W kb rk (Hk.out.below hX.B) pi ci _ _).mono ?_
  rintro e w2 ⟨rfl, rfl⟩
  go_wp2_with fail
  go_ret2
  exact ⟨rfl, hX.B⟩
set_option maxRecDepth 100000 in
set_option maxHeartbeats 2000000 in
theorem gseal_nil (w : World) (pi : Option Addr) (l ci : Nat) (pa : Option Addr) (n ca : Nat) (pb : Option Addr) (m cb : Nat) :
    Calls Try.prog 29 #[.pointer none, .slice pi l ci, .slice pa n ca, .slice pb m cb] w fun e w' => e = .returned (.tuple #[.slice none 0 0, .int .i64 5]) ∧ Below w.heap.size w w' := by
  have hX := boxes_new w (.pointer none) (.slice pa n ca) (.slice pb m cb)
  go_enter Try.func29, Try.ntmps29
  go_wp2_with fail
  change Calls _ _ _ (((w.alloc (.cells #[.pointer none] tPK)).alloc (.cells #[.slice pa n ca] tBytes)).alloc (.cells #[.slice pb m cb] tBytes)) _
  generalize (((w.alloc (.cells #[.pointer none] tPK)).alloc (.cells #[.slice pa n ca] tBytes)).alloc (.cells #[.slice pb m cb] tBytes)) = W at *
  refine (does_nil W pi l ci _ _).mono ?_
  rintro e w2 ⟨rfl, rfl⟩
  go_wp2_with fail
  go_ret2
  exact ⟨rfl, hX.B⟩
end Go.Proofs.Ytgellbapbphnlaa
