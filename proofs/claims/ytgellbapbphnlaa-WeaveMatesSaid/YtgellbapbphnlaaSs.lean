/- weave: streams of ChaCha20, and what ChaCha hands to woven -/
import Derived.Test.YtgellbapbphnlaaXd
import Derived.Test.YtgellbapbphnlaaCb
namespace Go.Proofs.Ytgellbapbphnlaa
open Go.RowKit

abbrev tStr : TypeId := 88
structure StrV where
  key : List UInt8
  nonce : List UInt8
  n : UInt32
  pa : Option Addr
  b : List UInt8
  cap : Nat
def stc (x : StrV) : List Value := bys x.key ++ bys x.nonce ++ [W32 x.n, .slice x.pa x.b.length x.cap]
structure StrOk (w : World) (x : StrV) : Prop where
  key : x.key.length = 32
  nonce : x.nonce.length = 12
  row : RowAt w x.pa x.b
  cap : x.b.length ≤ x.cap
theorem StrOk.below {w w' : World} {x : StrV} (h : StrOk w x) (hB : Below w.heap.size w w') : StrOk w' x := ⟨h.key, h.nonce, h.row.below hB, h.cap⟩
theorem stc_len {w : World} {x : StrV} (h : StrOk w x) : (stc x).length = 46 := by simp [stc, bys, h.key, h.nonce]
theorem stc_one (x : StrV) : ∀ v ∈ stc x, v.oneCell' = true := by
  intro v hv
  unfold stc at hv
  simp only [List.mem_append, List.mem_cons, List.not_mem_nil, or_false] at hv
  rcases hv with (hv | hv) | rfl | rfl
  · exact bys_one _ v hv
  · exact bys_one _ v hv
  · rfl
  · rfl
def z32 : List UInt8 := List.replicate 32 0
def stc0 : List Value := bys z32 ++ bys (List.replicate 12 0) ++ [.int .u32 0, .slice none 0 0]
theorem stc_at {w : World} {x : StrV} (h : StrOk w x) : (stc x)[44]? = some (W32 x.n) ∧ (stc x)[45]? = some (.slice x.pa x.b.length x.cap) := by
  unfold stc
  refine ⟨?_, ?_⟩
  · rw [List.getElem?_append_right (by simp [bys, h.key, h.nonce])]; simp [bys, h.key, h.nonce]
  · rw [List.getElem?_append_right (by simp [bys, h.key, h.nonce])]; simp [bys, h.key, h.nonce]
theorem stc_key {w : World} {b o : Nat} {x : StrV} (h : w.rangeAt b o (stc x)) : w.rangeAt b o (bys x.key) := by
  have := rangeAt_part (A := []) (X := bys x.key) (C := bys x.nonce ++ [W32 x.n, .slice x.pa x.b.length x.cap]) (w := w) (b := b) (o := o) (by rw [List.nil_append, ← List.append_assoc]; exact h)
  simpa using this
theorem stc_nonce {w : World} {b o : Nat} {x : StrV} (hk : x.key.length = 32) (h : w.rangeAt b o (stc x)) : w.rangeAt b (o + 32) (bys x.nonce) := by
  have := rangeAt_part (A := bys x.key) (X := bys x.nonce) (C := [W32 x.n, .slice x.pa x.b.length x.cap]) h
  rwa [bys_length, hk] at this
def blkS (x : StrV) (n : Nat) : List UInt8 := blockF x.key x.nonce (x.n + UInt32.ofNat n)
def ksS (x : StrV) (i : Nat) : UInt8 := (blkS x (i / 64)).getD (i % 64) 0
theorem blkS_len {w : World} {x : StrV} (_ : StrOk w x) (n : Nat) : (blkS x n).length = 64 := blockF_len _ _ _
theorem blkS_ks (x : StrV) (a j : Nat) (h : j < 64) : (blkS x a).getD j 0 = ksS x (64 * a + j) := by
  unfold ksS
  rw [show (64 * a + j) / 64 = a by omega, show (64 * a + j) % 64 = j by omega]
/-- Streams, one behind the other. -/
def StrsAt (w : World) (pa : Option Addr) (l : List StrV) : Prop :=
  ∀ k (h : k < l.length), StrOk w l[k] ∧ ∃ b o, pa = some ⟨b, o, none⟩ ∧ b < w.heap.size ∧ w.rangeAt b (o + k * 46) (stc l[k])
theorem StrsAt.below {w w' : World} {pa : Option Addr} {l : List StrV} (h : StrsAt w pa l) (hB : Below w.heap.size w w') : StrsAt w' pa l := fun k hk => by
  obtain ⟨t, b, o, h1, h2, h3⟩ := h k hk
  exact ⟨t.below hB, b, o, h1, Nat.lt_of_lt_of_le h2 hB.size, rangeAt_below h3 hB h2⟩

set_option maxRecDepth 100000 in
set_option maxHeartbeats 1000000 in
theorem st1_any (w wx : World) (x : StrV) (hx : StrOk wx x) :
    Calls Try.prog 48 #[.agg (stc x).toArray] w fun e w' => e = .returned (.slice x.pa x.b.length x.cap) ∧ Below w.heap.size w w' := by
  have h0 := Blk.new w (stc x) tStr
  have hB0 : Below w.heap.size w (w.alloc (.cells (stc x).toArray tStr)) := (Below.refl _ _).alloc (Nat.le_refl _) _
  have c := h0.cell 45
  rw [(stc_at hx).2] at c
  obtain ⟨cs, hcs⟩ : ∃ cs, stc x = cs := ⟨_, rfl⟩
  rw [hcs] at c h0 hB0 ⊢
  generalize x.pa = pa at *
  generalize x.b.length = n at *
  generalize x.cap = cap at *
  clear hcs hx
  go_enter Try.func48, Try.ntmps48
  go_wp2_with fail
  go_ret
  exact ⟨rfl, hB0⟩
set_option maxRecDepth 100000 in
set_option maxHeartbeats 2000000 in
theorem st2_any (w : World) (x : StrV) (hx : StrOk w x) (n : Nat) (h9 : n < 1000000) :
    Calls Try.prog 49 #[.agg (stc x).toArray, .int .i64 n] w fun e w' => ∃ g, e = .returned (.slice (some ⟨g, 0, none⟩) 64 64) ∧ w.heap.size ≤ g ∧ Blk w' g (bys (blkS x n)) tB64 ∧ Below w.heap.size w w' := by
  have h0 := Blk.new w (stc x) tStr
  have hB0 : Below w.heap.size w (w.alloc (.cells (stc x).toArray tStr)) := (Below.refl _ _).alloc (Nat.le_refl _) _
  have c := h0.cell 44
  rw [(stc_at hx).1] at c
  have hkr := stc_key h0.whole
  have hnr := stc_nonce hx.key h0.whole
  have hs0 : (Try.prog.info? 35).map (·.size) = some (bys x.key).length := by rw [size32b, bys_length, hx.key]
  have hs1 : (Try.prog.info? 50).map (·.size) = some (bys x.nonce).length := by rw [size12b, bys_length, hx.nonce]
  have hnw : IntKind.u32.wrap (n : Int) = wv (UInt32.ofNat n) := by rw [w_lit n (by omega)]; rw [IntKind.wrap_u32]; omega
  have hnw2 : (n : Int) % 4294967296 = wv (UInt32.ofNat n) := by rw [w_lit n (by omega)]; omega
  have hbl : blkS x n = blockF x.key x.nonce (x.n + UInt32.ofNat n) := rfl
  have hil := blockF_len x.key x.nonce (x.n + UInt32.ofNat n)
  have Hb := hid (fun w => chblock_any w x.key x.nonce (x.n + UInt32.ofNat n) hx.key hx.nonce)
  obtain ⟨cs, hcs⟩ : ∃ cs, stc x = cs := ⟨_, rfl⟩
  rw [hcs] at h0 hB0 ⊢ c hkr hnr
  rw [hbl]
  generalize x.key = key at *
  generalize x.nonce = nonce at *
  generalize x.n = xn at *
  generalize UInt32.ofNat n = un at *
  obtain ⟨R, hR⟩ : ∃ R, blockF key nonce (xn + un) = R := ⟨_, rfl⟩
  rw [hR] at hil ⊢
  have HR := hid hR
  have Hil := hid hil
  clear hcs hx hbl hR hil
  go_enter Try.func49, Try.ntmps49
  go_upto_region 1 with fail
  change Code.wp _ _ _ _ (w.alloc (.cells cs.toArray tStr))
  obtain ⟨bx, hbx⟩ : ∃ bx, w.heap.size = bx := ⟨_, rfl⟩
  have hbW : bx ≤ (w.alloc (.cells cs.toArray tStr)).heap.size := by simp [hbx]
  rw [hbx] at h0 hkr hnr c hB0 ⊢
  generalize w.alloc (.cells cs.toArray tStr) = W at *
  have haw : IntKind.u32.wrap (wv xn + wv un) = wv (xn + un) := by rw [← w_add]; rfl
  have hszR : (Try.prog.info? 90).map (·.size) = some (bys R).toArray.size := by rw [size64, List.size_toArray, bys_length, Hil.out]
  have Hbx := hid hbx
  clear hbx
  go_upto_region 1 with fail
  go_wp2_with (first | (refine wpList_load_mid rfl 35 (.tmp 6) rfl bx 0 rfl (bys key) _ hkr Try.underlying35 rfl hs0 ?_) | (refine wpList_load_mid rfl 50 (.tmp 8) rfl bx 32 rfl (bys nonce) _ hnr Try.underlying50 rfl hs1 ?_))
  refine (Hb.out W).mono ?_
  rw [HR.out]
  rintro e w1 ⟨rfl, hB1⟩
  have hz := Blk.new w1 (bys z64) tB64
  have hBn : Below w1.heap.size w1 (w1.alloc (.cells (bys z64).toArray tB64)) := (Below.refl _ _).alloc (Nat.le_refl _) _
  have hg := hz.setCells (bys R) 0 (by rw [bys_length, bys_length, Hil.out]; decide)
  rw [splice_whole _ _ (by rw [bys_length, bys_length, Hil.out]; rfl)] at hg
  have hB2 : Below w1.heap.size w1 ((w1.alloc (.cells (bys z64).toArray tB64)).setCells w1.heap.size 0 (bys R)) := hBn.trans (((Chg.refl w1.heap.size [] _).setCells (b := w1.heap.size) (.inr (Nat.le_refl _)) (bys R) 0).below (Nat.le_refl _) (by simp))
  go_upto_region 2 with (refine wpList_store_mid rfl 90 (.tmp 5) (.tmp 15) rfl w1.heap.size 0 (bys R).toArray rfl rfl (hz.there 0 _ (by rw [List.size_toArray, bys_length, bys_length, Hil.out]; decide)) hszR (all_oneCell_toArray (bys_one _)) ?_)
  change Code.wp _ _ _ _ ((w1.alloc (.cells (bys z64).toArray tB64)).setCells w1.heap.size 0 (bys R))
  have hBf := hB0.trans ((hB1.trans (hB2.mono hB1.size)).mono hbW)
  have hbg : bx ≤ w1.heap.size := Nat.le_trans hbW hB1.size
  generalize (w1.alloc (.cells (bys z64).toArray tB64)).setCells w1.heap.size 0 (bys R) = w2 at *
  generalize w1.heap.size = g at *
  go_wp2_with fail
  go_ret
  exact ⟨g, rfl, by rw [Hbx.out]; exact hbg, hg, by rw [Hbx.out]; exact hBf⟩
end Go.Proofs.Ytgellbapbphnlaa
