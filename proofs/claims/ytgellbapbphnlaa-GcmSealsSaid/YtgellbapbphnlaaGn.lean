/- gcm: right, First, stream, tag -/
import Derived.Test.YtgellbapbphnlaaGm
namespace Go.Proofs.Ytgellbapbphnlaa
open Go.RowKit

theorem rounds_any (w : World) (kb : Nat) (rk : List UInt8) (hk : KeysAt w kb rk) :
    Calls Try.prog 70 #[.pointer (some ⟨kb, 0, none⟩)] w fun e w' => ∃ r : Nat, 0 < r ∧ r < 100 ∧ e = .returned (.int .i64 r) ∧ w = w' := by
  obtain ⟨tb, wb, n, cap, ex, h1, _, _, h4, h5⟩ := hk
  refine (rounds_some w kb tb n cap _ h1 (by omega) (by omega)).mono ?_
  rintro e w' ⟨rfl, rfl⟩
  exact ⟨n / 4 - 1, by omega, by omega, rfl, rfl⟩
set_option maxRecDepth 100000 in
set_option maxHeartbeats 1000000 in
theorem right_any (w : World) (kb : Nat) (rk : List UInt8) (hk : KeysAt w kb rk) (pb : Option Addr) (n cap : Nat) :
    Calls Try.prog 57 #[.pointer (some ⟨kb, 0, none⟩), .slice pb n cap] w fun e w' => e = .returned (.int .i64 (if n = 0 then 6 else 0)) ∧ w = w' := by
  go_enter Try.func57, Try.ntmps57
  go_wp2_with fail
  refine (rounds_any w kb rk hk).mono ?_
  rintro e w' ⟨r, hr, hr1, rfl, rfl⟩
  have q1 : ((r : Int) == 0) = false := by rw [beq_eq_false_iff_ne]; omega
  by_cases h : n = 0
  · subst h
    go_wp2_with fail
    go_ret
    exact ⟨rfl, rfl⟩
  · have q2 : ((n : Int) == 0) = false := by rw [beq_eq_false_iff_ne]; omega
    go_wp2_with fail
    go_ret
    exact ⟨rfl, rfl⟩
set_option maxRecDepth 100000 in
set_option maxHeartbeats 1000000 in
theorem right_nil (w : World) (pb : Option Addr) (n cap : Nat) :
    Calls Try.prog 57 #[.pointer none, .slice pb n cap] w fun e w' => e = .returned (.int .i64 5) ∧ w = w' := by
  go_enter Try.func57, Try.ntmps57
  go_wp2_with fail
  refine (rounds_nil w).mono ?_
  rintro e w' ⟨rfl, rfl⟩
  go_wp2_with fail
  go_ret
  exact ⟨rfl, rfl⟩

theorem arrayAt16 (w : World) (a : Option Addr) (len cap : Nat) (h : 16 ≤ len) : (Instr.arrayAt 36 (.slice a len cap)).run Try.prog w = .ok (.pointer a) w :=
  run_arrayAt w 36 5 16 a len cap under54 h
def one4 : List UInt8 := [0, 0, 0, 1]
/-- The first counter. -/
def firstF (E : List UInt8 → List UInt8) (iv : List UInt8) : List UInt8 :=
  if iv.length = 0 then z16 else if iv.length = 12 then iv ++ one4 else ghF (E z16) (padZ iv ++ lenF 0 iv.length)
theorem firstF_len (E : List UInt8 → List UInt8) (iv : List UInt8) : (firstF E iv).length = 16 := by
  unfold firstF
  split
  · rfl
  · split
    · rename_i h; rw [List.length_append, h]; rfl
    · exact ghF_len _ _
theorem RowAt.range {w : World} {b o : Nat} {l : List UInt8} (h : RowAt w (some ⟨b, o, none⟩) l) : w.rangeAt b o (bys l) := fun j v hv => by
  have hj : j < l.length := by rw [← bys_length]; exact (List.getElem?_eq_some_iff.1 hv).1
  obtain ⟨b', o', e, _, hc⟩ := h j hj
  injection e with e; injection e with e1 e2; subst e1 e2
  rw [bys_get l j hj] at hv
  cases hv
  exact hc

set_option maxRecDepth 100000 in
set_option maxHeartbeats 2000000 in
theorem first_any (w : World) (kb : Nat) (rk : List UInt8) (hk : KeysAt w kb rk) (hrl : 16 * roundsOf rk + 16 ≤ rk.length) (pb : Option Addr) (n cap : Nat) (iv : List UInt8) (hb : RowAt w pb iv) (hn : iv.length = n) (h9 : n < 100000) :
    Calls Try.prog 30 #[.pointer (some ⟨kb, 0, none⟩), .slice pb n cap] w fun e w' => e = .returned (.agg (bys (firstF (enc rk) iv)).toArray) ∧ Below w.heap.size w w' := by
  have hr0 := Blk.new w (bys z16) tA16
  have hB0 : Below w.heap.size w (w.alloc (.cells (bys z16).toArray tA16)) := (Below.refl _ _).alloc (Nat.le_refl _) _
  have Hn := hid hn
  have hfl := firstF_len (enc rk) iv
  have hff : firstF (enc rk) iv = firstF (enc rk) iv := rfl
  conv at hff => rhs; unfold firstF
  rw [hn] at hff
  obtain ⟨q, hq⟩ : ∃ q, firstF (enc rk) iv = q := ⟨_, rfl⟩
  rw [hq] at hff hfl
  have Hff := hid hff
  rw [hq]
  have hkv : KeyV w (some ⟨kb, 0, none⟩) (enc rk) := .inr ⟨kb, rk, rfl, hk, rfl, hrl⟩
  clear hn hq hff
  have hsq : (Try.prog.info? 36).map (·.size) = some (bys q).length := by rw [size54, bys_length, hfl]
  have hend : ∀ w', Blk w' w.heap.size (bys z16) tA16 → Below w.heap.size w w' → Blk (w'.setCells w.heap.size 0 (bys q)) w.heap.size (bys q) tA16 ∧ Below w.heap.size w (w'.setCells w.heap.size 0 (bys q)) := fun w' h1 h2 => by
    have h1d := h1.setCells (bys q) 0 (by rw [bys_length, bys_length, hfl]; decide)
    rw [splice_whole _ _ (by rw [bys_length, bys_length, hfl]; rfl)] at h1d
    exact ⟨h1d, h2.trans (((Chg.refl (w.heap.size) [] w').setCells (.inr (Nat.le_refl _)) _ _).below (Nat.le_refl _) (by simp))⟩
  have Hend := hid hend
  clear hend
  go_enter Try.func30, Try.ntmps30
  go_wp2_with fail
  change Calls _ _ _ (w.alloc (.cells (bys z16).toArray tA16)) _
  have hk1 := hk.below hB0
  have hkv1 := hkv.below hB0
  have hb1 := hb.below hB0
  generalize w.alloc (.cells (bys z16).toArray tA16) = W at *
  refine (right_any W kb rk hk1 pb n cap).mono ?_
  rintro e w' ⟨rfl, rfl⟩
  by_cases h0 : n = 0
  · rw [if_pos h0]
    have hff := Hff.out
    rw [if_pos h0] at hff
    have Hf2 := hid hff
    clear hff
    go_wp2_with (refine wpList_store_mid rfl 36 (.tmp 4) (.tmp 10) rfl w.heap.size 0 (bys q).toArray rfl (by rw [Hf2.out]; rfl) (hr0.there 0 _ (by rw [List.size_toArray, bys_length, bys_length, hfl]; decide)) (by rw [size54, List.size_toArray, bys_length, hfl]) (all_oneCell_toArray (bys_one _)) ?_)
    obtain ⟨h1, h2⟩ := Hend.out _ hr0 hB0
    refine bodyPost_ret (v := .agg (bys q).toArray) (results_cell_row (P := Try.prog) (p := 4) (ty := 36) rfl _ _ w.heap.size tA16 _ (0, 0) _ rfl h1 under54 rfl hsq) rfl ⟨rfl, h2⟩
  · rw [if_neg h0]
    have hff := Hff.out
    rw [if_neg h0] at hff
    by_cases h12 : n = 12
    · rw [if_pos h12] at hff
      have q1 : ((n : Int) == 12) = true := by rw [beq_iff_eq]; omega
      have Hf2 := hid hff
      clear hff h12
      go_wp2_with fail
      have ho := Blk.new W (bys one4) tU8
      have hc := Blk.new (W.alloc (.cells (bys one4).toArray 5)) [.slice pb n cap, .slice (some ⟨W.heap.size, 0, none⟩) 4 4] tBytes
      have ho := ho.alloc (.cells #[.slice pb n cap, .slice (some ⟨W.heap.size, 0, none⟩) 4 4] tBytes)
      have hB : Below W.heap.size W ((W.alloc (.cells (bys one4).toArray 5)).alloc (.cells #[.slice pb n cap, .slice (some ⟨W.heap.size, 0, none⟩) 4 4] tBytes)) := ((Below.refl _ _).alloc (Nat.le_refl _) _).alloc (by simp) _
      simp only [World.size_alloc] at hc
      change Calls _ _ _ ((W.alloc (.cells (bys one4).toArray 5)).alloc (.cells #[.slice pb n cap, .slice (some ⟨W.heap.size, 0, none⟩) 4 4] tBytes)) _
      have hs := hB.size
      generalize ((W.alloc (.cells (bys one4).toArray 5)).alloc (.cells #[.slice pb n cap, .slice (some ⟨W.heap.size, 0, none⟩) 4 4] tBytes)) = w1 at *
      refine (concat2_any w1 _ pb _ n cap 4 4 iv one4 _ hc (hb1.below hB) ho.rowAt0 Hn.out rfl (by omega)).mono ?_
      rintro e w2 ⟨v, rfl, hown, hB2⟩
      rw [← Hf2.out] at hown
      have hBB := hB.trans (hB2.mono hs)
      obtain ⟨g, c, rest, rfl, hcc, hg, hgb⟩ := hown.blk (by rw [hfl]; decide)
      rw [hfl] at hcc ⊢
      have hrow := hgb.headRow
      have harr := arrayAt16 w2 (some ⟨g, 0, none⟩) 16 c (Nat.le_refl _)
      have hr2 := hr0.below hBB hr0.lt
      have hB3 := hB0.trans (hBB.mono hB0.size)
      have hrng := hrow.range
      clear hown hB2 hB hc ho hgb
      go_wp2_with (first | (refine wpList_load_mid rfl 36 (.tmp 19) rfl g 0 rfl (bys q) _ hrng under54 rfl hsq ?_) | (refine wpList_store_mid rfl 36 (.tmp 4) (.tmp 20) rfl w.heap.size 0 (bys q).toArray rfl rfl (hr2.there 0 _ (by rw [List.size_toArray, bys_length, bys_length, hfl]; decide)) (by rw [size54, List.size_toArray, bys_length, hfl]) (all_oneCell_toArray (bys_one _)) ?_))
      obtain ⟨h1, h2⟩ := Hend.out _ hr2 hB3
      refine bodyPost_ret (v := .agg (bys q).toArray) (results_cell_row (P := Try.prog) (p := 4) (ty := 36) rfl _ _ w.heap.size tA16 _ (0, 0) _ rfl h1 under54 rfl hsq) rfl ⟨rfl, h2⟩
    · rw [if_neg h12] at hff
      have q1 : ((n : Int) == 12) = false := by rw [beq_eq_false_iff_ne]; omega
      have Hf2 := hid hff
      clear hff
      go_wp2_with fail
      have hc := Blk.new W [.slice pb n cap] tBytes
      have hB : Below W.heap.size W (W.alloc (.cells #[.slice pb n cap] tBytes)) := (Below.refl _ _).alloc (Nat.le_refl _) _
      change Calls _ _ #[_, .int .i64 ((0 : Nat) : Int), _, _] (W.alloc (.cells #[.slice pb n cap] tBytes)) _
      generalize W.alloc (.cells #[.slice pb n cap] tBytes) = w1 at *
      refine (hash_any w1 _ (enc rk) (hkv1.below hB) 0 n (by omega) (by omega) W.heap.size [⟨pb, n, cap, iv⟩] 1 rfl (by omega) hc (by intro r hr; simp at hr; subst hr; exact ⟨hb1.below hB, Hn.out, by show n < 1000000; omega⟩)).mono ?_
      rintro e w2 ⟨rfl, hB2⟩
      have hhf : hashF (enc rk) 0 n [⟨pb, n, cap, iv⟩] = q := by rw [Hf2.out]; unfold hashF padAll; simp
      rw [hhf]
      have hs := hB.size
      have hBB := hB.trans (hB2.mono hs)
      have hr2 := hr0.below hBB hr0.lt
      have hB3 := hB0.trans (hBB.mono hB0.size)
      go_wp2_with (refine wpList_store_mid rfl 36 (.tmp 4) (.tmp 26) rfl w.heap.size 0 (bys q).toArray rfl rfl (hr2.there 0 _ (by rw [List.size_toArray, bys_length, bys_length, hfl]; decide)) (by rw [size54, List.size_toArray, bys_length, hfl]) (all_oneCell_toArray (bys_one _)) ?_)
      obtain ⟨h1, h2⟩ := Hend.out _ hr2 hB3
      refine bodyPost_ret (v := .agg (bys q).toArray) (results_cell_row (P := Try.prog) (p := 4) (ty := 36) rfl _ _ w.heap.size tA16 _ (0, 0) _ rfl h1 under54 rfl hsq) rfl ⟨rfl, h2⟩
end Go.Proofs.Ytgellbapbphnlaa
