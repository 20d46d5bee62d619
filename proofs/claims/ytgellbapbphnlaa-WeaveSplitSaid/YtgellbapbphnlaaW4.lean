/- weave: a text's key bytes; texts in counter mode -/
import Derived.Test.YtgellbapbphnlaaW2
namespace Go.Proofs.Ytgellbapbphnlaa
open Go.RowKit

abbrev tText : TypeId := 39
theorem textc_row {w : World} {x : TextV} {b : Nat} {T : TypeId} (hx : TextOk w x) {w' : World} (h : Blk w' b (textc x) T) (n : Nat) (hn : n ≤ 32) : RowAt w' (some ⟨b, 0, none⟩) (x.K.take n) := fun k hk => by
  rw [List.length_take] at hk
  refine ⟨b, 0, rfl, h.lt, ?_⟩
  rw [Nat.zero_add, h.cell]
  unfold textc
  rw [List.getElem?_append_left (by simp [bys, hx.K]; omega), List.getElem?_append_left (by simp [bys, hx.K]; omega), List.getElem?_append_left (by rw [bys_length, hx.K]; omega), bys_get _ _ (by rw [hx.K]; omega)]
  simp [List.getD, show k < n by omega]
def rkT (x : TextV) : List UInt8 := rkOf (km x.long) (x.K.take (kn x.long))

set_option maxRecDepth 100000 in
set_option maxHeartbeats 1000000 in
theorem bytesT_any (w wx : World) (x : TextV) (hx : TextOk wx x) :
    Calls Try.prog 21 #[.agg (textc x).toArray] w fun e w' => e = .returned (.slice (some ⟨w.heap.size, 0, none⟩) (kn x.long) 32) ∧ Blk w' w.heap.size (textc x) tText ∧ Below w.heap.size w w' := by
  have h0 := Blk.new w (textc x) tText
  have hB0 : Below w.heap.size w (w.alloc (.cells (textc x).toArray tText)) := (Below.refl _ _).alloc (Nat.le_refl _) _
  have c := h0.cell 32
  rw [textc_long hx] at c
  obtain ⟨g, hg⟩ : ∃ g, x.long = g := ⟨_, rfl⟩
  rw [hg] at c ⊢
  obtain ⟨cs, hcs⟩ : ∃ cs, textc x = cs := ⟨_, rfl⟩
  rw [hcs] at c h0 hB0 ⊢
  clear hg hcs hx
  cases g
  all_goals
    go_enter Try.func21, Try.ntmps21
    go_wp2_with fail
    go_ret
    exact ⟨rfl, h0, hB0⟩
theorem rkT_len {w : World} {x : TextV} (hx : TextOk w x) : 16 * roundsOf (rkT x) + 16 ≤ (rkT x).length := by
  have hk := kn_km x.long
  exact (rkOf_len (km x.long) (x.K.take (kn x.long)) (by rw [List.length_take, hx.K]; omega) hk.2.1).2
/-- A text in counter mode as weave takes it. -/
structure CtrV where
  kb : Nat
  rk : List UInt8
  iv : List UInt8
  pa : Option Addr
  b : List UInt8
  cap : Nat
def ctrc (x : CtrV) : List Value := [.pointer (some ⟨x.kb, 0, none⟩)] ++ bys x.iv ++ [.slice x.pa x.b.length x.cap]
structure CtrOk (w : World) (x : CtrV) : Prop where
  keys : KeysAt w x.kb x.rk
  rounds : 16 * roundsOf x.rk + 16 ≤ x.rk.length
  iv : x.iv.length = 16
  row : RowAt w x.pa x.b
  cap : x.b.length ≤ x.cap
theorem CtrOk.below {w w' : World} {x : CtrV} (h : CtrOk w x) (hB : Below w.heap.size w w') : CtrOk w' x := ⟨h.keys.below hB, h.rounds, h.iv, h.row.below hB, h.cap⟩
theorem ctrc_len {w : World} {x : CtrV} (h : CtrOk w x) : (ctrc x).length = 18 := by simp [ctrc, bys, h.iv]
end Go.Proofs.Ytgellbapbphnlaa
