/- weave: the law's texts; light -/
import Derived.Test.YtgellbapbphnlaaKn
namespace Go.Proofs.Ytgellbapbphnlaa
open Go.RowKit

structure TextV where
  K : List UInt8
  long : Bool
  iv : List UInt8
  n : Nat
  pa : Option Addr
  b : List UInt8
  cap : Nat
/-- A text's cells. -/
def textc (x : TextV) : List Value := bys x.K ++ [.bool x.long] ++ bys x.iv ++ [.int .u32 x.n, .slice x.pa x.b.length x.cap]
structure TextOk (w : World) (x : TextV) : Prop where
  K : x.K.length = 32
  iv : x.iv.length = 16
  n : x.n < 4294967296
  row : RowAt w x.pa x.b
  cap : x.b.length ≤ x.cap
theorem textc_len {w : World} {x : TextV} (h : TextOk w x) : (textc x).length = 51 := by simp [textc, bys, h.K, h.iv]
theorem textc_slice {w : World} {x : TextV} (h : TextOk w x) : (textc x)[50]? = some (.slice x.pa x.b.length x.cap) := by
  unfold textc
  rw [List.getElem?_append_right (by simp [bys, h.K, h.iv])]
  simp [bys, h.K, h.iv]
theorem textc_n {w : World} {x : TextV} (h : TextOk w x) : (textc x)[49]? = some (.int .u32 x.n) := by
  unfold textc
  rw [List.getElem?_append_right (by simp [bys, h.K, h.iv])]
  simp [bys, h.K, h.iv]
theorem textc_long {w : World} {x : TextV} (h : TextOk w x) : (textc x)[32]? = some (.bool x.long) := by
  unfold textc
  rw [List.getElem?_append_left (by simp [bys, h.K, h.iv]), List.getElem?_append_left (by simp [bys, h.K]), List.getElem?_append_right (by simp [bys, h.K])]
  simp [bys, h.K]
/-- The texts lie one behind the other. -/
def TextsAt (w : World) (pa : Option Addr) (l : List TextV) : Prop :=
  ∀ k (h : k < l.length), TextOk w l[k] ∧ ∃ b o, pa = some ⟨b, o, none⟩ ∧ b < w.heap.size ∧ ∀ j, j < 51 → w.cell? ⟨b, o + k * 51 + j, none⟩ = (textc l[k])[j]?
theorem TextsAt.below {w w' : World} {pa : Option Addr} {l : List TextV} (h : TextsAt w pa l) (hB : Below w.heap.size w w') : TextsAt w' pa l := fun k hk => by
  obtain ⟨t, b, o, h1, h2, h3⟩ := h k hk
  refine ⟨⟨t.K, t.iv, t.n, t.row.below hB, t.cap⟩, b, o, h1, Nat.lt_of_lt_of_le h2 hB.size, fun j hj => ?_⟩
  rw [← h3 j hj]
  simp [World.cell?, hB.block b h2]
def lightT (l : List TextV) (most : Nat) : Bool := l.length ≤ 8 && l.all (fun x => x.b.length ≤ most)

set_option maxRecDepth 100000 in
set_option maxHeartbeats 2000000 in
theorem lightT_any (w : World) (pa : Option Addr) (l : List TextV) (n cap most : Nat) (hl : TextsAt w pa l) (hn : l.length = n) :
    Calls Try.prog 15 #[.slice pa n cap, .int .i64 most] w fun e w' => e = .returned (.bool (lightT l most)) ∧ w = w' := by
  by_cases hlen : n ≤ 8
  · have HL := hid (show lightT l most = l.all (fun x => x.b.length ≤ most) by unfold lightT; simp [hn, hlen])
    have q0 : ¬ (8 < (n : Int)) := by omega
    have Hn := hid hn
    clear hn
    go_enter Try.func15, Try.ntmps15
    go_wp2_with fail
    go_loopw [5] (fun i wr => ∃ k : Nat, k ≤ n ∧ i = .int .i64 k ∧ (∀ j (h : j < l.length), j < k → l[j].b.length ≤ most) ∧ w = wr) (fun i _ => 101 - (intOf i).toNat)
    case atStart => exact ⟨0, by omega, rfl, fun j _ h => by omega, rfl⟩
    case round =>
      obtain ⟨k, hk, rfl, hall, rfl⟩ := hrel
      by_cases hlt : k < n
      · have hkl : k < l.length := by rw [Hn.out]; exact hlt
        have hh := hl k hkl
        generalize hx : l[k] = x at hh
        obtain ⟨tk, b, o, rfl, hb, hc⟩ := hh
        have c4 := hc 50 (by omega)
        rw [textc_slice tk] at c4
        have Hall := hid hall
        obtain ⟨pk, hpk⟩ : ∃ p, x.pa = p := ⟨_, rfl⟩
        obtain ⟨bk, hbk⟩ : ∃ p, x.b.length = p := ⟨_, rfl⟩
        obtain ⟨ck, hck⟩ : ∃ p, x.cap = p := ⟨_, rfl⟩
        rw [hpk, hbk, hck] at c4
        have Hx := hid hx
        have Hbk := hid hbk
        clear hall hc tk hx hpk hbk hck
        have q1 : (k : Int) < (n : Int) := by omega
        by_cases h200 : bk ≤ most
        · have q2 : ¬ ((most : Int) < (bk : Int)) := by omega
          go_wp2_with fail
          go_roundw
          case rel =>
            refine ⟨k + 1, by omega, by go_num, fun j hj hjk => ?_, trivial⟩
            by_cases e : j = k
            · subst e; rw [Hx.out, Hbk.out]; exact h200
            · exact Hall.out j hj (by omega)
          case measure => simp [intOf]; omega
        · have q2 : (most : Int) < (bk : Int) := by omega
          have hf : l.all (fun x => x.b.length ≤ most) = false := by
            rw [List.all_eq_false]; exact ⟨l[k]'hkl, List.getElem_mem hkl, by rw [Hx.out, Hbk.out]; simpa using h200⟩
          have HF := hid hf
          clear hf
          go_wp2_with fail
          go_ret
          exact ⟨by rw [HL.out, HF.out]; rfl, rfl⟩
      · have hke : k = n := by omega
        have q1 : ¬ ((k : Int) < (n : Int)) := by omega
        have hf : l.all (fun x => x.b.length ≤ most) = true := by
          rw [List.all_eq_true]
          intro x hx
          obtain ⟨j, hj, rfl⟩ := List.getElem_of_mem hx
          have : j < k := by rw [hke, ← Hn.out]; exact hj
          simpa using hall j hj this
        have HF := hid hf
        clear hf hall hke
        go_wp2_with fail
        go_ret
        exact ⟨by rw [HL.out, HF.out]; rfl, rfl⟩
  · have HL := hid (show lightT l most = false by unfold lightT; simp [hn, hlen])
    have q0 : 8 < (n : Int) := by omega
    clear hn
    go_enter Try.func15, Try.ntmps15
    go_wp2_with fail
    go_ret
    exact ⟨by rw [HL.out]; rfl, rfl⟩
end Go.Proofs.Ytgellbapbphnlaa
