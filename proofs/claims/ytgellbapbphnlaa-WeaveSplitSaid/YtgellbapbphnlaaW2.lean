/- weave: the texts' lengths; the reference's Steps -/
import Derived.Test.YtgellbapbphnlaaW1
import Derived.Laws.AppendOwn
namespace Go.Proofs.Ytgellbapbphnlaa
open Go.RowKit

def intsN (l : List Nat) : List Value := l.map fun (n : Nat) => Value.int .i64 (n : Int)
theorem intsN_len (l : List Nat) : (intsN l).length = l.length := by simp [intsN]
theorem intsN_one (l : List Nat) : ∀ v ∈ intsN l, v.oneCell' = true := by
  intro v hv
  simp only [intsN, List.mem_map] at hv
  obtain ⟨x, _, rfl⟩ := hv
  rfl
/-- Numbers in a row. -/
def IntsAt (w : World) (pa : Option Addr) (l : List Nat) : Prop :=
  ∀ k, k < l.length → ∃ b o, pa = some ⟨b, o, none⟩ ∧ b < w.heap.size ∧ w.cell? ⟨b, o + k, none⟩ = some (.int .i64 (l.getD k 0 : Nat))
theorem IntsAt.below {w w' : World} {pa : Option Addr} {l : List Nat} (h : IntsAt w pa l) (hB : Below w.heap.size w w') : IntsAt w' pa l := fun k hk => by
  obtain ⟨b, o, h1, h2, h3⟩ := h k hk
  refine ⟨b, o, h1, Nat.lt_of_lt_of_le h2 hB.size, ?_⟩
  rw [← h3]
  simp [World.cell?, hB.block b h2]
theorem intsN_get (l : List Nat) (k : Nat) (hk : k < l.length) : (intsN l)[k]? = some (.int .i64 (l.getD k 0 : Nat)) := by
  simp [intsN, List.getD, hk]
theorem ints_row {w : World} {base : Nat} {v : Value} {l : List Nat} (h : w.ownsRow base 3 1 v l.length (intsN l)) : ∃ pa cap, v = .slice pa l.length cap ∧ l.length ≤ cap ∧ IntsAt w pa l := by
  rcases h.2 with ⟨hv, h0⟩ | ⟨g, cap, cur, hv, _, hh, hc, _⟩
  · exact ⟨none, 0, by rw [hv, h0], by omega, fun k hk => by omega⟩
  · refine ⟨some ⟨g, 0, none⟩, cap, hv, hc, fun k hk => ⟨g, 0, rfl, ?_, ?_⟩⟩
    · rcases Nat.lt_or_ge g w.heap.size with hlt | hge
      · exact hlt
      · rw [Array.getElem?_eq_none hge] at hh; cases hh
    · have := h.cells (g := g) (by rw [hv]; rfl) k _ (intsN_get l k hk)
      rw [Addr.add_mid] at this; exact this
theorem infoInt : (Try.prog.info? 3).map (fun i => (i.zero, i.size, i.bytes)) = some (some (.int .i64 0), 1, 8) := by kernel_rfl
theorem underInts : Try.prog.underlying 31 = some (.slice 3) := by kernel_rfl
def lensT (l : List TextV) : List Nat := l.map fun x => x.b.length

set_option maxRecDepth 100000 in
set_option maxHeartbeats 2000000 in
theorem lengthsT_any (w : World) (pa : Option Addr) (l : List TextV) (n cap : Nat) (hl : TextsAt w pa l) (hn : l.length = n) (h9 : n ≤ 1000) :
    Calls Try.prog 19 #[.slice pa n cap] w fun e w' => ∃ v, e = .returned v ∧ w'.ownsRow w.heap.size 3 1 v n (intsN (lensT l)) ∧ Below w.heap.size w w' := by
  obtain ⟨i0, hi0, hz0, hs0, hb0⟩ := info_parts infoInt
  have Hi0 := hid hi0
  have Hz0 := hid hz0
  have Hs0 := hid hs0
  have Hb0 := hid hb0
  have Hn := hid hn
  clear hi0 hz0 hs0 hb0 hn
  go_enter Try.func19, Try.ntmps19
  go_wp2_with fail
  go_loopw [3, 4] (fun v i wr => ∃ k : Nat, k ≤ n ∧ i = .int .i64 k ∧ wr.ownsRow w.heap.size 3 1 v k (intsN (lensT (l.take k))) ∧ Below w.heap.size w wr) (fun _ i _ => n - (intOf i).toNat)
  case atStart => exact ⟨0, by omega, rfl, World.ownsRow_nil _ _ _ _, Below.refl _ _⟩
  case round =>
    obtain ⟨k, hk, rfl, hown, hB⟩ := hrel
    by_cases hlt : k < n
    · have hkl : k < l.length := by rw [Hn.out]; exact hlt
      have hh := hl.below hB k hkl
      have htk : lensT (l.take (k + 1)) = lensT (l.take k) ++ [(l[k]).b.length] := by
        unfold lensT
        rw [List.take_add_one, List.getElem?_eq_getElem hkl, List.map_append]
        rfl
      generalize hx : l[k] = x at hh htk
      obtain ⟨tk, b, o, rfl, hb, hc⟩ := hh
      have c4 := hc 50 (by omega)
      rw [textc_slice tk] at c4
      obtain ⟨pk, hpk⟩ : ∃ p, x.pa = p := ⟨_, rfl⟩
      obtain ⟨bk, hbk⟩ : ∃ p, x.b.length = p := ⟨_, rfl⟩
      obtain ⟨ck, hck⟩ : ∃ p, x.cap = p := ⟨_, rfl⟩
      rw [hpk, hbk, hck] at c4
      rw [hbk] at htk
      have Htk := hid htk
      have Hown := hid hown
      clear hc tk hx hpk hbk hck htk hown
      have q1 : (k : Int) < (n : Int) := by omega
      have hsW := hB.size
      go_wp2_with (refine wpList_append_own _ rfl (.tmp 11) (.tmp 18) 31 rfl w.heap.size 3 i0 (.int .i64 0) 1 8 underInts Hi0.out Hz0.out Hs0.out Hb0.out rfl (by decide) u3 k _ rfl (Hown.out.alloc _) ⟨wr.heap.size, 0, none⟩ 1 1 (intsN [bk]) rfl rfl (fun a u hu => by rw [Addr.add_mid]; exact (Blk.new wr (intsN [bk]) 3).whole a u hu) (intsN_one _) (by unfold maxLen; omega) (by omega) (by simp; omega) ?_; intro v' w1 hown1 hgrow _; have hB1 := (hB.alloc hB.size (.cells (intsN [bk]).toArray 3)).grown hgrow (by simp; omega) (fun j e => by { have := (Hown.out.lt j e).1; omega }))
      go_roundw
      case rel =>
        refine ⟨k + 1, by omega, by go_num, ?_, hB1⟩
        rw [Htk.out]
        simpa [intsN] using hown1
      case measure => simp [intOf]; omega
    · have hke : k = n := by omega
      have q1 : ¬ ((k : Int) < (n : Int)) := by omega
      rw [hke, List.take_of_length_le (by rw [Hn.out]; omega)] at hown
      clear hke
      go_wp2_with fail
      go_ret
      exact ⟨_, rfl, hown, hB⟩

/-- How many blocks lengths come to, and how many steps. -/
def blocksF (size : Nat) : List Nat → Nat
  | [] => 0
  | x :: l => (x + (size - 1)) / size + blocksF size l
def stepsF (size width : Nat) (l : List Nat) : Nat := (blocksF size l + (width - 1)) / width
theorem blocksF_snoc (size : Nat) : ∀ (l : List Nat) (x : Nat), blocksF size (l ++ [x]) = blocksF size l + (x + (size - 1)) / size
  | [], x => by simp [blocksF]
  | y :: l, x => by simp only [List.cons_append, blocksF, blocksF_snoc size l x]; omega
end Go.Proofs.Ytgellbapbphnlaa
