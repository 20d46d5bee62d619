/- weave and chacha: several texts in one -/
import Derived.Test.YtgellbapbphnlaaRts
import Derived.Laws.AppendOwn
import Derived.Test.YtgellbapbphnlaaBg
import Derived.Maps.AppendAt
/- how many bytes and words a short and a long key have -/
namespace Go.Proofs.Ytgellbapbphnlaa
open Go.RowKit

/-- How many bytes a key has. -/
def kn (long : Bool) : Nat := if long then 32 else 16
def km (long : Bool) : Nat := if long then 8 else 4
theorem kn_km (long : Bool) : kn long = 4 * km long ∧ (km long = 4 ∨ km long = 8) ∧ kn long ≤ 32 := by cases long <;> simp [kn, km]
end Go.Proofs.Ytgellbapbphnlaa

/- weave: the law's texts; light -/
namespace Go.Proofs.Ytgellbapbphnlaa
open Go.RowKit

structure TextV where
  K : List UInt8
  long : Bool
  iv : List UInt8
  n : Nat
  pa : Option Addr
  b : List UInt8
  cap : Nat
/-- A text's cells. -/
def textc (x : TextV) : List Value := bys x.K ++ [.bool x.long] ++ bys x.iv ++ [.int .u32 x.n, .slice x.pa x.b.length x.cap]
structure TextOk (w : World) (x : TextV) : Prop where
  K : x.K.length = 32
  iv : x.iv.length = 16
  n : x.n < 4294967296
  row : RowAt w x.pa x.b
  cap : x.b.length ≤ x.cap
theorem textc_len {w : World} {x : TextV} (h : TextOk w x) : (textc x).length = 51 := by simp [textc, bys, h.K, h.iv]
theorem textc_slice {w : World} {x : TextV} (h : TextOk w x) : (textc x)[50]? = some (.slice x.pa x.b.length x.cap) := by
  unfold textc
  rw [List.getElem?_append_right (by simp [bys, h.K, h.iv])]
  simp [bys, h.K, h.iv]
theorem textc_n {w : World} {x : TextV} (h : TextOk w x) : (textc x)[49]? = some (.int .u32 x.n) := by
  unfold textc
  rw [List.getElem?_append_right (by simp [bys, h.K, h.iv])]
  simp [bys, h.K, h.iv]
theorem textc_long {w : World} {x : TextV} (h : TextOk w x) : (textc x)[32]? = some (.bool x.long) := by
  unfold textc
  rw [List.getElem?_append_left (by simp [bys, h.K, h.iv]), List.getElem?_append_left (by simp [bys, h.K]), List.getElem?_append_right (by simp [bys, h.K])]
  simp [bys, h.K]
/-- The texts lie one behind the other. -/
def TextsAt (w : World) (pa : Option Addr) (l : List TextV) : Prop :=
  ∀ k (h : k < l.length), TextOk w l[k] ∧ ∃ b o, pa = some ⟨b, o, none⟩ ∧ b < w.heap.size ∧ ∀ j, j < 51 → w.cell? ⟨b, o + k * 51 + j, none⟩ = (textc l[k])[j]?
theorem TextsAt.below {w w' : World} {pa : Option Addr} {l : List TextV} (h : TextsAt w pa l) (hB : Below w.heap.size w w') : TextsAt w' pa l := fun k hk => by
  obtain ⟨t, b, o, h1, h2, h3⟩ := h k hk
  refine ⟨⟨t.K, t.iv, t.n, t.row.below hB, t.cap⟩, b, o, h1, Nat.lt_of_lt_of_le h2 hB.size, fun j hj => ?_⟩
  rw [← h3 j hj]
  simp [World.cell?, hB.block b h2]
def lightT (l : List TextV) (most : Nat) : Bool := l.length ≤ 8 && l.all (fun x => x.b.length ≤ most)

set_option maxRecDepth 100000 in
set_option maxHeartbeats 2000000 in
theorem lightT_any (w : World) (pa : Option Addr) (l : List TextV) (n cap most : Nat) (hl : TextsAt w pa l) (hn : l.length = n) :
    Calls Try.prog 15 #[.slice pa n cap, .int .i64 most] w fun e w' => e = .returned (.bool (lightT l most)) ∧ w = w' := by
  by_cases hlen : n ≤ 8
  · have HL := hid (show lightT l most = l.all (fun x => x.b.length ≤ most) by unfold lightT; simp [hn, hlen])
    have q0 : ¬ (8 < (n : Int)) := by omega
    have Hn := hid hn
    clear hn
    go_enter Try.func15, Try.ntmps15
    go_wp2_with fail
    go_loopw [5] (fun i wr => ∃ k : Nat, k ≤ n ∧ i = .int .i64 k ∧ (∀ j (h : j < l.length), j < k → l[j].b.length ≤ most) ∧ w = wr) (fun i _ => 101 - (intOf i).toNat)
    case atStart => exact ⟨0, by omega, rfl, fun j _ h => by omega, rfl⟩
    case round =>
      obtain ⟨k, hk, rfl, hall, rfl⟩ := hrel
      by_cases hlt : k < n
      · have hkl : k < l.length := by rw [Hn.out]; exact hlt
        have hh := hl k hkl
        generalize hx : l[k] = x at hh
        obtain ⟨tk, b, o, rfl, hb, hc⟩ := hh
        have c4 := hc 50 (by omega)
        rw [textc_slice tk] at c4
        have Hall := hid hall
        obtain ⟨pk, hpk⟩ : ∃ p, x.pa = p := ⟨_, rfl⟩
        obtain ⟨bk, hbk⟩ : ∃ p, x.b.length = p := ⟨_, rfl⟩
        obtain ⟨ck, hck⟩ : ∃ p, x.cap = p := ⟨_, rfl⟩
        rw [hpk, hbk, hck] at c4
        have Hx := hid hx
        have Hbk := hid hbk
        clear hall hc tk hx hpk hbk hck
        have q1 : (k : Int) < (n : Int) := by omega
        by_cases h200 : bk ≤ most
        · have q2 : ¬ ((most : Int) < (bk : Int)) := by omega
          go_wp2_with fail
          go_roundw
          case rel =>
            refine ⟨k + 1, by omega, by go_num, fun j hj hjk => ?_, trivial⟩
            by_cases e : j = k
            · subst e; rw [Hx.out, Hbk.out]; exact h200
            · exact Hall.out j hj (by omega)
          case measure => simp [intOf]; omega
        · have q2 : (most : Int) < (bk : Int) := by omega
          have hf : l.all (fun x => x.b.length ≤ most) = false := by
            rw [List.all_eq_false]; exact ⟨l[k]'hkl, List.getElem_mem hkl, by rw [Hx.out, Hbk.out]; simpa using h200⟩
          have HF := hid hf
          clear hf
          go_wp2_with fail
          go_ret
          exact ⟨by rw [HL.out, HF.out]; rfl, rfl⟩
      · have hke : k = n := by omega
        have q1 : ¬ ((k : Int) < (n : Int)) := by omega
        have hf : l.all (fun x => x.b.length ≤ most) = true := by
          rw [List.all_eq_true]
          intro x hx
          obtain ⟨j, hj, rfl⟩ := List.getElem_of_mem hx
          have : j < k := by rw [hke, ← Hn.out]; exact hj
          simpa using hall j hj this
        have HF := hid hf
        clear hf hall hke
        go_wp2_with fail
        go_ret
        exact ⟨by rw [HL.out, HF.out]; rfl, rfl⟩
  · have HL := hid (show lightT l most = false by unfold lightT; simp [hn, hlen])
    have q0 : 8 < (n : Int) := by omega
    clear hn
    go_enter Try.func15, Try.ntmps15
    go_wp2_with fail
    go_ret
    exact ⟨by rw [HL.out]; rfl, rfl⟩
end Go.Proofs.Ytgellbapbphnlaa

/- weave: the texts' lengths; the reference's Steps -/
namespace Go.Proofs.Ytgellbapbphnlaa
open Go.RowKit

def intsN (l : List Nat) : List Value := l.map fun (n : Nat) => Value.int .i64 (n : Int)
theorem intsN_len (l : List Nat) : (intsN l).length = l.length := by simp [intsN]
theorem intsN_one (l : List Nat) : ∀ v ∈ intsN l, v.oneCell' = true := by
  intro v hv
  simp only [intsN, List.mem_map] at hv
  obtain ⟨x, _, rfl⟩ := hv
  rfl
/-- Numbers in a row. -/
def IntsAt (w : World) (pa : Option Addr) (l : List Nat) : Prop :=
  ∀ k, k < l.length → ∃ b o, pa = some ⟨b, o, none⟩ ∧ b < w.heap.size ∧ w.cell? ⟨b, o + k, none⟩ = some (.int .i64 (l.getD k 0 : Nat))
theorem IntsAt.below {w w' : World} {pa : Option Addr} {l : List Nat} (h : IntsAt w pa l) (hB : Below w.heap.size w w') : IntsAt w' pa l := fun k hk => by
  obtain ⟨b, o, h1, h2, h3⟩ := h k hk
  refine ⟨b, o, h1, Nat.lt_of_lt_of_le h2 hB.size, ?_⟩
  rw [← h3]
  simp [World.cell?, hB.block b h2]
theorem intsN_get (l : List Nat) (k : Nat) (hk : k < l.length) : (intsN l)[k]? = some (.int .i64 (l.getD k 0 : Nat)) := by
  simp [intsN, List.getD, hk]
theorem ints_row {w : World} {base : Nat} {v : Value} {l : List Nat} (h : w.ownsRow base 3 1 v l.length (intsN l)) : ∃ pa cap, v = .slice pa l.length cap ∧ l.length ≤ cap ∧ IntsAt w pa l := by
  rcases h.2 with ⟨hv, h0⟩ | ⟨g, cap, cur, hv, _, hh, hc, _⟩
  · exact ⟨none, 0, by rw [hv, h0], by omega, fun k hk => by omega⟩
  · refine ⟨some ⟨g, 0, none⟩, cap, hv, hc, fun k hk => ⟨g, 0, rfl, ?_, ?_⟩⟩
    · rcases Nat.lt_or_ge g w.heap.size with hlt | hge
      · exact hlt
      · rw [Array.getElem?_eq_none hge] at hh; cases hh
    · have := h.cells (g := g) (by rw [hv]; rfl) k _ (intsN_get l k hk)
      rw [Addr.add_mid] at this; exact this
theorem infoInt : (Try.prog.info? 3).map (fun i => (i.zero, i.size, i.bytes)) = some (some (.int .i64 0), 1, 8) := by kernel_rfl
theorem underInts : Try.prog.underlying 31 = some (.slice 3) := by kernel_rfl
def lensT (l : List TextV) : List Nat := l.map fun x => x.b.length

set_option maxRecDepth 100000 in
set_option maxHeartbeats 2000000 in
theorem lengthsT_any (w : World) (pa : Option Addr) (l : List TextV) (n cap : Nat) (hl : TextsAt w pa l) (hn : l.length = n) (h9 : n ≤ 1000) :
    Calls Try.prog 19 #[.slice pa n cap] w fun e w' => ∃ v, e = .returned v ∧ w'.ownsRow w.heap.size 3 1 v n (intsN (lensT l)) ∧ Below w.heap.size w w' := by
  obtain ⟨i0, hi0, hz0, hs0, hb0⟩ := info_parts infoInt
  have Hi0 := hid hi0
  have Hz0 := hid hz0
  have Hs0 := hid hs0
  have Hb0 := hid hb0
  have Hn := hid hn
  clear hi0 hz0 hs0 hb0 hn
  go_enter Try.func19, Try.ntmps19
  go_wp2_with fail
  go_loopw [3, 4] (fun v i wr => ∃ k : Nat, k ≤ n ∧ i = .int .i64 k ∧ wr.ownsRow w.heap.size 3 1 v k (intsN (lensT (l.take k))) ∧ Below w.heap.size w wr) (fun _ i _ => n - (intOf i).toNat)
  case atStart => exact ⟨0, by omega, rfl, World.ownsRow_nil _ _ _ _, Below.refl _ _⟩
  case round =>
    obtain ⟨k, hk, rfl, hown, hB⟩ := hrel
    by_cases hlt : k < n
    · have hkl : k < l.length := by rw [Hn.out]; exact hlt
      have hh := hl.below hB k hkl
      have htk : lensT (l.take (k + 1)) = lensT (l.take k) ++ [(l[k]).b.length] := by
        unfold lensT
        rw [List.take_add_one, List.getElem?_eq_getElem hkl, List.map_append]
        rfl
      generalize hx : l[k] = x at hh htk
      obtain ⟨tk, b, o, rfl, hb, hc⟩ := hh
      have c4 := hc 50 (by omega)
      rw [textc_slice tk] at c4
      obtain ⟨pk, hpk⟩ : ∃ p, x.pa = p := ⟨_, rfl⟩
      obtain ⟨bk, hbk⟩ : ∃ p, x.b.length = p := ⟨_, rfl⟩
      obtain ⟨ck, hck⟩ : ∃ p, x.cap = p := ⟨_, rfl⟩
      rw [hpk, hbk, hck] at c4
      rw [hbk] at htk
      have Htk := hid htk
      have Hown := hid hown
      clear hc tk hx hpk hbk hck htk hown
      have q1 : (k : Int) < (n : Int) := by omega
      have hsW := hB.size
      go_wp2_with (refine wpList_append_own _ rfl (.tmp 11) (.tmp 18) 31 rfl w.heap.size 3 i0 (.int .i64 0) 1 8 underInts Hi0.out Hz0.out Hs0.out Hb0.out rfl (by decide) u3 k _ rfl (Hown.out.alloc _) ⟨wr.heap.size, 0, none⟩ 1 1 (intsN [bk]) rfl rfl (fun a u hu => by rw [Addr.add_mid]; exact (Blk.new wr (intsN [bk]) 3).whole a u hu) (intsN_one _) (by unfold maxLen; omega) (by omega) (by simp; omega) ?_; intro v' w1 hown1 hgrow _; have hB1 := (hB.alloc hB.size (.cells (intsN [bk]).toArray 3)).grown hgrow (by simp; omega) (fun j e => by { have := (Hown.out.lt j e).1; omega }))
      go_roundw
      case rel =>
        refine ⟨k + 1, by omega, by go_num, ?_, hB1⟩
        rw [Htk.out]
        simpa [intsN] using hown1
      case measure => simp [intOf]; omega
    · have hke : k = n := by omega
      have q1 : ¬ ((k : Int) < (n : Int)) := by omega
      rw [hke, List.take_of_length_le (by rw [Hn.out]; omega)] at hown
      clear hke
      go_wp2_with fail
      go_ret
      exact ⟨_, rfl, hown, hB⟩

/-- How many blocks lengths come to, and how many steps. -/
def blocksF (size : Nat) : List Nat → Nat
  | [] => 0
  | x :: l => (x + (size - 1)) / size + blocksF size l
def stepsF (size width : Nat) (l : List Nat) : Nat := (blocksF size l + (width - 1)) / width
theorem blocksF_snoc (size : Nat) : ∀ (l : List Nat) (x : Nat), blocksF size (l ++ [x]) = blocksF size l + (x + (size - 1)) / size
  | [], x => by simp [blocksF]
  | y :: l, x => by simp only [List.cons_append, blocksF, blocksF_snoc size l x]; omega
end Go.Proofs.Ytgellbapbphnlaa

/- weave: the reference's Steps -/
namespace Go.Proofs.Ytgellbapbphnlaa
open Go.RowKit

theorem ceil_at {size x j : Nat} (h1 : x ≤ j * size) (h2 : j * size < x + size) : (x + (size - 1)) / size = j := by
  have hs : 0 < size := by omega
  apply Nat.div_eq_of_lt_le
  · omega
  · rw [Nat.add_mul, Nat.one_mul]; omega

theorem blocksF_app (size : Nat) : ∀ (l m : List Nat), blocksF size (l ++ m) = blocksF size l + blocksF size m
  | [], m => by simp [blocksF]
  | y :: l, m => by simp only [List.cons_append, blocksF, blocksF_app size l m]; omega

set_option maxRecDepth 100000 in
set_option maxHeartbeats 4000000 in
theorem refsteps_any (w : World) (pa : Option Addr) (l : List Nat) (n cap size width : Nat) (hl : IntsAt w pa l) (hn : l.length = n) (h9 : n ≤ 100) (hm : ∀ k, k < n → l.getD k 0 ≤ 1000) (hs : 0 < size) (hs9 : size ≤ 1000) (hw : 0 < width) (hw9 : width ≤ 100) (hb9 : blocksF size l ≤ 1000000) :
    Calls Try.prog 18 #[.slice pa n cap, .int .i64 size, .int .i64 width] w fun e w' => e = .returned (.int .i64 (stepsF size width l)) ∧ w = w' := by
  have Hn := hid hn
  have HM := hid hm
  have hbt : ∀ k, blocksF size (l.take k) ≤ blocksF size l := fun k => by
    have := blocksF_app size (l.take k) (l.drop k)
    rw [List.take_append_drop] at this
    omega
  have Hbt := hid hbt
  clear hn hm hbt
  go_enter Try.func18, Try.ntmps18
  go_wp2_with fail
  go_loopw [7, 8] (fun c i wr => ∃ k : Nat, k ≤ n ∧ i = .int .i64 k ∧ c = .int .i64 (blocksF size (l.take k)) ∧ w = wr) (fun _ i _ => n - (intOf i).toNat)
  case atStart => exact ⟨0, by omega, rfl, rfl, rfl⟩
  case round =>
    obtain ⟨k, hk, rfl, rfl, rfl⟩ := hrel
    by_cases hlt : k < n
    · have hkl : k < l.length := by rw [Hn.out]; exact hlt
      obtain ⟨b, o, rfl, hb, hc⟩ := hl k hkl
      have hx9 := HM.out k hlt
      have htk : blocksF size (l.take (k + 1)) = blocksF size (l.take k) + (l.getD k 0 + (size - 1)) / size := by
        rw [List.take_add_one, List.getElem?_eq_getElem hkl]
        show blocksF size (l.take k ++ [l[k]]) = _
        rw [blocksF_snoc]
        simp [List.getD, hkl]
      have hle := Hbt.out (k + 1)
      have hle0 := Nat.le_trans (Hbt.out k) hb9
      obtain ⟨x, hx⟩ : ∃ x, l.getD k 0 = x := ⟨_, rfl⟩
      rw [hx] at hc hx9 htk
      obtain ⟨c0, hc0⟩ : ∃ c, blocksF size (l.take k) = c := ⟨_, rfl⟩
      rw [hc0] at htk hle0 ⊢
      rw [htk] at hle
      have Htk := hid htk
      have Hc0 := hid hc0
      have q1 : (k : Int) < (n : Int) := by omega
      clear hx htk hc0
      go_wp2_with fail
      go_loopw [7, 9] (fun c a wr => ∃ j a' : Nat, a' = j * size ∧ a' < x + size ∧ a = .int .i64 a' ∧ c = .int .i64 ((c0 + j : Nat) : Int) ∧ w = wr) (fun _ a _ => x + size - (intOf a).toNat)
      case atStart => exact ⟨0, 0, by simp, by omega, rfl, rfl, rfl⟩
      case round =>
        obtain ⟨j, a', haj, hax, rfl, rfl, rfl⟩ := hrel
        by_cases hax2 : a' < x
        · have q2 : (a' : Int) < (x : Int) := by omega
          have hj : j ≤ 1000 := by
            rcases Nat.lt_or_ge j 1001 with h | h
            · omega
            · have : 1001 * 1 ≤ j * size := Nat.mul_le_mul h hs
              omega
          have Haj := hid haj
          clear haj
          obtain ⟨cj, hcj⟩ : ∃ z, c0 + j = z := ⟨_, rfl⟩
          rw [hcj]
          have Hcj := hid hcj
          have hcj9 : cj < 10000000 := by omega
          clear hcj
          go_wp2_with fail
          go_roundw
          case rel => exact ⟨j + 1, a' + size, by rw [Nat.add_mul, Nat.one_mul, Haj.out], by omega, by go_num, by have := Hcj.out; go_num, trivial⟩
          case measure => (simp [intOf]; try omega)
        · have q2 : ¬ ((a' : Int) < (x : Int)) := by omega
          have he : (x + (size - 1)) / size = j := ceil_at (by omega) (by omega)
          have Htk2 := Htk.out
          rw [he] at Htk2
          have Htk3 := hid Htk2
          clear haj he Htk2
          go_wp2_with fail
          go_roundw
          case rel => exact ⟨k + 1, by omega, by go_num, by rw [Htk3.out], trivial⟩
          case measure => (simp [intOf]; try omega)
    · have hke : k = n := by omega
      have q1 : ¬ ((k : Int) < (n : Int)) := by omega
      rw [hke, List.take_of_length_le (by rw [Hn.out]; omega)]
      obtain ⟨B, hB⟩ : ∃ B, blocksF size l = B := ⟨_, rfl⟩
      rw [hB] at hb9 ⊢
      have HB := hid hB
      clear hke hB
      go_wp2_with fail
      go_loopw [10] (fun a wr => ∃ j : Nat, j * width < B + width ∧ a = .int .i64 j ∧ w = wr) (fun a _ => B + width - (intOf a).toNat)
      case atStart => exact ⟨0, by omega, rfl, rfl⟩
      case round =>
        obtain ⟨j, hj, rfl, rfl⟩ := hrel
        have hjm : j ≤ j * width := Nat.le_mul_of_pos_right j hw
        obtain ⟨m, hm⟩ : ∃ m, j * width = m := ⟨_, rfl⟩
        have q3 : (j : Int) * (width : Int) = (m : Int) := by rw [← hm]; simp
        rw [hm] at hj hjm
        by_cases hmB : m < B
        · have q4 : (m : Int) < (B : Int) := by omega
          have Hm := hid hm
          clear hm
          go_wp2_with fail
          go_roundw
          case rel => exact ⟨j + 1, by rw [Nat.add_mul, Nat.one_mul, Hm.out]; omega, by go_num, trivial⟩
          case measure => (simp [intOf]; try omega)
        · have q4 : ¬ ((m : Int) < (B : Int)) := by omega
          have he : (B + (width - 1)) / width = j := ceil_at (by omega) (by omega)
          have He := hid he
          clear hm he
          go_wp2_with fail
          go_ret
          exact ⟨by unfold stepsF; rw [HB.out, He.out]; rfl, rfl⟩
end Go.Proofs.Ytgellbapbphnlaa

/- weave: a text's key bytes; texts in counter mode -/
namespace Go.Proofs.Ytgellbapbphnlaa
open Go.RowKit

abbrev tText : TypeId := 39
theorem textc_row {w : World} {x : TextV} {b : Nat} {T : TypeId} (hx : TextOk w x) {w' : World} (h : Blk w' b (textc x) T) (n : Nat) (hn : n ≤ 32) : RowAt w' (some ⟨b, 0, none⟩) (x.K.take n) := fun k hk => by
  rw [List.length_take] at hk
  refine ⟨b, 0, rfl, h.lt, ?_⟩
  rw [Nat.zero_add, h.cell]
  unfold textc
  rw [List.getElem?_append_left (by simp [bys, hx.K]; omega), List.getElem?_append_left (by simp [bys, hx.K]; omega), List.getElem?_append_left (by rw [bys_length, hx.K]; omega), bys_get _ _ (by rw [hx.K]; omega)]
  simp [List.getD, show k < n by omega]
def rkT (x : TextV) : List UInt8 := rkOf (km x.long) (x.K.take (kn x.long))

set_option maxRecDepth 100000 in
set_option maxHeartbeats 1000000 in
theorem bytesT_any (w wx : World) (x : TextV) (hx : TextOk wx x) :
    Calls Try.prog 21 #[.agg (textc x).toArray] w fun e w' => e = .returned (.slice (some ⟨w.heap.size, 0, none⟩) (kn x.long) 32) ∧ Blk w' w.heap.size (textc x) tText ∧ Below w.heap.size w w' := by
  have h0 := Blk.new w (textc x) tText
  have hB0 : Below w.heap.size w (w.alloc (.cells (textc x).toArray tText)) := (Below.refl _ _).alloc (Nat.le_refl _) _
  have c := h0.cell 32
  rw [textc_long hx] at c
  obtain ⟨g, hg⟩ : ∃ g, x.long = g := ⟨_, rfl⟩
  rw [hg] at c ⊢
  obtain ⟨cs, hcs⟩ : ∃ cs, textc x = cs := ⟨_, rfl⟩
  rw [hcs] at c h0 hB0 ⊢
  clear hg hcs hx
  cases g
  all_goals
    go_enter Try.func21, Try.ntmps21
    go_wp2_with fail
    go_ret
    exact ⟨rfl, h0, hB0⟩
theorem rkT_len {w : World} {x : TextV} (hx : TextOk w x) : 16 * roundsOf (rkT x) + 16 ≤ (rkT x).length := by
  have hk := kn_km x.long
  exact (rkOf_len (km x.long) (x.K.take (kn x.long)) (by rw [List.length_take, hx.K]; omega) hk.2.1).2
/-- A text in counter mode as weave takes it. -/
structure CtrV where
  kb : Nat
  rk : List UInt8
  iv : List UInt8
  pa : Option Addr
  b : List UInt8
  cap : Nat
def ctrc (x : CtrV) : List Value := [.pointer (some ⟨x.kb, 0, none⟩)] ++ bys x.iv ++ [.slice x.pa x.b.length x.cap]
structure CtrOk (w : World) (x : CtrV) : Prop where
  keys : KeysAt w x.kb x.rk
  rounds : 16 * roundsOf x.rk + 16 ≤ x.rk.length
  iv : x.iv.length = 16
  row : RowAt w x.pa x.b
  cap : x.b.length ≤ x.cap
theorem CtrOk.below {w w' : World} {x : CtrV} (h : CtrOk w x) (hB : Below w.heap.size w w') : CtrOk w' x := ⟨h.keys.below hB, h.rounds, h.iv, h.row.below hB, h.cap⟩
theorem ctrc_len {w : World} {x : CtrV} (h : CtrOk w x) : (ctrc x).length = 18 := by simp [ctrc, bys, h.iv]
end Go.Proofs.Ytgellbapbphnlaa

/- weave: the threads -/
namespace Go.Proofs.Ytgellbapbphnlaa
open Go.RowKit

abbrev tThr : TypeId := 125
def pairsc (l : List (Nat × Nat)) : List Value := l.flatMap fun (p : Nat × Nat) => [Value.int .i64 (p.1 : Int), Value.int .i64 (p.2 : Int)]
theorem pairsc_one (l : List (Nat × Nat)) : ∀ v ∈ pairsc l, v.oneCell' = true := by
  intro v hv
  simp only [pairsc, List.mem_flatMap] at hv
  obtain ⟨x, _, h⟩ := hv
  simp only [List.mem_cons, List.not_mem_nil, or_false] at h
  rcases h with rfl | rfl <;> rfl
/-- The threads of the first k texts. -/
def thrAt (size : Nat) (l : List Nat) : Nat → List (Nat × Nat)
  | 0 => []
  | k + 1 => thrAt size l k ++ (List.range ((l.getD k 0 + (size - 1)) / size)).map fun j => (k, j)
theorem thrAt_len (size : Nat) (l : List Nat) : ∀ k, k ≤ l.length → (thrAt size l k).length = blocksF size (l.take k)
  | 0, _ => rfl
  | k + 1, h => by
    have ht : l.take (k + 1) = l.take k ++ [l.getD k 0] := by
      rw [List.take_add_one, List.getElem?_eq_getElem (by omega : k < l.length)]
      simp [List.getD, show k < l.length by omega]
    rw [ht, blocksF_snoc, thrAt, List.length_append, thrAt_len size l k (by omega), List.length_map, List.length_range]
theorem infoThr : (Try.prog.info? tThr).map (fun i => (i.zero, i.size, i.bytes)) = some (some (.agg #[.int .i64 0, .int .i64 0]), 2, 16) := by kernel_rfl
theorem underThr : Try.prog.underlying 122 = some (.slice tThr) := by kernel_rfl

set_option maxRecDepth 100000 in
set_option maxHeartbeats 4000000 in
theorem threads_any (w : World) (pa : Option Addr) (l : List Nat) (n cap size : Nat) (hl : IntsAt w pa l) (hn : l.length = n) (h9 : n ≤ 100) (hm : ∀ k, k < n → l.getD k 0 ≤ 1000) (hs : 0 < size) (hs9 : size ≤ 1000) (hb9 : blocksF size l ≤ 1000000) :
    Calls Try.prog 77 #[.slice pa n cap, .int .i64 size] w fun e w' => ∃ v, e = .returned v ∧ w'.ownsRow w.heap.size tThr 2 v (thrAt size l n).length (pairsc (thrAt size l n)) ∧ Below w.heap.size w w' := by
  obtain ⟨i0, hi0, hz0, hs0, hb0⟩ := info_parts infoThr
  have Hi0 := hid hi0
  have Hz0 := hid hz0
  have Hs0 := hid hs0
  have Hb0 := hid hb0
  have Hn := hid hn
  have HM := hid hm
  have hbt : ∀ k, k ≤ n → (thrAt size l k).length ≤ 1000000 := fun k hk => by
    rw [thrAt_len size l k (by rw [hn]; exact hk)]
    have := blocksF_app size (l.take k) (l.drop k)
    rw [List.take_append_drop] at this
    omega
  have Hbt := hid hbt
  have qz : ((size : Int) == 0) = false := by rw [beq_eq_false_iff_ne]; omega
  clear hi0 hz0 hs0 hb0 hn hm hbt
  go_enter Try.func77, Try.ntmps77
  go_wp2_with fail
  go_loopw [5, 11] (fun v i wr => ∃ k : Nat, k ≤ n ∧ i = .int .i64 k ∧ wr.ownsRow w.heap.size tThr 2 v (thrAt size l k).length (pairsc (thrAt size l k)) ∧ Below w.heap.size w wr) (fun _ i _ => n - (intOf i).toNat)
  case atStart => exact ⟨0, by omega, rfl, World.ownsRow_nil _ _ _ _, Below.refl _ _⟩
  case round =>
    obtain ⟨k, hk, rfl, hown, hB⟩ := hrel
    by_cases hlt : k < n
    · have hkl : k < l.length := by rw [Hn.out]; exact hlt
      obtain ⟨b, o, rfl, hb, hc⟩ := hl.below hB k hkl
      have hx9 := HM.out k hlt
      have htk : thrAt size l (k + 1) = thrAt size l k ++ (List.range ((l.getD k 0 + (size - 1)) / size)).map fun j => (k, j) := rfl
      have hle := Hbt.out (k + 1) (by omega)
      obtain ⟨x, hx⟩ : ∃ x, l.getD k 0 = x := ⟨_, rfl⟩
      rw [hx] at hc hx9 htk
      obtain ⟨L0, hL0⟩ : ∃ c, thrAt size l k = c := ⟨_, rfl⟩
      rw [hL0] at htk hown
      rw [htk, List.length_append, List.length_map, List.length_range] at hle
      have Htk := hid htk
      have q1 : (k : Int) < (n : Int) := by omega
      have Hown := hid hown
      clear hx htk hL0 hown
      go_wp2_with fail
      go_loopw [5, 8] (fun v a wx => ∃ j a' : Nat, a' = j * size ∧ a' < x + size ∧ a = .int .i64 a' ∧ wx.ownsRow w.heap.size tThr 2 v (L0 ++ (List.range j).map fun j => (k, j)).length (pairsc (L0 ++ (List.range j).map fun j => (k, j))) ∧ Below w.heap.size w wx) (fun _ a _ => x + size - (intOf a).toNat)
      case atStart => exact ⟨0, 0, by simp, by omega, rfl, by simpa using Hown.out, hB⟩
      case round =>
        clear hB
        obtain ⟨j, a', haj, hax, rfl, hown2, hB⟩ := hrel
        by_cases hax2 : a' < x
        · have q2 : (a' : Int) < (x : Int) := by omega
          have hj : j ≤ 1000 := by
            rcases Nat.lt_or_ge j 1001 with h | h
            · omega
            · have : 1001 * 1 ≤ j * size := Nat.mul_le_mul h hs
              omega
          have q3 : (a' : Int) / (size : Int) = (j : Int) := by rw [haj]; exact_mod_cast congrArg Nat.cast (Nat.mul_div_cancel j hs)
          have q4 : (a' : Int).tdiv (size : Int) = (j : Int) := by rw [Int.tdiv_eq_ediv_of_nonneg (by omega)]; exact q3
          have hjc : j < (x + (size - 1)) / size := by
            apply (Nat.le_div_iff_mul_le hs).2
            rw [Nat.succ_mul, ← haj]; omega
          have hsn : (L0 ++ (List.range (j + 1)).map fun j => (k, j)) = (L0 ++ (List.range j).map fun j => (k, j)) ++ [(k, j)] := by
            rw [List.range_succ, List.map_append, List.append_assoc]; rfl
          have hl1 : (L0 ++ (List.range j).map fun j => (k, j)).length ≤ 1000000 := by rw [List.length_append, List.length_map, List.length_range]; omega
          obtain ⟨L1, hL1⟩ : ∃ L1, (L0 ++ (List.range j).map fun j => (k, j)) = L1 := ⟨_, rfl⟩
          rw [hL1] at hsn hown2 hl1
          have Haj := hid haj
          have Hsn := hid hsn
          have Hown2 := hid hown2
          have hsW := hB.size
          clear haj hsn hown2 hL1
          go_wp2_with (refine wpList_append_own _ rfl (.tmp 22) (.tmp 28) 122 rfl w.heap.size tThr i0 _ 2 16 underThr Hi0.out Hz0.out Hs0.out Hb0.out rfl (by decide) u5 L1.length _ rfl (Hown2.out.alloc _) ⟨wr.heap.size, 0, none⟩ 1 1 (pairsc [(k, j)]) rfl rfl (fun a u hu => by rw [Addr.add_mid]; exact (Blk.new wr (pairsc [(k, j)]) tThr).whole a u hu) (pairsc_one _) (by unfold maxLen; omega) (by omega) (by simp; omega) ?_; intro v' w1 hown1 hgrow _; have hB1 := (hB.alloc hB.size (.cells (pairsc [(k, j)]).toArray tThr)).grown hgrow (by simp; omega) (fun j e => by { have := (Hown2.out.lt j e).1; omega }))
          go_roundw
          case rel => exact ⟨j + 1, a' + size, by rw [Nat.add_mul, Nat.one_mul, Haj.out], by omega, by go_num, by rw [Hsn.out, List.length_append]; simpa [pairsc] using hown1, hB1⟩
          case measure => (simp [intOf]; try omega)
        · have q2 : ¬ ((a' : Int) < (x : Int)) := by omega
          have he : (x + (size - 1)) / size = j := ceil_at (by omega) (by omega)
          have Htk2 := Htk.out
          rw [he] at Htk2
          rw [← Htk2] at hown2
          clear haj he Htk2
          go_wp2_with fail
          go_roundw
          case rel => exact ⟨k + 1, by omega, by go_num, hown2, hB⟩
          case measure => (simp [intOf]; try omega)
    · have hke : k = n := by omega
      have q1 : ¬ ((k : Int) < (n : Int)) := by omega
      rw [hke] at hown
      clear hke
      go_wp2_with fail
      go_ret
      exact ⟨_, rfl, hown, hB⟩
end Go.Proofs.Ytgellbapbphnlaa

/- weave: what CTR hands to woven -/
namespace Go.Proofs.Ytgellbapbphnlaa
open Go.RowKit

abbrev tCtr : TypeId := 45
theorem ctrc_at {w : World} {x : CtrV} (h : CtrOk w x) : (ctrc x)[0]? = some (.pointer (some ⟨x.kb, 0, none⟩)) ∧ (ctrc x)[17]? = some (.slice x.pa x.b.length x.cap) := by
  unfold ctrc
  refine ⟨rfl, ?_⟩
  rw [List.getElem?_append_right (by simp [bys, h.iv])]
  simp [bys, h.iv]
theorem rangeAt_part {w : World} {b o : Nat} {A X C : List Value} (h : w.rangeAt b o (A ++ X ++ C)) : w.rangeAt b (o + A.length) X := fun j v hv => by
  have hj : j < X.length := by
    rcases Nat.lt_or_ge j X.length with q | q
    · exact q
    · rw [List.getElem?_eq_none q] at hv; cases hv
  have := h (A.length + j) v (by rw [List.append_assoc, List.getElem?_append_right (by omega), List.getElem?_append_left (by omega), ← hv]; congr 1; omega)
  rw [Nat.add_assoc]; exact this
theorem ctrc_iv {w : World} {b : Nat} {x : CtrV} {T : TypeId} (h : Blk w b (ctrc x) T) : w.rangeAt b 1 (bys x.iv) := rangeAt_part (A := [.pointer (some ⟨x.kb, 0, none⟩)]) (C := [.slice x.pa x.b.length x.cap]) h.whole

set_option maxRecDepth 100000 in
set_option maxHeartbeats 1000000 in
theorem ctr1_any (w wx : World) (x : CtrV) (hx : CtrOk wx x) :
    Calls Try.prog 42 #[.agg (ctrc x).toArray] w fun e w' => e = .returned (.slice x.pa x.b.length x.cap) ∧ Below w.heap.size w w' := by
  have h0 := Blk.new w (ctrc x) tCtr
  have hB0 : Below w.heap.size w (w.alloc (.cells (ctrc x).toArray tCtr)) := (Below.refl _ _).alloc (Nat.le_refl _) _
  have c := h0.cell 17
  rw [(ctrc_at hx).2] at c
  obtain ⟨cs, hcs⟩ : ∃ cs, ctrc x = cs := ⟨_, rfl⟩
  rw [hcs] at c h0 hB0 ⊢
  generalize x.pa = pa at *
  generalize x.b.length = n at *
  generalize x.cap = cap at *
  clear hcs hx
  go_enter Try.func42, Try.ntmps42
  go_wp2_with fail
  go_ret
  exact ⟨rfl, hB0⟩
set_option maxRecDepth 100000 in
set_option maxHeartbeats 4000000 in
theorem ctr2_any (w : World) (x : CtrV) (hx : CtrOk w x) (n : Nat) (h9 : n < 1000000) :
    Calls Try.prog 43 #[.agg (ctrc x).toArray, .int .i64 n] w fun e w' => ∃ g, e = .returned (.slice (some ⟨g, 0, none⟩) 16 16) ∧ w.heap.size ≤ g ∧ Blk w' g (bys (enc x.rk (cnt x.iv n))) tA16 ∧ Below w.heap.size w w' := by
  have h0 := Blk.new w (ctrc x) tCtr
  have hB0 : Below w.heap.size w (w.alloc (.cells (ctrc x).toArray tCtr)) := (Below.refl _ _).alloc (Nat.le_refl _) _
  have hk0 := hx.keys.below hB0
  have hc0 := (ctrc_at hx).1
  have hiv : ∀ w', Blk w' w.heap.size (ctrc x) tCtr → w'.rangeAt w.heap.size 1 (bys x.iv) := fun w' h => ctrc_iv h
  have hil := hx.iv
  have hcl := cnt_len x.iv n
  have hel : (enc x.rk (cnt x.iv n)).length = 16 := by unfold enc; exact encTo_len _ _ _ _ hx.rounds hcl
  obtain ⟨cs, hcs⟩ : ∃ cs, ctrc x = cs := ⟨_, rfl⟩
  rw [hcs] at hc0 hiv h0 hB0 hk0 ⊢
  generalize x.kb = kb at *
  generalize x.rk = rk at *
  generalize x.iv = iv at *
  obtain ⟨X, hX⟩ : ∃ X, cnt iv n = X := ⟨_, rfl⟩
  rw [hX] at hcl hel ⊢
  obtain ⟨EC, hEC⟩ : ∃ EC, enc rk X = EC := ⟨_, rfl⟩
  rw [hEC] at hel ⊢
  have hszi : (Try.prog.info? 36).map (·.size) = some (bys iv).length := by rw [size54, bys_length, hil]
  have Hiv := hid hiv
  have Hc0 := hid hc0
  have Hil := hid hil
  have Hcl := hid hcl
  have Hel := hid hel
  have HX := hid hX
  have HEC := hid hEC
  have hnw : IntKind.u64.wrap (n : Int) = (n : Int) := by rw [IntKind.wrap_u64]; omega
  clear hx hcs hiv hc0 hil hcl hel hX hEC
  go_enter Try.func43, Try.ntmps43
  go_upto_region 1 with fail
  change Code.wp _ _ _ _ (w.alloc (.cells cs.toArray tCtr))
  obtain ⟨bx, hbx⟩ : ∃ bx, w.heap.size = bx := ⟨_, rfl⟩
  have hbW : bx ≤ (w.alloc (.cells cs.toArray tCtr)).heap.size := by simp [hbx]
  rw [hbx] at h0 Hiv hB0 ⊢
  generalize w.alloc (.cells cs.toArray tCtr) = W at *
  have hS : Below W.heap.size W W.drew := (Below.refl _ _).drew
  try simp only [Act.put]
  refine tkR (fun w' => Below W.heap.size W w') [] (by kernel_rfl) (fun c a d v w h => by cases d <;> exact h) (hS) (fun hPF hHeld => ?_)
  refine tkB 0 (.some 6) _ _ rfl rfl (by kernel_rfl) (by kernel_rfl) (by kernel_rfl) (by kernel_rfl) hPF rfl (fun w' => by (go_simp; try with_reducible rfl)) hHeld (fun hHeld => ?_)
  simp only [Act.put, List.setIfInBounds_toArray, List.set_cons_zero, List.set_cons_succ]
  refine tkA 1 (.some 7) _ _ rfl rfl (by kernel_rfl) (by kernel_rfl) (by kernel_rfl) (by kernel_rfl) (by kernel_rfl) hPF rfl (fun w' hw' => by (have h1 := (h0.below hw' h0.lt).cell 0; rw [Hc0.out] at h1; go_simp; try with_reducible rfl)) hHeld (fun hHeld => ?_)
  simp only [Act.put, List.setIfInBounds_toArray, List.set_cons_zero, List.set_cons_succ]
  refine tkB 2 (.some 8) _ _ rfl rfl (by kernel_rfl) (by kernel_rfl) (by kernel_rfl) (by kernel_rfl) hPF rfl (fun w' => by (go_simp; try with_reducible rfl)) hHeld (fun hHeld => ?_)
  simp only [Act.put, List.setIfInBounds_toArray, List.set_cons_zero, List.set_cons_succ]
  refine tkL 3 (.some 9) _ rfl rfl 36 (.tmp 8) rfl bx 1 (bys iv) _ (by kernel_rfl) (by kernel_rfl) (by kernel_rfl) (by kernel_rfl) (by kernel_rfl) hPF rfl rfl (fun w' hw' => Hiv.out _ (h0.below hw' h0.lt)) under54 rfl hszi hHeld (fun hHeld => ?_)
  simp only [Act.put, List.setIfInBounds_toArray, List.set_cons_zero, List.set_cons_succ]
  refine tkB 4 (.some 10) _ _ rfl rfl (by kernel_rfl) (by kernel_rfl) (by kernel_rfl) (by kernel_rfl) hPF rfl (fun w' => by (go_simp; try with_reducible rfl)) hHeld (fun hHeld => ?_)
  simp only [Act.put, List.setIfInBounds_toArray, List.set_cons_zero, List.set_cons_succ]
  refine tkB 5 (.some 11) _ _ rfl rfl (by kernel_rfl) (by kernel_rfl) (by kernel_rfl) (by kernel_rfl) hPF rfl (fun w' => by (go_simp; try with_reducible rfl)) hHeld (fun hHeld => ?_)
  simp only [Act.put, List.setIfInBounds_toArray, List.set_cons_zero, List.set_cons_succ]
  have hS := hHeld (by kernel_rfl)
  refine tkW (rs := [6, 8]) (by kernel_rfl) (by simp) (AllK.cons (o := _) rfl (fun KC hKC => ?_) (AllK.cons (o := _) rfl (fun KC hKC => ?_) AllK.nil))
  ·
    go_simp
    refine (count_any _ iv n Hil.out (by omega)).mono ?_
    rw [HX.out]
    rintro e w7 ⟨rfl, hB7⟩
    have hS := hS.trans (hB7.mono hS.size)
    clear hB7
    refine hKC.out _ _ (hS) (fun hHeld => ?_)
    clear hKC KC
    try simp only [Act.put, List.setIfInBounds_toArray, List.set_cons_zero, List.set_cons_succ]
    have hS := hHeld (by kernel_rfl)
    refine tkW (rs := [7, 8]) (by kernel_rfl) (by simp) (AllK.cons (o := _) rfl (fun KC hKC => ?_) (AllK.cons (o := _) rfl (fun KC hKC => ?_) AllK.nil))
    ·
      go_simp
      refine (enc_any _ kb rk X (hk0.below hS) Hcl.out).mono ?_
      rw [HEC.out]
      rintro e w8 ⟨rfl, hB8⟩
      have hS := hS.trans (hB8.mono hS.size)
      clear hB8
      refine hKC.out _ _ (hS) (fun hHeld => ?_)
      clear hKC KC
      try simp only [Act.put, List.setIfInBounds_toArray, List.set_cons_zero, List.set_cons_succ]
      have hS := hHeld (by kernel_rfl)
      refine tkW (rs := [8]) (by kernel_rfl) (by simp) (AllK.cons (o := _) rfl (fun KC hKC => ?_) AllK.nil)
      go_simp
      have hA : Blk (World.alloc w8 (.cells (bys z16).toArray tA16)) w8.heap.size (bys z16) tA16 := Blk.new w8 _ _
      have hsb : W.heap.size ≤ w8.heap.size := hS.size
      have hBn : Below w8.heap.size w8 (World.alloc w8 (.cells (bys z16).toArray tA16)) := (Below.refl _ _).alloc (Nat.le_refl _) _
      change KC _ (World.alloc w8 (.cells (bys z16).toArray tA16))
      have hS := hS.trans (hBn.mono hS.size)
      generalize World.alloc w8 (.cells (bys z16).toArray tA16) = wa at *
      clear hBn
      refine hKC.out _ _ (hS) (fun hHeld => ?_)
      clear hKC KC
      try simp only [Act.put, List.setIfInBounds_toArray, List.set_cons_zero, List.set_cons_succ]
      have hS := hHeld (by kernel_rfl)
      refine tkW (rs := [9]) (by kernel_rfl) (by simp) (AllK.cons (o := _) rfl (fun KC hKC => ?_) AllK.nil)
      refine wantIt rfl (wp_storeD none rfl 36 (.tmp 5) (.tmp 13) rfl w8.heap.size 0 (bys EC).toArray rfl rfl (hA.there 0 _ (by rw [List.size_toArray, bys_length, bys_length, Hel.out]; decide)) (by rw [size54, List.size_toArray, bys_length, Hel.out]) (all_oneCell_toArray (bys_one _)) ?_)
      have hA10 := hA.setCells (bys EC) 0 (by rw [bys_length, bys_length, Hel.out]; decide)
      rw [splice_whole _ _ (by rw [bys_length, bys_length, Hel.out]; rfl)] at hA10
      have hS10 := hS.trans (((Chg.refl W.heap.size [] wa).setCells (b := w8.heap.size) (.inr hsb) (bys EC) 0).below (Nat.le_refl _) (by simp))
      refine hKC.out _ _ (hS10) (fun hHeld => ?_)
      clear hKC KC
      try simp only [Act.put]
      refine tkD (by kernel_rfl) ?_ _
      change Exit.then _ _ _ _ (wa.setCells w8.heap.size 0 (bys EC))
      generalize wa.setCells w8.heap.size 0 (bys EC) = W2 at *
      generalize w8.heap.size = sb at *
      go_wp2_with fail
      go_ret
      exact ⟨sb, rfl, by rw [hbx]; exact Nat.le_trans hbW hsb, hA10, by rw [hbx]; exact hB0.trans (hS10.mono hbW)⟩
    ·
      go_simp
      have hA : Blk (World.alloc w7 (.cells (bys z16).toArray tA16)) w7.heap.size (bys z16) tA16 := Blk.new w7 _ _
      have hsb : W.heap.size ≤ w7.heap.size := hS.size
      have hBn : Below w7.heap.size w7 (World.alloc w7 (.cells (bys z16).toArray tA16)) := (Below.refl _ _).alloc (Nat.le_refl _) _
      change KC _ (World.alloc w7 (.cells (bys z16).toArray tA16))
      have hS := hS.trans (hBn.mono hS.size)
      generalize World.alloc w7 (.cells (bys z16).toArray tA16) = wa at *
      clear hBn
      refine hKC.out _ _ (hS) (fun hHeld => ?_)
      clear hKC KC
      try simp only [Act.put, List.setIfInBounds_toArray, List.set_cons_zero, List.set_cons_succ]
      have hS := hHeld (by kernel_rfl)
      refine tkW (rs := [7]) (by kernel_rfl) (by simp) (AllK.cons (o := _) rfl (fun KC hKC => ?_) AllK.nil)
      go_simp
      refine (enc_any _ kb rk X (hk0.below hS) Hcl.out).mono ?_
      rw [HEC.out]
      rintro e w8 ⟨rfl, hB8⟩
      have hS := hS.trans (hB8.mono hS.size)
      have hA := hA.below hB8 hA.lt
      clear hB8
      refine hKC.out _ _ (hS) (fun hHeld => ?_)
      clear hKC KC
      try simp only [Act.put, List.setIfInBounds_toArray, List.set_cons_zero, List.set_cons_succ]
      have hS := hHeld (by kernel_rfl)
      refine tkW (rs := [9]) (by kernel_rfl) (by simp) (AllK.cons (o := _) rfl (fun KC hKC => ?_) AllK.nil)
      refine wantIt rfl (wp_storeD none rfl 36 (.tmp 5) (.tmp 13) rfl w7.heap.size 0 (bys EC).toArray rfl rfl (hA.there 0 _ (by rw [List.size_toArray, bys_length, bys_length, Hel.out]; decide)) (by rw [size54, List.size_toArray, bys_length, Hel.out]) (all_oneCell_toArray (bys_one _)) ?_)
      have hA10 := hA.setCells (bys EC) 0 (by rw [bys_length, bys_length, Hel.out]; decide)
      rw [splice_whole _ _ (by rw [bys_length, bys_length, Hel.out]; rfl)] at hA10
      have hS10 := hS.trans (((Chg.refl W.heap.size [] w8).setCells (b := w7.heap.size) (.inr hsb) (bys EC) 0).below (Nat.le_refl _) (by simp))
      refine hKC.out _ _ (hS10) (fun hHeld => ?_)
      clear hKC KC
      try simp only [Act.put]
      refine tkD (by kernel_rfl) ?_ _
      change Exit.then _ _ _ _ (w8.setCells w7.heap.size 0 (bys EC))
      generalize w8.setCells w7.heap.size 0 (bys EC) = W2 at *
      generalize w7.heap.size = sb at *
      go_wp2_with fail
      go_ret
      exact ⟨sb, rfl, by rw [hbx]; exact Nat.le_trans hbW hsb, hA10, by rw [hbx]; exact hB0.trans (hS10.mono hbW)⟩
  ·
    go_simp
    have hA : Blk (World.alloc W.drew (.cells (bys z16).toArray tA16)) W.heap.size (bys z16) tA16 := Blk.new W.drew _ _
    have hsb : W.heap.size ≤ W.heap.size := hS.size
    have hBn : Below W.drew.heap.size W.drew (World.alloc W.drew (.cells (bys z16).toArray tA16)) := (Below.refl _ _).alloc (Nat.le_refl _) _
    change KC _ (World.alloc W.drew (.cells (bys z16).toArray tA16))
    have hS := hS.trans (hBn.mono hS.size)
    generalize World.alloc W.drew (.cells (bys z16).toArray tA16) = wa at *
    clear hBn
    refine hKC.out _ _ (hS) (fun hHeld => ?_)
    clear hKC KC
    try simp only [Act.put, List.setIfInBounds_toArray, List.set_cons_zero, List.set_cons_succ]
    have hS := hHeld (by kernel_rfl)
    refine tkW (rs := [6]) (by kernel_rfl) (by simp) (AllK.cons (o := _) rfl (fun KC hKC => ?_) AllK.nil)
    go_simp
    refine (count_any _ iv n Hil.out (by omega)).mono ?_
    rw [HX.out]
    rintro e w7 ⟨rfl, hB7⟩
    have hS := hS.trans (hB7.mono hS.size)
    have hA := hA.below hB7 hA.lt
    clear hB7
    refine hKC.out _ _ (hS) (fun hHeld => ?_)
    clear hKC KC
    try simp only [Act.put, List.setIfInBounds_toArray, List.set_cons_zero, List.set_cons_succ]
    have hS := hHeld (by kernel_rfl)
    refine tkW (rs := [7]) (by kernel_rfl) (by simp) (AllK.cons (o := _) rfl (fun KC hKC => ?_) AllK.nil)
    go_simp
    refine (enc_any _ kb rk X (hk0.below hS) Hcl.out).mono ?_
    rw [HEC.out]
    rintro e w8 ⟨rfl, hB8⟩
    have hS := hS.trans (hB8.mono hS.size)
    have hA := hA.below hB8 hA.lt
    clear hB8
    refine hKC.out _ _ (hS) (fun hHeld => ?_)
    clear hKC KC
    try simp only [Act.put, List.setIfInBounds_toArray, List.set_cons_zero, List.set_cons_succ]
    have hS := hHeld (by kernel_rfl)
    refine tkW (rs := [9]) (by kernel_rfl) (by simp) (AllK.cons (o := _) rfl (fun KC hKC => ?_) AllK.nil)
    refine wantIt rfl (wp_storeD none rfl 36 (.tmp 5) (.tmp 13) rfl W.heap.size 0 (bys EC).toArray rfl rfl (hA.there 0 _ (by rw [List.size_toArray, bys_length, bys_length, Hel.out]; decide)) (by rw [size54, List.size_toArray, bys_length, Hel.out]) (all_oneCell_toArray (bys_one _)) ?_)
    have hA10 := hA.setCells (bys EC) 0 (by rw [bys_length, bys_length, Hel.out]; decide)
    rw [splice_whole _ _ (by rw [bys_length, bys_length, Hel.out]; rfl)] at hA10
    have hS10 := hS.trans (((Chg.refl W.heap.size [] w8).setCells (b := W.heap.size) (.inr hsb) (bys EC) 0).below (Nat.le_refl _) (by simp))
    refine hKC.out _ _ (hS10) (fun hHeld => ?_)
    clear hKC KC
    try simp only [Act.put]
    refine tkD (by kernel_rfl) ?_ _
    change Exit.then _ _ _ _ (w8.setCells W.heap.size 0 (bys EC))
    generalize w8.setCells W.heap.size 0 (bys EC) = W2 at *
    generalize W.heap.size = sb at *
    go_wp2_with fail
    go_ret
    exact ⟨sb, rfl, by rw [hbx]; exact Nat.le_trans hbW hsb, hA10, by rw [hbx]; exact hB0.trans (hS10.mono hbW)⟩
end Go.Proofs.Ytgellbapbphnlaa

/- weave: texts made ready for counter mode -/
namespace Go.Proofs.Ytgellbapbphnlaa
open Go.RowKit

/-- An append of elements to an own row, as one operation. -/
theorem wp_append_own {w : World} {o : Oper} {a : Act} {K : Act → World → Prop} {Q : Exit → Act → World → Prop} (dd : Option Tmp) (hdd : o.dst = dd) (s x : Operand) (t : TypeId)
    (ho : o.op = .call { callee := .builtin .append, args := #[s, x], argTypes := #[t, t] })
    (base : Nat) (e : TypeId) (i : TypeInfo) (z : Value) (size bytes : Nat) (ht : Try.prog.underlying t = some (.slice e)) (hi : Try.prog.info? e = some i) (hz : i.zero = some z)
    (hsize : i.size = size) (hby : i.bytes = bytes) (hzs : z.cells.size = size) (hsz : 0 < size)
    (v : Value) (n : Nat) (xs : List Value) (hs : a.eval s = v) (hown : w.ownsRow base e size v n xs)
    (ad : Addr) (m c : Nat) (news : List Value) (hx : a.eval x = .slice (some ad) m c) (hl : news.length = m * size) (hnews : ∀ j u, news[j]? = some u → w.cell? (ad.add j) = some u) (h1 : ∀ u ∈ news, u.oneCell' = true)
    (h63 : n + m ≤ maxLen) (hbytes : (n + m) * bytes ≤ 140737488355328) (hbase : base ≤ w.heap.size)
    (h : ∀ v' w', w'.ownsRow base e size v' (n + m) (xs ++ news) → w.grownBy w' v.ownBlock → (v'.ownBlock = v.ownBlock ∨ v'.ownBlock = some w.heap.size) → K (a.put dd v') w') : Oper.wp Try.prog o a w K Q := by
  subst hdd
  obtain ⟨v', w', hr, h2, h3, h4, h5⟩ := run_append_own_at (P := Try.prog) w base t o.type e i z size bytes ht hi hz hsize hby hzs hsz v n xs hown ad m c news hl hnews h1 h63 hbytes hbase
  unfold Oper.wp execOp
  simp only [ho, resolve, invoke, builtin, Sem.run_bind, Sem.run_pure, Result.andThen_ok, List.map_toArray, List.map_cons, List.map_nil, hs, hx, hr]
  exact h v' w' h2 h3 h5
def ctrc0 : List Value := [.pointer none] ++ bys z16 ++ [.slice none 0 0]
theorem infoCtr : (Try.prog.info? tCtr).map (fun i => (i.zero, i.size, i.bytes)) = some (some (.agg (ctrc0).toArray), 18, 48) := by kernel_rfl
theorem underCtrs : Try.prog.underlying 24 = some (.slice tCtr) := by kernel_rfl
theorem sizeText : (Try.prog.info? tText).map (·.size) = some 51 := by kernel_rfl
theorem textc_range {w : World} {x : TextV} {b o : Nat} (hx : TextOk w x) (h : ∀ j, j < 51 → w.cell? ⟨b, o + j, none⟩ = (textc x)[j]?) : w.rangeAt b o (textc x) := fun j v hv => by
  have hj : j < 51 := by
    rcases Nat.lt_or_ge j 51 with q | q
    · exact q
    · rw [List.getElem?_eq_none (by rw [textc_len hx]; exact q)] at hv; cases hv
  rw [h j hj]; exact hv
theorem textc_iv {w : World} {x : TextV} {b o : Nat} (hx : TextOk w x) (h : w.rangeAt b o (textc x)) : w.rangeAt b (o + 33) (bys x.iv) := by
  have := rangeAt_part (A := bys x.K ++ [.bool x.long]) (X := bys x.iv) (C := [.int .u32 x.n, .slice x.pa x.b.length x.cap]) h
  rwa [show (bys x.K ++ [Value.bool x.long]).length = 33 by simp [bys, hx.K]] at this
end Go.Proofs.Ytgellbapbphnlaa
