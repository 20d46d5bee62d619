/- sess: the reference's rows, and New of both -/
import Derived.Test.YtoffpchabpfhkaaTb3
namespace Go.Proofs.Ytoffpchabpfhkaa
open Go.RowKit

abbrev tRef : TypeId := 76
abbrev Rf := Int × Bool
def rpc (p : Rf) : List Value := [.int .i64 p.1, .bool p.2, .int .i64 0, .slice none 0 0]
def rpl (l : List Rf) : List Value := l.flatMap rpc
theorem rpl_cons (p : Rf) (l : List Rf) : rpl (p :: l) = .int .i64 p.1 :: .bool p.2 :: .int .i64 0 :: .slice none 0 0 :: rpl l := rfl
theorem rpl_len (l : List Rf) : (rpl l).length = l.length * 4 := by
  induction l with
  | nil => rfl
  | cons p l ih => rw [rpl_cons]; simp [ih]; omega
theorem rpl_one (l : List Rf) : ∀ v ∈ rpl l, v.oneCell' = true := by
  intro v hv
  simp only [rpl, List.mem_flatMap] at hv
  obtain ⟨p, _, hp⟩ := hv
  simp only [rpc, List.mem_cons, List.not_mem_nil, or_false] at hp
  rcases hp with rfl | rfl | rfl | rfl <;> rfl
theorem rpl_at (l : List Rf) (i : Nat) (p : Rf) (h : l[i]? = some p) (rest : List Value) :
    (rpl l ++ rest)[i * 4]? = some (.int .i64 p.1) ∧ (rpl l ++ rest)[i * 4 + 1]? = some (.bool p.2) ∧ (rpl l ++ rest)[i * 4 + 2]? = some (.int .i64 0) ∧ (rpl l ++ rest)[i * 4 + 3]? = some (.slice none 0 0) := by
  induction l generalizing i with
  | nil => simp at h
  | cons q l ih =>
    rw [rpl_cons]
    cases i with
    | zero => simp at h; subst h; simp
    | succ i =>
      have := ih i (by simpa using h)
      rw [show (i + 1) * 4 = i * 4 + 1 + 1 + 1 + 1 by omega]
      simpa using this
theorem rpl_set (l : List Rf) (i : Nat) (h : i < l.length) (p : Rf) (rest : List Value) :
    (((rpl l ++ rest).set (i * 4) (.int .i64 p.1)).set (i * 4 + 1) (.bool p.2)) = rpl (l.set i p) ++ rest := by
  induction l generalizing i with
  | nil => simp at h
  | cons q l ih =>
    cases i with
    | zero => simp [rpl_cons]
    | succ i =>
      have := ih i (by simpa using h)
      rw [rpl_cons, show (i + 1) * 4 = i * 4 + 1 + 1 + 1 + 1 by omega]
      simp [rpl_cons, this]
/-- A cell that is set to what it holds. -/
theorem set_same {α : Type} (l : List α) (i : Nat) (v : α) (h : l[i]? = some v) : l.set i v = l := by
  refine List.ext_getElem? fun k => ?_
  rw [List.getElem?_set]
  split
  · rename_i e; subst e
    split
    · exact h.symm
    · rename_i hh; rw [List.getElem?_eq_none (by omega)] at h; cases h
  · rfl
/-- What the reference holds of places. -/
def ref (st : List Pl) : List Rf := (List.range st.length).map (fun j => (hnum st j, (st.getD j (false, 0)).1))
theorem ref_len (st : List Pl) : (ref st).length = st.length := by simp [ref]
theorem ref_at (st : List Pl) (i : Nat) (h : i < st.length) : (ref st)[i]? = some (hnum st i, (st.getD i (false, 0)).1) := by simp [ref, h]
theorem ref_set (st : List Pl) (i : Nat) (h : i < st.length) (b : Bool) (c : Nat) : (ref st).set i (((1 + i + st.length * c : Nat) : Int), b) = ref (st.set i (b, c)) := by
  refine List.ext_getElem? fun k => ?_
  by_cases hk : k < st.length
  · rw [ref_at _ k (by simpa using hk), List.getElem?_set]
    split
    · rename_i e; subst e
      rw [if_pos (by rw [ref_len]; exact hk)]
      unfold hnum
      rw [getD_set_eq st i h]
      simp
    · rename_i e
      rw [ref_at st k hk]
      unfold hnum
      rw [getD_set_ne st i k (fun e' => e e'.symm)]
      simp
  · rw [List.getElem?_eq_none (by simp [ref_len]; omega), List.getElem?_eq_none (by simp [ref_len]; omega)]
theorem ref_fresh (n k : Nat) : (List.range k).map (fun j : Nat => (((1 + j : Nat) : Int), false)) = (List.range k).map (fun j => (hnum (List.replicate n (false, 0)) j, ((List.replicate n ((false, 0) : Pl)).getD j (false, 0)).1)) := by
  refine List.map_congr_left fun j _ => ?_
  have : (List.replicate n ((false, 0) : Pl)).getD j (false, 0) = (false, 0) := by
    by_cases h : j < n <;> simp [List.getD, h]
  unfold hnum
  rw [this]
  simp
def fresh (k : Nat) : List Rf := (List.range k).map (fun j : Nat => (((1 + j : Nat) : Int), false))
theorem fresh_succ (k : Nat) : rpl (fresh (k + 1)) = rpl (fresh k) ++ rpl [(((1 + k : Nat) : Int), false)] := by
  unfold fresh; rw [List.range_succ, List.map_append]; simp [rpl]
theorem fresh_ref (n : Nat) : fresh n = ref (List.replicate n (false, 0)) := by
  unfold fresh ref; rw [ref_fresh n n]; simp
theorem info76 : (Try.prog.info? 76).map (fun i => (i.zero, i.size, i.bytes)) = some (some (.agg #[.int .i64 0, .bool false, .int .i64 0, .slice none 0 0]), 4, 48) := by kernel_rfl
theorem under28 : Try.prog.underlying 28 = some (.slice 76) := by kernel_rfl

/-- An own row is a block. -/
theorem ownBlk {w : World} {base n : Nat} {v : Value} {xs : List Value} (h : w.ownsRow base 76 4 v n xs) (hn : 0 < n) : ∃ rb cap rest, v = .slice (some ⟨rb, 0, none⟩) n cap ∧ base ≤ rb ∧ Blk w rb (xs ++ rest) tRef := by
  rcases h.2 with ⟨_, h0⟩ | ⟨g, cap, cur, hv, hb, hh, _, _, hs, ht⟩
  · omega
  · refine ⟨g, cap, cur.toList.drop (n * 4), hv, hb, ?_⟩
    unfold Blk
    rw [hh, ← ht, List.take_append_drop]

set_option maxRecDepth 100000 in
set_option maxHeartbeats 1000000 in
theorem refnew_any (w : World) (n : Nat) (h1 : 1 ≤ n) (h64 : n ≤ 64) :
    Calls Try.prog 16 #[.int .i64 n] w fun e w' => ∃ rb cap rest, e = .returned (.tuple #[.slice (some ⟨rb, 0, none⟩) n cap, .bool true]) ∧ w.heap.size ≤ rb ∧ Blk w' rb (rpl (ref (List.replicate n (false, 0))) ++ rest) tRef ∧ Below w.heap.size w w' := by
  obtain ⟨i0, hi0, hz0, hs0, hb0⟩ := info_parts info76
  have Hi0 := hid hi0
  have Hz0 := hid hz0
  have Hs0 := hid hs0
  have Hb0 := hid hb0
  clear hi0 hz0 hs0 hb0
  go_enter Try.func16, Try.ntmps16
  go_wp2_with fail
  go_loopw [4, 5] (fun v i wr => ∃ k : Nat, k ≤ n ∧ i = .int .i64 k ∧ wr.ownsRow w.heap.size 76 4 v k (rpl (fresh k)) ∧ Below w.heap.size w wr) (fun _ i _ => n - (intOf i).toNat)
  case atStart => exact ⟨0, by omega, rfl, World.ownsRow_nil _ _ _ _, Below.refl _ _⟩
  case round =>
    obtain ⟨k, hk, rfl, hown, hB⟩ := hrel
    have Hown := hid hown
    clear hown
    by_cases hlt : k < n
    · have hf := hid (fresh_succ k)
      have hkv : ((1 + k : Nat) : Int) = (k : Int) + 1 := by omega
      have hs := hB.size
      go_wp2_with (refine wpList_append_own _ rfl (.tmp 17) (.tmp 21) 28 rfl w.heap.size 76 i0 _ 4 48 under28 Hi0.out Hz0.out Hs0.out Hb0.out rfl (by decide) _ k _ rfl (Hown.out.alloc _) ⟨wr.heap.size, 0, none⟩ 1 1 (rpl [((k : Int) + 1, false)]) rfl rfl (fun a u hu => by rw [Addr.add_mid]; exact (Blk.new wr (rpl [((k : Int) + 1, false)]) 76).whole a u hu) (rpl_one _) (by unfold maxLen; omega) (by omega) (by simp; omega) ?_; intro v' w1 hown1 hgrow _; have hB1 := (hB.alloc hB.size (.cells (rpl [((k : Int) + 1, false)]).toArray 76)).grown hgrow (by simp; omega) (fun j e => by { have := (Hown.out.lt j e).1; omega }))
      go_roundw
      case rel =>
        refine ⟨k + 1, by omega, by go_num, ?_, hB1⟩
        rw [hf.out, hkv]
        exact hown1
      case measure => simp [intOf]; omega
    · obtain rfl : k = n := by omega
      go_wp2_with fail
      go_ret2
      obtain ⟨rb, cap, rest, rfl, hb, hblk⟩ := ownBlk Hown.out h1
      rw [fresh_ref] at hblk
      exact ⟨rb, cap, rest, rfl, hb, hblk, hB⟩

set_option maxRecDepth 100000 in
set_option maxHeartbeats 1000000 in
theorem refnew_bad (w : World) (n : Int) (h : ¬ (1 ≤ n ∧ n ≤ 64)) :
    Calls Try.prog 16 #[.int .i64 n] w fun e w' => e = .returned (.tuple #[.slice none 0 0, .bool false]) ∧ w = w' := by
  by_cases h1 : n < 1
  · go_enter Try.func16, Try.ntmps16
    go_wp2_with fail
    go_ret2
    exact ⟨rfl, rfl⟩
  · have h2 : 64 < n := by omega
    clear h
    go_enter Try.func16, Try.ntmps16
    go_wp2_with fail
    go_ret2
    exact ⟨rfl, rfl⟩

set_option maxRecDepth 100000 in
set_option maxHeartbeats 1000000 in
theorem newtable_bad (w : World) (n : Int) (h : ¬ (1 ≤ n ∧ n ≤ 64)) :
    Calls Try.prog 15 #[.int .i64 n] w fun e w' => e = .returned (.tuple #[.pointer none, .int .i64 1]) ∧ w = w' := by
  by_cases h1 : n < 1
  · go_enter Try.func15, Try.ntmps15
    go_wp2_with fail
    go_ret2
    exact ⟨rfl, rfl⟩
  · have h2 : 64 < n := by omega
    clear h
    go_enter Try.func15, Try.ntmps15
    go_wp2_with fail
    go_ret2
    exact ⟨rfl, rfl⟩
end Go.Proofs.Ytoffpchabpfhkaa
