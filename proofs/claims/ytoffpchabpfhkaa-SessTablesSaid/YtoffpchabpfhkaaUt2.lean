/- sess: the reference's Look, Open, Close -/
import Derived.Test.YtoffpchabpfhkaaUt1
namespace Go.Proofs.Ytoffpchabpfhkaa
open Go.RowKit

def lookI (st : List Pl) (h : Int) : Int := match lookF st h with | some i => (i : Int) | none => -1
theorem lookF_hit {st : List Pl} {i : Nat} {h : Int} (hi : i < st.length) (ho : (st.getD i (false, 0)).1 = true) (hh : hnum st i = h) : lookF st h = some i := by
  have hh2 := hh
  unfold hnum at hh2
  have e : (h - 1) % (st.length : Int) = i := by
    rw [← hh2]
    have h1 : ((1 + i + st.length * (st.getD i (false, 0)).2 : Nat) : Int) - 1 = ((i + st.length * (st.getD i (false, 0)).2 : Nat) : Int) := by omega
    rw [h1, ← Int.natCast_emod, Nat.add_mul_mod_self_left, Nat.mod_eq_of_lt hi]
  unfold lookF
  rw [e, if_neg (by omega), Int.toNat_natCast, if_pos ⟨ho, hh⟩]
theorem lookF_miss {st : List Pl} {h : Int} (hn : 0 < st.length) (ha : ∀ j, j < st.length → ¬ ((st.getD j (false, 0)).1 = true ∧ hnum st j = h)) : lookF st h = none := by
  unfold lookF
  split
  · rfl
  · rw [if_neg]
    have h1 := Int.emod_lt_of_pos (h - 1) (show (0 : Int) < st.length by omega)
    have h2 := Int.emod_nonneg (h - 1) (show (st.length : Int) ≠ 0 by omega)
    exact ha _ (by omega)
theorem refcells {w : World} {rb : Nat} {st : List Pl} {rest : List Value} (hb : Blk w rb (rpl (ref st) ++ rest) tRef) {i : Nat} (hi : i < st.length) :
    w.cell? ⟨rb, i * 4, none⟩ = some (.int .i64 (hnum st i)) ∧ w.cell? ⟨rb, i * 4 + 1, none⟩ = some (.bool (st.getD i (false, 0)).1) := by
  have := rpl_at (ref st) i _ (ref_at st i hi) rest
  exact ⟨hb.cellAt this.1, hb.cellAt this.2.1⟩

set_option maxRecDepth 100000 in
set_option maxHeartbeats 1000000 in
theorem reflook_any (w : World) (rb cap : Nat) (st : List Pl) (rest : List Value) (h : Int) (hb : Blk w rb (rpl (ref st) ++ rest) tRef) (hn : st.length ≤ 64) (hn0 : 0 < st.length) :
    Calls Try.prog 22 #[.slice (some ⟨rb, 0, none⟩) st.length cap, .int .i64 h] w fun e w' => e = .returned (.int .i64 (lookI st h)) ∧ w = w' := by
  have Hb := hid hb
  clear hb
  go_enter Try.func22, Try.ntmps22
  go_wp2_with fail
  go_loopw [5] (fun i wr => ∃ k : Nat, k ≤ st.length ∧ i = .int .i64 k ∧ (∀ j, j < k → ¬ ((st.getD j (false, 0)).1 = true ∧ hnum st j = h)) ∧ w = wr) (fun i _ => st.length - (intOf i).toNat)
  case atStart => exact ⟨0, by omega, rfl, fun j hj => by omega, rfl⟩
  case round =>
    obtain ⟨k, hk, rfl, hall, rfl⟩ := hrel
    have Hall := hid hall
    clear hall
    by_cases hlt : k < st.length
    · obtain ⟨c0, c1⟩ := refcells Hb.out hlt
      by_cases ho : (st.getD k (false, 0)).1 = true
      · have Ho := hid ho
        rw [ho] at c1
        by_cases hh : hnum st k = h
        · have HL := hid (show lookI st h = k by unfold lookI; rw [lookF_hit hlt ho hh])
          rw [hh] at c0
          clear ho hh
          go_wp2_with fail
          go_ret
          exact ⟨by rw [HL.out]; rfl, rfl⟩
        · have Hh := hid hh
          have hb1 : (hnum st k == h) = false := by rw [beq_eq_false_iff_ne]; exact hh
          generalize hz : hnum st k = z at *
          have Hz := hid hz
          clear ho hz hh
          go_wp2_with fail
          go_roundw
          case rel =>
            refine ⟨k + 1, by omega, by go_num, fun j hj => ?_, trivial⟩
            by_cases e : j = k
            · subst e; intro hc; exact Hh.out (Hz.out ▸ hc.2)
            · exact Hall.out j (by omega)
          case measure => simp [intOf]; omega
      · have Ho := hid ho
        have ho' : (st.getD k (false, 0)).1 = false := by simpa using ho
        rw [ho'] at c1
        clear ho ho' c0
        go_wp2_with fail
        go_roundw
        case rel =>
          refine ⟨k + 1, by omega, by go_num, fun j hj => ?_, trivial⟩
          by_cases e : j = k
          · subst e; intro hc; exact Ho.out hc.1
          · exact Hall.out j (by omega)
        case measure => simp [intOf]; omega
    · obtain rfl : k = st.length := by omega
      have HL := hid (show lookI st h = -1 by unfold lookI; rw [lookF_miss hn0 Hall.out])
      go_wp2_with fail
      go_ret
      exact ⟨by rw [HL.out]; rfl, rfl⟩

set_option maxRecDepth 100000 in
set_option maxHeartbeats 1000000 in
theorem refopen_some (w : World) (rb cap : Nat) (st : List Pl) (rest : List Value) (k : Nat) (hb : Blk w rb (rpl (ref st) ++ rest) tRef) (hn : st.length ≤ 64) (hk : k < st.length) (hal : ∀ j, j < k → (st.getD j (false, 0)).1 = true) (hf : (st.getD k (false, 0)).1 = false) :
    Calls Try.prog 24 #[.slice (some ⟨rb, 0, none⟩) st.length cap, .int .i64 0, .slice none 0 0] w fun e w' => e = .returned (.tuple #[.int .i64 (hnum st k), .int .i64 0]) ∧ Blk w' rb (rpl (ref (st.set k (true, (st.getD k (false, 0)).2))) ++ rest) tRef ∧ Chg w.heap.size [rb] w w' := by
  have hat := rpl_at (ref st) k _ (ref_at st k hk) rest
  have hs := rpl_set (ref st) k (by rw [ref_len]; exact hk) (((1 + k + st.length * (st.getD k (false, 0)).2 : Nat) : Int), true) rest
  rw [ref_set st k hk, show (((1 + k + st.length * (st.getD k (false, 0)).2 : Nat) : Int)) = hnum st k from rfl] at hs
  rw [hf] at hat
  obtain ⟨st2, hst2⟩ : ∃ s, st.set k (true, (st.getD k (false, 0)).2) = s := ⟨_, rfl⟩
  obtain ⟨z, hz⟩ : ∃ z, hnum st k = z := ⟨_, rfl⟩
  rw [hst2, hz] at hs
  rw [hz] at hat
  rw [hst2, hz]
  have Hs := hid hs
  have Hat := hid hat
  have Hb := hid hb
  have hal := hid hal
  clear hb hs hat hst2 hz hf
  go_enter Try.func24, Try.ntmps24
  go_wp2_with fail
  go_loopw [8] (fun i wr => ∃ m : Nat, m ≤ k ∧ i = .int .i64 m ∧ w = wr) (fun i _ => st.length - (intOf i).toNat)
  case atStart => exact ⟨0, by omega, rfl, rfl⟩
  case round =>
    obtain ⟨m, hm, rfl, rfl⟩ := hrel
    by_cases hlt : m < k
    · obtain ⟨_, c1⟩ := refcells Hb.out (show m < st.length by omega)
      rw [hal.out m hlt] at c1
      go_wp2_with fail
      go_roundw
      case rel => exact ⟨m + 1, by omega, by go_num, trivial⟩
      case measure => simp [intOf]; omega
    · obtain rfl : m = k := by omega
      have e0 := Hat.out
      have c0 := Hb.out.cellAt e0.1
      have c1 := Hb.out.cellAt e0.2.1
      have c2 := Hb.out.cellAt e0.2.2.1
      have c3 := Hb.out.cellAt e0.2.2.2
      have f1 := Hb.out.frozen (m * 4 + 1)
      have f2 := Hb.out.frozen (m * 4 + 2)
      have f3 := Hb.out.frozen (m * 4 + 3)
      clear e0
      go_wp2_with fail
      go_ret2
      have h1 := ((Hb.out.set (m * 4 + 1) (.bool true)).set (m * 4 + 2) (.int .i64 0)).set (m * 4 + 3) (.slice none 0 0)
      refine ⟨rfl, ?_, (((Chg.refl _ _ _).setCell (.inl (by simp)) _).setCell (.inl (by simp)) _).setCell (.inl (by simp)) _⟩
      have e0 := Hat.out
      have z0 : (rpl (ref st) ++ rest).set (m * 4) (.int .i64 z) = rpl (ref st) ++ rest := set_same _ _ _ e0.1
      have hs1 := Hs.out
      rw [z0] at hs1
      have z2 : ((rpl (ref st) ++ rest).set (m * 4 + 1) (.bool true)).set (m * 4 + 2) (.int .i64 0) = (rpl (ref st) ++ rest).set (m * 4 + 1) (.bool true) := set_same _ _ _ (by rw [List.getElem?_set_ne (by omega)]; exact e0.2.2.1)
      have z3 : ((rpl (ref st) ++ rest).set (m * 4 + 1) (.bool true)).set (m * 4 + 3) (.slice none 0 0) = (rpl (ref st) ++ rest).set (m * 4 + 1) (.bool true) := set_same _ _ _ (by rw [List.getElem?_set_ne (by omega)]; exact e0.2.2.2)
      rw [z2, z3, hs1] at h1
      exact h1

set_option maxRecDepth 100000 in
set_option maxHeartbeats 1000000 in
theorem refopen_full (w : World) (rb cap : Nat) (st : List Pl) (rest : List Value) (hb : Blk w rb (rpl (ref st) ++ rest) tRef) (hn : st.length ≤ 64) (hal : ∀ j, j < st.length → (st.getD j (false, 0)).1 = true) :
    Calls Try.prog 24 #[.slice (some ⟨rb, 0, none⟩) st.length cap, .int .i64 0, .slice none 0 0] w fun e w' => e = .returned (.tuple #[.int .i64 0, .int .i64 12]) ∧ w = w' := by
  have Hb := hid hb
  have hal := hid hal
  clear hb
  go_enter Try.func24, Try.ntmps24
  go_wp2_with fail
  go_loopw [8] (fun i wr => ∃ m : Nat, m ≤ st.length ∧ i = .int .i64 m ∧ w = wr) (fun i _ => st.length - (intOf i).toNat)
  case atStart => exact ⟨0, by omega, rfl, rfl⟩
  case round =>
    obtain ⟨m, hm, rfl, rfl⟩ := hrel
    by_cases hlt : m < st.length
    · obtain ⟨_, c1⟩ := refcells Hb.out hlt
      rw [hal.out m hlt] at c1
      go_wp2_with fail
      go_roundw
      case rel => exact ⟨m + 1, by omega, by go_num, trivial⟩
      case measure => simp [intOf]; omega
    · obtain rfl : m = st.length := by omega
      go_wp2_with fail
      go_ret2
      exact ⟨rfl, rfl⟩

def closeI (st : List Pl) (h : Int) : Int := match lookF st h with | some _ => 0 | none => 3
theorem closeV_I (st : List Pl) (h : Int) : closeV st h = .int .i64 (closeI st h) := by
  unfold closeV closeI; cases lookF st h <;> rfl
set_option maxRecDepth 100000 in
set_option maxHeartbeats 1000000 in
theorem refclose_any (w : World) (rb cap : Nat) (st : List Pl) (rest : List Value) (h : Int) (hb : Blk w rb (rpl (ref st) ++ rest) tRef) (hn : st.length ≤ 64) (hn0 : 0 < st.length) (hc : ∀ j, j < st.length → (st.getD j (false, 0)).2 < 1000000) :
    Calls Try.prog 20 #[.slice (some ⟨rb, 0, none⟩) st.length cap, .int .i64 h] w fun e w' => e = .returned (.int .i64 (closeI st h)) ∧ Blk w' rb (rpl (ref (closeF st h)) ++ rest) tRef ∧ Chg w.heap.size [rb] w w' := by
  have HL := reflook_any w rb cap st rest h hb hn hn0
  obtain ⟨r, hr⟩ : ∃ r, lookF st h = r := ⟨_, rfl⟩
  cases r with
  | none =>
    have h1 : lookI st h = -1 := by unfold lookI; rw [hr]
    have h2 : closeI st h = 3 := by unfold closeI; rw [hr]
    have h3 : closeF st h = st := by unfold closeF; rw [hr]
    rw [h1] at HL
    rw [h2, h3]
    clear h1 h2 h3 hr
    go_enter Try.func20, Try.ntmps20
    go_wp2_with fail
    refine HL.mono ?_
    rintro e w2 ⟨rfl, rfl⟩
    go_wp2_with fail
    go_ret
    exact ⟨rfl, hb, Chg.refl _ _ _⟩
  | some i =>
    have hil := lookF_lt st h i hn0 hr
    have h1 : lookI st h = i := by unfold lookI; rw [hr]
    have h2 : closeI st h = 0 := by unfold closeI; rw [hr]
    have h3 : closeF st h = st.set i (false, (st.getD i (false, 0)).2 + 1) := by unfold closeF; rw [hr]
    have hci := hc i hil
    rw [h1] at HL
    rw [h2, h3]
    clear h1 h2 h3 hr hc
    have hat := rpl_at (ref st) i _ (ref_at st i hil) rest
    have c0 := hb.cellAt hat.1
    have c1 := hb.cellAt hat.2.1
    have c2 := hb.cellAt hat.2.2.1
    have c3 := hb.cellAt hat.2.2.2
    have f0 := hb.frozen (i * 4)
    have f1 := hb.frozen (i * 4 + 1)
    have f2 := hb.frozen (i * 4 + 2)
    have f3 := hb.frozen (i * 4 + 3)
    have hs := rpl_set (ref st) i (by rw [ref_len]; exact hil) (((1 + i + st.length * ((st.getD i (false, 0)).2 + 1) : Nat) : Int), false) rest
    rw [ref_set st i hil] at hs
    have hz : wrap64 (hnum st i + (st.length : Int)) = (((1 + i + st.length * ((st.getD i (false, 0)).2 + 1) : Nat) : Int)) := by
      have e : (((1 + i + st.length * ((st.getD i (false, 0)).2 + 1) : Nat) : Int)) = hnum st i + (st.length : Int) := by
        unfold hnum; rw [Nat.mul_add]; omega
      have hb : st.length * (st.getD i (false, 0)).2 ≤ 64 * 1000000 := Nat.mul_le_mul hn (by omega)
      rw [e]
      unfold hnum
      generalize st.length * (st.getD i (false, 0)).2 = M at *
      unfold wrap64; omega
    dsimp only at hs c0
    rw [← hz] at hs
    have Hs := hid hs
    have Hat := hid hat
    clear hs hat hz
    generalize st.set i (false, (st.getD i (false, 0)).2 + 1) = st2 at *
    generalize hnum st i = z at *
    have Hb := hid hb
    clear hb
    go_enter Try.func20, Try.ntmps20
    go_wp2_with fail
    refine HL.mono ?_
    rintro e w2 ⟨rfl, rfl⟩
    go_wp2_with fail
    go_ret
    have h1 := (((Hb.out.set (i * 4) (.int .i64 (wrap64 (z + st.length)))).set (i * 4 + 1) (.bool false)).set (i * 4 + 2) (.int .i64 0)).set (i * 4 + 3) (.slice none 0 0)
    refine ⟨rfl, ?_, ((((Chg.refl _ _ _).setCell (.inl (by simp)) _).setCell (.inl (by simp)) _).setCell (.inl (by simp)) _).setCell (.inl (by simp)) _⟩
    have e0 := Hat.out
    have z2 : (((rpl (ref st) ++ rest).set (i * 4) (.int .i64 (wrap64 (z + st.length)))).set (i * 4 + 1) (.bool false)).set (i * 4 + 2) (.int .i64 0) = ((rpl (ref st) ++ rest).set (i * 4) (.int .i64 (wrap64 (z + st.length)))).set (i * 4 + 1) (.bool false) := set_same _ _ _ (by rw [List.getElem?_set_ne (by omega), List.getElem?_set_ne (by omega)]; exact e0.2.2.1)
    have z3 : (((rpl (ref st) ++ rest).set (i * 4) (.int .i64 (wrap64 (z + st.length)))).set (i * 4 + 1) (.bool false)).set (i * 4 + 3) (.slice none 0 0) = ((rpl (ref st) ++ rest).set (i * 4) (.int .i64 (wrap64 (z + st.length)))).set (i * 4 + 1) (.bool false) := set_same _ _ _ (by rw [List.getElem?_set_ne (by omega), List.getElem?_set_ne (by omega)]; exact e0.2.2.2)
    rw [z2, z3] at h1
    rw [Hs.out] at h1
    exact h1
end Go.Proofs.Ytoffpchabpfhkaa
