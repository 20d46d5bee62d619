/- sess: same of the law; what a nil table tells -/
import Derived.Test.YtoffpchabpfhkaaUt2
import Derived.Test.YtoffpchabpfhkaaTb6
namespace Go.Proofs.Ytoffpchabpfhkaa
open Go.RowKit

theorem hands_more (st : List Pl) (m d : Nat) : ∃ rest, hands st (m + d) = hands st m ++ rest := by
  induction d with
  | zero => exact ⟨[], by simp⟩
  | succ d ih =>
    obtain ⟨r, hr⟩ := ih
    show ∃ rest, (if (st.getD (m + d) (false, 0)).1 = true then hands st (m + d) ++ [hnum st (m + d)] else hands st (m + d)) = hands st m ++ rest
    split
    · exact ⟨r ++ [hnum st (m + d)], by rw [hr, List.append_assoc]⟩
    · exact ⟨r, hr⟩
theorem hands_at (st : List Pl) (m n : Nat) (h : m < n) (ho : (st.getD m (false, 0)).1 = true) : (hands st m).length < (hands st n).length ∧ (hands st n)[(hands st m).length]? = some (hnum st m) := by
  obtain ⟨r, hr⟩ := hands_more st (m + 1) (n - (m + 1))
  rw [show m + 1 + (n - (m + 1)) = n by omega] at hr
  have h1 : hands st (m + 1) = hands st m ++ [hnum st m] := by
    show (if (st.getD m (false, 0)).1 = true then hands st m ++ [hnum st m] else hands st m) = _
    rw [if_pos ho]
  rw [hr, h1]
  simp

set_option maxRecDepth 100000 in
set_option maxHeartbeats 2000000 in
theorem same_any (w : World) (pa : Option Addr) (lc rb cap : Nat) (st : List Pl) (rest : List Value) (hb : Blk w rb (rpl (ref st) ++ rest) tRef) (hn : st.length ≤ 64) (hl : IntsAt w pa (hands st st.length)) :
    Calls Try.prog 25 #[.slice pa (hands st st.length).length lc, .slice (some ⟨rb, 0, none⟩) st.length cap] w fun e w' => e = .returned (.bool true) ∧ ∃ k, w.drewN k = w' := by
  have Hb := hid hb
  have Hl := hid hl
  have hlen := hands_len st st.length
  clear hb hl
  go_enter Try.func25, Try.ntmps25
  go_wp2_with fail
  go_loopw [5, 6] (fun kv i wr => ∃ k d : Nat, k ≤ st.length ∧ i = .int .i64 k ∧ kv = .int .i64 ((hands st k).length : Nat) ∧ w.drewN d = wr) (fun _ i _ => st.length - (intOf i).toNat)
  case atStart => exact ⟨0, 0, by omega, rfl, rfl, rfl⟩
  case round =>
    obtain ⟨k, d, hk, rfl, rfl, hw⟩ := hrel
    by_cases hlt : k < st.length
    · obtain ⟨c0, c1⟩ := refcells Hb.out hlt
      have hns : hands st (k + 1) = if (st.getD k (false, 0)).1 = true then hands st k ++ [hnum st k] else hands st k := rfl
      by_cases ho : (st.getD k (false, 0)).1 = true
      · obtain ⟨h1, h2⟩ := hands_at st k st.length hlt ho
        rw [if_pos ho] at hns
        have Hns := hid hns
        obtain ⟨lb, lof, rfl, hlc⟩ := Hl.out _ h1
        have hx : (hands st st.length)[(hands st k).length] = hnum st k := by
          rw [List.getElem?_eq_getElem h1] at h2; exact Option.some.inj h2
        rw [hx] at hlc
        rw [ho] at c1
        clear ho h2 hx hns
        have c0 : wr.cell? ⟨rb, k * 4, none⟩ = some (.int .i64 (hnum st k)) := by rw [← hw]; exact c0
        have c1 : wr.cell? ⟨rb, k * 4 + 1, none⟩ = some (.bool true) := by rw [← hw]; exact c1
        have hlc : wr.cell? ⟨lb, lof + (hands st k).length, none⟩ = some (.int .i64 (hnum st k)) := by rw [← hw]; exact hlc
        have hk2 := hands_len st k
        have Hw := hid hw
        generalize hnum st k = z at *
        generalize hq : (hands st k).length = q at *
        generalize (hands st st.length).length = L at *
        have Hq := hid hq
        clear hw hq Hl Hb
        go_wp2_with fail
        go_quiet (fail)
        go_wp2_with fail
        go_roundw
        case rel =>
          refine ⟨k + 1, d + nq, by omega, by go_num, ?_, ?_⟩
          · rw [Hns.out, List.length_append, Hq.out]; go_num
          · rw [← Hw.out]; simp [World.drewN, Nat.add_assoc]
        case measure => simp [intOf]; omega
      · have ho' : (st.getD k (false, 0)).1 = false := by simpa using ho
        rw [if_neg ho] at hns
        have Hns := hid hns
        rw [ho'] at c1
        have c1 : wr.cell? ⟨rb, k * 4 + 1, none⟩ = some (.bool false) := by rw [← hw]; exact c1
        have Hw := hid hw
        clear ho ho' c0 hns hw
        go_wp2_with fail
        go_roundw
        case rel => exact ⟨k + 1, d, by omega, by go_num, by rw [Hns.out], Hw.out⟩
        case measure => simp [intOf]; omega
    · obtain rfl : k = st.length := by omega
      go_wp2_with fail
      go_ret
      exact ⟨by simp, d, hw⟩

set_option maxRecDepth 100000 in
theorem open_nil (w : World) : Calls Try.prog 23 #[.pointer none] w fun e w' => e = .returned (.tuple #[.int .i64 0, .int .i64 12]) ∧ w = w' := by
  go_enter Try.func23, Try.ntmps23
  go_wp2_with fail
  go_ret2
  exact ⟨rfl, rfl⟩
set_option maxRecDepth 100000 in
theorem look_nil (w : World) (h : Int) : Calls Try.prog 21 #[.pointer none, .int .i64 h] w fun e w' => e = .returned (.tuple #[.int .i64 0, .int .i64 3]) ∧ w = w' := by
  go_enter Try.func21, Try.ntmps21
  go_wp2_with fail
  go_ret2
  exact ⟨rfl, rfl⟩
set_option maxRecDepth 100000 in
theorem close_nil (w : World) (h : Int) : Calls Try.prog 19 #[.pointer none, .int .i64 h] w fun e w' => e = .returned (.int .i64 3) ∧ w = w' := by
  go_enter Try.func19, Try.ntmps19
  go_wp2_with fail
  refine (look_nil _ h).mono ?_
  rintro e w1 ⟨rfl, rfl⟩
  go_wp2_with fail
  go_ret
  exact ⟨rfl, rfl⟩
set_option maxRecDepth 100000 in
theorem handles_nil (w : World) : Calls Try.prog 26 #[.pointer none] w fun e w' => e = .returned (.slice none 0 0) ∧ w = w' := by
  go_enter Try.func26, Try.ntmps26
  go_wp2_with fail
  go_ret
  exact ⟨rfl, rfl⟩
end Go.Proofs.Ytoffpchabpfhkaa
