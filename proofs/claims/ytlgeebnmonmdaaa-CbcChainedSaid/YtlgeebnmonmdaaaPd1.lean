/- cbc: bytes.Equal, bytes.Repeat of one byte -/
import Derived.Test.YtlgeebnmonmdaaaBits1
import Derived.Laws.BytesArg
import Derived.Laws.Strings
import Derived.Laws.CopyOwn
import Derived.Lib.MakeNoZero
namespace Go.Proofs.Ytlgeebnmonmdaaa
open Go.RowKit

abbrev str (l : List UInt8) : ByteArray := ⟨l.toArray⟩
theorem str_eq (a b : List UInt8) : ((str a).toList == (str b).toList) = (a == b) := by
  rw [ByteArray.toList_eq, ByteArray.toList_eq]
theorem str_inj {a b : List UInt8} (h : str a = str b) : a = b := by
  injection h with h; simpa using h
theorem under9 : Try.prog.underlying 9 = some .string := by kernel_rfl
theorem under5 : Try.prog.underlying 5 = some (.int .u8) := by kernel_rfl
set_option maxRecDepth 100000 in
/-- string(b): the bytes. -/
theorem str_row {w : World} {pa : Option Addr} {l : List UInt8} {n c : Nat} (h : RowAt w pa l) (hl : l.length = n) : (convert 26 9 (.slice pa n c)).run Try.prog w = .ok (.string (str l)) w := by
  by_cases h0 : n = 0
  · subst h0
    obtain rfl : l = [] := List.eq_nil_of_length_eq_zero hl
    rw [run_convert_bytes_string (P := Try.prog) w 26 9 5 _ 0 c under33b under5 under9]
    cases pa with
    | none => simp [Conv.bytesToString]; rfl
    | some a => rw [run_bytesToString (P := Try.prog) w a 0 c [] (by simpa using run_loadCells_list (P := Try.prog) w a [] (by simp))]; rfl
  · obtain ⟨b, o, rfl, _, _⟩ := h 0 (by omega)
    have := run_convert_bytes_arg (P := Try.prog) w 26 5 under33b under5 b o n c (l.map bv) (by simpa using hl) (fun i hi => by
      obtain ⟨b', o', e, _, hc⟩ := h i (by omega)
      injection e with e; injection e with e1 e2; subst e1 e2
      rw [hc]
      congr 2
      simp [List.getD, List.getElem?_eq_getElem (show i < l.length by omega)]) 9 under9
    rw [this]
    congr 2
    unfold strOfNums str
    congr 2
    rw [List.map_map]
    refine List.map_congr_left (fun x _ => ?_) |>.trans (List.map_id _)
    simp [Function.comp, bv]

set_option maxRecDepth 100000 in
set_option maxHeartbeats 1000000 in
theorem eql_any (w : World) (pa pb : Option Addr) (an ac bn bc : Nat) (X Y : List UInt8) (hX : RowAt w pa X) (hY : RowAt w pb Y) (hx : X.length = an) (hy : Y.length = bn) :
    Calls Try.prog 67 #[.slice pa an ac, .slice pb bn bc] w fun e w' => e = .returned (.bool (X == Y)) ∧ w = w' := by
  have k1 := str_row (c := ac) hX hx
  have k2 := str_row (c := bc) hY hy
  have hb := str_eq X Y
  have hb := hid hb
  generalize str X = s at *
  generalize str Y = t at *
  go_enter Try.func67, Try.ntmps67
  go_wp2_with fail
  go_ret
  exact ⟨by rw [← hb.out]; rfl, rfl⟩

set_option maxRecDepth 100000 in
set_option maxHeartbeats 1000000 in
theorem mul64_1 (w : World) (n : Nat) (h1 : 1 ≤ n) (h16 : n ≤ 16) :
    Calls Try.prog 77 #[.int .u64 1, .int .u64 n] w fun e w' => e = .returned (.tuple #[.int .u64 0, .int .u64 n]) ∧ w = w' := by
  have h : n = 1 ∨ n = 2 ∨ n = 3 ∨ n = 4 ∨ n = 5 ∨ n = 6 ∨ n = 7 ∨ n = 8 ∨ n = 9 ∨ n = 10 ∨ n = 11 ∨ n = 12 ∨ n = 13 ∨ n = 14 ∨ n = 15 ∨ n = 16 := by omega
  rcases h with rfl | rfl | rfl | rfl | rfl | rfl | rfl | rfl | rfl | rfl | rfl | rfl | rfl | rfl | rfl | rfl
  all_goals
    go_enter Try.func77, Try.ntmps77
    go_wp2_with fail
    go_ret2
    exact ⟨rfl, rfl⟩
set_option maxRecDepth 100000 in
set_option maxHeartbeats 1000000 in
theorem mul1_any (w : World) (n : Nat) (h1 : 1 ≤ n) (h16 : n ≤ 16) :
    Calls Try.prog 69 #[.int .u64 1, .int .u64 n] w fun e w' => e = .returned (.tuple #[.int .u64 0, .int .u64 n]) ∧ w = w' := by
  go_enter Try.func69, Try.ntmps69
  go_wp2_with fail
  refine (mul64_1 w n h1 h16).mono ?_
  rintro e w1 ⟨rfl, rfl⟩
  go_wp2_with fail
  go_ret2
  exact ⟨rfl, rfl⟩
theorem size5b : (Try.prog.info? 5).map (·.size) = some 1 := by kernel_rfl
theorem bys_rep_succ (k : Nat) (x : UInt8) (c : Nat) (hc : c ≤ k) (rest : List Value) :
    splice (bys (List.replicate k x) ++ rest) k (List.take c (List.drop 0 (bys (List.replicate k x) ++ rest))) = bys (List.replicate (k + c) x) ++ rest.drop c := by
  have h1 : List.take c (List.drop 0 (bys (List.replicate k x) ++ rest)) = bys (List.replicate c x) := by
    rw [List.drop_zero, List.take_append_of_le_length (by rw [bys_length]; simp; exact hc)]
    simp [bys, Nat.min_eq_left hc]
  rw [h1]
  unfold splice
  have h2 : (bys (List.replicate k x)).length = k := by rw [bys_length]; simp
  have h3 : (bys (List.replicate c x)).length = c := by rw [bys_length]; simp
  rw [List.take_append_of_le_length (by omega), List.take_of_length_le (by omega), h3, List.drop_append, List.drop_of_length_le (by omega), h2]
  simp only [List.nil_append, Nat.add_sub_cancel_left]
  rw [← List.append_assoc]
  congr 1
  simp [bys]

end Go.Proofs.Ytlgeebnmonmdaaa
