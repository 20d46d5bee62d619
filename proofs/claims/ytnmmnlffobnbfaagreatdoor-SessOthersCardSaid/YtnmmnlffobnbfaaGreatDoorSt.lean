/- bytes as a string -/
import Derived.Test.YtnmmnlffobnbfaaGreatDoorBits1
import Derived.Laws.BytesArg
import Derived.Laws.Strings
import Derived.Laws.CopyOwn
import Derived.Lib.MakeNoZero
namespace Go.Proofs.YtnmmnlffobnbfaaGreatDoor
open Go.RowKit

abbrev str (l : List UInt8) : ByteArray := ⟨l.toArray⟩
theorem str_eq (a b : List UInt8) : ((str a).toList == (str b).toList) = (a == b) := by
  rw [ByteArray.toList_eq, ByteArray.toList_eq]
theorem str_inj {a b : List UInt8} (h : str a = str b) : a = b := by
  injection h with h; simpa using h
theorem under9 : Tryz.prog.underlying 9 = some .string := by kernel_rfl
theorem under5 : Tryz.prog.underlying 5 = some (.int .u8) := by kernel_rfl
set_option maxRecDepth 100000 in
/-- string(b): the bytes. -/
theorem str_row {w : World} {pa : Option Addr} {l : List UInt8} {n c : Nat} (h : RowAt w pa l) (hl : l.length = n) : (convert 23 9 (.slice pa n c)).run Tryz.prog w = .ok (.string (str l)) w := by
  by_cases h0 : n = 0
  · subst h0
    obtain rfl : l = [] := List.eq_nil_of_length_eq_zero hl
    rw [run_convert_bytes_string (P := Tryz.prog) w 23 9 5 _ 0 c under33b under5 under9]
    cases pa with
    | none => simp [Conv.bytesToString]; rfl
    | some a => rw [run_bytesToString (P := Tryz.prog) w a 0 c [] (by simpa using run_loadCells_list (P := Tryz.prog) w a [] (by simp))]; rfl
  · obtain ⟨b, o, rfl, _, _⟩ := h 0 (by omega)
    have := run_convert_bytes_arg (P := Tryz.prog) w 23 5 under33b under5 b o n c (l.map bv) (by simpa using hl) (fun i hi => by
      obtain ⟨b', o', e, _, hc⟩ := h i (by omega)
      injection e with e; injection e with e1 e2; subst e1 e2
      rw [hc]
      congr 2
      simp [List.getD, List.getElem?_eq_getElem (show i < l.length by omega)]) 9 under9
    rw [this]
    congr 2
    unfold strOfNums str
    congr 2
    rw [List.map_map]
    refine List.map_congr_left (fun x _ => ?_) |>.trans (List.map_id _)
    simp [Function.comp, bv]

end Go.Proofs.YtnmmnlffobnbfaaGreatDoor
