/- law 9: a key's bytes, its round keys -/
import Derived.Test.YtlgeebnmonmdaaaK8
namespace Go.Proofs.Ytlgeebnmonmdaaa
open Go.RowKit

abbrev tKy9 : TypeId := 48
set_option maxRecDepth 100000 in
set_option maxHeartbeats 1000000 in
theorem bytes9_any (w : World) (K : List UInt8) (long : Bool) (IV : List UInt8) (hK : K.length = 32) :
    Calls Try.prog 25 #[.agg (kcells K long IV).toArray] w fun e w' => e = .returned (.slice (some ⟨w.heap.size, 0, none⟩) (kn long) 32) ∧ Blk w' w.heap.size (kcells K long IV) tKy9 ∧ Below w.heap.size w w' := by
  have h0 := Blk.new w (kcells K long IV) tKy9
  have hB0 : Below w.heap.size w (w.alloc (.cells (kcells K long IV).toArray tKy9)) := (Below.refl _ _).alloc (Nat.le_refl _) _
  have c := h0.cell 32
  rw [kcells_long _ _ _ hK] at c
  cases long
  all_goals
    go_enter Try.func25, Try.ntmps25
    go_wp2_with fail
    go_ret
    exact ⟨rfl, h0, hB0⟩

theorem sizeK9 : (Try.prog.info? 48).map (·.size) = some 49 := by kernel_rfl
set_option maxRecDepth 100000 in
set_option maxHeartbeats 1000000 in
theorem keys9_any (w : World) (K : List UInt8) (long : Bool) (IV : List UInt8) (hK : K.length = 32) (hI : IV.length = 16) :
    Calls Try.prog 22 #[.agg (kcells K long IV).toArray] w fun e w' => ∃ kb, e = .returned (.tuple #[.pointer (some ⟨kb, 0, none⟩), .bool true]) ∧ KeysAt w' kb (rkK K long) ∧ Below w.heap.size w w' := by
  have h0 := Blk.new w (kcells K long IV) tKy9
  have hB0 : Below w.heap.size w (w.alloc (.cells (kcells K long IV).toArray tKy9)) := (Below.refl _ _).alloc (Nat.le_refl _) _
  have hsz : (Try.prog.info? 48).map (·.size) = some (kcells K long IV).length := by rw [sizeK9, kcells_len _ _ _ hK hI]
  have hk := kn_km long
  have hl : (K.take (kn long)).length = kn long := by rw [List.length_take]; omega
  have Hk := hid hk
  have Hl := hid hl
  clear hk hl
  go_enter Try.func22, Try.ntmps22
  go_wp2_with (refine wpList_load_mid rfl 48 (.tmp 1) rfl w.heap.size 0 rfl (kcells K long IV) _ h0.whole Try.underlying48 rfl hsz ?_)
  change Calls _ _ _ (w.alloc (.cells (kcells K long IV).toArray tKy9)) _
  generalize w.alloc (.cells (kcells K long IV).toArray tKy9) = w1 at *
  refine (bytes9_any w1 K long IV hK).mono ?_
  rintro e w2 ⟨rfl, hb2, hB2⟩
  have hr := kcells_row hb2 (kn long) (by rw [hK]; exact Hk.out.2.2)
  have hBB := hB0.trans (hB2.mono hB0.size)
  go_wp2_with fail
  refine (expand_any w2 w1.heap.size 0 (kn long) 32 (km long) (K.take (kn long)) hr Hl.out Hk.out.2.1 Hk.out.1 Hk.out.2.2).mono ?_
  rintro e w3 ⟨kb, rfl, hK3, hB3, _⟩
  have hB3' := hBB.trans (hB3.mono hBB.size)
  go_wp2_with fail
  go_ret2
  exact ⟨kb, rfl, hK3, hB3'⟩

end Go.Proofs.Ytlgeebnmonmdaaa
