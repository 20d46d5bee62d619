/- aes: AesSub, walked -/
import Derived.Test.YtoffpchabpfhkaaLBox
import Derived.Test.YtoffpchabpfhkaaMul
namespace Go.Proofs.Ytoffpchabpfhkaa
open Go.RowKit

def boxes3 : Bool := (List.range 256).all fun i => subF (UInt8.ofNat i) == TABL.getD i 0
set_option maxRecDepth 100000 in
theorem boxes3_ok : boxes3 = true := by decide +kernel
theorem sub_eq (x : UInt8) : subF x = sbox x := by
  have h := boxes3_ok
  unfold boxes3 at h
  rw [List.all_eq_true] at h
  have h2 := h x.toNat (List.mem_range.2 x.toNat_lt)
  simp only [beq_iff_eq, UInt8.ofNat_toNat] at h2
  unfold sbox
  rw [TAB_eq]
  exact h2

set_option maxRecDepth 100000 in
set_option maxHeartbeats 1000000 in
theorem aesSub_walk (x : UInt8) (w : World) :
    Calls Try.prog 11 #[.int .u8 (bv x)] w fun e w' => e = .returned (.bool true) ∧ Below w.heap.size w w' := by
  have hs := hid (sub_eq x)
  go_enter Try.func11, Try.ntmps11
  go_wp2_with fail
  refine (sub_any _ x).mono ?_
  rintro e w1 ⟨rfl, hB1⟩
  go_wp2_with fail
  refine (refsub_any _ x).mono ?_
  rintro e w2 ⟨rfl, rfl⟩
  rw [hs.out]
  go_wp2_with fail
  refine (awake03_any _).mono ?_
  rintro e w3 ⟨rfl, hB3⟩
  go_wp2_with fail
  go_ret
  exact ⟨rfl, hB1.trans (Below.mono hB3 hB1.size)⟩
#print axioms aesSub_walk
end Go.Proofs.Ytoffpchabpfhkaa
