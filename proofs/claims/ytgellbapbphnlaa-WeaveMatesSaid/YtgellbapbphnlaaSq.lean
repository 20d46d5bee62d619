/- aes: the reference of the S-box is the S-box -/
import Derived.Test.YtgellbapbphnlaaMul
import Derived.Test.YtgellbapbphnlaaTab
namespace Go.Proofs.Ytgellbapbphnlaa
open Go.RowKit

def boxes3 : Bool := (List.range 256).all fun i => subF (UInt8.ofNat i) == TABL.getD i 0
set_option maxRecDepth 100000 in
theorem boxes3_ok : boxes3 = true := by decide +kernel
theorem sub_eq (x : UInt8) : subF x = sbox x := by
  have h := boxes3_ok
  unfold boxes3 at h
  rw [List.all_eq_true] at h
  have h2 := h x.toNat (List.mem_range.2 x.toNat_lt)
  simp only [beq_iff_eq, UInt8.ofNat_toNat] at h2
  unfold sbox
  rw [TAB_eq]
  exact h2
end Go.Proofs.Ytgellbapbphnlaa
