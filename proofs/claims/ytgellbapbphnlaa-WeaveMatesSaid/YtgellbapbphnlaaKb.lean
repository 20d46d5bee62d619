/- aes: what the later walks share: equality of blocks, keys that stay -/
import Derived.Test.YtgellbapbphnlaaExp1
import Derived.Test.YtgellbapbphnlaaEq
import Derived.Test.YtgellbapbphnlaaReg
namespace Go.Proofs.Ytgellbapbphnlaa
open Go.RowKit

theorem info5c : (Try.prog.info? 5).map (fun i => (i.zero, i.size, i.bytes)) = some (some (.int .u8 0), 1, 1) := by kernel_rfl
theorem guard54 : Try.prog.eqGuardType Try.prog.depth 36 = false := by kernel_rfl
theorem under5 : Try.prog.underlying 5 = some (.int .u8) := by kernel_rfl
theorem eql16 (X Y : List UInt8) (hX : X.length = 16) (hY : Y.length = 16) (_ _ : Operand) (w : World) :
    (binOp .eql 36 (.agg (bys X).toArray) (.agg (bys Y).toArray)).run Try.prog w = .ok (.bool (decide (X = Y))) w := by
  rw [run_eql_struct, run_equalIn_bytes (P := Try.prog) 9998 36 5 .u8 X Y (by rw [hX]; exact under54) under5 size5 (by omega) w]
  rfl
theorem KeysAt.below {w w' : World} {kb : Nat} {rk : List UInt8} (h : KeysAt w kb rk) (hB : Below w.heap.size w w') : KeysAt w' kb rk := by
  obtain ⟨tb, wb, n, cap, ex, h1, h2, h3, h4, h5⟩ := h
  exact ⟨tb, wb, n, cap, ex, h1.below hB h1.lt, h2.below hB h2.lt, h3.below hB h3.lt, h4, h5⟩

theorem KeysAt.drew {w : World} {kb : Nat} {rk : List UInt8} (h : KeysAt w kb rk) : KeysAt w.drew kb rk := by
  obtain ⟨tb, wb, n, cap, ex, h1, h2, h3, h4, h5⟩ := h
  exact ⟨tb, wb, n, cap, ex, h1.drew, h2.drew, h3.drew, h4, h5⟩

theorem rk_len (m : Nat) (key : List UInt8) (hk : key.length = 4 * m) (hm : m = 4 ∨ m = 8) : 16 * roundsOf (rkOf m key) + 16 ≤ (rkOf m key).length ∧ 0 < roundsOf (rkOf m key) := by
  have h := exTo_len m key hk (by omega) (28 + 3 * m)
  unfold roundsOf rkOf
  rw [h]; omega
end Go.Proofs.Ytgellbapbphnlaa
