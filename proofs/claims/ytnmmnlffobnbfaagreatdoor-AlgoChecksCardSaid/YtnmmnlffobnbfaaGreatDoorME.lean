/- Reg · Kb (joined by merge4.py) -/
import Derived.Test.YtnmmnlffobnbfaaGreatDoorMA
import Derived.Test.YtnmmnlffobnbfaaGreatDoorMD
/- a region that draws its order, taken operation by operation -/
namespace Go.Proofs.YtnmmnlffobnbfaaGreatDoor
open Go.RowKit
/-- What is said of a panic does not hang on the temporaries. -/
def PanicFree (Q : Exit → Act → World → Prop) : Prop := ∀ c (a : Act) d v w, Q (.panic c) (a.put d v) w → Q (.panic c) a w
section
variable {P : Program} {ops : Array Oper} {Q : Exit → Act → World → Prop} {S : World → Prop} {fuel : Nat} {listed : Array Bool} {a : Act} {w : World}
/-- An operation that yields the same in every world that meets S is taken first. -/
theorem tk (i : Nat) (d : Option Tmp) (o : Oper) (v : Value) (hi : ops[i]? = some o) (hdd : o.dst = d) (hs : Region.noSelect ops = true) (hf : Region.free .any ops listed i = true) (hr : (Region.ready .any ops listed).contains i = true)
    (hQ : PanicFree Q) (hw : Region.wanted o (yielded ops a.tmps) = true) (hv : ∀ w', S w' → (execOp a.eval o).run P w' = .ok (.value v) w') (hS : S w)
    (h : wpAnyH P .any ops Q S fuel (listed.setIfInBounds i true) (a.put d v) w) : wpAnyH P .any ops Q S (fuel + 1) listed a w :=
  wpAnyH_take hi hs hf hr (fun c a w => hQ c a _ _ w) (.inl ⟨hw, hv⟩) hS (hdd ▸ h)
/-- A load of a whole array, whose cells S gives. -/
theorem tkl (i : Nat) (dd : Option Tmp) (o : Oper) (hi : ops[i]? = some o) (hdd : o.dst = dd) (ty : TypeId) (x : Operand) (ho : o.op = .load ty x) (b off : Nat) (cs : List Value) (d : TypeDesc)
    (hs : Region.noSelect ops = true) (hf : Region.free .any ops listed i = true) (hr : (Region.ready .any ops listed).contains i = true)
    (hQ : PanicFree Q) (hw : Region.wanted o (yielded ops a.tmps) = true)
    (hx : a.eval x = .pointer (some ⟨b, off, none⟩)) (hc : ∀ w, S w → w.rangeAt b off cs) (hu : P.underlying ty = some d) (hd : d.isRow = true) (hz : (P.info? ty).map (·.size) = some cs.length) (hS : S w)
    (h : wpAnyH P .any ops Q S fuel (listed.setIfInBounds i true) (a.put dd (.agg cs.toArray)) w) : wpAnyH P .any ops Q S (fuel + 1) listed a w :=
  wpAnyH_take hi hs hf hr (fun c a w => hQ c a _ _ w) (yieldsIf_load_mid hw ty x ho b off hx cs d hc hu hd hz) hS (hdd ▸ h)
/-- An operation whose guard shuts it out. -/
theorem tks (i : Nat) (d : Option Tmp) (o : Oper) (hi : ops[i]? = some o) (hdd : o.dst = d) (hs : Region.noSelect ops = true) (hf : Region.free .any ops listed i = true) (hr : (Region.ready .any ops listed).contains i = true)
    (hQ : PanicFree Q) (hw : Region.wanted o (yielded ops a.tmps) = false) (hS : S w)
    (h : wpAnyH P .any ops Q S fuel (listed.setIfInBounds i true) (a.put d undef) w) : wpAnyH P .any ops Q S (fuel + 1) listed a w :=
  wpAnyH_take hi hs hf hr (fun c a w => hQ c a _ _ w) (.inr ⟨hw, rfl⟩) hS (hdd ▸ h)
/-- The beginning. -/
theorem tk_region {id : Nat} (S : World → Prop) (hm : P.follows .mixedOrders = true) (hQ : PanicFree Q) (hS : S w.drew)
    (h : PanicFree Q → S w.drew → wpAnyH P .any ops Q S ops.size (Array.replicate ops.size false) a w.drew) : (Code.region id ops true).wp P Q a w :=
  wp_region_held_drew hm hS (h hQ)
end
end Go.Proofs.YtnmmnlffobnbfaaGreatDoor

/- aes: what the later walks share: equality of blocks, keys that stay -/
namespace Go.Proofs.YtnmmnlffobnbfaaGreatDoor
open Go.RowKit

theorem info5c : (Tryz.prog.info? 5).map (fun i => (i.zero, i.size, i.bytes)) = some (some (.int .u8 0), 1, 1) := by kernel_rfl
theorem guard54 : Tryz.prog.eqGuardType Tryz.prog.depth 100 = false := by kernel_rfl
theorem under5 : Tryz.prog.underlying 5 = some (.int .u8) := by kernel_rfl
theorem eql16 (X Y : List UInt8) (hX : X.length = 16) (hY : Y.length = 16) (_ _ : Operand) (w : World) :
    (binOp .eql 100 (.agg (bys X).toArray) (.agg (bys Y).toArray)).run Tryz.prog w = .ok (.bool (decide (X = Y))) w := by
  rw [run_eql_struct, run_equalIn_bytes (P := Tryz.prog) 9998 100 5 .u8 X Y (by rw [hX]; exact under54) under5 size5 (by omega) w]
  rfl
theorem KeysAt.below {w w' : World} {kb : Nat} {rk : List UInt8} (h : KeysAt w kb rk) (hB : Below w.heap.size w w') : KeysAt w' kb rk := by
  obtain ⟨tb, wb, n, cap, ex, h1, h2, h3, h4, h5⟩ := h
  exact ⟨tb, wb, n, cap, ex, h1.below hB h1.lt, h2.below hB h2.lt, h3.below hB h3.lt, h4, h5⟩

theorem KeysAt.drew {w : World} {kb : Nat} {rk : List UInt8} (h : KeysAt w kb rk) : KeysAt w.drew kb rk := by
  obtain ⟨tb, wb, n, cap, ex, h1, h2, h3, h4, h5⟩ := h
  exact ⟨tb, wb, n, cap, ex, h1.drew, h2.drew, h3.drew, h4, h5⟩

theorem rk_len (m : Nat) (key : List UInt8) (hk : key.length = 4 * m) (hm : m = 4 ∨ m = 8) : 16 * roundsOf (rkOf m key) + 16 ≤ (rkOf m key).length ∧ 0 < roundsOf (rkOf m key) := by
  have h := exTo_len m key hk (by omega) (28 + 3 * m)
  unfold roundsOf rkOf
  rw [h]; omega
end Go.Proofs.YtnmmnlffobnbfaaGreatDoor
