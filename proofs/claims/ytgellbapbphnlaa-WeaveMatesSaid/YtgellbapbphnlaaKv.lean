/- a pointer to round keys, or nil, and what Encrypt does by it -/
import Derived.Test.YtgellbapbphnlaaBg
import Derived.Test.YtgellbapbphnlaaPs
import Derived.Test.YtgellbapbphnlaaNs
import Derived.Deep.DeepCutAuto
import Derived.WalkMore
import Derived.ScopeJumps
namespace Go.Proofs.Ytgellbapbphnlaa
open Go.RowKit

/-- A pointer to round keys, or nil, and what Encrypt does by it. -/
def KeyV (w : World) (v : Option Addr) (E : List UInt8 → List UInt8) : Prop :=
  (v = none ∧ E = fun _ => z16) ∨ ∃ kb rk, v = some ⟨kb, 0, none⟩ ∧ KeysAt w kb rk ∧ E = enc rk ∧ 16 * roundsOf rk + 16 ≤ rk.length
theorem KeyV.below {w w' : World} {v : Option Addr} {E : List UInt8 → List UInt8} (h : KeyV w v E) (hB : Below w.heap.size w w') : KeyV w' v E := by
  rcases h with h | ⟨kb, rk, h1, h2, h3⟩
  · exact .inl h
  · exact .inr ⟨kb, rk, h1, h2.below hB, h3⟩
theorem KeyV.drew {w : World} {v : Option Addr} {E : List UInt8 → List UInt8} (h : KeyV w v E) : KeyV w.drew v E := h.below (Below.drew (Below.refl _ _))
theorem KeyV.len {w : World} {v : Option Addr} {E : List UInt8 → List UInt8} (h : KeyV w v E) (s : List UInt8) (hs : s.length = 16) : (E s).length = 16 := by
  rcases h with ⟨_, rfl⟩ | ⟨kb, rk, _, _, rfl, h4⟩
  · rfl
  · unfold enc; exact encTo_len _ _ _ _ h4 hs
theorem keyv_enc {w : World} {v : Option Addr} {E : List UInt8 → List UInt8} (h : KeyV w v E) (s : List UInt8) (hs : s.length = 16) :
    Calls Try.prog 39 #[.pointer v, .agg (bys s).toArray] w fun e w' => e = .returned (.agg (bys (E s)).toArray) ∧ Below w.heap.size w w' := by
  rcases h with ⟨rfl, rfl⟩ | ⟨kb, rk, rfl, h2, rfl, h4⟩
  · exact enc_nil w s
  · exact enc_any w kb rk s h2 hs

end Go.Proofs.Ytgellbapbphnlaa
