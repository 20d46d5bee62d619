/- arrays of bytes, compared -/
import Derived.Test.YtgellbapbphnlaaBase
namespace Go.Proofs.Ytgellbapbphnlaa
open Go.RowKit
section
variable {P : Program}
theorem run_eq_loop (d : Nat) (e : TypeId) (k : IntKind) (X Y : List UInt8) (he : P.underlying e = some (.int k)) (hl : X.length = Y.length) (w : World) : ∀ (m s : Nat), s + m ≤ X.length →
    ((forIn (List.range' s m) ((none : Option Bool), ()) fun i __s => do
              let __do_lift ← part e (bys X).toArray (i * 1)
              let __do_lift_1 ← part e (bys Y).toArray (i * 1)
              let __do_lift ← Op.equalIn (d + 1) e __do_lift __do_lift_1
              if __do_lift = false then pure (ForInStep.done (some false, ())) else pure (ForInStep.yield (none, ())) : Sem (Option Bool × Unit))).run P w =
      .ok (if (List.range' s m).all (fun i => X.getD i 0 == Y.getD i 0) then (none, ()) else (some false, ())) w := by
  intro m
  induction m with
  | zero => intro s _; simp
  | succ m ih =>
    intro s hs
    have hx := bys_get X s (by omega)
    have hy := bys_get Y s (by omega)
    have hg : (isAgg e).run P w = .ok false w := by simp [isAgg, run_underlying he, go_sem]
    have px : (part e (bys X).toArray s).run P w = .ok (.int .u8 (bv (X.getD s 0))) w := by
      simp only [part, Sem.run_bind, hg, Result.andThen_ok]
      simp [hx]
    have py : (part e (bys Y).toArray s).run P w = .ok (.int .u8 (bv (Y.getD s 0))) w := by
      simp only [part, Sem.run_bind, hg, Result.andThen_ok]
      simp [hy]
    have pe : (Op.equalIn (d + 1) e (.int .u8 (bv (X.getD s 0))) (.int .u8 (bv (Y.getD s 0)))).run P w = .ok (X.getD s 0 == Y.getD s 0) w := by
      rw [run_equalIn_int w d e .u8 k _ _ he]
      congr 1
      rw [Bool.eq_iff_iff, beq_iff_eq, beq_iff_eq]
      exact ⟨bv_inj, fun h => by rw [h]⟩
    rw [List.range'_succ]
    cases hb : (X.getD s 0 == Y.getD s 0)
    · rw [hb] at pe
      simp only [List.forIn_cons, Sem.run_bind, Nat.mul_one, px, py, pe, Result.andThen_ok, List.all_cons, hb]
      simp
    · rw [hb] at pe
      have := ih (s + 1) (by omega)
      simp only [Nat.mul_one] at this
      simp only [List.forIn_cons, Sem.run_bind, Nat.mul_one, px, py, pe, Result.andThen_ok, List.all_cons, hb, Bool.true_and]
      simp only [Bool.true_eq_false, if_false, Sem.run_pure, Result.andThen_ok]
      exact this
theorem all_eq (X Y : List UInt8) (hl : X.length = Y.length) : (List.range' 0 X.length).all (fun i => X.getD i 0 == Y.getD i 0) = decide (X = Y) := by
  rw [Bool.eq_iff_iff, List.all_eq_true, decide_eq_true_iff]
  constructor
  · intro h
    apply List.ext_getElem hl
    intro i h1 h2
    have := h i (by simp [List.mem_range', h1])
    simpa [List.getD, List.getElem?_eq_getElem h1, List.getElem?_eq_getElem h2] using this
  · rintro rfl i _; simp
theorem run_equalIn_bytes (d : Nat) (t e : TypeId) (k : IntKind) (X Y : List UInt8) (ht : P.underlying t = some (.array X.length e)) (he : P.underlying e = some (.int k)) (hs : (P.info? e).map (·.size) = some 1) (hl : X.length = Y.length) (w : World) :
    (Op.equalIn (d + 2) t (.agg (bys X).toArray) (.agg (bys Y).toArray)).run P w = .ok (decide (X = Y)) w := by
  have h1 : (sizeOf e).run P w = .ok 1 w := by
    obtain ⟨i, hi, hz⟩ := Option.map_eq_some_iff.1 hs
    simp [sizeOf, typeInfo, hi, hz]
  have hloop := run_eq_loop (P := P) d e k X Y he hl w X.length 0 (by omega)
  rw [all_eq X Y hl] at hloop
  unfold Op.equalIn
  simp only [Sem.run_bind, run_underlying ht, Result.andThen_ok]
  simp
  rw [h1]
  simp only [Result.andThen_ok]
  rw [hloop]
  simp only [Result.andThen_ok]
  by_cases h : X = Y
  · simp [h]
  · simp [h]
end
end Go.Proofs.Ytgellbapbphnlaa
