/- the builtin min, as one step -/
import Derived.Test.YtnmmnlffobnbfaaGreatDoorBase
namespace Go.Proofs.YtnmmnlffobnbfaaGreatDoor
open Go.RowKit

theorem wpList_min {P : Program} {ops : Array Oper} {rest : List Oper} {o : Oper} {a : Act} {Q : Exit → Act → World → Prop} {w : World} (hgd : o.guard = none) (x y : Operand) (T : TypeId)
    (ho : o.op = .call { callee := .builtin .min, args := #[x, y], argTypes := #[T, T] }) (m n p : Int) (hx : a.eval x = .int .i64 m) (hy : a.eval y = .int .i64 n) (hp : min m n = p)
    (h : wpList P ops Q rest (a.put o.dst (.int .i64 p)) w) : wpList P ops Q (o :: rest) a w :=
  wpList_plain hgd fun K hK => by
    have hr : (Builtin.min_ #[T, T] o.type #[.int .i64 m, .int .i64 n]) = pure (.int .i64 p) := by
      have e : (if n < m then n else m) = p := by rw [← hp]; split <;> omega
      rw [← e]; rfl
    have h' := hK _ _ h
    unfold Oper.wp execOp
    simp only [ho, resolve, invoke, builtin, Sem.run_bind, Sem.run_pure, Result.andThen_ok, List.map_toArray, List.map_cons, List.map_nil, hx, hy, hr]
    exact h'
end Go.Proofs.YtnmmnlffobnbfaaGreatDoor
