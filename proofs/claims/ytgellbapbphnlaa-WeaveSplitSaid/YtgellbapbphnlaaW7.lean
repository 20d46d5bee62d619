/- weave: texts made ready for counter mode -/
import Derived.Test.YtgellbapbphnlaaW6
import Derived.Maps.AppendAt
namespace Go.Proofs.Ytgellbapbphnlaa
open Go.RowKit

/-- An append of elements to an own row, as one operation. -/
theorem wp_append_own {w : World} {o : Oper} {a : Act} {K : Act → World → Prop} {Q : Exit → Act → World → Prop} (dd : Option Tmp) (hdd : o.dst = dd) (s x : Operand) (t : TypeId)
    (ho : o.op = .call { callee := .builtin .append, args := #[s, x], argTypes := #[t, t] })
    (base : Nat) (e : TypeId) (i : TypeInfo) (z : Value) (size bytes : Nat) (ht : Try.prog.underlying t = some (.slice e)) (hi : Try.prog.info? e = some i) (hz : i.zero = some z)
    (hsize : i.size = size) (hby : i.bytes = bytes) (hzs : z.cells.size = size) (hsz : 0 < size)
    (v : Value) (n : Nat) (xs : List Value) (hs : a.eval s = v) (hown : w.ownsRow base e size v n xs)
    (ad : Addr) (m c : Nat) (news : List Value) (hx : a.eval x = .slice (some ad) m c) (hl : news.length = m * size) (hnews : ∀ j u, news[j]? = some u → w.cell? (ad.add j) = some u) (h1 : ∀ u ∈ news, u.oneCell' = true)
    (h63 : n + m ≤ maxLen) (hbytes : (n + m) * bytes ≤ 140737488355328) (hbase : base ≤ w.heap.size)
    (h : ∀ v' w', w'.ownsRow base e size v' (n + m) (xs ++ news) → w.grownBy w' v.ownBlock → (v'.ownBlock = v.ownBlock ∨ v'.ownBlock = some w.heap.size) → K (a.put dd v') w') : Oper.wp Try.prog o a w K Q := by
  subst hdd
  obtain ⟨v', w', hr, h2, h3, h4, h5⟩ := run_append_own_at (P := Try.prog) w base t o.type e i z size bytes ht hi hz hsize hby hzs hsz v n xs hown ad m c news hl hnews h1 h63 hbytes hbase
  unfold Oper.wp execOp
  simp only [ho, resolve, invoke, builtin, Sem.run_bind, Sem.run_pure, Result.andThen_ok, List.map_toArray, List.map_cons, List.map_nil, hs, hx, hr]
  exact h v' w' h2 h3 h5
def ctrc0 : List Value := [.pointer none] ++ bys z16 ++ [.slice none 0 0]
theorem infoCtr : (Try.prog.info? tCtr).map (fun i => (i.zero, i.size, i.bytes)) = some (some (.agg (ctrc0).toArray), 18, 48) := by kernel_rfl
theorem underCtrs : Try.prog.underlying 24 = some (.slice tCtr) := by kernel_rfl
theorem sizeText : (Try.prog.info? tText).map (·.size) = some 51 := by kernel_rfl
theorem textc_range {w : World} {x : TextV} {b o : Nat} (hx : TextOk w x) (h : ∀ j, j < 51 → w.cell? ⟨b, o + j, none⟩ = (textc x)[j]?) : w.rangeAt b o (textc x) := fun j v hv => by
  have hj : j < 51 := by
    rcases Nat.lt_or_ge j 51 with q | q
    · exact q
    · rw [List.getElem?_eq_none (by rw [textc_len hx]; exact q)] at hv; cases hv
  rw [h j hj]; exact hv
theorem textc_iv {w : World} {x : TextV} {b o : Nat} (hx : TextOk w x) (h : w.rangeAt b o (textc x)) : w.rangeAt b (o + 33) (bys x.iv) := by
  have := rangeAt_part (A := bys x.K ++ [.bool x.long]) (X := bys x.iv) (C := [.int .u32 x.n, .slice x.pa x.b.length x.cap]) h
  rwa [show (bys x.K ++ [Value.bool x.long]).length = 33 by simp [bys, hx.K]] at this
end Go.Proofs.Ytgellbapbphnlaa
