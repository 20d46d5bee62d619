/- a region that draws its order, within a round of a range over a function -/
import Derived.Test.YtlgeebnmonmdaaaPs
import Derived.RangeFuncNested
import Derived.RangeFuncBound
import Derived.RangeFuncCalls
import Derived.RangeFuncLeaves
import Derived.Shelf.Abstract
import Derived.Shelf.RegionOpen
import Derived.OwnWalkIn
import Derived.TacticsInMore
import Derived.LoopNIn
import Derived.LoopIn
namespace Go.Proofs.Ytlgeebnmonmdaaa
open Go.RowKit
/-- No defer statement. -/
def noDefer (ops : Array Oper) : Bool := ops.all fun o => match o.op with | .defer _ => false | _ => true
theorem noDefer_spec {ops : Array Oper} (h : noDefer ops = true) (j : Nat) (o : Oper) (c : Call) (ho : ops[j]? = some o) : o.op ≠ .defer c := fun e => by
  have := Array.all_eq_true_iff_forall_mem.1 h o (Array.mem_of_getElem? ho)
  simp [e] at this
abbrev WR (l : Nat) : Fence := Fence.wide.inRound l
section
variable {P : Program} {ops : Array Oper} {Q : Exit → Act → World → Prop} {S : World → Prop} {n l : Nat}
theorem yieldsIf_wpOpIn {i : Nat} {o : Oper} {v : Value} {a : Act} (hi : ops[i]? = some o) (hnd : ∀ c, o.op ≠ .defer c) (hy : YieldsIf P ops S o v a)
    {K : Act → World → Prop} {w : World} (hS : S w) (h : K (a.put o.dst v) w) : wpOpIn (WR l) n P ops Q i K a w := by
  unfold Go.wpOpIn
  simp only [hi]
  rcases hy with ⟨hw, hv⟩ | ⟨hw, rfl⟩
  · simp only [hw, if_true, Oper.wpIn, Fence.inRound_round, Oper.semAt_some l _ _ hnd, hv w hS, Oper.uponIn]; exact ⟨fun _ _ => trivial, h⟩
  · simp only [hw, Bool.false_eq_true, if_false]; exact ⟨fun _ _ => trivial, h⟩
theorem wpOpIn_putIf {j : Nat} {oi oj : Oper} {v : Value} (hj : ops[j]? = some oj) (hnd : ∀ c, oj.op ≠ .defer c) (hap : oi.apart ops oj = true)
    (hsi : ∀ cs b, oi.op ≠ .select cs b) (hsj : ∀ cs b, oj.op ≠ .select cs b)
    (hQ : ∀ c a w, Q (.panic c) (a.put oi.dst v) w → Q (.panic c) a w) {K : Act → World → Prop} {a : Act} {w : World}
    (hy : YieldsIf P ops S oi v a) (h : wpOpIn (WR l) n P ops Q j K (a.put oi.dst v) w) :
    wpOpIn (WR l) n P ops Q j (fun a' w' => YieldsIf P ops S oi v a' ∧ K (a'.put oi.dst v) w') a w := by
  obtain ⟨h1, h2, h3⟩ := Oper.apart_spec hap
  have keep : ∀ (a : Act), YieldsIf P ops S oi v a → ∀ u, YieldsIf P ops S oi v (a.put oj.dst u) := fun a hy u =>
    hy.of_same (execOp_put oi hsi a oj.dst u h3) (wanted_put oi a oj.dst u h3)
  have keepD : ∀ d, YieldsIf P ops S oi v { a with defers := d :: a.defers } := fun d => hy.of_same rfl rfl
  unfold wpOpIn at *
  simp only [hj] at *
  rw [wanted_put oj a oi.dst v h1] at h
  split
  · rename_i hw
    simp only [hw, if_true] at h
    unfold Oper.wpIn at *
    refine ⟨fun _ _ => trivial, ?_⟩
    have h := h.2
    simp only [Fence.inRound_round, Oper.semAt_some l _ _ hnd] at h ⊢
    rw [execOp_put oj hsj a oi.dst v h1] at h
    generalize (execOp a.eval oj).run P w = r at *
    cases r with
    | ok x w' =>
      cases x <;> simp only [Oper.uponIn] at h ⊢
      case value u => exact ⟨keep a hy u, by rw [← Act.put_comm a v u h2]; exact h⟩
      case skip => exact ⟨keep a hy _, by rw [← Act.put_comm a v undef h2]; exact h⟩
      case defer d =>
        refine ⟨keep _ (keepD d) _, ?_⟩
        rw [← Act.put_comm _ v undef h2, ← Act.put_defers]
        exact h
      case enter f args =>
        refine ⟨h.1, CallsIn.mono h.2 fun e w'' he => ?_⟩
        cases e with
        | returned u => exact ⟨keep a hy u, by rw [← Act.put_comm a v u h2]; exact he⟩
        | panicked c => exact hQ _ _ _ he
        | outgrown => exact he
      case row row args => exact ⟨h.1, RowsIn.mono h.2 fun u w'' he => ⟨keep a hy u, by rw [← Act.put_comm a v u h2]; exact he⟩⟩
      case round l f tmps assign body =>
        refine ⟨h.1, RoundIn.mono h.2 fun e w'' he => ?_⟩
        cases e with
        | returned u => exact ⟨keep a hy u, by rw [← Act.put_comm a v u h2]; exact he⟩
        | panicked c => exact hQ _ _ _ he
        | outgrown => exact he
    | halt x w' =>
      cases x <;> simp only [Oper.uponIn] at h ⊢
      case panic u => exact hQ _ _ _ h
  · rename_i hw
    simp only [hw] at h
    exact ⟨fun _ _ => trivial, keep a hy _, by rw [← Act.put_comm a v undef h2]; exact h.2⟩
/-- The walk of an operation that comes up, within a round, is the plain one. -/
theorem wpOpIn_step {i : Nat} {o : Oper} {K : Act → World → Prop} {a : Act} {w : World} (hi : ops[i]? = some o)
    (h : ∀ K' : Act → World → Prop, (∀ a w, K a w → K' a w) → if Region.wanted o (yielded ops a.tmps) = true then o.wpIn (WR l) n P a w K' Q else K' (a.put o.dst undef) w) : wpOpIn (WR l) n P ops Q i K a w := by
  unfold wpOpIn
  simp only [hi]
  have := h K (fun _ _ h => h)
  split
  · rename_i hw; rw [if_pos hw] at this; exact this
  · rename_i hw; rw [if_neg hw] at this; exact ⟨fun _ _ => trivial, this⟩
end
section
variable {P : Program} {ops : Array Oper} {Q : Exit → Act → World → Prop} {S : World → Prop} {K : List Nat} {n rl : Nat}
def wpKr (n rl : Nat) (P : Program) (ops : Array Oper) (Q : Exit → Act → World → Prop) (S : World → Prop) (K : List Nat) : Nat → Array Bool → Act → World → Prop
  | 0, listed, a, w => Region.ready .any ops listed = [] ∧ Q .normal a w
  | fuel + 1, listed, a, w =>
    (Region.ready .any ops listed = [] → Q .normal a w) ∧
    ∀ i ∈ Region.ready .any ops listed, wpOpIn (WR rl) n P ops Q i (fun a' w' => (openK K (listed.setIfInBounds i true) = true → S w') ∧ wpKr n rl P ops Q S K fuel (listed.setIfInBounds i true) a' w') a w
theorem wpAny_of_Kr : ∀ (fuel : Nat) (listed : Array Bool) (a : Act) (w : World), wpKr n rl P ops Q S K fuel listed a w → wpAnyIn (WR rl) n P .any ops Q fuel listed a w
  | 0, _, _, _, h => h
  | fuel + 1, _, _, _, h => ⟨h.1, fun i hi => wpOpIn_mono (fun a' w' h' => wpAny_of_Kr fuel _ a' w' h'.2) (h.2 i hi)⟩
theorem wpKr_first (hnd : noDefer ops = true) {S1 : World → Prop} {J : Array Bool → Prop} {i : Nat} {oi : Oper} {v : Value} (hi : ops[i]? = some oi) (hsel : ∀ (j : Nat) (o : Oper) cs b, ops[j]? = some o → o.op ≠ .select cs b)
    (hQ : ∀ c a w, Q (.panic c) (a.put oi.dst v) w → Q (.panic c) a w)
    (hJ : ∀ l w, J l → (openK K l = true → S w) → S1 w) (hJi : ∀ l, openK K (l.setIfInBounds i true) = true → openK K l = true)
    (hJi2 : ∀ l, J l → openK K l = true → openK K (l.setIfInBounds i true) = true)
    (hJs : ∀ l j, J l → i ∈ Region.ready .any ops l → j ∈ Region.ready .any ops l → j ≠ i → J (l.setIfInBounds j true)) :
    ∀ (fuel : Nat) (listed : Array Bool) (a : Act) (w : World), J listed →
      (∀ j oj, ops[j]? = some oj → j ≠ i → listed.getD j true = false → (∀ e ∈ oj.after, Region.binds .any e = true → e.on ≠ i) → oi.apart ops oj = true) →
      i ∈ Region.ready .any ops listed → YieldsIf P ops S1 oi v a → (openK K listed = true → S w) →
      wpKr n rl P ops Q S K fuel (listed.setIfInBounds i true) (a.put oi.dst v) w → wpKr n rl P ops Q S K (fuel + 1) listed a w := by
  intro fuel
  induction fuel with
  | zero =>
    intro listed a w hJl _ hr hy hS H
    refine ⟨fun h => (by rw [h] at hr; cases hr), fun j hj => ?_⟩
    by_cases hji : j = i
    · subst hji; exact yieldsIf_wpOpIn hi (fun c => noDefer_spec hnd j oi c hi) hy (hJ _ _ hJl hS) ⟨fun ho => hS (hJi _ ho), H⟩
    · have := ready_mono hj hji
      rw [H.1] at this
      cases this
  | succ fuel ih =>
    intro listed a w hJl hfree hr hy hS H
    refine ⟨fun h => (by rw [h] at hr; cases hr), fun j hj => ?_⟩
    by_cases hji : j = i
    · subst hji; exact yieldsIf_wpOpIn hi (fun c => noDefer_spec hnd j oi c hi) hy (hJ _ _ hJl hS) ⟨fun ho => hS (hJi _ ho), H⟩
    · have h1 := H.2 j (ready_mono hj hji)
      obtain ⟨hjun, oj, hoj, hall⟩ := mem_ready.1 hj
      have hnot : ∀ e ∈ oj.after, Region.binds .any e = true → e.on ≠ i := fun e he hb heq => by
        have h1 := hall e he hb
        have h0 := (mem_ready.1 hr).1
        rw [heq] at h1
        rcases Nat.lt_or_ge i listed.size with h' | h'
        · simp [h'] at h0 h1; rw [h0] at h1; cases h1
        · simp [Array.getElem?_eq_none h'] at h1
      have h2 := wpOpIn_putIf hoj (fun c => noDefer_spec hnd j oj c hoj) (hfree j oj hoj hji hjun hnot) (fun cs b => hsel i oi cs b hi) (fun cs b => hsel j oj cs b hoj) hQ hy h1
      have hfree' : ∀ k ok, ops[k]? = some ok → k ≠ i → (listed.setIfInBounds j true).getD k true = false →
          (∀ e ∈ ok.after, Region.binds .any e = true → e.on ≠ i) → oi.apart ops ok = true := fun k ok hk hki hun hno => by
        refine hfree k ok hk hki ?_ hno
        by_cases hjk : j = k
        · subst hjk; exact hjun
        · rw [getD_set_ne true hjk] at hun; exact hun
      have hJ2 := hJs listed j hJl hr hj hji
      refine wpOpIn_mono (fun a' w' h3 => ⟨fun ho => h3.2.1 (by rw [Array.setIfInBounds_comm _ _ (Ne.symm hji)]; exact hJi2 _ hJ2 ho), ih (listed.setIfInBounds j true) a' w' hJ2 hfree' (ready_mono hr (Ne.symm hji)) h3.1 (fun ho => h3.2.1 (by rw [Array.setIfInBounds_comm _ _ (Ne.symm hji)]; exact hJi2 _ hJ2 ho)) ?_⟩) h2
      rw [Array.setIfInBounds_comm _ _ hji]
      exact h3.2.2
variable {fuel : Nat} {listed : Array Bool} {a : Act} {w : World}
/-- An operation that yields the same in whatever world is taken first. -/
theorem rtkB (i : Nat) (d : Option Tmp) (o : Oper) (v : Value) (hi : ops[i]? = some o) (hdd : o.dst = d) (hs : Region.noSelect ops = true) (hnd : noDefer ops = true) (hf : Region.free .any ops listed i = true) (hr : (Region.ready .any ops listed).contains i = true) (hk : (K.contains i) = false)
    (hQ : PanFree Q) (hw : Region.wanted o (yielded ops a.tmps) = true) (hv : ∀ w', (execOp a.eval o).run P w' = .ok (.value v) w') (hS : openK K listed = true → S w)
    (h : (openK K (listed.setIfInBounds i true) = true → S w) → wpKr n rl P ops Q S K fuel (listed.setIfInBounds i true) (a.put d v) w) : wpKr n rl P ops Q S K (fuel + 1) listed a w :=
  wpKr_first hnd (S1 := fun _ => True) (J := fun _ => True) hi (Region.noSelect_spec hs) (fun c a w => hQ c a _ _ w) (fun _ _ _ _ => trivial) (fun _ => openK_back) (fun _ _ => openK_set (by simpa using hk)) (fun _ _ _ _ _ _ => trivial) fuel listed a w trivial
    (Region.free_spec hi hf) (by simpa using hr) (.inl ⟨hw, fun w _ => hv w⟩) hS (hdd ▸ h (fun ho => hS (openK_back ho)))
/-- An operation whose guard shuts it out. -/
theorem rtkG (i : Nat) (d : Option Tmp) (o : Oper) (hi : ops[i]? = some o) (hdd : o.dst = d) (hs : Region.noSelect ops = true) (hnd : noDefer ops = true) (hf : Region.free .any ops listed i = true) (hr : (Region.ready .any ops listed).contains i = true) (hk : (K.contains i) = false)
    (hQ : PanFree Q) (hw : Region.wanted o (yielded ops a.tmps) = false) (hS : openK K listed = true → S w)
    (h : (openK K (listed.setIfInBounds i true) = true → S w) → wpKr n rl P ops Q S K fuel (listed.setIfInBounds i true) (a.put d undef) w) : wpKr n rl P ops Q S K (fuel + 1) listed a w :=
  wpKr_first hnd (S1 := fun _ => True) (J := fun _ => True) hi (Region.noSelect_spec hs) (fun c a w => hQ c a _ _ w) (fun _ _ _ _ => trivial) (fun _ => openK_back) (fun _ _ => openK_set (by simpa using hk)) (fun _ _ _ _ _ _ => trivial) fuel listed a w trivial
    (Region.free_spec hi hf) (by simpa using hr) (.inr ⟨hw, rfl⟩) hS (hdd ▸ h (fun ho => hS (openK_back ho)))
theorem rtkY (i : Nat) (d : Option Tmp) (o : Oper) (v : Value) (hi : ops[i]? = some o) (hdd : o.dst = d) (hs : Region.noSelect ops = true) (hnd : noDefer ops = true) (hf : Region.free .any ops listed i = true) (hr : (Region.ready .any ops listed).contains i = true) (hk : waitsK ops K i = true) (ho : (openK K listed && closedB ops listed) = true)
    (hQ : PanFree Q) (hy : YieldsIf P ops S o v a) (hS : openK K listed = true → S w)
    (h : (openK K (listed.setIfInBounds i true) = true → S w) → wpKr n rl P ops Q S K fuel (listed.setIfInBounds i true) (a.put d v) w) : wpKr n rl P ops Q S K (fuel + 1) listed a w :=
  wpKr_first hnd (S1 := S) (J := fun l => openK K l = true ∧ closedK ops l) hi (Region.noSelect_spec hs) (fun c a w => hQ c a _ _ w) (fun _ _ hl h => h hl.1) (fun _ => openK_back) (fun _ _ => openK_set (waitsK_not hk)) (fun _ _ hl hri hrj _ => ⟨openK_set (waitsK_ready hl.2 hk hri hrj) hl.1, closedK_set hl.2 hrj⟩) fuel listed a w ⟨(Bool.and_eq_true _ _ ▸ ho).1, closedB_spec (Bool.and_eq_true _ _ ▸ ho).2⟩
    (Region.free_spec hi hf) (by simpa using hr) hy hS (hdd ▸ h (fun ho => hS (openK_back ho)))
/-- An operation that yields the same in every world that meets S, ahead of the closing ones. -/
theorem rtkA (i : Nat) (d : Option Tmp) (o : Oper) (v : Value) (hi : ops[i]? = some o) (hdd : o.dst = d) (hs : Region.noSelect ops = true) (hnd : noDefer ops = true) (hf : Region.free .any ops listed i = true) (hr : (Region.ready .any ops listed).contains i = true) (hk : waitsK ops K i = true) (ho : (openK K listed && closedB ops listed) = true)
    (hQ : PanFree Q) (hw : Region.wanted o (yielded ops a.tmps) = true) (hv : ∀ w', S w' → (execOp a.eval o).run P w' = .ok (.value v) w') (hS : openK K listed = true → S w)
    (h : (openK K (listed.setIfInBounds i true) = true → S w) → wpKr n rl P ops Q S K fuel (listed.setIfInBounds i true) (a.put d v) w) : wpKr n rl P ops Q S K (fuel + 1) listed a w :=
  rtkY i d o v hi hdd hs hnd hf hr hk ho hQ (.inl ⟨hw, hv⟩) hS h
/-- A load of a whole array or struct. -/
theorem rtkL (i : Nat) (dd : Option Tmp) (o : Oper) (hi : ops[i]? = some o) (hdd : o.dst = dd) (ty : TypeId) (x : Operand) (hop : o.op = .load ty x) (b off : Nat) (cs : List Value) (d : TypeDesc)
    (hs : Region.noSelect ops = true) (hnd : noDefer ops = true) (hf : Region.free .any ops listed i = true) (hr : (Region.ready .any ops listed).contains i = true) (hk : waitsK ops K i = true) (ho : (openK K listed && closedB ops listed) = true)
    (hQ : PanFree Q) (hw : Region.wanted o (yielded ops a.tmps) = true)
    (hx : a.eval x = .pointer (some ⟨b, off, none⟩)) (hc : ∀ w, S w → w.rangeAt b off cs) (hu : P.underlying ty = some d) (hd : d.isRow = true) (hz : (P.info? ty).map (·.size) = some cs.length) (hS : openK K listed = true → S w)
    (h : (openK K (listed.setIfInBounds i true) = true → S w) → wpKr n rl P ops Q S K fuel (listed.setIfInBounds i true) (a.put dd (.agg cs.toArray)) w) : wpKr n rl P ops Q S K (fuel + 1) listed a w :=
  rtkY i dd o _ hi hdd hs hnd hf hr hk ho hQ (yieldsIf_load_mid hw ty x hop b off hx cs d hc hu hd hz) hS h
/-- The beginning. -/
theorem rtkR {id : Nat} (S : World → Prop) (K : List Nat) (hm : P.follows .mixedOrders = true) (hQ : PanFree Q) (hS : S w.drew)
    (h : PanFree Q → (openK K (Array.replicate ops.size false) = true → S w.drew) → wpKr n rl P ops Q S K ops.size (Array.replicate ops.size false) a w.drew) : (Code.region id ops true).wpIn (WR rl) n P Q a w := by
  refine wpIn_region_any hm ?_
  exact wpAny_of_Kr _ _ _ _ (h hQ (fun _ => hS))
theorem rtkD {listed : Array Bool} {a : Act} {w : World} (hr : Region.ready .any ops listed = []) (h : Q .normal a w) : ∀ fuel, wpKr n rl P ops Q S K fuel listed a w
  | 0 => ⟨hr, h⟩
  | _ + 1 => ⟨fun _ => h, by rw [hr]; simp⟩
theorem wpKr_mono {S' : World → Prop} (hSS : ∀ w, S' w → S w) : ∀ (fuel : Nat) (listed : Array Bool) (a : Act) (w : World), wpKr n rl P ops Q S' K fuel listed a w → wpKr n rl P ops Q S K fuel listed a w
  | 0, _, _, _, h => h
  | fuel + 1, _, _, _, h => ⟨h.1, fun i hi => wpOpIn_mono (fun a' w' h' => ⟨fun ho => hSS _ (h'.1 ho), wpKr_mono hSS fuel _ a' w' h'.2⟩) (h.2 i hi)⟩
/-- From here on more is held. -/
theorem rtkS (S' : World → Prop) (hSS : ∀ w, S' w → S w) (hS' : S' w) (h : (openK K listed = true → S' w) → wpKr n rl P ops Q S' K fuel listed a w) : wpKr n rl P ops Q S K fuel listed a w :=
  wpKr_mono hSS _ _ _ _ (h (fun _ => hS'))
def AllKr (n rl : Nat) (P : Program) (ops : Array Oper) (Q : Exit → Act → World → Prop) (S : World → Prop) (K : List Nat) (fuel : Nat) (listed : Array Bool) (a : Act) (w : World) (rs : List Nat) : Prop :=
  ∀ i ∈ rs, wpOpIn (WR rl) n P ops Q i (fun a' w' => (openK K (listed.setIfInBounds i true) = true → S w') ∧ wpKr n rl P ops Q S K fuel (listed.setIfInBounds i true) a' w') a w
theorem AllKr.nil : AllKr n rl P ops Q S K fuel listed a w [] := fun _ h => by cases h
/-- An operation that comes up: S is to be shown behind it. -/
theorem AllKr.cons {i : Nat} {o : Oper} {rs : List Nat} (ho : ops[i]? = some o)
    (h : ∀ K' : Act → World → Prop, Shut (∀ a w, S w → ((openK K (listed.setIfInBounds i true) = true → S w) → wpKr n rl P ops Q S K fuel (listed.setIfInBounds i true) a w) → K' a w) → if Region.wanted o (yielded ops a.tmps) = true then o.wpIn (WR rl) n P a w K' Q else K' (a.put o.dst undef) w)
    (hs : AllKr n rl P ops Q S K fuel listed a w rs) : AllKr n rl P ops Q S K fuel listed a w (i :: rs) := fun j hj => by
  rcases List.mem_cons.1 hj with rfl | hj
  · exact wpOpIn_step ho (fun K' hK => h K' (fun a w hS hW => hK a w ⟨fun _ => hS, hW (fun _ => hS)⟩))
  · exact hs j hj
/-- A closing operation, or one behind it: nothing is to be shown. -/
theorem AllKr.close {i : Nat} {o : Oper} {rs : List Nat} (ho : ops[i]? = some o) (hc : openK K (listed.setIfInBounds i true) = false)
    (h : ∀ K' : Act → World → Prop, Shut (∀ a w, ((openK K (listed.setIfInBounds i true) = true → S w) → wpKr n rl P ops Q S K fuel (listed.setIfInBounds i true) a w) → K' a w) → if Region.wanted o (yielded ops a.tmps) = true then o.wpIn (WR rl) n P a w K' Q else K' (a.put o.dst undef) w)
    (hs : AllKr n rl P ops Q S K fuel listed a w rs) : AllKr n rl P ops Q S K fuel listed a w (i :: rs) := fun j hj => by
  have hno : ∀ w, openK K (listed.setIfInBounds i true) = true → S w := fun w h => by rw [hc] at h; cases h
  rcases List.mem_cons.1 hj with rfl | hj
  · exact wpOpIn_step ho (fun K' hK => h K' (fun a w hW => hK a w ⟨hno w, hW (hno w)⟩))
  · exact hs j hj
theorem rtkW {rs : List Nat} (hr : Region.ready .any ops listed = rs) (hne : rs ≠ []) (h : AllKr n rl P ops Q S K fuel listed a w rs) : wpKr n rl P ops Q S K (fuel + 1) listed a w :=
  ⟨fun h0 => absurd (hr ▸ h0) hne, hr ▸ h⟩
end
section
variable {P : Program} {n rl : Nat}
theorem wpIn_storeD {op : Oper} {a : Act} {w : World} {K : Act → World → Prop} {Q : Exit → Act → World → Prop} (dd : Option Tmp) (hdd : op.dst = dd) (ty : TypeId) (x y : Operand) (ho : op.op = .store ty x y)
    (b o : Nat) (cells : Array Value) (hx : a.eval x = .pointer (some ⟨b, o, none⟩)) (hy : a.eval y = .agg cells)
    (ht : w.there b o cells.size) (hi : (P.info? ty).map (·.size) = some cells.size) (h1 : cells.all (·.oneCell') = true)
    (h : K (a.put dd undef) (w.setCells b o cells.toList)) : op.wpIn (WR rl) n P a w K Q := by
  subst hdd
  unfold Oper.wpIn
  refine ⟨fun _ _ => trivial, ?_⟩
  rw [Fence.inRound_round, Oper.semAt_some rl _ _ (fun c e => by rw [ho] at e; cases e)]
  unfold execOp
  simp only [ho, hx, hy, Instr.storeAt, Instr.sureAddr, Sem.run_bind, Sem.run_pure, Result.andThen_ok, run_storeVar_mid w b o ty cells ht hi h1]
  exact h
end
section
variable {n rl : Nat}
theorem wpIn_addD {o : Oper} {a : Act} {K : Act → World → Prop} {Q : Exit → Act → World → Prop} {w : World} {base : Nat} {v : Value} {xs : List UInt8} (hown : OwnR base w v xs) (dd : Option Tmp) (hdd : o.dst = dd) (s x : Operand)
    (ho : o.op = .call { callee := .builtin .append, args := #[s, x], argTypes := #[26, 26] })
    (hs : a.eval s = v) (pa : Option Addr) (m c : Nat) (Y : List UInt8) (hx : a.eval x = .slice pa m c) (hY : RowAt w pa Y) (hm : Y.length = m) (hb : xs.length + m ≤ 140737488355328) (hbase : base ≤ w.heap.size)
    (h : ∀ v' w', OwnR base w' v' (xs ++ Y) → w.grownBy w' v.ownBlock → (v'.ownBlock = v.ownBlock ∨ v'.ownBlock = some w.heap.size) → K (a.put dd v') w') :
    o.wpIn (WR rl) n Try.prog a w K Q := by
  subst hdd
  obtain ⟨v', w', hr, h2, h3, h5⟩ := run_append_rows w base o.type v xs.length (bys xs) hown pa m c Y hY hm hb hbase
  have h2' : OwnR base w' v' (xs ++ Y) := by
    unfold OwnR
    rw [List.length_append, hm]
    simpa [bys] using h2
  unfold Oper.wpIn
  refine ⟨fun _ _ => trivial, ?_⟩
  rw [Fence.inRound_round, Oper.semAt_some rl _ _ (fun c e => by rw [ho] at e; cases e)]
  unfold execOp
  simp only [ho, resolve, invoke, builtin, Sem.run_bind, Sem.run_pure, Result.andThen_ok, List.map_toArray, List.map_cons, List.map_nil, hs, hx, hr]
  exact h v' w' h2' h3 h5
end
end Go.Proofs.Ytlgeebnmonmdaaa
