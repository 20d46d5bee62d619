/- RkIn · Ck · Mx4 · St · Gq4 (joined by merge4.py) -/
import Derived.Test.YtnmmnlffobnbfaaGreatDoorMF
import Derived.RangeFuncNested
import Derived.RangeFuncBound
import Derived.RangeFuncCalls
import Derived.RangeFuncLeaves
import Derived.Shelf.Abstract
import Derived.Shelf.RegionOpen
import Derived.OwnWalkIn
import Derived.TacticsInMore
import Derived.LoopNIn
import Derived.LoopIn
import Derived.RangeFuncBox
import Derived.Test.YtnmmnlffobnbfaaGreatDoorMC
import Derived.Test.YtnmmnlffobnbfaaGreatDoorMG
import Derived.Test.YtnmmnlffobnbfaaGreatDoorMD
import Derived.Laws.BytesArg
import Derived.Laws.Strings
import Derived.Laws.CopyOwn
import Derived.Lib.MakeNoZero
import Derived.Lib.AppendZerosOnto
import Derived.Deep.DeepCutAuto
import Derived.Laws.AppendOwn
import Derived.Test.YtnmmnlffobnbfaaGreatDoorME
/- a region that draws its order, within a round of a range over a function -/
namespace Go.Proofs.YtnmmnlffobnbfaaGreatDoor
open Go.RowKit
/-- No defer statement. -/
def noDefer (ops : Array Oper) : Bool := ops.all fun o => match o.op with | .defer _ => false | _ => true
theorem noDefer_spec {ops : Array Oper} (h : noDefer ops = true) (j : Nat) (o : Oper) (c : Call) (ho : ops[j]? = some o) : o.op ≠ .defer c := fun e => by
  have := Array.all_eq_true_iff_forall_mem.1 h o (Array.mem_of_getElem? ho)
  simp [e] at this
abbrev WR (l : Nat) : Fence := Fence.wide.inRound l
section
variable {P : Program} {ops : Array Oper} {Q : Exit → Act → World → Prop} {S : World → Prop} {n l : Nat}
theorem yieldsIf_wpOpIn {i : Nat} {o : Oper} {v : Value} {a : Act} (hi : ops[i]? = some o) (hnd : ∀ c, o.op ≠ .defer c) (hy : YieldsIf P ops S o v a)
    {K : Act → World → Prop} {w : World} (hS : S w) (h : K (a.put o.dst v) w) : wpOpIn (WR l) n P ops Q i K a w := by
  unfold Go.wpOpIn
  simp only [hi]
  rcases hy with ⟨hw, hv⟩ | ⟨hw, rfl⟩
  · simp only [hw, if_true, Oper.wpIn, Fence.inRound_round, Oper.semAt_some l _ _ hnd, hv w hS, Oper.uponIn]; exact ⟨fun _ _ => trivial, h⟩
  · simp only [hw, Bool.false_eq_true, if_false]; exact ⟨fun _ _ => trivial, h⟩
theorem wpOpIn_putIf {j : Nat} {oi oj : Oper} {v : Value} (hj : ops[j]? = some oj) (hnd : ∀ c, oj.op ≠ .defer c) (hap : oi.apart ops oj = true)
    (hsi : ∀ cs b, oi.op ≠ .select cs b) (hsj : ∀ cs b, oj.op ≠ .select cs b)
    (hQ : ∀ c a w, Q (.panic c) (a.put oi.dst v) w → Q (.panic c) a w) {K : Act → World → Prop} {a : Act} {w : World}
    (hy : YieldsIf P ops S oi v a) (h : wpOpIn (WR l) n P ops Q j K (a.put oi.dst v) w) :
    wpOpIn (WR l) n P ops Q j (fun a' w' => YieldsIf P ops S oi v a' ∧ K (a'.put oi.dst v) w') a w := by
  obtain ⟨h1, h2, h3⟩ := Oper.apart_spec hap
  have keep : ∀ (a : Act), YieldsIf P ops S oi v a → ∀ u, YieldsIf P ops S oi v (a.put oj.dst u) := fun a hy u =>
    hy.of_same (execOp_put oi hsi a oj.dst u h3) (wanted_put oi a oj.dst u h3)
  have keepD : ∀ d, YieldsIf P ops S oi v { a with defers := d :: a.defers } := fun d => hy.of_same rfl rfl
  unfold wpOpIn at *
  simp only [hj] at *
  rw [wanted_put oj a oi.dst v h1] at h
  split
  · rename_i hw
    simp only [hw, if_true] at h
    unfold Oper.wpIn at *
    refine ⟨fun _ _ => trivial, ?_⟩
    have h := h.2
    simp only [Fence.inRound_round, Oper.semAt_some l _ _ hnd] at h ⊢
    rw [execOp_put oj hsj a oi.dst v h1] at h
    generalize (execOp a.eval oj).run P w = r at *
    cases r with
    | ok x w' =>
      cases x <;> simp only [Oper.uponIn] at h ⊢
      case value u => exact ⟨keep a hy u, by rw [← Act.put_comm a v u h2]; exact h⟩
      case skip => exact ⟨keep a hy _, by rw [← Act.put_comm a v undef h2]; exact h⟩
      case defer d =>
        refine ⟨keep _ (keepD d) _, ?_⟩
        rw [← Act.put_comm _ v undef h2, ← Act.put_defers]
        exact h
      case enter f args =>
        refine ⟨h.1, CallsIn.mono h.2 fun e w'' he => ?_⟩
        cases e with
        | returned u => exact ⟨keep a hy u, by rw [← Act.put_comm a v u h2]; exact he⟩
        | panicked c => exact hQ _ _ _ he
        | outgrown => exact he
      case row row args => exact ⟨h.1, RowsIn.mono h.2 fun u w'' he => ⟨keep a hy u, by rw [← Act.put_comm a v u h2]; exact he⟩⟩
      case round l f tmps assign body =>
        refine ⟨h.1, RoundIn.mono h.2 fun e w'' he => ?_⟩
        cases e with
        | returned u => exact ⟨keep a hy u, by rw [← Act.put_comm a v u h2]; exact he⟩
        | panicked c => exact hQ _ _ _ he
        | outgrown => exact he
    | halt x w' =>
      cases x <;> simp only [Oper.uponIn] at h ⊢
      case panic u => exact hQ _ _ _ h
  · rename_i hw
    simp only [hw] at h
    exact ⟨fun _ _ => trivial, keep a hy _, by rw [← Act.put_comm a v undef h2]; exact h.2⟩
/-- The walk of an operation that comes up, within a round, is the plain one. -/
theorem wpOpIn_step {i : Nat} {o : Oper} {K : Act → World → Prop} {a : Act} {w : World} (hi : ops[i]? = some o)
    (h : ∀ K' : Act → World → Prop, (∀ a w, K a w → K' a w) → if Region.wanted o (yielded ops a.tmps) = true then o.wpIn (WR l) n P a w K' Q else K' (a.put o.dst undef) w) : wpOpIn (WR l) n P ops Q i K a w := by
  unfold wpOpIn
  simp only [hi]
  have := h K (fun _ _ h => h)
  split
  · rename_i hw; rw [if_pos hw] at this; exact this
  · rename_i hw; rw [if_neg hw] at this; exact ⟨fun _ _ => trivial, this⟩
end
section
variable {P : Program} {ops : Array Oper} {Q : Exit → Act → World → Prop} {S : World → Prop} {K : List Nat} {n rl : Nat}
def wpKr (n rl : Nat) (P : Program) (ops : Array Oper) (Q : Exit → Act → World → Prop) (S : World → Prop) (K : List Nat) : Nat → Array Bool → Act → World → Prop
  | 0, listed, a, w => Region.ready .any ops listed = [] ∧ Q .normal a w
  | fuel + 1, listed, a, w =>
    (Region.ready .any ops listed = [] → Q .normal a w) ∧
    ∀ i ∈ Region.ready .any ops listed, wpOpIn (WR rl) n P ops Q i (fun a' w' => (openK K (listed.setIfInBounds i true) = true → S w') ∧ wpKr n rl P ops Q S K fuel (listed.setIfInBounds i true) a' w') a w
theorem wpAny_of_Kr : ∀ (fuel : Nat) (listed : Array Bool) (a : Act) (w : World), wpKr n rl P ops Q S K fuel listed a w → wpAnyIn (WR rl) n P .any ops Q fuel listed a w
  | 0, _, _, _, h => h
  | fuel + 1, _, _, _, h => ⟨h.1, fun i hi => wpOpIn_mono (fun a' w' h' => wpAny_of_Kr fuel _ a' w' h'.2) (h.2 i hi)⟩
theorem wpKr_first (hnd : noDefer ops = true) {S1 : World → Prop} {J : Array Bool → Prop} {i : Nat} {oi : Oper} {v : Value} (hi : ops[i]? = some oi) (hsel : ∀ (j : Nat) (o : Oper) cs b, ops[j]? = some o → o.op ≠ .select cs b)
    (hQ : ∀ c a w, Q (.panic c) (a.put oi.dst v) w → Q (.panic c) a w)
    (hJ : ∀ l w, J l → (openK K l = true → S w) → S1 w) (hJi : ∀ l, openK K (l.setIfInBounds i true) = true → openK K l = true)
    (hJi2 : ∀ l, J l → openK K l = true → openK K (l.setIfInBounds i true) = true)
    (hJs : ∀ l j, J l → i ∈ Region.ready .any ops l → j ∈ Region.ready .any ops l → j ≠ i → J (l.setIfInBounds j true)) :
    ∀ (fuel : Nat) (listed : Array Bool) (a : Act) (w : World), J listed →
      (∀ j oj, ops[j]? = some oj → j ≠ i → listed.getD j true = false → (∀ e ∈ oj.after, Region.binds .any e = true → e.on ≠ i) → oi.apart ops oj = true) →
      i ∈ Region.ready .any ops listed → YieldsIf P ops S1 oi v a → (openK K listed = true → S w) →
      wpKr n rl P ops Q S K fuel (listed.setIfInBounds i true) (a.put oi.dst v) w → wpKr n rl P ops Q S K (fuel + 1) listed a w := by
  intro fuel
  induction fuel with
  | zero =>
    intro listed a w hJl _ hr hy hS H
    refine ⟨fun h => (by rw [h] at hr; cases hr), fun j hj => ?_⟩
    by_cases hji : j = i
    · subst hji; exact yieldsIf_wpOpIn hi (fun c => noDefer_spec hnd j oi c hi) hy (hJ _ _ hJl hS) ⟨fun ho => hS (hJi _ ho), H⟩
    · have := ready_mono hj hji
      rw [H.1] at this
      cases this
  | succ fuel ih =>
    intro listed a w hJl hfree hr hy hS H
    refine ⟨fun h => (by rw [h] at hr; cases hr), fun j hj => ?_⟩
    by_cases hji : j = i
    · subst hji; exact yieldsIf_wpOpIn hi (fun c => noDefer_spec hnd j oi c hi) hy (hJ _ _ hJl hS) ⟨fun ho => hS (hJi _ ho), H⟩
    · have h1 := H.2 j (ready_mono hj hji)
      obtain ⟨hjun, oj, hoj, hall⟩ := mem_ready.1 hj
      have hnot : ∀ e ∈ oj.after, Region.binds .any e = true → e.on ≠ i := fun e he hb heq => by
        have h1 := hall e he hb
        have h0 := (mem_ready.1 hr).1
        rw [heq] at h1
        rcases Nat.lt_or_ge i listed.size with h' | h'
        · simp [h'] at h0 h1; rw [h0] at h1; cases h1
        · simp [Array.getElem?_eq_none h'] at h1
      have h2 := wpOpIn_putIf hoj (fun c => noDefer_spec hnd j oj c hoj) (hfree j oj hoj hji hjun hnot) (fun cs b => hsel i oi cs b hi) (fun cs b => hsel j oj cs b hoj) hQ hy h1
      have hfree' : ∀ k ok, ops[k]? = some ok → k ≠ i → (listed.setIfInBounds j true).getD k true = false →
          (∀ e ∈ ok.after, Region.binds .any e = true → e.on ≠ i) → oi.apart ops ok = true := fun k ok hk hki hun hno => by
        refine hfree k ok hk hki ?_ hno
        by_cases hjk : j = k
        · subst hjk; exact hjun
        · rw [getD_set_ne true hjk] at hun; exact hun
      have hJ2 := hJs listed j hJl hr hj hji
      refine wpOpIn_mono (fun a' w' h3 => ⟨fun ho => h3.2.1 (by rw [Array.setIfInBounds_comm _ _ (Ne.symm hji)]; exact hJi2 _ hJ2 ho), ih (listed.setIfInBounds j true) a' w' hJ2 hfree' (ready_mono hr (Ne.symm hji)) h3.1 (fun ho => h3.2.1 (by rw [Array.setIfInBounds_comm _ _ (Ne.symm hji)]; exact hJi2 _ hJ2 ho)) ?_⟩) h2
      rw [Array.setIfInBounds_comm _ _ hji]
      exact h3.2.2
variable {fuel : Nat} {listed : Array Bool} {a : Act} {w : World}
/-- An operation that yields the same in whatever world is taken first. -/
theorem rtkB (i : Nat) (d : Option Tmp) (o : Oper) (v : Value) (hi : ops[i]? = some o) (hdd : o.dst = d) (hs : Region.noSelect ops = true) (hnd : noDefer ops = true) (hf : Region.free .any ops listed i = true) (hr : (Region.ready .any ops listed).contains i = true) (hk : (K.contains i) = false)
    (hQ : PanFree Q) (hw : Region.wanted o (yielded ops a.tmps) = true) (hv : ∀ w', (execOp a.eval o).run P w' = .ok (.value v) w') (hS : openK K listed = true → S w)
    (h : (openK K (listed.setIfInBounds i true) = true → S w) → wpKr n rl P ops Q S K fuel (listed.setIfInBounds i true) (a.put d v) w) : wpKr n rl P ops Q S K (fuel + 1) listed a w :=
  wpKr_first hnd (S1 := fun _ => True) (J := fun _ => True) hi (Region.noSelect_spec hs) (fun c a w => hQ c a _ _ w) (fun _ _ _ _ => trivial) (fun _ => openK_back) (fun _ _ => openK_set (by simpa using hk)) (fun _ _ _ _ _ _ => trivial) fuel listed a w trivial
    (Region.free_spec hi hf) (by simpa using hr) (.inl ⟨hw, fun w _ => hv w⟩) hS (hdd ▸ h (fun ho => hS (openK_back ho)))
/-- An operation whose guard shuts it out. -/
theorem rtkG (i : Nat) (d : Option Tmp) (o : Oper) (hi : ops[i]? = some o) (hdd : o.dst = d) (hs : Region.noSelect ops = true) (hnd : noDefer ops = true) (hf : Region.free .any ops listed i = true) (hr : (Region.ready .any ops listed).contains i = true) (hk : (K.contains i) = false)
    (hQ : PanFree Q) (hw : Region.wanted o (yielded ops a.tmps) = false) (hS : openK K listed = true → S w)
    (h : (openK K (listed.setIfInBounds i true) = true → S w) → wpKr n rl P ops Q S K fuel (listed.setIfInBounds i true) (a.put d undef) w) : wpKr n rl P ops Q S K (fuel + 1) listed a w :=
  wpKr_first hnd (S1 := fun _ => True) (J := fun _ => True) hi (Region.noSelect_spec hs) (fun c a w => hQ c a _ _ w) (fun _ _ _ _ => trivial) (fun _ => openK_back) (fun _ _ => openK_set (by simpa using hk)) (fun _ _ _ _ _ _ => trivial) fuel listed a w trivial
    (Region.free_spec hi hf) (by simpa using hr) (.inr ⟨hw, rfl⟩) hS (hdd ▸ h (fun ho => hS (openK_back ho)))
theorem rtkY (i : Nat) (d : Option Tmp) (o : Oper) (v : Value) (hi : ops[i]? = some o) (hdd : o.dst = d) (hs : Region.noSelect ops = true) (hnd : noDefer ops = true) (hf : Region.free .any ops listed i = true) (hr : (Region.ready .any ops listed).contains i = true) (hk : waitsK ops K i = true) (ho : (openK K listed && closedB ops listed) = true)
    (hQ : PanFree Q) (hy : YieldsIf P ops S o v a) (hS : openK K listed = true → S w)
    (h : (openK K (listed.setIfInBounds i true) = true → S w) → wpKr n rl P ops Q S K fuel (listed.setIfInBounds i true) (a.put d v) w) : wpKr n rl P ops Q S K (fuel + 1) listed a w :=
  wpKr_first hnd (S1 := S) (J := fun l => openK K l = true ∧ closedK ops l) hi (Region.noSelect_spec hs) (fun c a w => hQ c a _ _ w) (fun _ _ hl h => h hl.1) (fun _ => openK_back) (fun _ _ => openK_set (waitsK_not hk)) (fun _ _ hl hri hrj _ => ⟨openK_set (waitsK_ready hl.2 hk hri hrj) hl.1, closedK_set hl.2 hrj⟩) fuel listed a w ⟨(Bool.and_eq_true _ _ ▸ ho).1, closedB_spec (Bool.and_eq_true _ _ ▸ ho).2⟩
    (Region.free_spec hi hf) (by simpa using hr) hy hS (hdd ▸ h (fun ho => hS (openK_back ho)))
/-- An operation that yields the same in every world that meets S, ahead of the closing ones. -/
theorem rtkA (i : Nat) (d : Option Tmp) (o : Oper) (v : Value) (hi : ops[i]? = some o) (hdd : o.dst = d) (hs : Region.noSelect ops = true) (hnd : noDefer ops = true) (hf : Region.free .any ops listed i = true) (hr : (Region.ready .any ops listed).contains i = true) (hk : waitsK ops K i = true) (ho : (openK K listed && closedB ops listed) = true)
    (hQ : PanFree Q) (hw : Region.wanted o (yielded ops a.tmps) = true) (hv : ∀ w', S w' → (execOp a.eval o).run P w' = .ok (.value v) w') (hS : openK K listed = true → S w)
    (h : (openK K (listed.setIfInBounds i true) = true → S w) → wpKr n rl P ops Q S K fuel (listed.setIfInBounds i true) (a.put d v) w) : wpKr n rl P ops Q S K (fuel + 1) listed a w :=
  rtkY i d o v hi hdd hs hnd hf hr hk ho hQ (.inl ⟨hw, hv⟩) hS h
/-- A load of a whole array or struct. -/
theorem rtkL (i : Nat) (dd : Option Tmp) (o : Oper) (hi : ops[i]? = some o) (hdd : o.dst = dd) (ty : TypeId) (x : Operand) (hop : o.op = .load ty x) (b off : Nat) (cs : List Value) (d : TypeDesc)
    (hs : Region.noSelect ops = true) (hnd : noDefer ops = true) (hf : Region.free .any ops listed i = true) (hr : (Region.ready .any ops listed).contains i = true) (hk : waitsK ops K i = true) (ho : (openK K listed && closedB ops listed) = true)
    (hQ : PanFree Q) (hw : Region.wanted o (yielded ops a.tmps) = true)
    (hx : a.eval x = .pointer (some ⟨b, off, none⟩)) (hc : ∀ w, S w → w.rangeAt b off cs) (hu : P.underlying ty = some d) (hd : d.isRow = true) (hz : (P.info? ty).map (·.size) = some cs.length) (hS : openK K listed = true → S w)
    (h : (openK K (listed.setIfInBounds i true) = true → S w) → wpKr n rl P ops Q S K fuel (listed.setIfInBounds i true) (a.put dd (.agg cs.toArray)) w) : wpKr n rl P ops Q S K (fuel + 1) listed a w :=
  rtkY i dd o _ hi hdd hs hnd hf hr hk ho hQ (yieldsIf_load_mid hw ty x hop b off hx cs d hc hu hd hz) hS h
/-- The beginning. -/
theorem rtkR {id : Nat} (S : World → Prop) (K : List Nat) (hm : P.follows .mixedOrders = true) (hQ : PanFree Q) (hS : S w.drew)
    (h : PanFree Q → (openK K (Array.replicate ops.size false) = true → S w.drew) → wpKr n rl P ops Q S K ops.size (Array.replicate ops.size false) a w.drew) : (Code.region id ops true).wpIn (WR rl) n P Q a w := by
  refine wpIn_region_any hm ?_
  exact wpAny_of_Kr _ _ _ _ (h hQ (fun _ => hS))
theorem rtkD {listed : Array Bool} {a : Act} {w : World} (hr : Region.ready .any ops listed = []) (h : Q .normal a w) : ∀ fuel, wpKr n rl P ops Q S K fuel listed a w
  | 0 => ⟨hr, h⟩
  | _ + 1 => ⟨fun _ => h, by rw [hr]; simp⟩
theorem wpKr_mono {S' : World → Prop} (hSS : ∀ w, S' w → S w) : ∀ (fuel : Nat) (listed : Array Bool) (a : Act) (w : World), wpKr n rl P ops Q S' K fuel listed a w → wpKr n rl P ops Q S K fuel listed a w
  | 0, _, _, _, h => h
  | fuel + 1, _, _, _, h => ⟨h.1, fun i hi => wpOpIn_mono (fun a' w' h' => ⟨fun ho => hSS _ (h'.1 ho), wpKr_mono hSS fuel _ a' w' h'.2⟩) (h.2 i hi)⟩
/-- From here on more is held. -/
theorem rtkS (S' : World → Prop) (hSS : ∀ w, S' w → S w) (hS' : S' w) (h : (openK K listed = true → S' w) → wpKr n rl P ops Q S' K fuel listed a w) : wpKr n rl P ops Q S K fuel listed a w :=
  wpKr_mono hSS _ _ _ _ (h (fun _ => hS'))
def AllKr (n rl : Nat) (P : Program) (ops : Array Oper) (Q : Exit → Act → World → Prop) (S : World → Prop) (K : List Nat) (fuel : Nat) (listed : Array Bool) (a : Act) (w : World) (rs : List Nat) : Prop :=
  ∀ i ∈ rs, wpOpIn (WR rl) n P ops Q i (fun a' w' => (openK K (listed.setIfInBounds i true) = true → S w') ∧ wpKr n rl P ops Q S K fuel (listed.setIfInBounds i true) a' w') a w
theorem AllKr.nil : AllKr n rl P ops Q S K fuel listed a w [] := fun _ h => by cases h
/-- An operation that comes up: S is to be shown behind it. -/
theorem AllKr.cons {i : Nat} {o : Oper} {rs : List Nat} (ho : ops[i]? = some o)
    (h : ∀ K' : Act → World → Prop, Shut (∀ a w, S w → ((openK K (listed.setIfInBounds i true) = true → S w) → wpKr n rl P ops Q S K fuel (listed.setIfInBounds i true) a w) → K' a w) → if Region.wanted o (yielded ops a.tmps) = true then o.wpIn (WR rl) n P a w K' Q else K' (a.put o.dst undef) w)
    (hs : AllKr n rl P ops Q S K fuel listed a w rs) : AllKr n rl P ops Q S K fuel listed a w (i :: rs) := fun j hj => by
  rcases List.mem_cons.1 hj with rfl | hj
  · exact wpOpIn_step ho (fun K' hK => h K' (fun a w hS hW => hK a w ⟨fun _ => hS, hW (fun _ => hS)⟩))
  · exact hs j hj
/-- A closing operation, or one behind it: nothing is to be shown. -/
theorem AllKr.close {i : Nat} {o : Oper} {rs : List Nat} (ho : ops[i]? = some o) (hc : openK K (listed.setIfInBounds i true) = false)
    (h : ∀ K' : Act → World → Prop, Shut (∀ a w, ((openK K (listed.setIfInBounds i true) = true → S w) → wpKr n rl P ops Q S K fuel (listed.setIfInBounds i true) a w) → K' a w) → if Region.wanted o (yielded ops a.tmps) = true then o.wpIn (WR rl) n P a w K' Q else K' (a.put o.dst undef) w)
    (hs : AllKr n rl P ops Q S K fuel listed a w rs) : AllKr n rl P ops Q S K fuel listed a w (i :: rs) := fun j hj => by
  have hno : ∀ w, openK K (listed.setIfInBounds i true) = true → S w := fun w h => by rw [hc] at h; cases h
  rcases List.mem_cons.1 hj with rfl | hj
  · exact wpOpIn_step ho (fun K' hK => h K' (fun a w hW => hK a w ⟨hno w, hW (hno w)⟩))
  · exact hs j hj
theorem rtkW {rs : List Nat} (hr : Region.ready .any ops listed = rs) (hne : rs ≠ []) (h : AllKr n rl P ops Q S K fuel listed a w rs) : wpKr n rl P ops Q S K (fuel + 1) listed a w :=
  ⟨fun h0 => absurd (hr ▸ h0) hne, hr ▸ h⟩
end
section
variable {P : Program} {n rl : Nat}
theorem wpIn_storeD {op : Oper} {a : Act} {w : World} {K : Act → World → Prop} {Q : Exit → Act → World → Prop} (dd : Option Tmp) (hdd : op.dst = dd) (ty : TypeId) (x y : Operand) (ho : op.op = .store ty x y)
    (b o : Nat) (cells : Array Value) (hx : a.eval x = .pointer (some ⟨b, o, none⟩)) (hy : a.eval y = .agg cells)
    (ht : w.there b o cells.size) (hi : (P.info? ty).map (·.size) = some cells.size) (h1 : cells.all (·.oneCell') = true)
    (h : K (a.put dd undef) (w.setCells b o cells.toList)) : op.wpIn (WR rl) n P a w K Q := by
  subst hdd
  unfold Oper.wpIn
  refine ⟨fun _ _ => trivial, ?_⟩
  rw [Fence.inRound_round, Oper.semAt_some rl _ _ (fun c e => by rw [ho] at e; cases e)]
  unfold execOp
  simp only [ho, hx, hy, Instr.storeAt, Instr.sureAddr, Sem.run_bind, Sem.run_pure, Result.andThen_ok, run_storeVar_mid w b o ty cells ht hi h1]
  exact h
end
section
variable {n rl : Nat}
theorem wpIn_addD {o : Oper} {a : Act} {K : Act → World → Prop} {Q : Exit → Act → World → Prop} {w : World} {base : Nat} {v : Value} {xs : List UInt8} (hown : OwnR base w v xs) (dd : Option Tmp) (hdd : o.dst = dd) (s x : Operand)
    (ho : o.op = .call { callee := .builtin .append, args := #[s, x], argTypes := #[23, 23] })
    (hs : a.eval s = v) (pa : Option Addr) (m c : Nat) (Y : List UInt8) (hx : a.eval x = .slice pa m c) (hY : RowAt w pa Y) (hm : Y.length = m) (hb : xs.length + m ≤ 140737488355328) (hbase : base ≤ w.heap.size)
    (h : ∀ v' w', OwnR base w' v' (xs ++ Y) → w.grownBy w' v.ownBlock → (v'.ownBlock = v.ownBlock ∨ v'.ownBlock = some w.heap.size) → K (a.put dd v') w') :
    o.wpIn (WR rl) n Tryz.prog a w K Q := by
  subst hdd
  obtain ⟨v', w', hr, h2, h3, h5⟩ := run_append_rows w base o.type v xs.length (bys xs) hown pa m c Y hY hm hb hbase
  have h2' : OwnR base w' v' (xs ++ Y) := by
    unfold OwnR
    rw [List.length_append, hm]
    simpa [bys] using h2
  unfold Oper.wpIn
  refine ⟨fun _ _ => trivial, ?_⟩
  rw [Fence.inRound_round, Oper.semAt_some rl _ _ (fun c e => by rw [ho] at e; cases e)]
  unfold execOp
  simp only [ho, resolve, invoke, builtin, Sem.run_bind, Sem.run_pure, Result.andThen_ok, List.map_toArray, List.map_cons, List.map_nil, hs, hx, hr]
  exact h v' w' h2' h3 h5
end
end Go.Proofs.YtnmmnlffobnbfaaGreatDoor

/- slices.Chunk over bytes: its iterator's contract -/
namespace Go.Proofs.YtnmmnlffobnbfaaGreatDoor
open Go.RowKit Go.Shelf
attribute [local go_sem] Oper.semAt_some

/-- A chunk, as yield is handed it. -/
def chunkV (b o j : Nat) : Value := .slice (some ⟨b, o + 16 * j, none⟩) 16 16
def clampI (k x : Nat) : Nat := if x < k then x else 0
theorem clampI_lt {k x : Nat} (h : x < k) : clampI k x = x := if_pos h
theorem clampI_le {k : Nat} (x : Nat) (h : 0 < k) : clampI k x < k := by unfold clampI; split <;> omega
/-- Where n ≤ m of Go's ints. -/
theorem chunk_bounds (k j : Nat) (h : j < k) : 16 * j < 16 * k ∧ 16 * j + 16 ≤ 16 * k := by omega

set_option maxRecDepth 100000 in
set_option maxHeartbeats 2000000 in
/-- The closure: for every loop body that keeps what the iterator reads. -/
theorem chunk1_in (n l Bs Bn N b o k cap : Nat) (pa : Option Addr) (hpa : 0 < k → pa = some ⟨b, o, none⟩) (F : List Nat) (hcap : 16 * k ≤ cap) (hk9 : k < 1000000) (hBs : Bs < N) (hBn : Bn < N) (hFs : Bs ∉ F) (hFn : Bn ∉ F) (J Jx : List Nat → World → Prop)
    (hY : ∀ pre x W, J pre W → pre.length < k → YieldAt Fence.wide (n - 1) Tryz.prog l #[chunkV b o (clampI k x)] W fun e W' =>
      (e = .returned (.bool true) ∧ J (pre ++ [x]) W' ∧ Chg N F W W') ∨ (e = .returned (.bool false) ∧ Jx (pre ++ [x]) W'))
    (W : World) (hJ : AbidesFrom W.heap.size J) (hs : W.cell? ⟨Bs, 0, none⟩ = some (.slice pa (16 * k) cap)) (hn : W.cell? ⟨Bn, 0, none⟩ = some (.int .i64 16)) (h0 : J [] W) :
    CallsIn Fence.wide n Tryz.prog 171 #[.func (.yield l) #[] #[], .pointer (some ⟨Bs, 0, none⟩), .pointer (some ⟨Bn, 0, none⟩)] W fun e W' => (∃ v, e = .returned v) ∧
      ((∃ ys, ys = List.range k ∧ J ys W') ∨ (∃ pre, (∃ j, j ≤ k ∧ pre = List.range j) ∧ Jx pre W')) := by
  refine callsIn_of_wp Tryz.func171 rfl trivial ?_ rfl
  simp only [Tryz.ntmps171, List.size_toArray, List.length_cons, List.length_nil, Nat.reduceAdd, Nat.reduceSub, Array.replicate_succ, Array.replicate_zero, List.push_toArray, List.append_toArray, List.nil_append, List.cons_append]
  gi_wp2
  gi_loopw [4] (fun i wr => ∃ j : Nat, j ≤ k ∧ i = .int .i64 ((16 * j : Nat) : Int) ∧ J (List.range j) wr ∧ Chg N F W wr) (fun i _ => 16 * k - (intOf i).toNat)
  case atStart => exact ⟨0, Nat.zero_le _, rfl, h0, Chg.refl _ _ _⟩
  case round =>
    obtain ⟨j, hj, rfl, hJs, hC⟩ := hrel
    have cs : wr.cell? ⟨Bs, 0, none⟩ = some (.slice pa (16 * k) cap) := by
      have hb := hC.block Bs hBs hFs
      have e : wr.cell? ⟨Bs, 0, none⟩ = W.cell? ⟨Bs, 0, none⟩ := by simp [World.cell?, hb]
      rw [e]; exact hs
    have cn : wr.cell? ⟨Bn, 0, none⟩ = some (.int .i64 16) := by
      have hb := hC.block Bn hBn hFn
      have e : wr.cell? ⟨Bn, 0, none⟩ = W.cell? ⟨Bn, 0, none⟩ := by simp [World.cell?, hb]
      rw [e]; exact hn
    obtain ⟨t, ht⟩ : ∃ t, 16 * j = t := ⟨_, rfl⟩
    obtain ⟨m, hm⟩ : ∃ m, 16 * k = m := ⟨_, rfl⟩
    rw [ht]
    rw [hm] at cs hcap
    by_cases hlt : j < k
    · obtain rfl := hpa (by omega)
      have hJd : J (List.range j) wr.drew := hJ _ wr wr.drew none hJs ⟨rfl, rfl, rfl, Nat.le_refl _, fun _ _ _ => rfl⟩ (fun _ e => by cases e)
      have HJd := hid hJd
      obtain ⟨fn, tmps, assign, body, hy, hR⟩ := hY _ j wr.drew hJd (by rw [List.length_range]; exact hlt)
      rw [clampI_lt hlt] at hy
      unfold chunkV at hy
      rw [ht] at hy
      have Ht := hid ht
      have Hm := hid hm
      have q0 : 0 ≤ (t : Int) := by omega
      have q1 : (t : Int) < (m : Int) := by omega
      have q2 : (t : Int) ≤ (m : Int) := by omega
      obtain ⟨t2, ht2⟩ : ∃ t2, t + 16 = t2 := ⟨_, rfl⟩
      have q3 : (t : Int) + 16 = (t2 : Int) := by omega
      have q4 : (t : Int) ≤ (t2 : Int) := by omega
      have q5 : ¬ cap = t := by omega
      have q6 : ¬ t2 = t := by omega
      have q7 : (16 : Int) ≤ ((m - t : Nat) : Int) := by omega
      have q8 : (t2 : Int) ≤ (cap : Int) := by omega
      have q14 := hid (show ((m - t : Nat) : Int) < 16 → ((m - t : Nat) : Int) = 16 by omega)
      have hj1 : j + 1 ≤ k := hlt
      have q9 : t2 - t = 16 := by omega
      have q10 : (t2 : Int) ≤ 1000000000 := by omega
      have q15 : 0 ≤ (t2 : Int) := by omega
      have q11 : t ≤ t2 := by omega
      have q12 : t2 ≤ cap := by omega
      have q13 : ((16 * (j + 1) : Nat) : Int) = (t2 : Int) := by omega
      have Q13 := hid q13
      have QM := hid (show 16 * k - t2 < 16 * k - t by omega)
      clear q13 ht2
      clear hJd ht hm
      gi_wp2
      refine wpIn_wide.2 ?_
      have hct : wr.drew.cell? ⟨Bs, 0, none⟩ = some (.slice (some ⟨b, o, none⟩) m cap) := cs
      have hcn : wr.drew.cell? ⟨Bn, 0, none⟩ = some (.int .i64 16) := cn
      try simp only [Act.put]
      refine tkR (fun w' => w'.cell? ⟨Bs, 0, none⟩ = some (.slice (some ⟨b, o, none⟩) m cap) ∧ w'.cell? ⟨Bn, 0, none⟩ = some (.int .i64 16)) [] (by kernel_rfl) (fun c a d v w h => by cases d <;> exact h) (⟨hct, hcn⟩) (fun hPF hHeld => ?_)
      refine tkA 0 (.some 13) _ _ rfl rfl (by kernel_rfl) (by kernel_rfl) (by kernel_rfl) (by kernel_rfl) (by kernel_rfl) hPF rfl (fun w' hw' => by (have h1 := hw'.2; go_simp; try with_reducible rfl)) hHeld (fun hHeld => ?_)
      simp only [Act.put, List.setIfInBounds_toArray, List.set_cons_zero, List.set_cons_succ]
      refine tkA 1 (.some 14) _ _ rfl rfl (by kernel_rfl) (by kernel_rfl) (by kernel_rfl) (by kernel_rfl) (by kernel_rfl) hPF rfl (fun w' hw' => by (have h1 := hw'.1; go_simp; try with_reducible rfl)) hHeld (fun hHeld => ?_)
      simp only [Act.put, List.setIfInBounds_toArray, List.set_cons_zero, List.set_cons_succ]
      refine tkB 2 (.some 15) _ _ rfl rfl (by kernel_rfl) (by kernel_rfl) (by kernel_rfl) (by kernel_rfl) hPF rfl (fun w' => by (go_simp; try with_reducible rfl)) hHeld (fun hHeld => ?_)
      simp only [Act.put, List.setIfInBounds_toArray, List.set_cons_zero, List.set_cons_succ]
      refine tkA 3 (.some 16) _ (.slice (some ⟨b, o + t, none⟩) (m - t) (cap - t)) rfl rfl (by kernel_rfl) (by kernel_rfl) (by kernel_rfl) (by kernel_rfl) (by kernel_rfl) hPF rfl (fun w' hw' => by (go_simp)) hHeld (fun hHeld => ?_)
      simp only [Act.put, List.setIfInBounds_toArray, List.set_cons_zero, List.set_cons_succ]
      refine tkB 4 (.some 17) _ _ rfl rfl (by kernel_rfl) (by kernel_rfl) (by kernel_rfl) (by kernel_rfl) hPF rfl (fun w' => by (go_simp; try with_reducible rfl)) hHeld (fun hHeld => ?_)
      simp only [Act.put, List.setIfInBounds_toArray, List.set_cons_zero, List.set_cons_succ]
      refine tkA 5 (.some 18) _ (.int .i64 16) rfl rfl (by kernel_rfl) (by kernel_rfl) (by kernel_rfl) (by kernel_rfl) (by kernel_rfl) hPF rfl (fun w' hw' => by (go_simp; exact q14.out)) hHeld (fun hHeld => ?_)
      simp only [Act.put, List.setIfInBounds_toArray, List.set_cons_zero, List.set_cons_succ]
      refine tkB 6 (.some 5) _ _ rfl rfl (by kernel_rfl) (by kernel_rfl) (by kernel_rfl) (by kernel_rfl) hPF rfl (fun w' => by (go_simp; try with_reducible rfl)) hHeld (fun hHeld => ?_)
      simp only [Act.put, List.setIfInBounds_toArray, List.set_cons_zero, List.set_cons_succ]
      refine tkD (by kernel_rfl) ?_ _
      gi_wp2
      refine ⟨fun h => (by cases h), ?_⟩
      refine hR.mono ?_
      clear q0 q1 q2 q4 q5 q6 q7 q8 q9 q11 q12 q14 hct hcn hHeld hPF hR hy
      rintro e W3 (⟨rfl, hJ3, hk3⟩ | ⟨rfl, hJx3⟩)
      · have hC3 : Chg N F W W3 := hC.drew.trans hk3
        have cn3 : W3.cell? ⟨Bn, 0, none⟩ = some (.int .i64 16) := by
          have hb := hC3.block Bn hBn hFn
          have e : W3.cell? ⟨Bn, 0, none⟩ = W.cell? ⟨Bn, 0, none⟩ := by simp [World.cell?, hb]
          rw [e]; exact hn
        gi_wp2
        go_roundw
        case rel => exact ⟨j + 1, hj1, by rw [Q13.out], by rw [List.range_succ]; exact hJ3, hC3⟩
        case measure =>
          simp only [intOf, Int.toNat_natCast]
          exact QM.out
      · gi_wp2
        refine bodyPost_ret (results_none rfl _ _ _) rfl ?_
        exact ⟨⟨_, rfl⟩, .inr ⟨_, ⟨j + 1, hj1, (List.range_succ).symm⟩, hJx3⟩⟩
    · obtain rfl : j = k := by omega
      gi_wp2
      go_end0
      exact ⟨⟨_, rfl⟩, .inl ⟨_, rfl, hJs⟩⟩

theorem chg_keepsB {F : List Nat} {N : Nat} {w : World} (hN : N ≤ w.heap.size) : ∀ (W : World) (l : Nat) (o o' : Obj), w.heap.size ≤ l → W.heap[l]? = some o → o.isCells = false → o.isWalk = false → Chg N F W (W.putObj l o') := fun W l o o' hl h _ _ => by
  have hg := grownBy_putObj' W l o'
  exact ⟨hg.os, hg.tape, hg.output, hg.size, fun k hk _ => hg.block k (by have := (Array.getElem?_eq_some_iff.1 h).1; omega) (fun e => by cases e; omega)⟩

set_option maxRecDepth 100000 in
set_option maxHeartbeats 1000000 in
/-- slices.Chunk: both are boxed. -/
theorem chunk_any (w : World) (pa : Option Addr) (m cap : Nat) :
    Calls Tryz.prog 127 #[.slice pa m cap, .int .i64 16] w fun e w' => e = .returned (.func (.func 171) #[] #[.pointer (some ⟨w.heap.size, 0, none⟩), .pointer (some ⟨w.heap.size + 1, 0, none⟩)]) ∧
      (w.alloc (.cells #[.slice pa m cap] tBytes)).alloc (.cells #[.int .i64 16] tInt) = w' := by
  go_enter Tryz.func127, Tryz.ntmps127
  go_wp2_with fail
  go_ret
  exact ⟨rfl, rfl⟩

/-- What Chunk hands back runs through the chunks of sixteen, or stops. -/
theorem chunk_stops (n Bs Bn N b o k cap : Nat) (pa : Option Addr) (hpa : 0 < k → pa = some ⟨b, o, none⟩) (F : List Nat) (w : World) (hcap : 16 * k ≤ cap) (hk9 : k < 1000000) (hBs : Bs < N) (hBn : Bn < N) (hFs : Bs ∉ F) (hFn : Bn ∉ F) (hN : N ≤ w.heap.size)
    (hs : w.cell? ⟨Bs, 0, none⟩ = some (.slice pa (16 * k) cap)) (hn : w.cell? ⟨Bn, 0, none⟩ = some (.int .i64 16)) :
    SeqStopsK Fence.wide n Tryz.prog 171 #[.pointer (some ⟨Bs, 0, none⟩), .pointer (some ⟨Bn, 0, none⟩)] (fun x : Nat => #[chunkV b o (clampI k x)]) (Chg N F) (fun ys => ys = List.range k) (fun pre => ∃ j, j ≤ k ∧ pre = List.range j) k w := fun l J Jx W hW hJ _ hY h0 => by
  have hs' := (hW.cell (p := ⟨Bs, 0, none⟩) (Nat.lt_of_lt_of_le hBs hN)).trans hs
  have hn' := (hW.cell (p := ⟨Bn, 0, none⟩) (Nat.lt_of_lt_of_le hBn hN)).trans hn
  exact chunk1_in n l Bs Bn N b o k cap pa hpa F hcap hk9 hBs hBn hFs hFn J Jx hY W hJ hs' hn' h0
end Go.Proofs.YtnmmnlffobnbfaaGreatDoor

/- cbc: mixed; what Seal and Open come to -/
namespace Go.Proofs.YtnmmnlffobnbfaaGreatDoor
open Go.RowKit

set_option maxRecDepth 100000 in
set_option maxHeartbeats 1000000 in
theorem arrayAt16c (w : World) (a : Option Addr) (len cap : Nat) (h : 16 ≤ len) : (Instr.arrayAt 100 (.slice a len cap)).run Tryz.prog w = .ok (.pointer a) w :=
  run_arrayAt w 100 5 16 a len cap under54 h
set_option maxRecDepth 100000 in
set_option maxHeartbeats 1000000 in
theorem cmixed_any (w : World) (a b : List UInt8) (pb : Option Addr) (cb : Nat) (ha : a.length = 16) (hb : RowAt w pb b) (hbl : b.length = 16) :
    Calls Tryz.prog 128 #[.agg (bys a).toArray, .slice pb 16 cb] w fun e w' => e = .returned (.agg (bys (List.zipWith (· ^^^ ·) a b)).toArray) ∧ Below w.heap.size w w' := by
  have h0 : Blk ((w.alloc (.cells (bys a).toArray tA16)).alloc (.cells (bys z16).toArray tA16)) w.heap.size (bys a) tA16 := (Blk.new w (bys a) tA16).alloc _
  have h1 : Blk ((w.alloc (.cells (bys a).toArray tA16)).alloc (.cells (bys z16).toArray tA16)) (w.heap.size + 1) (bys z16) tA16 := by
    have := Blk.new (w.alloc (.cells (bys a).toArray tA16)) (bys z16) tA16
    simpa using this
  have hB : Below w.heap.size w ((w.alloc (.cells (bys a).toArray tA16)).alloc (.cells (bys z16).toArray tA16)) := ((Below.refl _ _).alloc (Nat.le_refl _) _).alloc (by simp) _
  have hb1 := hb.below hB
  obtain ⟨q, hq⟩ : ∃ q, List.zipWith (· ^^^ ·) a b = q := ⟨_, rfl⟩
  have hql : q.length = 16 := by rw [← hq, List.length_zipWith, ha, hbl]; rfl
  have Hq := hid hq
  have Hql := hid hql
  clear hb
  go_enter Tryz.func128, Tryz.ntmps128
  go_wp2_with fail
  change Calls _ _ _ ((w.alloc (.cells (bys a).toArray tA16)).alloc (.cells (bys z16).toArray tA16)) _
  generalize ((w.alloc (.cells (bys a).toArray tA16)).alloc (.cells (bys z16).toArray tA16)) = w1 at *
  refine (xor_any w1 (some ⟨w.heap.size, 0, none⟩) pb 16 16 16 cb 16 a b h0.rowAt0 hb1 ha hbl (by omega) rfl).mono ?_
  rintro e w2 ⟨rfl, hx, hB2⟩
  rw [Hq.out] at hx
  have h1 := h1.below hB2 h1.lt
  have hBB := hB.trans (hB2.mono hB.size)
  have hszq : (Tryz.prog.info? 100).map (·.size) = some (bys q).length := by rw [size54, bys_length, Hql.out]
  have harr := arrayAt16c w2 (some ⟨w1.heap.size + 2, 0, none⟩) 16 16 (Nat.le_refl _)
  clear hq hql hB hB2 h0 hb1
  go_wp2_with (first | (refine wpList_load_mid rfl 100 (.tmp 8) rfl (w1.heap.size + 2) 0 rfl (bys q) _ hx.whole under54 rfl hszq ?_) | (refine wpList_store_mid rfl 100 (.tmp 4) (.tmp 9) rfl (w.heap.size + 1) 0 (bys q).toArray rfl rfl (h1.there 0 _ (by rw [List.size_toArray, bys_length, bys_length, Hql.out]; decide)) (by rw [size54, List.size_toArray, bys_length, Hql.out]) (all_oneCell_toArray (bys_one _)) ?_))
  have h1d := h1.setCells (bys q) 0 (by rw [bys_length, bys_length, Hql.out]; decide)
  rw [splice_whole _ _ (by rw [bys_length, bys_length, Hql.out]; rfl)] at h1d
  refine bodyPost_ret (v := .agg (bys q).toArray) (results_cell_row (P := Tryz.prog) (p := 4) (ty := 100) rfl _ _ (w.heap.size + 1) tA16 _ (0, 0) _ rfl h1d under54 rfl (by rw [size54, List.size_toArray, bys_length, Hql.out])) rfl ⟨by rw [Hq.out], ?_⟩
  exact hBB.trans (((Chg.refl (w.heap.size) [] w2).setCells (.inr (by omega)) _ _).below (Nat.le_refl _) (by simp))

/-- The block in hand behind j blocks. -/
def lastF (E : List UInt8 → List UInt8) (iv p : List UInt8) : Nat → List UInt8
  | 0 => iv
  | j + 1 => E (List.zipWith (· ^^^ ·) (lastF E iv p j) ((p.drop (16 * j)).take 16))
/-- j blocks, enciphered. -/
def sealF (E : List UInt8 → List UInt8) (iv p : List UInt8) : Nat → List UInt8
  | 0 => []
  | j + 1 => sealF E iv p j ++ lastF E iv p (j + 1)
theorem lastF_len (E : List UInt8 → List UInt8) (iv p : List UInt8) (k : Nat) (hE : ∀ s : List UInt8, s.length = 16 → (E s).length = 16) (hiv : iv.length = 16) (hp : 16 * k ≤ p.length) : ∀ j, j ≤ k → (lastF E iv p j).length = 16
  | 0, _ => hiv
  | j + 1, h => by
    have := lastF_len E iv p k hE hiv hp j (by omega)
    refine hE _ ?_
    rw [List.length_zipWith, this, List.length_take, List.length_drop]; omega
theorem sealF_len (E : List UInt8 → List UInt8) (iv p : List UInt8) (k : Nat) (hE : ∀ s : List UInt8, s.length = 16 → (E s).length = 16) (hiv : iv.length = 16) (hp : 16 * k ≤ p.length) : ∀ j, j ≤ k → (sealF E iv p j).length = 16 * j
  | 0, _ => rfl
  | j + 1, h => by
    rw [sealF, List.length_append, sealF_len E iv p k hE hiv hp j (by omega), lastF_len E iv p k hE hiv hp (j + 1) h]; omega
end Go.Proofs.YtnmmnlffobnbfaaGreatDoor

/- bytes as a string -/
namespace Go.Proofs.YtnmmnlffobnbfaaGreatDoor
open Go.RowKit

abbrev str (l : List UInt8) : ByteArray := ⟨l.toArray⟩
theorem str_eq (a b : List UInt8) : ((str a).toList == (str b).toList) = (a == b) := by
  rw [ByteArray.toList_eq, ByteArray.toList_eq]
theorem str_inj {a b : List UInt8} (h : str a = str b) : a = b := by
  injection h with h; simpa using h
theorem under9 : Tryz.prog.underlying 9 = some .string := by kernel_rfl
set_option maxRecDepth 100000 in
/-- string(b): the bytes. -/
theorem str_row {w : World} {pa : Option Addr} {l : List UInt8} {n c : Nat} (h : RowAt w pa l) (hl : l.length = n) : (convert 23 9 (.slice pa n c)).run Tryz.prog w = .ok (.string (str l)) w := by
  by_cases h0 : n = 0
  · subst h0
    obtain rfl : l = [] := List.eq_nil_of_length_eq_zero hl
    rw [run_convert_bytes_string (P := Tryz.prog) w 23 9 5 _ 0 c under33b under5 under9]
    cases pa with
    | none => simp [Conv.bytesToString]; rfl
    | some a => rw [run_bytesToString (P := Tryz.prog) w a 0 c [] (by simpa using run_loadCells_list (P := Tryz.prog) w a [] (by simp))]; rfl
  · obtain ⟨b, o, rfl, _, _⟩ := h 0 (by omega)
    have := run_convert_bytes_arg (P := Tryz.prog) w 23 5 under33b under5 b o n c (l.map bv) (by simpa using hl) (fun i hi => by
      obtain ⟨b', o', e, _, hc⟩ := h i (by omega)
      injection e with e; injection e with e1 e2; subst e1 e2
      rw [hc]
      congr 2
      simp [List.getD, List.getElem?_eq_getElem (show i < l.length by omega)]) 9 under9
    rw [this]
    congr 2
    unfold strOfNums str
    congr 2
    rw [List.map_map]
    refine List.map_congr_left (fun x _ => ?_) |>.trans (List.map_id _)
    simp [Function.comp, bv]

end Go.Proofs.YtnmmnlffobnbfaaGreatDoor

/- slices.Grow of nil, slices.Concat of two -/
namespace Go.Proofs.YtnmmnlffobnbfaaGreatDoor
open Go.RowKit

theorem wpList_append_run {P : Program} {w w' : World} {ops : Array Oper} {rest : List Oper} {o : Oper} {a : Act} {Q : Exit → Act → World → Prop} (hgd : o.guard = none) (s x : Operand) (t1 t2 : TypeId)
    (ho : o.op = .call { callee := .builtin .append, args := #[s, x], argTypes := #[t1, t2] }) (v u r : Value) (hs : a.eval s = v) (hx : a.eval x = u)
    (hr : (Builtin.append_ #[t1, t2] o.type #[v, u]).run P w = .ok r w') (h : wpList P ops Q rest (a.put o.dst r) w') : wpList P ops Q (o :: rest) a w := by
  refine wpList_plain hgd fun K hK => ?_
  unfold Oper.wp execOp
  simp only [ho, resolve, invoke, builtin, Sem.run_bind, Sem.run_pure, Result.andThen_ok, List.map_toArray, List.map_cons, List.map_nil, hs, hx, hr]
  exact hK _ _ h
set_option maxRecDepth 100000 in
set_option maxHeartbeats 1000000 in
theorem grow_nil (w : World) (n : Nat) (h0 : 0 < n) (h9 : n < 1000000000) :
    Calls Tryz.prog 68 #[.slice none 0 0, .int .i64 n] w fun e w' => ∃ v, e = .returned v ∧ OwnR w.heap.size w' v [] ∧ Below w.heap.size w w' := by
  obtain ⟨i0, hi0, hz0, hs0, hb0⟩ := info_parts info5
  have hr0 := Lib.run_append_grow_zeros (P := Tryz.prog) w 23 3 23 5 i0 (.int .u8 0) .i64 .i64 under33b (by kernel_rfl) hi0 hz0 none 0 0 [] (run_firstCells_none w.drew i0.size 0 0 0) n h0 (by omega) (by omega) (by omega) (by rw [hb0]; omega)
    (by rw [hb0]; have := growslice_fits (need := 0 + n) (old := 0) (bytes := 1) (by omega) (by omega); omega)
  have hge := grownCap_ge w (0 + n) 0 5
  have hle := grownCap_le_maxLen w (0 + n) 0 5 (by unfold maxLen; omega)
  obtain ⟨gc, hgc⟩ : ∃ gc, grownCap w (0 + n) 0 5 = gc := ⟨_, rfl⟩
  rw [hgc] at hr0 hge hle
  obtain ⟨cs, hcs⟩ : ∃ cs, (([] : List Value).toArray ++ Builtin.zeroCells (Value.int .u8 0).cells n ++ Builtin.zeroCells (Value.int .u8 0).cells (gc - (0 + n))) = cs := ⟨_, rfl⟩
  have hsz : cs.size = gc := by
    rw [← hcs, Array.size_append, Array.size_append, size_zeroCells, size_zeroCells]
    show 0 + n * 1 + (gc - (0 + n)) * 1 = gc
    omega
  rw [hcs, Nat.zero_add] at hr0
  have hr : (Builtin.append_ #[23, 3] 23 #[.slice none 0 0, .int .i64 n]).run Tryz.prog w = .ok (.slice (some ⟨w.heap.size, 0, none⟩) n gc) (w.drew.alloc (.cells cs 5)) := hr0
  have hown : OwnR w.heap.size (w.drew.alloc (.cells cs 5)) (.slice (some ⟨w.heap.size, 0, none⟩) 0 gc) [] :=
    ⟨rfl, .inr ⟨w.heap.size, gc, cs, rfl, Nat.le_refl _, heap_alloc_new w.drew _, by simp, hle, by rw [hsz]; omega, by simp [bys]⟩⟩
  have hB : Below w.heap.size w (w.drew.alloc (.cells cs 5)) := ((Below.refl _ _).drew).alloc (Nat.le_refl _) _
  have hgc0 : ¬ gc = 0 := by omega
  have hn1 : 0 < (n : Int) := by omega
  have hn2 : ¬ ((n : Int) < 0) := by omega
  have Hown := hid hown
  have HB := hid hB
  have Hr := hid hr
  clear hr hr0 hcs hsz hgc hown hB hi0 hz0 hs0 hb0
  go_enter Tryz.func68, Tryz.ntmps68
  go_wp2_with (refine wpList_append_run rfl (.tmp 20) (.tmp 21) 23 3 rfl _ _ _ rfl rfl Hr.out ?_)
  go_ret
  exact ⟨_, rfl, Hown.out, HB.out⟩

set_option maxRecDepth 100000 in
set_option maxHeartbeats 1000000 in
theorem grow_nil0 (w : World) : Calls Tryz.prog 68 #[.slice none 0 0, .int .i64 0] w fun e w' => e = .returned (.slice none 0 0) ∧ w = w' := by
  go_enter Tryz.func68, Tryz.ntmps68
  go_wp2_with fail
  go_ret
  exact ⟨rfl, rfl⟩
theorem grow_nilw (w : World) (n : Nat) (h9 : n < 1000000000) :
    Calls Tryz.prog 68 #[.slice none 0 0, .int .i64 n] w fun e w' => ∃ v, e = .returned v ∧ OwnR w.heap.size w' v [] ∧ Below w.heap.size w w' := by
  by_cases h : 0 < n
  · exact grow_nil w n h h9
  · obtain rfl : n = 0 := by omega
    refine (grow_nil0 w).mono ?_
    rintro e w' ⟨rfl, rfl⟩
    exact ⟨_, rfl, OwnR.nil _ _, Below.refl _ _⟩

set_option maxRecDepth 100000 in
set_option maxHeartbeats 1000000 in
theorem concat2_any (w : World) (cb : Nat) (pa pb : Option Addr) (n ca m c2 : Nat) (a b : List UInt8) (T : TypeId) (hc : Blk w cb [.slice pa n ca, .slice pb m c2] T) (ha : RowAt w pa a) (hb : RowAt w pb b) (hn : a.length = n) (hm : b.length = m) (h9 : n + m < 1000000000) :
    Calls Tryz.prog 35 #[.slice (some ⟨cb, 0, none⟩) 2 2] w fun e w' => ∃ v, e = .returned v ∧ OwnR w.heap.size w' v (a ++ b) ∧ Below w.heap.size w w' := by
  have c0 := hc.cell 0
  have c1 := hc.cell 1
  simp only [List.getElem?_cons_zero, List.getElem?_cons_succ] at c0 c1
  have hsum : (n : Int) + (m : Int) = ((n + m : Nat) : Int) := by omega
  obtain ⟨t, ht⟩ : ∃ t, n + m = t := ⟨_, rfl⟩
  rw [ht] at hsum
  have t1 : (0 : Int) ≤ (t : Int) := by omega
  have t9 : (t : Int) ≤ 1000000000 := by omega
  have n9 : (n : Int) ≤ 1000000000 := by omega
  have HA := hid ha
  have HB := hid hb
  have Hn := hid hn
  have Hm := hid hm
  have Hc := hid hc
  clear hn hm ha hb hc
  go_enter Tryz.func35, Tryz.ntmps35
  go_wp2_with fail
  refine wp_loop_rounds 3 ?_
  rw [rounds_succ]
  go_wp2_with fail
  rw [rounds_succ]
  go_wp2_with fail
  rw [rounds_succ]
  go_wp2_with fail
  refine (grow_nilw w t (by omega)).mono ?_
  rintro e w1 ⟨v1, rfl, hown1, hB1⟩
  have c0 := ((Hc.out.below hB1 Hc.out.lt).cell 0)
  have c1 := ((Hc.out.below hB1 Hc.out.lt).cell 1)
  simp only [List.getElem?_cons_zero, List.getElem?_cons_succ] at c0 c1
  have hra := HA.out.below hB1
  have hs1 := hB1.size
  go_wp2_with fail
  refine wp_loop_rounds 3 ?_
  rw [rounds_succ]
  go_upto_region 14 with (refine wpList_addO hown1 rfl (.tmp 31) (.tmp 32) rfl rfl pa n ca a rfl hra Hn.out (by simp; omega) hs1 ?_; intro v2 w2 hown2 hgrow2 _)
  have hB2 : Below w.heap.size w w2 := hB1.grown hgrow2 hs1 (fun j e => (hown1.lt j e).1)
  have c1 := ((Hc.out.below hB2 Hc.out.lt).cell 1)
  simp only [List.getElem?_cons_zero, List.getElem?_cons_succ] at c1
  have hrb := HB.out.below hB2
  have hs2 := hB2.size
  have hown2 : OwnR w.heap.size w2 v2 a := hown2
  clear hgrow2
  go_wp2_with fail
  rw [rounds_succ]
  go_upto_region 14 with (refine wpList_addO hown2 rfl (.tmp 31) (.tmp 32) rfl rfl pb m c2 b rfl hrb Hm.out (by rw [Hn.out]; omega) hs2 ?_; intro v3 w3 hown3 hgrow3 _)
  have hB3 : Below w.heap.size w w3 := hB2.grown hgrow3 hs2 (fun j e => (hown2.lt j e).1)
  clear hgrow3
  go_wp2_with fail
  rw [rounds_succ]
  go_wp2_with fail
  go_ret
  exact ⟨_, rfl, hown3, hB3⟩
end Go.Proofs.YtnmmnlffobnbfaaGreatDoor
