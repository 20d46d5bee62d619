/- a region that draws its order, taken operation by operation: what is held need be held only till a closing operation has come up -/
import Derived.Test.YtnmmnlffobnbfaaGreatDoorBase
namespace Go.Proofs.YtnmmnlffobnbfaaGreatDoor
open Go.RowKit
/-- What is said of a panic does not hang on the temporaries. -/
def PanFree (Q : Exit → Act → World → Prop) : Prop := ∀ c (a : Act) d v w, Q (.panic c) (a.put d v) w → Q (.panic c) a w
/-- None of K has come up. -/
def openK (K : List Nat) (listed : Array Bool) : Bool := K.all fun k => !listed.getD k true
/-- k waits for i, through others. -/
def reachK (ops : Array Oper) (i : Nat) : Nat → Nat → Bool
  | 0, _ => false
  | f + 1, k => match ops[k]? with | some o => o.after.any (fun e => Region.binds .any e && (e.on == i || reachK ops i f e.on)) | none => false
/-- All of K wait for i. -/
def waitsK (ops : Array Oper) (K : List Nat) (i : Nat) : Bool := K.all fun k => k != i && reachK ops i ops.size k
/-- What has come up, has come up behind what it waits for. -/
def closedK (ops : Array Oper) (l : Array Bool) : Prop := ∀ j o, l.getD j false = true → ops[j]? = some o → ∀ e ∈ o.after, Region.binds .any e = true → l.getD e.on false = true
def closedB (ops : Array Oper) (l : Array Bool) : Bool := (List.range ops.size).all fun j => !l.getD j false || match ops[j]? with | some o => o.after.all (fun e => !Region.binds .any e || l.getD e.on false) | none => true
theorem closedB_spec {ops : Array Oper} {l : Array Bool} (h : closedB ops l = true) : closedK ops l := fun j o hj ho e he hb => by
  unfold closedB at h
  rw [List.all_eq_true] at h
  have h1 := h j (List.mem_range.2 (Array.getElem?_eq_some_iff.1 ho).1)
  simp only [hj, ho, Bool.not_true, Bool.false_or] at h1
  have h2 := Array.all_eq_true_iff_forall_mem.1 h1 e he
  simpa [hb] using h2
theorem reachK_listed {ops : Array Oper} {i : Nat} {l : Array Bool} (hc : closedK ops l) : ∀ f k, (∀ o, ops[k]? = some o → ∀ e ∈ o.after, Region.binds .any e = true → l.getD e.on false = true) → reachK ops i f k = true → l.getD i false = true
  | 0, _, _, h => by simp [reachK] at h
  | f + 1, k, hk, h => by
    unfold reachK at h
    cases ho : ops[k]? with
    | none => rw [ho] at h; cases h
    | some o =>
      rw [ho] at h
      simp only at h
      obtain ⟨e, he, hb⟩ := Array.any_eq_true'.1 h
      simp only [Bool.and_eq_true, Bool.or_eq_true, beq_iff_eq] at hb
      have h1 := hk o ho e he hb.1
      rcases hb.2 with h2 | h2
      · rw [← h2]; exact h1
      · exact reachK_listed hc f e.on (fun o' ho' => hc e.on o' h1 ho') h2
theorem closedK_set {ops : Array Oper} {l : Array Bool} {j : Nat} (hc : closedK ops l) (hj : j ∈ Region.ready .any ops l) : closedK ops (l.setIfInBounds j true) := fun k o hk ho e he hb => by
  obtain ⟨_, oj, hoj, hall⟩ := mem_ready.1 hj
  have mono : ∀ x, l.getD x false = true → (l.setIfInBounds j true).getD x false = true := fun x hx => by
    by_cases e : j = x
    · subst e
      rcases Nat.lt_or_ge j l.size with h' | h'
      · simp [h']
      · simp [Array.getElem?_eq_none h'] at hx
    · rw [getD_set_ne false e]; exact hx
  by_cases hkj : j = k
  · subst hkj
    rw [hoj] at ho; cases ho
    exact mono _ (hall e he hb)
  · rw [getD_set_ne false hkj] at hk
    exact mono _ (hc k o hk ho e he hb)
section
variable {P : Program} {ops : Array Oper} {Q : Exit → Act → World → Prop} {S : World → Prop} {K : List Nat}
def wpK (P : Program) (ops : Array Oper) (Q : Exit → Act → World → Prop) (S : World → Prop) (K : List Nat) : Nat → Array Bool → Act → World → Prop
  | 0, listed, a, w => Region.ready .any ops listed = [] ∧ Q .normal a w
  | fuel + 1, listed, a, w =>
    (Region.ready .any ops listed = [] → Q .normal a w) ∧
    ∀ i ∈ Region.ready .any ops listed, wpOp P ops Q i (fun a' w' => (openK K (listed.setIfInBounds i true) = true → S w') ∧ wpK P ops Q S K fuel (listed.setIfInBounds i true) a' w') a w
theorem wpAny_of_K : ∀ (fuel : Nat) (listed : Array Bool) (a : Act) (w : World), wpK P ops Q S K fuel listed a w → wpAny P .any ops Q fuel listed a w
  | 0, _, _, _, h => h
  | fuel + 1, _, _, _, h => ⟨h.1, fun i hi => wpOp_mono (fun a' w' h' => wpAny_of_K fuel _ a' w' h'.2) (h.2 i hi)⟩
theorem wpK_first {S1 : World → Prop} {J : Array Bool → Prop} {i : Nat} {oi : Oper} {v : Value} (hi : ops[i]? = some oi) (hsel : ∀ (j : Nat) (o : Oper) cs b, ops[j]? = some o → o.op ≠ .select cs b)
    (hQ : ∀ c a w, Q (.panic c) (a.put oi.dst v) w → Q (.panic c) a w)
    (hJ : ∀ l w, J l → (openK K l = true → S w) → S1 w) (hJi : ∀ l, openK K (l.setIfInBounds i true) = true → openK K l = true)
    (hJi2 : ∀ l, J l → openK K l = true → openK K (l.setIfInBounds i true) = true)
    (hJs : ∀ l j, J l → i ∈ Region.ready .any ops l → j ∈ Region.ready .any ops l → j ≠ i → J (l.setIfInBounds j true)) :
    ∀ (fuel : Nat) (listed : Array Bool) (a : Act) (w : World), J listed →
      (∀ j oj, ops[j]? = some oj → j ≠ i → listed.getD j true = false → (∀ e ∈ oj.after, Region.binds .any e = true → e.on ≠ i) → oi.apart ops oj = true) →
      i ∈ Region.ready .any ops listed → YieldsIf P ops S1 oi v a → (openK K listed = true → S w) →
      wpK P ops Q S K fuel (listed.setIfInBounds i true) (a.put oi.dst v) w → wpK P ops Q S K (fuel + 1) listed a w := by
  intro fuel
  induction fuel with
  | zero =>
    intro listed a w hJl _ hr hy hS H
    refine ⟨fun h => (by rw [h] at hr; cases hr), fun j hj => ?_⟩
    by_cases hji : j = i
    · subst hji; exact hy.wpOp hi (hJ _ _ hJl hS) ⟨fun ho => hS (hJi _ ho), H⟩
    · have := ready_mono hj hji
      rw [H.1] at this
      cases this
  | succ fuel ih =>
    intro listed a w hJl hfree hr hy hS H
    refine ⟨fun h => (by rw [h] at hr; cases hr), fun j hj => ?_⟩
    by_cases hji : j = i
    · subst hji; exact hy.wpOp hi (hJ _ _ hJl hS) ⟨fun ho => hS (hJi _ ho), H⟩
    · have h1 := H.2 j (ready_mono hj hji)
      obtain ⟨hjun, oj, hoj, hall⟩ := mem_ready.1 hj
      have hnot : ∀ e ∈ oj.after, Region.binds .any e = true → e.on ≠ i := fun e he hb heq => by
        have h1 := hall e he hb
        have h0 := (mem_ready.1 hr).1
        rw [heq] at h1
        rcases Nat.lt_or_ge i listed.size with h' | h'
        · simp [h'] at h0 h1; rw [h0] at h1; cases h1
        · simp [Array.getElem?_eq_none h'] at h1
      have h2 := wpOp_putIf hoj (hfree j oj hoj hji hjun hnot) (fun cs b => hsel i oi cs b hi) (fun cs b => hsel j oj cs b hoj) hQ hy h1
      have hfree' : ∀ k ok, ops[k]? = some ok → k ≠ i → (listed.setIfInBounds j true).getD k true = false →
          (∀ e ∈ ok.after, Region.binds .any e = true → e.on ≠ i) → oi.apart ops ok = true := fun k ok hk hki hun hno => by
        refine hfree k ok hk hki ?_ hno
        by_cases hjk : j = k
        · subst hjk; exact hjun
        · rw [getD_set_ne true hjk] at hun; exact hun
      have hJ2 := hJs listed j hJl hr hj hji
      refine wpOp_mono (fun a' w' h3 => ⟨fun ho => h3.2.1 (by rw [Array.setIfInBounds_comm _ _ (Ne.symm hji)]; exact hJi2 _ hJ2 ho), ih (listed.setIfInBounds j true) a' w' hJ2 hfree' (ready_mono hr (Ne.symm hji)) h3.1 (fun ho => h3.2.1 (by rw [Array.setIfInBounds_comm _ _ (Ne.symm hji)]; exact hJi2 _ hJ2 ho)) ?_⟩) h2
      rw [Array.setIfInBounds_comm _ _ hji]
      exact h3.2.2
theorem openK_back {i : Nat} {l : Array Bool} (h : openK K (l.setIfInBounds i true) = true) : openK K l = true := by
  unfold openK at *
  rw [List.all_eq_true] at *
  intro k hk
  have := h k hk
  by_cases e : i = k
  · subst e
    rcases Nat.lt_or_ge i l.size with h' | h'
    · simp [h'] at this
    · simp at this
  · rw [getD_set_ne true e] at this; exact this
theorem openK_set {i : Nat} {l : Array Bool} (hi : i ∉ K) (h : openK K l = true) : openK K (l.setIfInBounds i true) = true := by
  unfold openK at *
  rw [List.all_eq_true] at *
  intro k hk
  have hne : i ≠ k := fun e => hi (by rw [e]; exact hk)
  rw [getD_set_ne true hne]
  exact h k hk
theorem waitsK_not {i : Nat} (h : waitsK ops K i = true) : i ∉ K := fun hm => by
  unfold waitsK at h; rw [List.all_eq_true] at h
  have := h i hm; simp at this
theorem waitsK_ready {i j : Nat} {l : Array Bool} (hcl : closedK ops l) (h : waitsK ops K i = true) (hi : i ∈ Region.ready .any ops l) (hj : j ∈ Region.ready .any ops l) : j ∉ K := fun hm => by
  unfold waitsK at h; rw [List.all_eq_true] at h
  have h1 := h j hm
  obtain ⟨_, oj, hoj, hall⟩ := mem_ready.1 hj
  simp only [Bool.and_eq_true] at h1
  have h2 := reachK_listed hcl _ _ (fun o ho e he hb => by rw [hoj] at ho; cases ho; exact hall e he hb) h1.2
  have h0 := (mem_ready.1 hi).1
  rcases Nat.lt_or_ge i l.size with h' | h'
  · simp [h'] at h0 h2; rw [h0] at h2; cases h2
  · simp [Array.getElem?_eq_none h'] at h2
variable {fuel : Nat} {listed : Array Bool} {a : Act} {w : World}
/-- An operation that yields the same in whatever world is taken first. -/
theorem tkB (i : Nat) (d : Option Tmp) (o : Oper) (v : Value) (hi : ops[i]? = some o) (hdd : o.dst = d) (hs : Region.noSelect ops = true) (hf : Region.free .any ops listed i = true) (hr : (Region.ready .any ops listed).contains i = true) (hk : (K.contains i) = false)
    (hQ : PanFree Q) (hw : Region.wanted o (yielded ops a.tmps) = true) (hv : ∀ w', (execOp a.eval o).run P w' = .ok (.value v) w') (hS : openK K listed = true → S w)
    (h : (openK K (listed.setIfInBounds i true) = true → S w) → wpK P ops Q S K fuel (listed.setIfInBounds i true) (a.put d v) w) : wpK P ops Q S K (fuel + 1) listed a w :=
  wpK_first (S1 := fun _ => True) (J := fun _ => True) hi (Region.noSelect_spec hs) (fun c a w => hQ c a _ _ w) (fun _ _ _ _ => trivial) (fun _ => openK_back) (fun _ _ => openK_set (by simpa using hk)) (fun _ _ _ _ _ _ => trivial) fuel listed a w trivial
    (Region.free_spec hi hf) (by simpa using hr) (.inl ⟨hw, fun w _ => hv w⟩) hS (hdd ▸ h (fun ho => hS (openK_back ho)))
/-- An operation whose guard shuts it out. -/
theorem tkG (i : Nat) (d : Option Tmp) (o : Oper) (hi : ops[i]? = some o) (hdd : o.dst = d) (hs : Region.noSelect ops = true) (hf : Region.free .any ops listed i = true) (hr : (Region.ready .any ops listed).contains i = true) (hk : (K.contains i) = false)
    (hQ : PanFree Q) (hw : Region.wanted o (yielded ops a.tmps) = false) (hS : openK K listed = true → S w)
    (h : (openK K (listed.setIfInBounds i true) = true → S w) → wpK P ops Q S K fuel (listed.setIfInBounds i true) (a.put d undef) w) : wpK P ops Q S K (fuel + 1) listed a w :=
  wpK_first (S1 := fun _ => True) (J := fun _ => True) hi (Region.noSelect_spec hs) (fun c a w => hQ c a _ _ w) (fun _ _ _ _ => trivial) (fun _ => openK_back) (fun _ _ => openK_set (by simpa using hk)) (fun _ _ _ _ _ _ => trivial) fuel listed a w trivial
    (Region.free_spec hi hf) (by simpa using hr) (.inr ⟨hw, rfl⟩) hS (hdd ▸ h (fun ho => hS (openK_back ho)))
theorem tkY (i : Nat) (d : Option Tmp) (o : Oper) (v : Value) (hi : ops[i]? = some o) (hdd : o.dst = d) (hs : Region.noSelect ops = true) (hf : Region.free .any ops listed i = true) (hr : (Region.ready .any ops listed).contains i = true) (hk : waitsK ops K i = true) (ho : (openK K listed && closedB ops listed) = true)
    (hQ : PanFree Q) (hy : YieldsIf P ops S o v a) (hS : openK K listed = true → S w)
    (h : (openK K (listed.setIfInBounds i true) = true → S w) → wpK P ops Q S K fuel (listed.setIfInBounds i true) (a.put d v) w) : wpK P ops Q S K (fuel + 1) listed a w :=
  wpK_first (S1 := S) (J := fun l => openK K l = true ∧ closedK ops l) hi (Region.noSelect_spec hs) (fun c a w => hQ c a _ _ w) (fun _ _ hl h => h hl.1) (fun _ => openK_back) (fun _ _ => openK_set (waitsK_not hk)) (fun _ _ hl hri hrj _ => ⟨openK_set (waitsK_ready hl.2 hk hri hrj) hl.1, closedK_set hl.2 hrj⟩) fuel listed a w ⟨(Bool.and_eq_true _ _ ▸ ho).1, closedB_spec (Bool.and_eq_true _ _ ▸ ho).2⟩
    (Region.free_spec hi hf) (by simpa using hr) hy hS (hdd ▸ h (fun ho => hS (openK_back ho)))
/-- An operation that yields the same in every world that meets S, ahead of the closing ones. -/
theorem tkA (i : Nat) (d : Option Tmp) (o : Oper) (v : Value) (hi : ops[i]? = some o) (hdd : o.dst = d) (hs : Region.noSelect ops = true) (hf : Region.free .any ops listed i = true) (hr : (Region.ready .any ops listed).contains i = true) (hk : waitsK ops K i = true) (ho : (openK K listed && closedB ops listed) = true)
    (hQ : PanFree Q) (hw : Region.wanted o (yielded ops a.tmps) = true) (hv : ∀ w', S w' → (execOp a.eval o).run P w' = .ok (.value v) w') (hS : openK K listed = true → S w)
    (h : (openK K (listed.setIfInBounds i true) = true → S w) → wpK P ops Q S K fuel (listed.setIfInBounds i true) (a.put d v) w) : wpK P ops Q S K (fuel + 1) listed a w :=
  tkY i d o v hi hdd hs hf hr hk ho hQ (.inl ⟨hw, hv⟩) hS h
/-- A load of a whole array or struct. -/
theorem tkL (i : Nat) (dd : Option Tmp) (o : Oper) (hi : ops[i]? = some o) (hdd : o.dst = dd) (ty : TypeId) (x : Operand) (hop : o.op = .load ty x) (b off : Nat) (cs : List Value) (d : TypeDesc)
    (hs : Region.noSelect ops = true) (hf : Region.free .any ops listed i = true) (hr : (Region.ready .any ops listed).contains i = true) (hk : waitsK ops K i = true) (ho : (openK K listed && closedB ops listed) = true)
    (hQ : PanFree Q) (hw : Region.wanted o (yielded ops a.tmps) = true)
    (hx : a.eval x = .pointer (some ⟨b, off, none⟩)) (hc : ∀ w, S w → w.rangeAt b off cs) (hu : P.underlying ty = some d) (hd : d.isRow = true) (hz : (P.info? ty).map (·.size) = some cs.length) (hS : openK K listed = true → S w)
    (h : (openK K (listed.setIfInBounds i true) = true → S w) → wpK P ops Q S K fuel (listed.setIfInBounds i true) (a.put dd (.agg cs.toArray)) w) : wpK P ops Q S K (fuel + 1) listed a w :=
  tkY i dd o _ hi hdd hs hf hr hk ho hQ (yieldsIf_load_mid hw ty x hop b off hx cs d hc hu hd hz) hS h
/-- The beginning. -/
theorem tkR {id : Nat} (S : World → Prop) (K : List Nat) (hm : P.follows .mixedOrders = true) (hQ : PanFree Q) (hS : S w.drew)
    (h : PanFree Q → (openK K (Array.replicate ops.size false) = true → S w.drew) → wpK P ops Q S K ops.size (Array.replicate ops.size false) a w.drew) : (Code.region id ops true).wp P Q a w := by
  refine wp_region_any hm ?_
  exact wpAny_of_K _ _ _ _ (h hQ (fun _ => hS))
theorem tkD {listed : Array Bool} {a : Act} {w : World} (hr : Region.ready .any ops listed = []) (h : Q .normal a w) : ∀ fuel, wpK P ops Q S K fuel listed a w
  | 0 => ⟨hr, h⟩
  | _ + 1 => ⟨fun _ => h, by rw [hr]; simp⟩
theorem wpK_mono {S' : World → Prop} (hSS : ∀ w, S' w → S w) : ∀ (fuel : Nat) (listed : Array Bool) (a : Act) (w : World), wpK P ops Q S' K fuel listed a w → wpK P ops Q S K fuel listed a w
  | 0, _, _, _, h => h
  | fuel + 1, _, _, _, h => ⟨h.1, fun i hi => wpOp_mono (fun a' w' h' => ⟨fun ho => hSS _ (h'.1 ho), wpK_mono hSS fuel _ a' w' h'.2⟩) (h.2 i hi)⟩
/-- From here on more is held. -/
theorem tkS (S' : World → Prop) (hSS : ∀ w, S' w → S w) (hS' : S' w) (h : (openK K listed = true → S' w) → wpK P ops Q S' K fuel listed a w) : wpK P ops Q S K fuel listed a w :=
  wpK_mono hSS _ _ _ _ (h (fun _ => hS'))
def AllK (P : Program) (ops : Array Oper) (Q : Exit → Act → World → Prop) (S : World → Prop) (K : List Nat) (fuel : Nat) (listed : Array Bool) (a : Act) (w : World) (rs : List Nat) : Prop :=
  ∀ i ∈ rs, wpOp P ops Q i (fun a' w' => (openK K (listed.setIfInBounds i true) = true → S w') ∧ wpK P ops Q S K fuel (listed.setIfInBounds i true) a' w') a w
theorem AllK.nil : AllK P ops Q S K fuel listed a w [] := fun _ h => by cases h
/-- An operation that comes up: S is to be shown behind it. -/
theorem AllK.cons {i : Nat} {o : Oper} {rs : List Nat} (ho : ops[i]? = some o)
    (h : ∀ K' : Act → World → Prop, Shut (∀ a w, S w → ((openK K (listed.setIfInBounds i true) = true → S w) → wpK P ops Q S K fuel (listed.setIfInBounds i true) a w) → K' a w) → if Region.wanted o (yielded ops a.tmps) = true then Oper.wp P o a w K' Q else K' (a.put o.dst undef) w)
    (hs : AllK P ops Q S K fuel listed a w rs) : AllK P ops Q S K fuel listed a w (i :: rs) := fun j hj => by
  rcases List.mem_cons.1 hj with rfl | hj
  · exact wpOp_step ho (fun K' hK => h K' (fun a w hS hW => hK a w ⟨fun _ => hS, hW (fun _ => hS)⟩))
  · exact hs j hj
/-- A closing operation, or one behind it: nothing is to be shown. -/
theorem AllK.close {i : Nat} {o : Oper} {rs : List Nat} (ho : ops[i]? = some o) (hc : openK K (listed.setIfInBounds i true) = false)
    (h : ∀ K' : Act → World → Prop, Shut (∀ a w, ((openK K (listed.setIfInBounds i true) = true → S w) → wpK P ops Q S K fuel (listed.setIfInBounds i true) a w) → K' a w) → if Region.wanted o (yielded ops a.tmps) = true then Oper.wp P o a w K' Q else K' (a.put o.dst undef) w)
    (hs : AllK P ops Q S K fuel listed a w rs) : AllK P ops Q S K fuel listed a w (i :: rs) := fun j hj => by
  have hno : ∀ w, openK K (listed.setIfInBounds i true) = true → S w := fun w h => by rw [hc] at h; cases h
  rcases List.mem_cons.1 hj with rfl | hj
  · exact wpOp_step ho (fun K' hK => h K' (fun a w hW => hK a w ⟨hno w, hW (hno w)⟩))
  · exact hs j hj
theorem tkW {rs : List Nat} (hr : Region.ready .any ops listed = rs) (hne : rs ≠ []) (h : AllK P ops Q S K fuel listed a w rs) : wpK P ops Q S K (fuel + 1) listed a w :=
  ⟨fun h0 => absurd (hr ▸ h0) hne, hr ▸ h⟩
end
end Go.Proofs.YtnmmnlffobnbfaaGreatDoor
