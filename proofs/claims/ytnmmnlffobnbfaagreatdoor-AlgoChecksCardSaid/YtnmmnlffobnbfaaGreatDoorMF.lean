/- Cn · Rk · App · Wp · Bg · Ps (joined by merge4.py) -/
import Derived.Test.YtnmmnlffobnbfaaGreatDoorMA
import Derived.Test.YtnmmnlffobnbfaaGreatDoorMD
import Derived.Maps.AppendAt
import Derived.Deep.Upon
import Derived.Test.YtnmmnlffobnbfaaGreatDoorMC
import Derived.Laws.BitsAllLaws
import Derived.Laws.Externs
import Derived.Laws.ShiftsVarLaws
/- bytes as numbers, the highest first: plain lemmas -/
namespace Go.Proofs.YtnmmnlffobnbfaaGreatDoor
open Go.RowKit

def be : List UInt8 → Nat := List.foldl (fun n c => n * 256 + c.toNat) 0
/-- The k lowest bytes of a number, the lowest first. -/
def leF (k n : Nat) : List UInt8 := (List.range k).map fun i => UInt8.ofNat (n / 256 ^ i)
/-- .. the highest first. -/
def toBe (k n : Nat) : List UInt8 := (leF k n).reverse
def cnt (c : List UInt8) (n : Nat) : List UInt8 := toBe 16 (be c + n)

theorem be_snoc (l : List UInt8) (c : UInt8) : be (l ++ [c]) = be l * 256 + c.toNat := by simp [be]
theorem be_nil : be [] = 0 := rfl
theorem be_foldl (l : List UInt8) (x : Nat) : List.foldl (fun n (c : UInt8) => n * 256 + c.toNat) x l = x * 256 ^ l.length + be l := by
  induction l generalizing x with
  | nil => simp [be]
  | cons c l ih =>
    have h1 := ih (x * 256 + c.toNat)
    have h2 := ih (0 * 256 + c.toNat)
    simp only [List.foldl_cons, List.length_cons]
    rw [h1]
    have : be (c :: l) = List.foldl (fun n (c : UInt8) => n * 256 + c.toNat) (0 * 256 + c.toNat) l := rfl
    rw [this, h2, Nat.pow_succ, Nat.add_mul, Nat.add_mul, Nat.zero_mul, Nat.zero_add]
    rw [Nat.mul_assoc, Nat.mul_comm 256, Nat.add_assoc]
theorem be_append (l r : List UInt8) : be (l ++ r) = be l * 256 ^ r.length + be r := by
  have : be (l ++ r) = List.foldl (fun n (c : UInt8) => n * 256 + c.toNat) (be l) r := by simp [be]
  rw [this, be_foldl]
theorem be_lt (l : List UInt8) : be l < 256 ^ l.length := by
  induction l with
  | nil => simp [be]
  | cons c l ih =>
    have : be (c :: l) = be [c] * 256 ^ l.length + be l := be_append [c] l
    have h1 : be [c] = c.toNat := by simp [be]
    have h2 := c.toNat_lt
    rw [this, h1, List.length_cons, Nat.pow_succ]
    have : (c.toNat + 1) * 256 ^ l.length ≤ 256 * 256 ^ l.length := Nat.mul_le_mul_right _ (by omega)
    rw [Nat.add_mul, Nat.one_mul] at this
    rw [Nat.mul_comm (256 ^ l.length) 256]
    omega
theorem leF_len (k n : Nat) : (leF k n).length = k := by simp [leF]
theorem toBe_len (k n : Nat) : (toBe k n).length = k := by simp [toBe, leF]
theorem cnt_len (c : List UInt8) (n : Nat) : (cnt c n).length = 16 := toBe_len _ _
theorem toBe_succ (k n : Nat) : toBe (k + 1) n = toBe k (n / 256) ++ [UInt8.ofNat n] := by
  unfold toBe leF
  rw [List.range_succ_eq_map, List.map_cons, List.reverse_cons, List.map_map]
  congr 1
  · congr 1
    apply List.map_congr_left
    intro i _
    simp only [Function.comp_apply]
    rw [Nat.div_div_eq_div_mul, Nat.pow_succ, Nat.mul_comm]
  · simp
theorem be_toBe (k n : Nat) : be (toBe k n) = n % 256 ^ k := by
  induction k generalizing n with
  | zero => simp [toBe, leF, be, Nat.mod_one]
  | succ k ih =>
    rw [toBe_succ, be_snoc, ih, Nat.pow_succ, Nat.mul_comm (256 ^ k) 256, Nat.mod_mul]
    simp
    omega
theorem toBe_be (l : List UInt8) (k : Nat) (h : l.length = k) : toBe k (be l) = l := by
  induction k generalizing l with
  | zero => rw [List.length_eq_zero_iff.1 h]; rfl
  | succ k ih =>
    have hne : l ≠ [] := fun e => by subst e; simp at h
    obtain ⟨p, c, rfl⟩ : ∃ p c, l = p ++ [c] := ⟨l.dropLast, l.getLast hne, (List.dropLast_concat_getLast hne).symm⟩
    have hp : p.length = k := by simpa using h
    rw [toBe_succ, be_snoc]
    have hc := c.toNat_lt
    rw [show (be p * 256 + c.toNat) / 256 = be p by omega, ih p hp]
    congr 2
    apply UInt8.toNat_inj.1
    simp
theorem toBe_congr (k : Nat) {x y : Nat} (h : x % 256 ^ k = y % 256 ^ k) : toBe k x = toBe k y := by
  rw [← toBe_be (toBe k x) k (toBe_len k x), ← toBe_be (toBe k y) k (toBe_len k y), be_toBe, be_toBe, h]
theorem toBe_mod (k n : Nat) : toBe k (n % 256 ^ k) = toBe k n := toBe_congr k (by simp)
theorem be_inj {l r : List UInt8} (h : l.length = r.length) (e : be l = be r) : l = r := by
  rw [← toBe_be l _ rfl, ← toBe_be r _ rfl, e, h]
theorem toBe_add (a b n : Nat) : toBe (a + b) n = toBe a (n / 256 ^ b) ++ toBe b n := by
  apply be_inj
  · rw [List.length_append, toBe_len, toBe_len, toBe_len]
  · rw [be_append, be_toBe, be_toBe, be_toBe, toBe_len, Nat.pow_add, Nat.mul_comm (256 ^ a), Nat.mod_mul, Nat.mul_comm]
    omega
theorem cnt_cnt (c : List UInt8) (a b : Nat) : cnt (cnt c a) b = cnt c (a + b) := by
  unfold cnt
  rw [be_toBe, ← Nat.add_assoc]
  apply toBe_congr
  simp
theorem cnt_zero (c : List UInt8) (h : c.length = 16) : cnt c 0 = c := by unfold cnt; rw [Nat.add_zero]; exact toBe_be c 16 h
/-- Count, as the program does it: in two halves. -/
theorem cnt_halves (c : List UInt8) (n : Nat) (h : c.length = 16) :
    cnt c n = toBe 8 ((be (c.take 8) + (be (c.drop 8) + n) / 18446744073709551616) % 18446744073709551616) ++ toBe 8 ((be (c.drop 8) + n) % 18446744073709551616) := by
  have e : (18446744073709551616 : Nat) = 256 ^ 8 := by decide
  have hc : be c = be (c.take 8) * 256 ^ 8 + be (c.drop 8) := by
    have := be_append (c.take 8) (c.drop 8)
    rw [List.take_append_drop] at this
    rw [this, List.length_drop, h]
  rw [e, toBe_mod, toBe_mod]
  unfold cnt
  rw [show (16 : Nat) = 8 + 8 from rfl, toBe_add, hc]
  congr 1
  · rw [Nat.add_assoc, Nat.add_comm, Nat.add_mul_div_right _ _ (by decide), Nat.add_comm]
  · apply toBe_congr
    rw [Nat.add_assoc, Nat.add_comm, Nat.add_mul_mod_self_right]
theorem leF_get (k n i : Nat) (h : i < k) : (leF k n).getD i 0 = UInt8.ofNat (n / 256 ^ i) := by simp [leF, h]
end Go.Proofs.YtnmmnlffobnbfaaGreatDoor

/- a region that draws its order, taken operation by operation: what is held need be held only till a closing operation has come up -/
namespace Go.Proofs.YtnmmnlffobnbfaaGreatDoor
open Go.RowKit
/-- What is said of a panic does not hang on the temporaries. -/
def PanFree (Q : Exit → Act → World → Prop) : Prop := ∀ c (a : Act) d v w, Q (.panic c) (a.put d v) w → Q (.panic c) a w
/-- None of K has come up. -/
def openK (K : List Nat) (listed : Array Bool) : Bool := K.all fun k => !listed.getD k true
/-- k waits for i, through others. -/
def reachK (ops : Array Oper) (i : Nat) : Nat → Nat → Bool
  | 0, _ => false
  | f + 1, k => match ops[k]? with | some o => o.after.any (fun e => Region.binds .any e && (e.on == i || reachK ops i f e.on)) | none => false
/-- All of K wait for i. -/
def waitsK (ops : Array Oper) (K : List Nat) (i : Nat) : Bool := K.all fun k => k != i && reachK ops i ops.size k
/-- What has come up, has come up behind what it waits for. -/
def closedK (ops : Array Oper) (l : Array Bool) : Prop := ∀ j o, l.getD j false = true → ops[j]? = some o → ∀ e ∈ o.after, Region.binds .any e = true → l.getD e.on false = true
def closedB (ops : Array Oper) (l : Array Bool) : Bool := (List.range ops.size).all fun j => !l.getD j false || match ops[j]? with | some o => o.after.all (fun e => !Region.binds .any e || l.getD e.on false) | none => true
theorem closedB_spec {ops : Array Oper} {l : Array Bool} (h : closedB ops l = true) : closedK ops l := fun j o hj ho e he hb => by
  unfold closedB at h
  rw [List.all_eq_true] at h
  have h1 := h j (List.mem_range.2 (Array.getElem?_eq_some_iff.1 ho).1)
  simp only [hj, ho, Bool.not_true, Bool.false_or] at h1
  have h2 := Array.all_eq_true_iff_forall_mem.1 h1 e he
  simpa [hb] using h2
theorem reachK_listed {ops : Array Oper} {i : Nat} {l : Array Bool} (hc : closedK ops l) : ∀ f k, (∀ o, ops[k]? = some o → ∀ e ∈ o.after, Region.binds .any e = true → l.getD e.on false = true) → reachK ops i f k = true → l.getD i false = true
  | 0, _, _, h => by simp [reachK] at h
  | f + 1, k, hk, h => by
    unfold reachK at h
    cases ho : ops[k]? with
    | none => rw [ho] at h; cases h
    | some o =>
      rw [ho] at h
      simp only at h
      obtain ⟨e, he, hb⟩ := Array.any_eq_true'.1 h
      simp only [Bool.and_eq_true, Bool.or_eq_true, beq_iff_eq] at hb
      have h1 := hk o ho e he hb.1
      rcases hb.2 with h2 | h2
      · rw [← h2]; exact h1
      · exact reachK_listed hc f e.on (fun o' ho' => hc e.on o' h1 ho') h2
theorem closedK_set {ops : Array Oper} {l : Array Bool} {j : Nat} (hc : closedK ops l) (hj : j ∈ Region.ready .any ops l) : closedK ops (l.setIfInBounds j true) := fun k o hk ho e he hb => by
  obtain ⟨_, oj, hoj, hall⟩ := mem_ready.1 hj
  have mono : ∀ x, l.getD x false = true → (l.setIfInBounds j true).getD x false = true := fun x hx => by
    by_cases e : j = x
    · subst e
      rcases Nat.lt_or_ge j l.size with h' | h'
      · simp [h']
      · simp [Array.getElem?_eq_none h'] at hx
    · rw [getD_set_ne false e]; exact hx
  by_cases hkj : j = k
  · subst hkj
    rw [hoj] at ho; cases ho
    exact mono _ (hall e he hb)
  · rw [getD_set_ne false hkj] at hk
    exact mono _ (hc k o hk ho e he hb)
section
variable {P : Program} {ops : Array Oper} {Q : Exit → Act → World → Prop} {S : World → Prop} {K : List Nat}
def wpK (P : Program) (ops : Array Oper) (Q : Exit → Act → World → Prop) (S : World → Prop) (K : List Nat) : Nat → Array Bool → Act → World → Prop
  | 0, listed, a, w => Region.ready .any ops listed = [] ∧ Q .normal a w
  | fuel + 1, listed, a, w =>
    (Region.ready .any ops listed = [] → Q .normal a w) ∧
    ∀ i ∈ Region.ready .any ops listed, wpOp P ops Q i (fun a' w' => (openK K (listed.setIfInBounds i true) = true → S w') ∧ wpK P ops Q S K fuel (listed.setIfInBounds i true) a' w') a w
theorem wpAny_of_K : ∀ (fuel : Nat) (listed : Array Bool) (a : Act) (w : World), wpK P ops Q S K fuel listed a w → wpAny P .any ops Q fuel listed a w
  | 0, _, _, _, h => h
  | fuel + 1, _, _, _, h => ⟨h.1, fun i hi => wpOp_mono (fun a' w' h' => wpAny_of_K fuel _ a' w' h'.2) (h.2 i hi)⟩
theorem wpK_first {S1 : World → Prop} {J : Array Bool → Prop} {i : Nat} {oi : Oper} {v : Value} (hi : ops[i]? = some oi) (hsel : ∀ (j : Nat) (o : Oper) cs b, ops[j]? = some o → o.op ≠ .select cs b)
    (hQ : ∀ c a w, Q (.panic c) (a.put oi.dst v) w → Q (.panic c) a w)
    (hJ : ∀ l w, J l → (openK K l = true → S w) → S1 w) (hJi : ∀ l, openK K (l.setIfInBounds i true) = true → openK K l = true)
    (hJi2 : ∀ l, J l → openK K l = true → openK K (l.setIfInBounds i true) = true)
    (hJs : ∀ l j, J l → i ∈ Region.ready .any ops l → j ∈ Region.ready .any ops l → j ≠ i → J (l.setIfInBounds j true)) :
    ∀ (fuel : Nat) (listed : Array Bool) (a : Act) (w : World), J listed →
      (∀ j oj, ops[j]? = some oj → j ≠ i → listed.getD j true = false → (∀ e ∈ oj.after, Region.binds .any e = true → e.on ≠ i) → oi.apart ops oj = true) →
      i ∈ Region.ready .any ops listed → YieldsIf P ops S1 oi v a → (openK K listed = true → S w) →
      wpK P ops Q S K fuel (listed.setIfInBounds i true) (a.put oi.dst v) w → wpK P ops Q S K (fuel + 1) listed a w := by
  intro fuel
  induction fuel with
  | zero =>
    intro listed a w hJl _ hr hy hS H
    refine ⟨fun h => (by rw [h] at hr; cases hr), fun j hj => ?_⟩
    by_cases hji : j = i
    · subst hji; exact hy.wpOp hi (hJ _ _ hJl hS) ⟨fun ho => hS (hJi _ ho), H⟩
    · have := ready_mono hj hji
      rw [H.1] at this
      cases this
  | succ fuel ih =>
    intro listed a w hJl hfree hr hy hS H
    refine ⟨fun h => (by rw [h] at hr; cases hr), fun j hj => ?_⟩
    by_cases hji : j = i
    · subst hji; exact hy.wpOp hi (hJ _ _ hJl hS) ⟨fun ho => hS (hJi _ ho), H⟩
    · have h1 := H.2 j (ready_mono hj hji)
      obtain ⟨hjun, oj, hoj, hall⟩ := mem_ready.1 hj
      have hnot : ∀ e ∈ oj.after, Region.binds .any e = true → e.on ≠ i := fun e he hb heq => by
        have h1 := hall e he hb
        have h0 := (mem_ready.1 hr).1
        rw [heq] at h1
        rcases Nat.lt_or_ge i listed.size with h' | h'
        · simp [h'] at h0 h1; rw [h0] at h1; cases h1
        · simp [Array.getElem?_eq_none h'] at h1
      have h2 := wpOp_putIf hoj (hfree j oj hoj hji hjun hnot) (fun cs b => hsel i oi cs b hi) (fun cs b => hsel j oj cs b hoj) hQ hy h1
      have hfree' : ∀ k ok, ops[k]? = some ok → k ≠ i → (listed.setIfInBounds j true).getD k true = false →
          (∀ e ∈ ok.after, Region.binds .any e = true → e.on ≠ i) → oi.apart ops ok = true := fun k ok hk hki hun hno => by
        refine hfree k ok hk hki ?_ hno
        by_cases hjk : j = k
        · subst hjk; exact hjun
        · rw [getD_set_ne true hjk] at hun; exact hun
      have hJ2 := hJs listed j hJl hr hj hji
      refine wpOp_mono (fun a' w' h3 => ⟨fun ho => h3.2.1 (by rw [Array.setIfInBounds_comm _ _ (Ne.symm hji)]; exact hJi2 _ hJ2 ho), ih (listed.setIfInBounds j true) a' w' hJ2 hfree' (ready_mono hr (Ne.symm hji)) h3.1 (fun ho => h3.2.1 (by rw [Array.setIfInBounds_comm _ _ (Ne.symm hji)]; exact hJi2 _ hJ2 ho)) ?_⟩) h2
      rw [Array.setIfInBounds_comm _ _ hji]
      exact h3.2.2
theorem openK_back {i : Nat} {l : Array Bool} (h : openK K (l.setIfInBounds i true) = true) : openK K l = true := by
  unfold openK at *
  rw [List.all_eq_true] at *
  intro k hk
  have := h k hk
  by_cases e : i = k
  · subst e
    rcases Nat.lt_or_ge i l.size with h' | h'
    · simp [h'] at this
    · simp at this
  · rw [getD_set_ne true e] at this; exact this
theorem openK_set {i : Nat} {l : Array Bool} (hi : i ∉ K) (h : openK K l = true) : openK K (l.setIfInBounds i true) = true := by
  unfold openK at *
  rw [List.all_eq_true] at *
  intro k hk
  have hne : i ≠ k := fun e => hi (by rw [e]; exact hk)
  rw [getD_set_ne true hne]
  exact h k hk
theorem waitsK_not {i : Nat} (h : waitsK ops K i = true) : i ∉ K := fun hm => by
  unfold waitsK at h; rw [List.all_eq_true] at h
  have := h i hm; simp at this
theorem waitsK_ready {i j : Nat} {l : Array Bool} (hcl : closedK ops l) (h : waitsK ops K i = true) (hi : i ∈ Region.ready .any ops l) (hj : j ∈ Region.ready .any ops l) : j ∉ K := fun hm => by
  unfold waitsK at h; rw [List.all_eq_true] at h
  have h1 := h j hm
  obtain ⟨_, oj, hoj, hall⟩ := mem_ready.1 hj
  simp only [Bool.and_eq_true] at h1
  have h2 := reachK_listed hcl _ _ (fun o ho e he hb => by rw [hoj] at ho; cases ho; exact hall e he hb) h1.2
  have h0 := (mem_ready.1 hi).1
  rcases Nat.lt_or_ge i l.size with h' | h'
  · simp [h'] at h0 h2; rw [h0] at h2; cases h2
  · simp [Array.getElem?_eq_none h'] at h2
variable {fuel : Nat} {listed : Array Bool} {a : Act} {w : World}
/-- An operation that yields the same in whatever world is taken first. -/
theorem tkB (i : Nat) (d : Option Tmp) (o : Oper) (v : Value) (hi : ops[i]? = some o) (hdd : o.dst = d) (hs : Region.noSelect ops = true) (hf : Region.free .any ops listed i = true) (hr : (Region.ready .any ops listed).contains i = true) (hk : (K.contains i) = false)
    (hQ : PanFree Q) (hw : Region.wanted o (yielded ops a.tmps) = true) (hv : ∀ w', (execOp a.eval o).run P w' = .ok (.value v) w') (hS : openK K listed = true → S w)
    (h : (openK K (listed.setIfInBounds i true) = true → S w) → wpK P ops Q S K fuel (listed.setIfInBounds i true) (a.put d v) w) : wpK P ops Q S K (fuel + 1) listed a w :=
  wpK_first (S1 := fun _ => True) (J := fun _ => True) hi (Region.noSelect_spec hs) (fun c a w => hQ c a _ _ w) (fun _ _ _ _ => trivial) (fun _ => openK_back) (fun _ _ => openK_set (by simpa using hk)) (fun _ _ _ _ _ _ => trivial) fuel listed a w trivial
    (Region.free_spec hi hf) (by simpa using hr) (.inl ⟨hw, fun w _ => hv w⟩) hS (hdd ▸ h (fun ho => hS (openK_back ho)))
/-- An operation whose guard shuts it out. -/
theorem tkG (i : Nat) (d : Option Tmp) (o : Oper) (hi : ops[i]? = some o) (hdd : o.dst = d) (hs : Region.noSelect ops = true) (hf : Region.free .any ops listed i = true) (hr : (Region.ready .any ops listed).contains i = true) (hk : (K.contains i) = false)
    (hQ : PanFree Q) (hw : Region.wanted o (yielded ops a.tmps) = false) (hS : openK K listed = true → S w)
    (h : (openK K (listed.setIfInBounds i true) = true → S w) → wpK P ops Q S K fuel (listed.setIfInBounds i true) (a.put d undef) w) : wpK P ops Q S K (fuel + 1) listed a w :=
  wpK_first (S1 := fun _ => True) (J := fun _ => True) hi (Region.noSelect_spec hs) (fun c a w => hQ c a _ _ w) (fun _ _ _ _ => trivial) (fun _ => openK_back) (fun _ _ => openK_set (by simpa using hk)) (fun _ _ _ _ _ _ => trivial) fuel listed a w trivial
    (Region.free_spec hi hf) (by simpa using hr) (.inr ⟨hw, rfl⟩) hS (hdd ▸ h (fun ho => hS (openK_back ho)))
theorem tkY (i : Nat) (d : Option Tmp) (o : Oper) (v : Value) (hi : ops[i]? = some o) (hdd : o.dst = d) (hs : Region.noSelect ops = true) (hf : Region.free .any ops listed i = true) (hr : (Region.ready .any ops listed).contains i = true) (hk : waitsK ops K i = true) (ho : (openK K listed && closedB ops listed) = true)
    (hQ : PanFree Q) (hy : YieldsIf P ops S o v a) (hS : openK K listed = true → S w)
    (h : (openK K (listed.setIfInBounds i true) = true → S w) → wpK P ops Q S K fuel (listed.setIfInBounds i true) (a.put d v) w) : wpK P ops Q S K (fuel + 1) listed a w :=
  wpK_first (S1 := S) (J := fun l => openK K l = true ∧ closedK ops l) hi (Region.noSelect_spec hs) (fun c a w => hQ c a _ _ w) (fun _ _ hl h => h hl.1) (fun _ => openK_back) (fun _ _ => openK_set (waitsK_not hk)) (fun _ _ hl hri hrj _ => ⟨openK_set (waitsK_ready hl.2 hk hri hrj) hl.1, closedK_set hl.2 hrj⟩) fuel listed a w ⟨(Bool.and_eq_true _ _ ▸ ho).1, closedB_spec (Bool.and_eq_true _ _ ▸ ho).2⟩
    (Region.free_spec hi hf) (by simpa using hr) hy hS (hdd ▸ h (fun ho => hS (openK_back ho)))
/-- An operation that yields the same in every world that meets S, ahead of the closing ones. -/
theorem tkA (i : Nat) (d : Option Tmp) (o : Oper) (v : Value) (hi : ops[i]? = some o) (hdd : o.dst = d) (hs : Region.noSelect ops = true) (hf : Region.free .any ops listed i = true) (hr : (Region.ready .any ops listed).contains i = true) (hk : waitsK ops K i = true) (ho : (openK K listed && closedB ops listed) = true)
    (hQ : PanFree Q) (hw : Region.wanted o (yielded ops a.tmps) = true) (hv : ∀ w', S w' → (execOp a.eval o).run P w' = .ok (.value v) w') (hS : openK K listed = true → S w)
    (h : (openK K (listed.setIfInBounds i true) = true → S w) → wpK P ops Q S K fuel (listed.setIfInBounds i true) (a.put d v) w) : wpK P ops Q S K (fuel + 1) listed a w :=
  tkY i d o v hi hdd hs hf hr hk ho hQ (.inl ⟨hw, hv⟩) hS h
/-- A load of a whole array or struct. -/
theorem tkL (i : Nat) (dd : Option Tmp) (o : Oper) (hi : ops[i]? = some o) (hdd : o.dst = dd) (ty : TypeId) (x : Operand) (hop : o.op = .load ty x) (b off : Nat) (cs : List Value) (d : TypeDesc)
    (hs : Region.noSelect ops = true) (hf : Region.free .any ops listed i = true) (hr : (Region.ready .any ops listed).contains i = true) (hk : waitsK ops K i = true) (ho : (openK K listed && closedB ops listed) = true)
    (hQ : PanFree Q) (hw : Region.wanted o (yielded ops a.tmps) = true)
    (hx : a.eval x = .pointer (some ⟨b, off, none⟩)) (hc : ∀ w, S w → w.rangeAt b off cs) (hu : P.underlying ty = some d) (hd : d.isRow = true) (hz : (P.info? ty).map (·.size) = some cs.length) (hS : openK K listed = true → S w)
    (h : (openK K (listed.setIfInBounds i true) = true → S w) → wpK P ops Q S K fuel (listed.setIfInBounds i true) (a.put dd (.agg cs.toArray)) w) : wpK P ops Q S K (fuel + 1) listed a w :=
  tkY i dd o _ hi hdd hs hf hr hk ho hQ (yieldsIf_load_mid hw ty x hop b off hx cs d hc hu hd hz) hS h
/-- The beginning. -/
theorem tkR {id : Nat} (S : World → Prop) (K : List Nat) (hm : P.follows .mixedOrders = true) (hQ : PanFree Q) (hS : S w.drew)
    (h : PanFree Q → (openK K (Array.replicate ops.size false) = true → S w.drew) → wpK P ops Q S K ops.size (Array.replicate ops.size false) a w.drew) : (Code.region id ops true).wp P Q a w := by
  refine wp_region_any hm ?_
  exact wpAny_of_K _ _ _ _ (h hQ (fun _ => hS))
theorem tkD {listed : Array Bool} {a : Act} {w : World} (hr : Region.ready .any ops listed = []) (h : Q .normal a w) : ∀ fuel, wpK P ops Q S K fuel listed a w
  | 0 => ⟨hr, h⟩
  | _ + 1 => ⟨fun _ => h, by rw [hr]; simp⟩
theorem wpK_mono {S' : World → Prop} (hSS : ∀ w, S' w → S w) : ∀ (fuel : Nat) (listed : Array Bool) (a : Act) (w : World), wpK P ops Q S' K fuel listed a w → wpK P ops Q S K fuel listed a w
  | 0, _, _, _, h => h
  | fuel + 1, _, _, _, h => ⟨h.1, fun i hi => wpOp_mono (fun a' w' h' => ⟨fun ho => hSS _ (h'.1 ho), wpK_mono hSS fuel _ a' w' h'.2⟩) (h.2 i hi)⟩
/-- From here on more is held. -/
theorem tkS (S' : World → Prop) (hSS : ∀ w, S' w → S w) (hS' : S' w) (h : (openK K listed = true → S' w) → wpK P ops Q S' K fuel listed a w) : wpK P ops Q S K fuel listed a w :=
  wpK_mono hSS _ _ _ _ (h (fun _ => hS'))
def AllK (P : Program) (ops : Array Oper) (Q : Exit → Act → World → Prop) (S : World → Prop) (K : List Nat) (fuel : Nat) (listed : Array Bool) (a : Act) (w : World) (rs : List Nat) : Prop :=
  ∀ i ∈ rs, wpOp P ops Q i (fun a' w' => (openK K (listed.setIfInBounds i true) = true → S w') ∧ wpK P ops Q S K fuel (listed.setIfInBounds i true) a' w') a w
theorem AllK.nil : AllK P ops Q S K fuel listed a w [] := fun _ h => by cases h
/-- An operation that comes up: S is to be shown behind it. -/
theorem AllK.cons {i : Nat} {o : Oper} {rs : List Nat} (ho : ops[i]? = some o)
    (h : ∀ K' : Act → World → Prop, Shut (∀ a w, S w → ((openK K (listed.setIfInBounds i true) = true → S w) → wpK P ops Q S K fuel (listed.setIfInBounds i true) a w) → K' a w) → if Region.wanted o (yielded ops a.tmps) = true then Oper.wp P o a w K' Q else K' (a.put o.dst undef) w)
    (hs : AllK P ops Q S K fuel listed a w rs) : AllK P ops Q S K fuel listed a w (i :: rs) := fun j hj => by
  rcases List.mem_cons.1 hj with rfl | hj
  · exact wpOp_step ho (fun K' hK => h K' (fun a w hS hW => hK a w ⟨fun _ => hS, hW (fun _ => hS)⟩))
  · exact hs j hj
/-- A closing operation, or one behind it: nothing is to be shown. -/
theorem AllK.close {i : Nat} {o : Oper} {rs : List Nat} (ho : ops[i]? = some o) (hc : openK K (listed.setIfInBounds i true) = false)
    (h : ∀ K' : Act → World → Prop, Shut (∀ a w, ((openK K (listed.setIfInBounds i true) = true → S w) → wpK P ops Q S K fuel (listed.setIfInBounds i true) a w) → K' a w) → if Region.wanted o (yielded ops a.tmps) = true then Oper.wp P o a w K' Q else K' (a.put o.dst undef) w)
    (hs : AllK P ops Q S K fuel listed a w rs) : AllK P ops Q S K fuel listed a w (i :: rs) := fun j hj => by
  have hno : ∀ w, openK K (listed.setIfInBounds i true) = true → S w := fun w h => by rw [hc] at h; cases h
  rcases List.mem_cons.1 hj with rfl | hj
  · exact wpOp_step ho (fun K' hK => h K' (fun a w hW => hK a w ⟨hno w, hW (hno w)⟩))
  · exact hs j hj
theorem tkW {rs : List Nat} (hr : Region.ready .any ops listed = rs) (hne : rs ≠ []) (h : AllK P ops Q S K fuel listed a w rs) : wpK P ops Q S K (fuel + 1) listed a w :=
  ⟨fun h0 => absurd (hr ▸ h0) hne, hr ▸ h⟩
end
end Go.Proofs.YtnmmnlffobnbfaaGreatDoor

/- append of bytes, whatever slice holds them, to an own row of bytes -/
namespace Go.Proofs.YtnmmnlffobnbfaaGreatDoor
open Go.RowKit

theorem RowAt.src {w : World} {pa : Option Addr} {Y : List UInt8} (h : RowAt w pa Y) {b o : Nat} (e : pa = some ⟨b, o, none⟩) : ∀ j u, (bys Y)[j]? = some u → w.cell? ((⟨b, o, none⟩ : Addr).add j) = some u := fun j u hu => by
  have hj : j < Y.length := by
    rcases Nat.lt_or_ge j Y.length with hh | hh
    · exact hh
    · rw [List.getElem?_eq_none (by rw [bys_length]; exact hh)] at hu; cases hu
  obtain ⟨b', o', e', _, hc⟩ := h j hj
  rw [e] at e'
  injection e' with e'; injection e' with e1 e2; subst e1 e2
  rw [Addr.add_mid, hc, ← hu, bys_get Y j hj]
theorem run_append_rows (w : World) (base : Nat) (ty : TypeId) (v : Value) (n : Nat) (xs : List Value) (hown : w.ownsRow base 5 1 v n xs) (pa : Option Addr) (m c : Nat) (Y : List UInt8) (hY : RowAt w pa Y) (hm : Y.length = m) (hb : n + m ≤ 140737488355328) (hbase : base ≤ w.heap.size) :
    ∃ v' w', (Builtin.append_ #[23, 23] ty #[v, .slice pa m c]).run Tryz.prog w = .ok v' w' ∧ w'.ownsRow base 5 1 v' (n + m) (xs ++ bys Y) ∧ w.grownBy w' v.ownBlock ∧ (v'.ownBlock = v.ownBlock ∨ v'.ownBlock = some w.heap.size) := by
  obtain ⟨i, hi, hz, hs, hby⟩ := info_parts info5
  by_cases h0 : m = 0
  · subst h0
    obtain rfl : Y = [] := List.eq_nil_of_length_eq_zero hm
    have hsrc : Src Tryz.prog i.size 23 (.slice pa 0 c) 0 [] w := by
      cases pa with
      | none => exact Src.ofNil w under33b c
      | some a => exact Src.ofSlice w under33b a 0 c [] (by simp) (fun j u hu => by simp at hu) (fun u hu => by simp at hu)
    refine ⟨v, w, ?_, by simpa [bys] using hown, ⟨rfl, rfl, rfl, Nat.le_refl _, fun _ _ _ => rfl⟩, .inl rfl⟩
    rcases hown.2 with ⟨rfl, rfl⟩ | ⟨g, cap, cur, rfl, _, _, hc, _⟩
    · exact run_append_nothing w 23 23 ty 5 i under33b hi none 0 0 (Nat.le_refl _) _ hsrc
    · exact run_append_nothing w 23 23 ty 5 i under33b hi _ n cap hc _ hsrc
  · obtain ⟨b, o, rfl, _, _⟩ := hY 0 (by omega)
    obtain ⟨v', w', hr, h2, h3, _, h5⟩ := run_append_own_at (P := Tryz.prog) w base 23 ty 5 i (.int .u8 0) 1 1 under33b hi hz hs hby rfl (by decide) v n xs hown ⟨b, o, none⟩ m c (bys Y) (by rw [bys_length, hm, Nat.mul_one]) (hY.src rfl) (bys_one _) (by unfold maxLen; omega) (by omega) hbase
    exact ⟨v', w', hr, h2, h3, h5⟩
theorem wpList_append_rows {w : World} {ops : Array Oper} {rest : List Oper} {o : Oper} {a : Act} {Q : Exit → Act → World → Prop} (hgd : o.guard = none) (s x : Operand)
    (ho : o.op = .call { callee := .builtin .append, args := #[s, x], argTypes := #[23, 23] }) (base : Nat)
    (v : Value) (n : Nat) (xs : List Value) (hs : a.eval s = v) (hown : w.ownsRow base 5 1 v n xs) (pa : Option Addr) (m c : Nat) (Y : List UInt8) (hx : a.eval x = .slice pa m c) (hY : RowAt w pa Y) (hm : Y.length = m) (hb : n + m ≤ 140737488355328) (hbase : base ≤ w.heap.size)
    (h : ∀ v' w', w'.ownsRow base 5 1 v' (n + m) (xs ++ bys Y) → w.grownBy w' v.ownBlock → (v'.ownBlock = v.ownBlock ∨ v'.ownBlock = some w.heap.size) → wpList Tryz.prog ops Q rest (a.put o.dst v') w') :
    wpList Tryz.prog ops Q (o :: rest) a w := by
  refine wpList_plain hgd fun K hK => ?_
  obtain ⟨v', w', hr, h2, h3, h5⟩ := run_append_rows w base o.type v n xs hown pa m c Y hY hm hb hbase
  unfold Oper.wp execOp
  simp only [ho, resolve, invoke, builtin, Sem.run_bind, Sem.run_pure, Result.andThen_ok, List.map_toArray, List.map_cons, List.map_nil, hs, hx, hr]
  exact hK _ _ (h v' w' h2 h3 h5)
/-- An own row of bytes, as it may be read. -/
theorem own_rowAt {w : World} {base : Nat} {v : Value} {l : List UInt8} (h : w.ownsRow base 5 1 v l.length (bys l)) : ∃ pa cap, v = .slice pa l.length cap ∧ l.length ≤ cap ∧ RowAt w pa l := by
  rcases h.2 with ⟨hv, h0⟩ | ⟨g, cap, cur, hv, _, hh, hc, _⟩
  · exact ⟨none, 0, by rw [hv, h0], by omega, fun k hk => by omega⟩
  · refine ⟨some ⟨g, 0, none⟩, cap, hv, hc, fun k hk => ⟨g, 0, rfl, ?_, ?_⟩⟩
    · rcases Nat.lt_or_ge g w.heap.size with hlt | hge
      · exact hlt
      · rw [Array.getElem?_eq_none hge] at hh; cases hh
    · have := h.cells (g := g) (by rw [hv]; rfl) k _ (bys_get l k hk)
      rw [Addr.add_mid] at this; exact this
end Go.Proofs.YtnmmnlffobnbfaaGreatDoor

/- single operations: copy, append -/
namespace Go.Proofs.YtnmmnlffobnbfaaGreatDoor
open Go.RowKit

theorem wantIt {c : Bool} {p q : Prop} (h : c = true) (hp : p) : if c = true then p else q := by simp [h, hp]
theorem wp_copy_blk {P : Program} {w : World} {o : Oper} {a : Act} {K : Act → World → Prop} {Q : Exit → Act → World → Prop} (dd : Option Tmp) (hdd : o.dst = dd) (d s : Operand) (dT sT : TypeId)
    (ho : o.op = .call { callee := .builtin .copy, args := #[d, s], argTypes := #[dT, sT] }) (elem : TypeId) (hu : P.underlying dT = some (.slice elem)) (hsz : (P.info? elem).map (·.size) = some 1)
    (g off dLen dCap q qo sLen sCap : Nat) (hd : a.eval d = .slice (some ⟨g, off, none⟩) dLen dCap) (hs : a.eval s = .slice (some ⟨q, qo, none⟩) sLen sCap)
    (cur src : List Value) (t t' : TypeId) (hg : Blk w g cur t) (hq : Blk w q src t') (n : Nat) (hn : n = Nat.min sLen dLen) (hfit : off + n ≤ cur.length) (hqf : qo + n ≤ src.length)
    (h1 : ∀ v ∈ src, v.oneCell' = true)
    (h : ∀ w', Blk w' g (splice cur off ((src.drop qo).take n)) t → Chg w.heap.size [g] w w' → w'.heap.size = w.heap.size → K (a.put dd (goInt n)) w') : Oper.wp P o a w K Q := by
  subst hdd
  have hl : ((src.drop qo).take n).length = n := by simp; omega
  have hr := run_copy_row (P := P) w dT sT o.type elem g off dLen dCap ⟨q, qo, none⟩ sLen sCap cur.toArray t ((src.drop qo).take n) hu hsz hg (by rw [hl]; exact hn) (hq.src qo n) (by rw [hl]; simpa using hfit)
    (fun v hv => h1 v (List.mem_of_mem_drop (List.mem_of_mem_take hv)))
  have := h (w.setRow g (splice cur off ((src.drop qo).take n)).toArray) (hg.setRow _) ((Chg.refl _ _ _).setRow (.inl (by simp)) _) (by simp)
  unfold Oper.wp execOp
  simp only [ho, resolve, invoke, builtin, Sem.run_bind, Sem.run_pure, Result.andThen_ok, List.map_toArray, List.map_cons, List.map_nil, hd, hs, hr, Oper.upon]
  simpa [splice, hl] using this
theorem wp_append_rows {w : World} {o : Oper} {a : Act} {K : Act → World → Prop} {Q : Exit → Act → World → Prop} (dd : Option Tmp) (hdd : o.dst = dd) (s x : Operand)
    (ho : o.op = .call { callee := .builtin .append, args := #[s, x], argTypes := #[23, 23] }) (base : Nat)
    (v : Value) (n : Nat) (xs : List Value) (hs : a.eval s = v) (hown : w.ownsRow base 5 1 v n xs) (pa : Option Addr) (m c : Nat) (Y : List UInt8) (hx : a.eval x = .slice pa m c) (hY : RowAt w pa Y) (hm : Y.length = m) (hb : n + m ≤ 140737488355328) (hbase : base ≤ w.heap.size)
    (h : ∀ v' w', w'.ownsRow base 5 1 v' (n + m) (xs ++ bys Y) → w.grownBy w' v.ownBlock → (v'.ownBlock = v.ownBlock ∨ v'.ownBlock = some w.heap.size) → K (a.put dd v') w') : Oper.wp Tryz.prog o a w K Q := by
  subst hdd
  obtain ⟨v', w', hr, h2, h3, h5⟩ := run_append_rows w base o.type v n xs hown pa m c Y hY hm hb hbase
  unfold Oper.wp execOp
  simp only [ho, resolve, invoke, builtin, Sem.run_bind, Sem.run_pure, Result.andThen_ok, List.map_toArray, List.map_cons, List.map_nil, hs, hx, hr]
  exact h v' w' h2 h3 h5
theorem wp_storeD {P : Program} {op : Oper} {a : Act} {w : World} {K : Act → World → Prop} {Q : Exit → Act → World → Prop} (dd : Option Tmp) (hdd : op.dst = dd) (ty : TypeId) (x y : Operand) (ho : op.op = .store ty x y)
    (b o : Nat) (cells : Array Value) (hx : a.eval x = .pointer (some ⟨b, o, none⟩)) (hy : a.eval y = .agg cells)
    (ht : w.there b o cells.size) (hi : (P.info? ty).map (·.size) = some cells.size) (h1 : cells.all (·.oneCell') = true)
    (h : K (a.put dd undef) (w.setCells b o cells.toList)) : op.wp P a w K Q := by
  subst hdd
  exact wp_store_mid ty x y ho b o cells hx hy ht hi h1 h
theorem RowAt.congr {w : World} {pa : Option Addr} {X Y : List UInt8} (h : RowAt w pa X) (e : X = Y) : RowAt w pa Y := e ▸ h
theorem RowAt.nilW (w : World) (pa : Option Addr) : RowAt w pa [] := fun k hk => by simp at hk
/-- The block of a row, if it has one, is none of F. -/
def Off (F : List Nat) (pa : Option Addr) : Prop := ∀ a, pa = some a → a.block ∉ F
theorem RowAt.chg {w w' : World} {pa : Option Addr} {X : List UInt8} {F : List Nat} {N : Nat} (h : RowAt w pa X) (hc : Chg N F w w') (hN : w.heap.size ≤ N) (hF : Off F pa) : RowAt w' pa X := fun k hk => by
  obtain ⟨b, o, h1, h2, h3⟩ := h k hk
  refine ⟨b, o, h1, Nat.lt_of_lt_of_le h2 hc.size, ?_⟩
  have hb := hc.block b (by omega) (hF _ h1)
  have e : w'.cell? ⟨b, o + k, none⟩ = w.cell? ⟨b, o + k, none⟩ := by simp [World.cell?, hb]
  rw [e]; exact h3
theorem RowAt.chgL {w w' : World} {pa : Option Addr} {X : List UInt8} {F : List Nat} {N : Nat} (h : RowAt w pa X) (hc : Chg N F w w') (hN : ∀ a, pa = some a → a.block < N) (hF : Off F pa) : RowAt w' pa X := fun k hk => by
  obtain ⟨b, o, h1, h2, h3⟩ := h k hk
  refine ⟨b, o, h1, Nat.lt_of_lt_of_le h2 hc.size, ?_⟩
  have hb := hc.block b (hN _ h1) (hF _ h1)
  have e : w'.cell? ⟨b, o + k, none⟩ = w.cell? ⟨b, o + k, none⟩ := by simp [World.cell?, hb]
  rw [e]; exact h3
theorem RowAt.drew {w : World} {pa : Option Addr} {X : List UInt8} (h : RowAt w pa X) : RowAt w.drew pa X := h
theorem RowAt.drewN {w : World} {pa : Option Addr} {X : List UInt8} (h : RowAt w pa X) (n : Nat) : RowAt (w.drewN n) pa X := h
theorem RowAt.drop {w : World} {b o : Nat} {l : List UInt8} (h : RowAt w (some ⟨b, o, none⟩) l) (q : Nat) : RowAt w (some ⟨b, o + q, none⟩) (l.drop q) := fun k hk => by
  rw [List.length_drop] at hk
  obtain ⟨b', o', e, h1, h2⟩ := h (q + k) (by omega)
  injection e with e; injection e with e1 e2; subst e1 e2
  refine ⟨b, o + q, rfl, h1, ?_⟩
  rw [Nat.add_assoc, h2]
  simp [List.getD]
theorem RowAt.take {w : World} {pa : Option Addr} {l : List UInt8} (h : RowAt w pa l) (q : Nat) : RowAt w pa (l.take q) := fun k hk => by
  rw [List.length_take] at hk
  obtain ⟨b', o', e, h1, h2⟩ := h k (by omega)
  refine ⟨b', o', e, h1, ?_⟩
  rw [h2]
  simp [List.getD, show k < q by omega]
end Go.Proofs.YtnmmnlffobnbfaaGreatDoor

/- bits: Big, PutLittle, PutBig, Count -/
namespace Go.Proofs.YtnmmnlffobnbfaaGreatDoor
open Go.RowKit

abbrev U64 (n : Nat) : Value := .int .u64 n
theorem shl8_or (n : Nat) (x : UInt8) (h : n < 72057594037927936) : bits .or .u64 ((n : Int) * 256) (bv x) = ((n * 256 + x.toNat : Nat) : Int) := by
  have hx := x.toNat_lt
  have e1 : ((n : Int) * 256) = ((n * 256 : Nat) : Int) := by omega
  have e2 : bv x = ((x.toNat : Nat) : Int) := rfl
  rw [e1, e2, u64_or_nat _ _ (by omega) (by omega)]
  have := Nat.two_pow_add_eq_or_of_lt (i := 8) (b := x.toNat) (by omega) n
  rw [show n * 256 = 2 ^ 8 * n by omega, ← this]

set_option maxRecDepth 100000 in
set_option maxHeartbeats 1000000 in
theorem big_any (w : World) (pa : Option Addr) (n cap : Nat) (l : List UInt8) (hl : RowAt w pa l) (hn : l.length = n) (h8 : n ≤ 8) :
    Calls Tryz.prog 46 #[.slice pa n cap] w fun e w' => e = .returned (U64 (be l)) ∧ w = w' := by
  have Hl := hid hl
  clear hl
  have Hn := hid hn
  clear hn
  go_enter Tryz.func46, Tryz.ntmps46
  go_wp2_with fail
  go_loop [3, 8] (fun v i => ∃ k : Nat, k ≤ n ∧ i = .int .i64 k ∧ v = U64 (be (l.take k))) (fun _ i => n - (intOf i).toNat)
  case atStart => exact ⟨0, by omega, rfl, rfl⟩
  case round =>
    obtain ⟨k, hk, rfl, rfl⟩ := hrel
    by_cases hlt : k < n
    · have hs := take_succ_getD 0 l k (by rw [Hn.out]; exact hlt)
      have hb := be_lt (l.take k)
      rw [List.length_take, Nat.min_eq_left (by rw [Hn.out]; omega)] at hb
      have hb7 : be (l.take k) < 72057594037927936 := Nat.lt_of_lt_of_le hb (Nat.le_trans (Nat.pow_le_pow_right (by decide) (show k ≤ 7 by omega)) (by decide))
      have hnx : be (l.take (k + 1)) = be (l.take k) * 256 + (l.getD k 0).toNat := by rw [hs, be_snoc]
      have HNX := hid hnx
      clear hs hb hnx
      obtain ⟨b, o, rfl, _, hc⟩ := Hl.out k (by rw [Hn.out]; exact hlt)
      generalize l.getD k 0 = x at *
      generalize be (l.take k) = q at *
      have hor := shl8_or q x hb7
      have hx0 := bv_lo x
      have hx1 := bv_hi x
      go_wp2_with fail
      go_round
      case rel => exact ⟨k + 1, by omega, by go_num, by rw [HNX.out]; simp only [U64, Int.natCast_add, Int.natCast_mul]; rfl⟩
      case measure => simp [intOf]; omega
    · obtain rfl : k = n := by omega
      have e : l.take k = l := List.take_of_length_le (by rw [Hn.out]; omega)
      rw [e]
      clear e
      go_wp2_with fail
      go_ret
      exact ⟨rfl, rfl⟩

theorem bv_of (n : Nat) : bv (UInt8.ofNat n) = ((n % 256 : Nat) : Int) := by unfold bv; simp
set_option maxRecDepth 100000 in
set_option maxHeartbeats 1000000 in
theorem putl1_any (w : World) (b k x : Nat) (hb : w.cell? ⟨b, 0, none⟩ = some (U64 x)) (hx : x < 18446744073709551616) (hk : k < 100) :
    Calls Tryz.prog 163 #[.int .i64 k, .pointer (some ⟨b, 0, none⟩)] w fun e w' => e = .returned (.int .u8 (bv (UInt8.ofNat (x / 256 ^ k)))) ∧ ∃ m, w.drewN m = w' := by
  have e8 : bv (UInt8.ofNat (x / 256 ^ k)) = ((x / 256 ^ k % 256 : Nat) : Int) := bv_of _
  by_cases h8 : 8 ≤ k
  · have hz : x / 256 ^ k = 0 := Nat.div_eq_of_lt (Nat.lt_of_lt_of_le hx (Nat.le_trans (by decide : 18446744073709551616 ≤ 256 ^ 8) (Nat.pow_le_pow_right (by decide) h8)))
    rw [hz]
    clear hz e8
    go_enter Tryz.func163, Tryz.ntmps163
    go_wp2_with fail
    go_ret
    exact ⟨rfl, 0, rfl⟩
  · have hm : (x : Int) / 2 ^ (8 * k) % 256 = bv (UInt8.ofNat (x / 256 ^ k)) := by
      have hp : (2 : Int) ^ (8 * k) = ((256 ^ k : Nat) : Int) := by rw [Int.pow_mul]; simp
      rw [e8, hp]; omega
    generalize bv (UInt8.ofNat (x / 256 ^ k)) = y at *
    clear e8
    have Hm := hid hm
    clear hm
    have q1 : ¬ (8 : Int) ≤ (k : Int) := by omega
    have q2 : 0 ≤ (k : Int) := by omega
    go_enter Tryz.func163, Tryz.ntmps163
    go_wp2_with fail
    go_ret
    exact ⟨congrArg (fun z => Ending.returned (.int .u8 z)) Hm.out, 0, rfl⟩

theorem callpl1 (args : Array Value) (w : World) : (callFunc 163 args).run Tryz.prog w = .ok (.enter 163 args) w := by kernel_rfl

set_option maxRecDepth 100000 in
set_option maxHeartbeats 1000000 in
theorem putlittle_any (w : World) (x many : Nat) (hx : x < 18446744073709551616) (hk : many ≤ 16) :
    Calls Tryz.prog 118 #[U64 x, .int .i64 many] w fun e w' => e = .returned (.slice (some ⟨w.heap.size + 1, 0, none⟩) many many) ∧ Blk w' (w.heap.size + 1) (bys (leF many x)) tU8 ∧ Below w.heap.size w w' := by
  have hb := Blk.new w [U64 x] 95
  have hB : Below w.heap.size w (w.alloc (.cells [U64 x].toArray 95)) := (Below.refl _ _).alloc (Nat.le_refl _) _
  have hsz : (w.alloc (.cells [U64 x].toArray 95)).heap.size = w.heap.size + 1 := by simp
  have HP := hid (puts_any (w.alloc (.cells [U64 x].toArray 95)) 163 #[.pointer (some ⟨w.heap.size, 0, none⟩)] many (fun i => UInt8.ofNat (x / 256 ^ i)) callpl1 (by
    intro k hk1 w1 hB1
    exact putl1_any w1 _ k x ((hb.below hB1 hb.lt).cell 0) hx (by omega)) (by omega))
  rw [hsz] at HP
  clear hsz hb
  go_enter Tryz.func118, Tryz.ntmps118
  go_wp2_with fail
  refine HP.out.mono ?_
  rintro e w2 ⟨rfl, hb2, hB2⟩
  go_wp2_with fail
  go_ret
  exact ⟨rfl, hb2, hB.trans (hB2.mono (by omega))⟩

/-- l, k places from either end turned round. -/
def revTo (l : List UInt8) (k : Nat) : List UInt8 := (List.range l.length).map fun j => if j < k ∨ l.length - k ≤ j then l.getD (l.length - 1 - j) 0 else l.getD j 0
theorem revTo_len (l : List UInt8) (k : Nat) : (revTo l k).length = l.length := by simp [revTo]
theorem revTo_zero (l : List UInt8) : revTo l 0 = l := by
  apply List.ext_getElem
  · simp [revTo]
  · intro i h1 h2
    simp [revTo, List.getD, List.getElem?_eq_getElem h2]; omega
theorem revTo_get (l : List UInt8) (k j : Nat) (hj : j < l.length) : (revTo l k).getD j 0 = if j < k ∨ l.length - k ≤ j then l.getD (l.length - 1 - j) 0 else l.getD j 0 := by
  simp [revTo, List.getD, hj]
theorem ext_getD {l r : List UInt8} (h : l.length = r.length) (e : ∀ j, j < l.length → l.getD j 0 = r.getD j 0) : l = r := by
  apply List.ext_getElem h
  intro i h1 h2
  have := e i h1
  simpa [List.getD, List.getElem?_eq_getElem h1, List.getElem?_eq_getElem h2] using this
theorem getD_set (l : List UInt8) (i j : Nat) (v : UInt8) (hi : i < l.length) : (l.set i v).getD j 0 = if i = j then v else l.getD j 0 := by
  simp only [List.getD, List.getElem?_set]
  split
  · rename_i h
    subst h
    simp
  · rfl
theorem revTo_succ (l : List UInt8) (k : Nat) (h : k < l.length - 1 - k) : ((revTo l k).set k (l.getD (l.length - 1 - k) 0)).set (l.length - 1 - k) (l.getD k 0) = revTo l (k + 1) := by
  apply ext_getD
  · simp [revTo]
  · intro j hj
    simp only [List.length_set, revTo_len] at hj
    rw [getD_set _ _ _ _ (by rw [List.length_set, revTo_len]; omega), getD_set _ _ _ _ (by rw [revTo_len]; omega), revTo_get _ _ _ hj, revTo_get _ _ _ hj]
    by_cases h1 : l.length - 1 - k = j
    · rw [if_pos h1, if_pos (by omega)]; congr 1; omega
    · rw [if_neg h1]
      by_cases h2 : k = j
      · subst h2; rw [if_pos rfl, if_pos (by omega)]
      · rw [if_neg h2]
        by_cases h3 : j < k ∨ l.length - k ≤ j
        · rw [if_pos h3, if_pos (by omega)]
        · rw [if_neg h3, if_neg (by omega)]
theorem revTo_all (l : List UInt8) (k : Nat) (h : ¬ k < l.length - 1 - k) : revTo l k = l.reverse := by
  apply ext_getD
  · simp [revTo]
  · intro j hj
    rw [revTo_len] at hj
    rw [revTo_get _ _ _ hj]
    have hr : l.reverse.getD j 0 = l.getD (l.length - 1 - j) 0 := by simp [List.getD, List.getElem?_reverse hj]
    rw [hr]
    split
    · rfl
    · congr 1; omega

set_option maxRecDepth 100000 in
set_option maxHeartbeats 1000000 in
theorem reverse_any (w : World) (b n cap : Nat) (l : List UInt8) (T : TypeId) (hb : Blk w b (bys l) T) (hn : l.length = n) (h9 : n < 1000000000) :
    Calls Tryz.prog 119 #[.slice (some ⟨b, 0, none⟩) n cap] w fun e w' => e = .returned (.tuple #[]) ∧ Blk w' b (bys l.reverse) T ∧ Chg w.heap.size [b] w w' ∧ w.heap.size = w'.heap.size := by
  have hb0 : Blk w b (bys (revTo l 0)) T := by rw [revTo_zero]; exact hb
  have Hn := hid hn
  have Hb := hid hb0
  clear hb hn hb0
  go_enter Tryz.func119, Tryz.ntmps119
  go_wp2_with fail
  go_loopw [2, 3] (fun i j wr => ∃ k : Nat, k ≤ n ∧ i = .int .i64 k ∧ j = .int .i64 ((n : Int) - 1 - k) ∧ Blk wr b (bys (revTo l k)) T ∧ Chg w.heap.size [b] w wr ∧ w.heap.size = wr.heap.size) (fun i _ _ => n - (intOf i).toNat)
  case atStart => exact ⟨0, by omega, rfl, by simp, Hb.out, Chg.refl _ _ _, rfl⟩
  case round =>
    obtain ⟨k, hk, rfl, rfl, hb, hC, hz⟩ := hrel
    by_cases hlt : k < n - 1 - k
    · have hl := revTo_len l k
      have hn := Hn.out
      obtain ⟨j, hj⟩ : ∃ j, n - 1 - k = j := ⟨_, rfl⟩
      have ej : (n : Int) - 1 - k = (j : Int) := by omega
      have ej1 : (n : Int) - 1 - ((k + 1 : Nat) : Int) = (j : Int) - 1 := by omega
      rw [ej]
      have ck := hb.cellAt (bys_get _ k (by omega))
      have cj := hb.cellAt (bys_get _ j (by omega))
      rw [revTo_get _ _ _ (by omega), if_neg (by omega)] at ck
      rw [revTo_get _ _ _ (by omega), if_neg (by omega)] at cj
      have hs := revTo_succ l k (by omega)
      have hne : ¬ k = j := by omega
      rw [show l.length - 1 - k = j by omega] at hs
      have Hs := hid hs
      have fk := hb.frozen k
      have fj := hb.frozen j
      generalize l.getD k 0 = x at *
      generalize l.getD j 0 = y at *
      have q1 : (k : Int) < (j : Int) := by omega
      have q2 : k < n := by omega
      have q3 : j < n := by omega
      have q4 : 0 ≤ (k : Int) := by omega
      have q5 : 0 ≤ (j : Int) := by omega
      have q6 : (k : Int) < (n : Int) := by omega
      have q7 : (j : Int) < (n : Int) := by omega
      clear hs hl hn hj ej
      go_wp2_with fail
      try simp only [Act.put]
      refine tkR (fun w' => w'.cell? ⟨b, k, none⟩ = some (.int .u8 (bv x)) ∧ w'.cell? ⟨b, j, none⟩ = some (.int .u8 (bv y))) [13] (by kernel_rfl) (fun c a d v w h => by cases d <;> exact h) (⟨ck, cj⟩) (fun hPF hHeld => ?_)
      refine tkB 0 (.some 14) _ _ rfl rfl (by kernel_rfl) (by kernel_rfl) (by kernel_rfl) (by kernel_rfl) hPF rfl (fun w' => by (go_simp; try with_reducible rfl)) hHeld (fun hHeld => ?_)
      simp only [Act.put, List.setIfInBounds_toArray, List.set_cons_zero, List.set_cons_succ]
      refine tkB 1 (.some 15) _ _ rfl rfl (by kernel_rfl) (by kernel_rfl) (by kernel_rfl) (by kernel_rfl) hPF rfl (fun w' => by (go_simp; try with_reducible rfl)) hHeld (fun hHeld => ?_)
      simp only [Act.put, List.setIfInBounds_toArray, List.set_cons_zero, List.set_cons_succ]
      refine tkB 2 (.some 16) _ _ rfl rfl (by kernel_rfl) (by kernel_rfl) (by kernel_rfl) (by kernel_rfl) hPF rfl (fun w' => by (go_simp; try with_reducible rfl)) hHeld (fun hHeld => ?_)
      simp only [Act.put, List.setIfInBounds_toArray, List.set_cons_zero, List.set_cons_succ]
      refine tkB 3 (.some 17) _ _ rfl rfl (by kernel_rfl) (by kernel_rfl) (by kernel_rfl) (by kernel_rfl) hPF rfl (fun w' => by (go_simp; try with_reducible rfl)) hHeld (fun hHeld => ?_)
      simp only [Act.put, List.setIfInBounds_toArray, List.set_cons_zero, List.set_cons_succ]
      refine tkB 4 (.some 18) _ _ rfl rfl (by kernel_rfl) (by kernel_rfl) (by kernel_rfl) (by kernel_rfl) hPF rfl (fun w' => by (go_simp; try with_reducible rfl)) hHeld (fun hHeld => ?_)
      simp only [Act.put, List.setIfInBounds_toArray, List.set_cons_zero, List.set_cons_succ]
      refine tkB 5 (.some 19) _ _ rfl rfl (by kernel_rfl) (by kernel_rfl) (by kernel_rfl) (by kernel_rfl) hPF rfl (fun w' => by (go_simp; try with_reducible rfl)) hHeld (fun hHeld => ?_)
      simp only [Act.put, List.setIfInBounds_toArray, List.set_cons_zero, List.set_cons_succ]
      refine tkB 6 (.some 20) _ _ rfl rfl (by kernel_rfl) (by kernel_rfl) (by kernel_rfl) (by kernel_rfl) hPF rfl (fun w' => by (go_simp; try with_reducible rfl)) hHeld (fun hHeld => ?_)
      simp only [Act.put, List.setIfInBounds_toArray, List.set_cons_zero, List.set_cons_succ]
      refine tkA 7 (.some 21) _ _ rfl rfl (by kernel_rfl) (by kernel_rfl) (by kernel_rfl) (by kernel_rfl) (by kernel_rfl) hPF rfl (fun w' hw' => by (have h1 := hw'.2; go_simp; try with_reducible rfl)) hHeld (fun hHeld => ?_)
      simp only [Act.put, List.setIfInBounds_toArray, List.set_cons_zero, List.set_cons_succ]
      refine tkB 8 (.some 22) _ _ rfl rfl (by kernel_rfl) (by kernel_rfl) (by kernel_rfl) (by kernel_rfl) hPF rfl (fun w' => by (go_simp; try with_reducible rfl)) hHeld (fun hHeld => ?_)
      simp only [Act.put, List.setIfInBounds_toArray, List.set_cons_zero, List.set_cons_succ]
      refine tkB 9 (.some 23) _ _ rfl rfl (by kernel_rfl) (by kernel_rfl) (by kernel_rfl) (by kernel_rfl) hPF rfl (fun w' => by (go_simp; try with_reducible rfl)) hHeld (fun hHeld => ?_)
      simp only [Act.put, List.setIfInBounds_toArray, List.set_cons_zero, List.set_cons_succ]
      refine tkB 10 (.some 24) _ _ rfl rfl (by kernel_rfl) (by kernel_rfl) (by kernel_rfl) (by kernel_rfl) hPF rfl (fun w' => by (go_simp; try with_reducible rfl)) hHeld (fun hHeld => ?_)
      simp only [Act.put, List.setIfInBounds_toArray, List.set_cons_zero, List.set_cons_succ]
      refine tkA 11 (.some 25) _ _ rfl rfl (by kernel_rfl) (by kernel_rfl) (by kernel_rfl) (by kernel_rfl) (by kernel_rfl) hPF rfl (fun w' hw' => by (have h1 := hw'.1; go_simp; try with_reducible rfl)) hHeld (fun hHeld => ?_)
      simp only [Act.put, List.setIfInBounds_toArray, List.set_cons_zero, List.set_cons_succ]
      refine tkB 12 (.some 26) _ _ rfl rfl (by kernel_rfl) (by kernel_rfl) (by kernel_rfl) (by kernel_rfl) hPF rfl (fun w' => by (go_simp; try with_reducible rfl)) hHeld (fun hHeld => ?_)
      simp only [Act.put, List.setIfInBounds_toArray, List.set_cons_zero, List.set_cons_succ]
      refine tkW (rs := [13]) (by kernel_rfl) (by simp) (AllK.close (o := _) rfl (by kernel_rfl) (fun KC hKC => ?_) AllK.nil)
      go_simp
      refine hKC.out _ _ (fun hHeld => ?_)
      clear hKC KC
      try simp only [Act.put]
      refine tkB 14 (.some 27) _ _ rfl rfl (by kernel_rfl) (by kernel_rfl) (by kernel_rfl) (by kernel_rfl) hPF rfl (fun w' => by (go_simp; try with_reducible rfl)) hHeld (fun hHeld => ?_)
      simp only [Act.put, List.setIfInBounds_toArray, List.set_cons_zero, List.set_cons_succ]
      refine tkW (rs := [15]) (by kernel_rfl) (by simp) (AllK.close (o := _) rfl (by kernel_rfl) (fun KC hKC => ?_) AllK.nil)
      go_simp
      refine hKC.out _ _ (fun hHeld => ?_)
      clear hKC KC
      try simp only [Act.put]
      refine tkD (by kernel_rfl) ?_ _
      go_wp2_with fail
      go_roundw
      case rel =>
        refine ⟨k + 1, by omega, by go_num, by rw [ej1], ?_, ?_, ?_⟩
        · rw [← Hs.out, ← bys_set, ← bys_set]
          exact (hb.drew.set k _).set j _
        · exact ((hC.drew).setCell (p := ⟨b, k, none⟩) (.inl (by simp)) _).setCell (p := ⟨b, j, none⟩) (.inl (by simp)) _
        · simpa using hz
      case measure => simp [intOf]; omega
    · have hr := revTo_all l k (by have := Hn.out; omega)
      rw [hr] at hb
      have q1 : ¬ (k : Int) < (n : Int) - 1 - (k : Int) := by omega
      have Hz := hid hz
      clear hz
      go_wp2_with fail
      go_end0
      exact ⟨rfl, hb, hC, Hz.out⟩

set_option maxRecDepth 100000 in
set_option maxHeartbeats 1000000 in
theorem putbig_any (w : World) (x many : Nat) (hx : x < 18446744073709551616) (hk : many ≤ 16) :
    Calls Tryz.prog 69 #[U64 x, .int .i64 many] w fun e w' => e = .returned (.slice (some ⟨w.heap.size + 1, 0, none⟩) many many) ∧ Blk w' (w.heap.size + 1) (bys (toBe many x)) tU8 ∧ Below w.heap.size w w' := by
  go_enter Tryz.func69, Tryz.ntmps69
  go_wp2_with fail
  refine (putlittle_any w x many hx hk).mono ?_
  rintro e w2 ⟨rfl, hb2, hB2⟩
  go_wp2_with fail
  refine (reverse_any w2 _ many many (leF many x) _ hb2 (leF_len _ _) (by omega)).mono ?_
  rintro e w3 ⟨rfl, hb3, hC3, _⟩
  go_wp2_with fail
  go_ret
  exact ⟨rfl, hb3, hB2.trans (hC3.below hB2.size (fun k hk => by simp at hk; omega))⟩


theorem add64_run (x y : Nat) (w : World) : (callFunc 214 #[U64 x, U64 y, .int .u64 0]).run Tryz.prog w =
    .ok (.value (.tuple #[U64 ((x + y) % 18446744073709551616), U64 ((x + y) / 18446744073709551616)])) w := by
  rw [run_callFunc_extern Tryz.func214 (by kernel_rfl) (by kernel_rfl) (by kernel_rfl) (e := add64Entry) (by kernel_rfl), run_add64 x y 0 (by omega) (by omega) (by omega) (by omega)]
  simp only [Result.andThen, U64]
  congr 5 <;> omega

set_option maxRecDepth 100000 in
set_option maxHeartbeats 1000000 in
theorem count_any (w : World) (c : List UInt8) (n : Nat) (hc : c.length = 16) (_ : n < 18446744073709551616) :
    Calls Tryz.prog 195 #[.agg (bys c).toArray, U64 n] w fun e w' => e = .returned (.agg (bys (cnt c n)).toArray) ∧ Below w.heap.size w w' := by
  have Hc := hid hc
  clear hc
  have h0 : Blk ((w.alloc (.cells (bys c).toArray tA16)).alloc (.cells (bys z16).toArray tA16)) w.heap.size (bys c) tA16 := (Blk.new w (bys c) tA16).alloc _
  have h1 : Blk ((w.alloc (.cells (bys c).toArray tA16)).alloc (.cells (bys z16).toArray tA16)) (w.heap.size + 1) (bys z16) tA16 := by
    have := Blk.new (w.alloc (.cells (bys c).toArray tA16)) (bys z16) tA16
    simpa using this
  have hB : Below w.heap.size w ((w.alloc (.cells (bys c).toArray tA16)).alloc (.cells (bys z16).toArray tA16)) := ((Below.refl _ _).alloc (Nat.le_refl _) _).alloc (by simp) _
  go_enter Tryz.func195, Tryz.ntmps195
  go_wp2_with fail
  change Calls _ _ _ ((w.alloc (.cells (bys c).toArray tA16)).alloc (.cells (bys z16).toArray tA16)) _
  have hz : ((w.alloc (.cells (bys c).toArray tA16)).alloc (.cells (bys z16).toArray tA16)).heap.size = w.heap.size + 2 := by simp
  generalize ((w.alloc (.cells (bys c).toArray tA16)).alloc (.cells (bys z16).toArray tA16)) = w1 at *
  have hd := hid (cnt_halves c n Hc.out)
  have hlo := be_lt (c.drop 8)
  rw [List.length_drop, Hc.out] at hlo
  have hhi := be_lt (c.take 8)
  rw [List.length_take, Hc.out] at hhi
  refine (big_any w1 _ 8 8 (c.drop 8) ((h0.rowAt 8 8).congr (by rw [List.take_of_length_le]; simp [Hc.out])) (by rw [List.length_drop, Hc.out]) (by omega)).mono ?_
  rintro e w2 ⟨rfl, rfl⟩
  have hadd := add64_run (be (c.drop 8)) n w1
  go_wp2_with fail
  clear hadd
  refine (big_any w1 _ 8 16 (c.take 8) ((h0.rowAt 0 8).congr (by simp)) (by rw [List.length_take, Hc.out]; rfl) (by omega)).mono ?_
  rintro e w2 ⟨rfl, rfl⟩
  obtain ⟨lo, hlo'⟩ : ∃ lo, (be (c.drop 8) + n) % 18446744073709551616 = lo := ⟨_, rfl⟩
  obtain ⟨cy, hcy⟩ : ∃ cy, (be (c.drop 8) + n) / 18446744073709551616 = cy := ⟨_, rfl⟩
  obtain ⟨hi, hhi'⟩ : ∃ hi, (be (c.take 8) + cy) % 18446744073709551616 = hi := ⟨_, rfl⟩
  have hl64 : lo < 18446744073709551616 := by omega
  have hh64 : hi < 18446744073709551616 := by omega
  have hsum : IntKind.u64.wrap ((be (c.take 8) : Int) + (cy : Int)) = (hi : Int) := by rw [IntKind.wrap_u64]; omega
  have hsum2 : ((be (c.take 8) : Int) + (cy : Int)) % 18446744073709551616 = (hi : Int) := by omega
  rw [hcy, hhi', hlo'] at hd
  rw [hlo', hcy]
  clear hlo' hhi' hcy hlo hhi
  generalize be (c.take 8) = bh at *
  go_wp2_with fail
  have h2 : Blk (w1.alloc (.cells (bys z16).toArray tA16)) (w.heap.size + 2) (bys z16) tA16 := by
    have := Blk.new w1 (bys z16) tA16
    rw [hz] at this; exact this
  have hB2 : Below w.heap.size w (w1.alloc (.cells (bys z16).toArray tA16)) := hB.alloc (by omega) _
  have h1a : Blk (w1.alloc (.cells (bys z16).toArray tA16)) (w.heap.size + 1) (bys z16) tA16 := h1.alloc _
  have hz2 : (w1.alloc (.cells (bys z16).toArray tA16)).heap.size = w.heap.size + 3 := by simp [hz]
  change Code.wp _ _ _ _ (w1.alloc (.cells (bys z16).toArray tA16))
  generalize w1.alloc (.cells (bys z16).toArray tA16) = w2 at *
  clear h0 h1 hB hz hsum hsum2
  try simp only [Act.put]
  refine tkR (fun _ => True) [] (by kernel_rfl) (fun c a d v w h => by cases d <;> exact h) (trivial) (fun hPF hHeld => ?_)
  refine tkB 0 (.some 20) _ _ rfl rfl (by kernel_rfl) (by kernel_rfl) (by kernel_rfl) (by kernel_rfl) hPF rfl (fun w' => by (go_simp; try with_reducible rfl)) hHeld (fun hHeld => ?_)
  simp only [Act.put, List.setIfInBounds_toArray, List.set_cons_zero, List.set_cons_succ]
  refine tkB 1 (.some 21) _ _ rfl rfl (by kernel_rfl) (by kernel_rfl) (by kernel_rfl) (by kernel_rfl) hPF rfl (fun w' => by (go_simp; try with_reducible rfl)) hHeld (fun hHeld => ?_)
  simp only [Act.put, List.setIfInBounds_toArray, List.set_cons_zero, List.set_cons_succ]
  have hS := hHeld (by kernel_rfl)
  refine tkW (rs := [2]) (by kernel_rfl) (by simp) (AllK.cons (o := _) rfl (fun KC hKC => ?_) AllK.nil)
  go_simp
  refine (putbig_any _ hi 8 hh64 (by omega)).mono ?_
  rintro e w3 ⟨rfl, hp3, hB3⟩
  have h2b := (h2.drew).below hB3 (by have := h2.lt; simpa using this)
  have h1b := (h1a.drew).below hB3 (by have := h1a.lt; simpa using this)
  have hBb := (hB2.drew).trans (hB3.mono hB2.size)
  clear hB3 hB2 h1a h2
  refine hKC.out _ _ (trivial) (fun hHeld => ?_)
  clear hKC KC
  try simp only [Act.put, List.setIfInBounds_toArray, List.set_cons_zero, List.set_cons_succ]
  have hS := hHeld (by kernel_rfl)
  refine tkW (rs := [3]) (by kernel_rfl) (by simp) (AllK.cons (o := _) rfl (fun KC hKC => ?_) AllK.nil)
  refine wantIt rfl (wp_copy_blk (.some 23) rfl (.tmp 20) (.tmp 22) 23 23 rfl 5 under33b (by kernel_rfl) (w.heap.size + 2) 0 16 16 (w2.drew.heap.size + 1) 0 8 8 rfl rfl (bys z16) (bys (toBe 8 hi)) tA16 tU8 h2b hp3 8 rfl (by decide) (by rw [bys_length, toBe_len]; decide) (bys_one _) ?_)
  intro w4 h2c hC4 hs4
  refine hKC.out _ _ (trivial) (fun hHeld => ?_)
  clear hKC KC
  try simp only [Act.put, List.setIfInBounds_toArray, List.set_cons_zero, List.set_cons_succ]
  refine tkD (by kernel_rfl) ?_ _
  have h2d : Blk w4 (w.heap.size + 2) (bys (toBe 8 hi ++ List.replicate 8 0)) tA16 := by
    have e : splice (bys z16) 0 ((List.drop 0 (bys (toBe 8 hi))).take 8) = bys (toBe 8 hi ++ List.replicate 8 0) := by
      have hl := toBe_len 8 hi
      simp only [splice, List.drop_zero]
      rw [show (bys (toBe 8 hi)).take 8 = bys (toBe 8 hi) from List.take_of_length_le (by rw [bys_length, hl]; exact Nat.le_refl _), bys_length, hl]
      simp [bys, z16]
    rw [← e]; exact h2c
  have hne : w.heap.size + 1 ≠ w.heap.size + 2 := by omega
  have h1c := h1b.chg hC4 h1b.lt (by simp)
  have hBc := hBb.trans (hC4.below (M := w.heap.size) hBb.size (fun k hk => by simp at hk; omega))
  clear h2c hC4 hs4 h1b hBb h2b hp3
  go_wp2_with fail
  try simp only [Act.put]
  refine tkR (fun _ => True) [] (by kernel_rfl) (fun c a d v w h => by cases d <;> exact h) (trivial) (fun hPF hHeld => ?_)
  refine tkB 0 (.some 24) _ _ rfl rfl (by kernel_rfl) (by kernel_rfl) (by kernel_rfl) (by kernel_rfl) hPF rfl (fun w' => by (go_simp; try with_reducible rfl)) hHeld (fun hHeld => ?_)
  simp only [Act.put, List.setIfInBounds_toArray, List.set_cons_zero, List.set_cons_succ]
  refine tkB 1 (.some 25) _ _ rfl rfl (by kernel_rfl) (by kernel_rfl) (by kernel_rfl) (by kernel_rfl) hPF rfl (fun w' => by (go_simp; try with_reducible rfl)) hHeld (fun hHeld => ?_)
  simp only [Act.put, List.setIfInBounds_toArray, List.set_cons_zero, List.set_cons_succ]
  have hS := hHeld (by kernel_rfl)
  refine tkW (rs := [2]) (by kernel_rfl) (by simp) (AllK.cons (o := _) rfl (fun KC hKC => ?_) AllK.nil)
  go_simp
  refine (putbig_any _ lo 8 hl64 (by omega)).mono ?_
  rintro e w5 ⟨rfl, hp3, hB3⟩
  have h2b := (h2d.drew).below hB3 (by have := h2d.lt; simpa using this)
  have h1b := (h1c.drew).below hB3 (by have := h1c.lt; simpa using this)
  have hBb := (hBc.drew).trans (hB3.mono hBc.size)
  clear hB3 h2d h1c hBc
  refine hKC.out _ _ (trivial) (fun hHeld => ?_)
  clear hKC KC
  try simp only [Act.put, List.setIfInBounds_toArray, List.set_cons_zero, List.set_cons_succ]
  have hS := hHeld (by kernel_rfl)
  refine tkW (rs := [3]) (by kernel_rfl) (by simp) (AllK.cons (o := _) rfl (fun KC hKC => ?_) AllK.nil)
  refine wantIt rfl (wp_copy_blk (.some 27) rfl (.tmp 24) (.tmp 26) 23 23 rfl 5 under33b (by kernel_rfl) (w.heap.size + 2) 8 8 8 (w4.drew.heap.size + 1) 0 8 8 rfl rfl (bys (toBe 8 hi ++ List.replicate 8 0)) (bys (toBe 8 lo)) tA16 tU8 h2b hp3 8 rfl (by rw [bys_length, List.length_append, toBe_len]; decide) (by rw [bys_length, toBe_len]; decide) (bys_one _) ?_)
  intro w6 h2c hC4 hs4
  refine hKC.out _ _ (trivial) (fun hHeld => ?_)
  clear hKC KC
  try simp only [Act.put, List.setIfInBounds_toArray, List.set_cons_zero, List.set_cons_succ]
  refine tkD (by kernel_rfl) ?_ _
  have h2d : Blk w6 (w.heap.size + 2) (bys (cnt c n)) tA16 := by
    have e : splice (bys (toBe 8 hi ++ List.replicate 8 0)) 8 ((List.drop 0 (bys (toBe 8 lo))).take 8) = bys (cnt c n) := by
      have hl := toBe_len 8 lo
      have hh := toBe_len 8 hi
      rw [hd.out]
      simp only [splice, List.drop_zero]
      rw [show (bys (toBe 8 lo)).take 8 = bys (toBe 8 lo) from List.take_of_length_le (by rw [bys_length, hl]; exact Nat.le_refl _), bys_length, hl]
      simp [bys, hh]
    rw [← e]; exact h2c
  have h1c := h1b.chg hC4 h1b.lt (by simp)
  have hBd := hBb.trans (hC4.below (M := w.heap.size) hBb.size (fun k hk => by simp at hk; omega))
  clear h2c hC4 hs4 h1b hBb h2b hp3
  have hcl := cnt_len c n
  obtain ⟨q, hq⟩ : ∃ q, cnt c n = q := ⟨_, rfl⟩
  rw [hq] at hcl h2d
  have Hq := hid hq
  clear hd hq
  have hsz : (Tryz.prog.info? 100).map (·.size) = some (bys q).length := by rw [size54, bys_length, hcl]
  go_wp2_with (first | (refine wpList_load_mid rfl 100 (.tmp 8) rfl (w.heap.size + 2) 0 rfl (bys q) _ h2d.whole under54 rfl hsz ?_) | (refine wpList_store_mid rfl 100 (.tmp 4) (.tmp 28) rfl (w.heap.size + 1) 0 (bys q).toArray rfl rfl (h1c.there 0 _ (by rw [List.size_toArray, bys_length, bys_length, hcl]; decide)) (by rw [size54, List.size_toArray, bys_length, hcl]) (all_oneCell_toArray (bys_one _)) ?_))
  have h1d := h1c.setCells (bys q) 0 (by rw [bys_length, bys_length, hcl]; decide)
  rw [splice_whole _ _ (by rw [bys_length, bys_length, hcl]; rfl)] at h1d
  refine bodyPost_ret (v := .agg (bys q).toArray) (results_cell_row (P := Tryz.prog) (p := 4) (ty := 100) rfl _ _ (w.heap.size + 1) tA16 _ (0, 0) _ rfl h1d under54 rfl (by rw [size54, List.size_toArray, bys_length, hcl])) rfl ⟨by rw [Hq.out], ?_⟩
  exact hBd.trans (((Chg.refl (w.heap.size) [] w6).setCells (.inr (by omega)) _ _).below (Nat.le_refl _) (by simp))
end Go.Proofs.YtnmmnlffobnbfaaGreatDoor

/- one byte more at an own row's end -/
namespace Go.Proofs.YtnmmnlffobnbfaaGreatDoor
open Go.RowKit

/-- An own row of bytes, in a block of number base or above. -/
def OwnR (base : Nat) (w : World) (v : Value) (l : List UInt8) : Prop := w.ownsRow base 5 1 v l.length (bys l)
theorem OwnR.nil (base : Nat) (w : World) : OwnR base w (.slice none 0 0) [] := World.ownsRow_nil _ _ _ _
theorem OwnR.row {base : Nat} {w : World} {v : Value} {l : List UInt8} (h : OwnR base w v l) : ∃ pa cap, v = .slice pa l.length cap ∧ l.length ≤ cap ∧ RowAt w pa l := own_rowAt h
theorem OwnR.lt {base : Nat} {w : World} {v : Value} {l : List UInt8} (h : OwnR base w v l) (b : Nat) (e : v.ownBlock = some b) : base ≤ b ∧ b < w.heap.size := World.ownsRow.lt h b e
theorem OwnR.kept {base : Nat} {w w' : World} {v : Value} {l : List UInt8} {row : Option Nat} (h : OwnR base w v l) (hg : w.grownBy w' row) (hne : v.ownBlock ≠ row ∨ v.ownBlock = none) : OwnR base w' v l := by
  refine ⟨h.1, ?_⟩
  rcases h.2 with hn | ⟨g, cap, cur, hv, hb, hc, rest⟩
  · exact .inl hn
  · have hg0 : v.ownBlock = some g := by rw [hv]; rfl
    refine .inr ⟨g, cap, cur, hv, hb, ?_, rest⟩
    have hlt : g < w.heap.size := (World.ownsRow.lt h g hg0).2
    rw [hg.block g hlt (fun e => by rcases hne with hne | hne <;> simp_all), hc]
theorem OwnR.chg {base N : Nat} {F : List Nat} {w w' : World} {v : Value} {l : List UInt8} (h : OwnR base w v l) (hc : Chg N F w w') (hN : w.heap.size ≤ N) (hF : ∀ b, v.ownBlock = some b → b ∉ F) : OwnR base w' v l := by
  refine ⟨h.1, ?_⟩
  rcases h.2 with hn | ⟨g, cap, cur, hv, hb, hh, rest⟩
  · exact .inl hn
  · have hg0 : v.ownBlock = some g := by rw [hv]; rfl
    refine .inr ⟨g, cap, cur, hv, hb, ?_, rest⟩
    have hlt : g < w.heap.size := (World.ownsRow.lt h g hg0).2
    rw [hc.block g (by omega) (hF g hg0), hh]
theorem OwnR.below {base : Nat} {w w' : World} {v : Value} {l : List UInt8} (h : OwnR base w v l) (hb : Below w.heap.size w w') : OwnR base w' v l :=
  h.chg (F := []) (Chg.ofBelow hb) (Nat.le_refl _) (fun _ _ => by simp)
/-- An own row that is not empty: its block. -/
theorem OwnR.blk {base : Nat} {w : World} {v : Value} {l : List UInt8} (h : OwnR base w v l) (hl : 0 < l.length) : ∃ g cap rest, v = .slice (some ⟨g, 0, none⟩) l.length cap ∧ l.length ≤ cap ∧ base ≤ g ∧ Blk w g (bys l ++ rest) tU8 := by
  rcases h.2 with ⟨_, h0⟩ | ⟨g, cap, cur, hv, hb, hh, hc, _, _, ht⟩
  · omega
  · refine ⟨g, cap, cur.toList.drop l.length, hv, hc, hb, ?_⟩
    rw [Nat.mul_one] at ht
    unfold Blk
    rw [← ht, List.take_append_drop]
    simpa using hh
theorem bys_setAt (l : List UInt8) (rest : List Value) (i : Nat) (x : UInt8) (h : i < l.length) : (bys l ++ rest).set i (.int .u8 (bv x)) = bys (l.set i x) ++ rest := by
  rw [List.set_append_left _ _ (by rw [bys_length]; exact h), bys_set]
theorem Blk.headRow {w : World} {g : Nat} {l : List UInt8} {rest : List Value} {T : TypeId} (h : Blk w g (bys l ++ rest) T) : RowAt w (some ⟨g, 0, none⟩) l := fun k hk => by
  refine ⟨g, 0, rfl, h.lt, ?_⟩
  rw [Nat.zero_add, h.cell, List.getElem?_append_left (by rw [bys_length]; exact hk), bys_get l k hk]
theorem Blk.headCell {w : World} {g : Nat} {l : List UInt8} {rest : List Value} {T : TypeId} (h : Blk w g (bys l ++ rest) T) (k : Nat) (hk : k < l.length) : w.cell? ⟨g, k, none⟩ = some (.int .u8 (bv (l.getD k 0))) := by
  rw [h.cell, List.getElem?_append_left (by rw [bys_length]; exact hk), bys_get l k hk]
theorem OwnR.made (w : World) : OwnR w.heap.size (w.alloc (.cells #[] 5)) (.slice (some ⟨w.heap.size, 0, none⟩) 0 0) [] :=
  World.ownsRow_made w #[] 0 (e := 5) (size := 1) (base := w.heap.size) (Nat.le_refl _) (by unfold maxLen; omega) (by simp)
theorem OwnR.typ {base : Nat} {w : World} {v : Value} {l : List UInt8} (h : OwnR base w v l) (j : Nat) (e : v.ownBlock = some j) : ∃ cs, Blk w j cs tU8 := by
  rcases h.2 with ⟨hv, _⟩ | ⟨g, cap, cur, hv, _, hh, _⟩
  · rw [hv] at e; cases e
  · rw [hv] at e; cases e
    exact ⟨cur.toList, by unfold Blk; simpa using hh⟩
theorem OwnR.drew {base : Nat} {w : World} {v : Value} {l : List UInt8} (h : OwnR base w v l) : OwnR base w.drew v l := h
theorem OwnR.mono {base base' : Nat} {w : World} {v : Value} {l : List UInt8} (h : OwnR base w v l) (hb : base' ≤ base) : OwnR base' w v l := by
  refine ⟨h.1, ?_⟩
  rcases h.2 with hn | ⟨g, cap, cur, hv, hb', rest⟩
  · exact .inl hn
  · exact .inr ⟨g, cap, cur, hv, by omega, rest⟩
theorem grown_of_alloc {w w' : World} {o : Obj} {row : Option Nat} (h : (w.alloc o).grownBy w' row) (_ : ∀ k, row = some k → k < w.heap.size) : w.grownBy w' row := by
  refine ⟨h.os, h.tape, h.output, by have := h.size; simp at this; omega, fun k hk hne => ?_⟩
  rw [h.block k (by simp; omega) hne, Below.heap_alloc _ _ _ hk]
theorem Chg.grown {N : Nat} {F : List Nat} {a w w' : World} {row : Option Nat} (h : Chg N F a w) (hg : w.grownBy w' row) (hN : N ≤ w.heap.size) (hr : ∀ k, row = some k → k ∈ F ∨ N ≤ k) : Chg N F a w' :=
  h.trans ⟨hg.os, hg.tape, hg.output, hg.size, fun k hk hf => hg.block k (by omega) (fun e => (hr k e.symm).elim (fun h => hf h) (fun h => by omega))⟩
theorem Blk.kept {w w' : World} {b : Nat} {cs : List Value} {T : TypeId} {row : Option Nat} (h : Blk w b cs T) (hg : w.grownBy w' row) (hne : row ≠ some b) : Blk w' b cs T := by
  have := h.lt
  unfold Blk at *
  rw [hg.block b this (fun e => hne e.symm), h]
theorem RowAt.kept {w w' : World} {pa : Option Addr} {X : List UInt8} {row : Option Nat} (h : RowAt w pa X) (hg : w.grownBy w' row) (hne : ∀ k, row = some k → Off [k] pa) : RowAt w' pa X := fun k hk => by
  obtain ⟨b, o, h1, h2, h3⟩ := h k hk
  refine ⟨b, o, h1, Nat.lt_of_lt_of_le h2 hg.size, ?_⟩
  have hb := hg.block b h2 (fun e => by have := hne b e.symm _ h1; simp at this)
  have e : w'.cell? ⟨b, o + k, none⟩ = w.cell? ⟨b, o + k, none⟩ := by simp [World.cell?, hb]
  rw [e]; exact h3
theorem RowAt.kept2 {w w' : World} {pa : Option Addr} {X : List UInt8} {row : Option Nat} (h : RowAt w pa X) (hg : w.grownBy w' row) (hne : X ≠ [] → ∀ k, row = some k → Off [k] pa) : RowAt w' pa X := by
  by_cases hX : X = []
  · subst hX; exact RowAt.nil _ _
  · exact h.kept hg (hne hX)
theorem RowAt.chg2 {w w' : World} {pa : Option Addr} {X : List UInt8} {F : List Nat} {N : Nat} (h : RowAt w pa X) (hc : Chg N F w w') (hN : w.heap.size ≤ N) (hF : 0 < X.length → Off F pa) : RowAt w' pa X := by
  by_cases hX : X = []
  · subst hX; exact RowAt.nil _ _
  · exact h.chg hc hN (hF (List.length_pos_iff.2 hX))
theorem RowAt.pos {w : World} {pa : Option Addr} {X : List UInt8} (h : RowAt w pa X) (hX : 0 < X.length) : ∀ a, pa = some a → a.block < w.heap.size := fun a e => by
  obtain ⟨b, o, e', hb, _⟩ := h 0 hX
  rw [e'] at e; cases e; exact hb
/-- An append of one byte to an own row. -/
theorem wpList_push {ops : Array Oper} {rest : List Oper} {o : Oper} {a : Act} {Q : Exit → Act → World → Prop} {w : World} (hgd : o.guard = none) (s x : Operand)
    (ho : o.op = .call { callee := .builtin .append, args := #[s, x], argTypes := #[23, 23] }) (base : Nat)
    (v : Value) (xs : List UInt8) (hs : a.eval s = v) (hown : OwnR base w v xs) (y : UInt8) (hx : a.eval x = .slice (some ⟨w.heap.size, 0, none⟩) 1 1) (hb : xs.length < 140737488355328) (hbase : base ≤ w.heap.size)
    (h : ∀ v' w', OwnR base w' v' (xs ++ [y]) → w.grownBy w' v.ownBlock → (v'.ownBlock = v.ownBlock ∨ v'.ownBlock = some (w.heap.size + 1)) → wpList Tryz.prog ops Q rest (a.put o.dst v') w') :
    wpList Tryz.prog ops Q (o :: rest) a (w.alloc (.cells #[.int .u8 (bv y)] 5)) := by
  have hn := Blk.new w (bys [y]) tU8
  refine wpList_append_rows hgd s x ho base v xs.length (bys xs) hs (World.ownsRow.alloc hown _) (some ⟨w.heap.size, 0, none⟩) 1 1 [y] hx hn.rowAt0 rfl (by omega) (by simp; omega) fun v' w' h1 h2 h3 => ?_
  refine h v' w' ?_ (grown_of_alloc h2 (fun k e => (OwnR.lt hown k e).2)) (by simpa using h3)
  unfold OwnR
  rw [List.length_append]
  simpa [bys] using h1
theorem wp_push {o : Oper} {a : Act} {K : Act → World → Prop} {Q : Exit → Act → World → Prop} {w : World} (dd : Option Tmp) (hdd : o.dst = dd) (s x : Operand)
    (ho : o.op = .call { callee := .builtin .append, args := #[s, x], argTypes := #[23, 23] }) (base : Nat)
    (v : Value) (xs : List UInt8) (hs : a.eval s = v) (hown : OwnR base w v xs) (y : UInt8) (hx : a.eval x = .slice (some ⟨w.heap.size, 0, none⟩) 1 1) (hb : xs.length < 140737488355328) (hbase : base ≤ w.heap.size)
    (h : ∀ v' w', OwnR base w' v' (xs ++ [y]) → w.grownBy w' v.ownBlock → (v'.ownBlock = v.ownBlock ∨ v'.ownBlock = some (w.heap.size + 1)) → K (a.put dd v') w') :
    Oper.wp Tryz.prog o a (w.alloc (.cells #[.int .u8 (bv y)] 5)) K Q := by
  have hn := Blk.new w (bys [y]) tU8
  refine wp_append_rows dd hdd s x ho base v xs.length (bys xs) hs (World.ownsRow.alloc hown _) (some ⟨w.heap.size, 0, none⟩) 1 1 [y] hx hn.rowAt0 rfl (by omega) (by simp; omega) fun v' w' h1 h2 h3 => ?_
  refine h v' w' ?_ (grown_of_alloc h2 (fun k e => (OwnR.lt hown k e).2)) (by simpa using h3)
  unfold OwnR
  rw [List.length_append]
  simpa [bys] using h1
/-- An append of a row to an own row. -/
theorem wpList_add {ops : Array Oper} {rest : List Oper} {o : Oper} {a : Act} {Q : Exit → Act → World → Prop} {w : World} (hgd : o.guard = none) (s x : Operand)
    (ho : o.op = .call { callee := .builtin .append, args := #[s, x], argTypes := #[23, 23] }) (base : Nat)
    (v : Value) (xs : List UInt8) (hs : a.eval s = v) (hown : OwnR base w v xs) (pa : Option Addr) (m c : Nat) (Y : List UInt8) (hx : a.eval x = .slice pa m c) (hY : RowAt w pa Y) (hm : Y.length = m) (hb : xs.length + m ≤ 140737488355328) (hbase : base ≤ w.heap.size)
    (h : ∀ v' w', OwnR base w' v' (xs ++ Y) → w.grownBy w' v.ownBlock → (v'.ownBlock = v.ownBlock ∨ v'.ownBlock = some w.heap.size) → wpList Tryz.prog ops Q rest (a.put o.dst v') w') :
    wpList Tryz.prog ops Q (o :: rest) a w := by
  refine wpList_append_rows hgd s x ho base v xs.length (bys xs) hs hown pa m c Y hx hY hm hb hbase fun v' w' h1 h2 h3 => h v' w' ?_ h2 h3
  unfold OwnR
  rw [List.length_append, hm]
  simpa [bys] using h1
theorem wpList_addO {ops : Array Oper} {rest : List Oper} {o : Oper} {a : Act} {Q : Exit → Act → World → Prop} {w : World} {base : Nat} {v : Value} {xs : List UInt8} (hown : OwnR base w v xs) (hgd : o.guard = none) (s x : Operand)
    (ho : o.op = .call { callee := .builtin .append, args := #[s, x], argTypes := #[23, 23] })
    (hs : a.eval s = v) (pa : Option Addr) (m c : Nat) (Y : List UInt8) (hx : a.eval x = .slice pa m c) (hY : RowAt w pa Y) (hm : Y.length = m) (hb : xs.length + m ≤ 140737488355328) (hbase : base ≤ w.heap.size)
    (h : ∀ v' w', OwnR base w' v' (xs ++ Y) → w.grownBy w' v.ownBlock → (v'.ownBlock = v.ownBlock ∨ v'.ownBlock = some w.heap.size) → wpList Tryz.prog ops Q rest (a.put o.dst v') w') :
    wpList Tryz.prog ops Q (o :: rest) a w := wpList_add hgd s x ho base v xs hs hown pa m c Y hx hY hm hb hbase h
theorem wp_add {o : Oper} {a : Act} {K : Act → World → Prop} {Q : Exit → Act → World → Prop} {w : World} (dd : Option Tmp) (hdd : o.dst = dd) (s x : Operand)
    (ho : o.op = .call { callee := .builtin .append, args := #[s, x], argTypes := #[23, 23] }) (base : Nat)
    (v : Value) (xs : List UInt8) (hs : a.eval s = v) (hown : OwnR base w v xs) (pa : Option Addr) (m c : Nat) (Y : List UInt8) (hx : a.eval x = .slice pa m c) (hY : RowAt w pa Y) (hm : Y.length = m) (hb : xs.length + m ≤ 140737488355328) (hbase : base ≤ w.heap.size)
    (h : ∀ v' w', OwnR base w' v' (xs ++ Y) → w.grownBy w' v.ownBlock → (v'.ownBlock = v.ownBlock ∨ v'.ownBlock = some w.heap.size) → K (a.put dd v') w') :
    Oper.wp Tryz.prog o a w K Q := by
  refine wp_append_rows dd hdd s x ho base v xs.length (bys xs) hs hown pa m c Y hx hY hm hb hbase fun v' w' h1 h2 h3 => h v' w' ?_ h2 h3
  unfold OwnR
  rw [List.length_append, hm]
  simpa [bys] using h1
end Go.Proofs.YtnmmnlffobnbfaaGreatDoor
