/- sess: what handles were told, what were closed: the plain law -/
import Derived.Test.YtoffpchabpfhkaaTb5
namespace Go.Proofs.Ytoffpchabpfhkaa

theorem num_inj {n j q j' q' : Nat} (hj : j < n) (hj' : j' < n) (h : 1 + j + n * q = 1 + j' + n * q') : j = j' ∧ q = q' := by
  have e : j + n * q = j' + n * q' := by omega
  have h1 : (j + n * q) % n = j := by rw [Nat.add_mul_mod_self_left, Nat.mod_eq_of_lt hj]
  have h2 : (j' + n * q') % n = j' := by rw [Nat.add_mul_mod_self_left, Nat.mod_eq_of_lt hj']
  have h3 : j = j' := by rw [← h1, e, h2]
  subst h3
  have : n * q = n * q' := by omega
  exact ⟨rfl, Nat.eq_of_mul_eq_mul_left (by omega) this⟩
/-- How often place j was closed; is it open? -/
abbrev cl (st : List Pl) (j : Nat) : Nat := (st.getD j (false, 0)).2
abbrev op (st : List Pl) (j : Nat) : Bool := (st.getD j (false, 0)).1
def isTold (st : List Pl) (n : Nat) (h : Int) : Prop := ∃ j q, j < n ∧ h = ((1 + j + n * q : Nat) : Int) ∧ (q < cl st j ∨ q = cl st j ∧ op st j = true)
def isGone (st : List Pl) (n : Nat) (h : Int) : Prop := ∃ j q, j < n ∧ h = ((1 + j + n * q : Nat) : Int) ∧ q < cl st j
structure Inv (st : List Pl) (n : Nat) (told gone : List Int) : Prop where
  len : st.length = n
  t : ∀ h ∈ told, isTold st n h
  g : ∀ h ∈ gone, isGone st n h
  cnt : (hands st n).length + gone.length = told.length

theorem hands_set_le (st : List Pl) (k m : Nat) (p : Pl) (h : m ≤ k) : (hands (st.set k p) m).length = (hands st m).length := by
  induction m with
  | zero => rfl
  | succ m ih =>
    unfold hands
    rw [getD_set_ne st k m (by omega)]
    split
    · rw [List.length_append, List.length_append, ih (by omega)]; rfl
    · exact ih (by omega)
theorem hands_set_gt (st : List Pl) (k m : Nat) (p : Pl) (hk : k < st.length) (h : k < m) : (hands (st.set k p) m).length + (if op st k = true then 1 else 0) = (hands st m).length + (if p.1 = true then 1 else 0) := by
  induction m with
  | zero => omega
  | succ m ih =>
    by_cases e : m = k
    · subst e
      have h1 := hands_set_le st m m p (Nat.le_refl _)
      unfold hands
      rw [getD_set_eq st m hk]
      split <;> split <;> simp_all
    · have h1 := ih (by omega)
      unfold hands
      rw [getD_set_ne st k m e]
      split
      · rw [List.length_append, List.length_append]; simp only [List.length_singleton]; omega
      · exact h1
theorem hnum_eq (st : List Pl) (n k : Nat) (h : st.length = n) : hnum st k = ((1 + k + n * cl st k : Nat) : Int) := by unfold hnum; rw [h]

theorem Inv.opened {st : List Pl} {n k : Nat} {told gone : List Int} (h : Inv st n told gone) (hk : k < n) (hf : op st k = false) :
    hnum st k ∉ told ∧ Inv (st.set k (true, cl st k)) n (told ++ [hnum st k]) gone := by
  have hks : k < st.length := by rw [h.len]; exact hk
  have hcl : ∀ j, cl (st.set k (true, cl st k)) j = cl st j := fun j => by
    unfold cl
    by_cases e : j = k
    · subst e; rw [getD_set_eq st j hks]
    · rw [getD_set_ne st k j e]
  have hop : ∀ j, op st j = true → op (st.set k (true, cl st k)) j = true := fun j hj => by
    unfold op
    by_cases e : j = k
    · subst e; rw [getD_set_eq st j hks]
    · rw [getD_set_ne st k j e]; exact hj
  refine ⟨fun hm => ?_, ⟨by rw [List.length_set, h.len], fun x hx => ?_, fun x hx => ?_, ?_⟩⟩
  · obtain ⟨j, q, hj, e, hq⟩ := h.t _ hm
    rw [hnum_eq st n k h.len] at e
    have e' : 1 + k + n * cl st k = 1 + j + n * q := Int.ofNat.inj e
    obtain ⟨rfl, rfl⟩ := num_inj hk hj e'
    rcases hq with hq | ⟨_, hq⟩
    · omega
    · rw [hf] at hq; exact Bool.noConfusion hq
  · rw [List.mem_append] at hx
    rcases hx with hx | hx
    · obtain ⟨j, q, hj, e, hq⟩ := h.t _ hx
      refine ⟨j, q, hj, e, ?_⟩
      rw [hcl]
      exact hq.imp id fun a => ⟨a.1, hop j a.2⟩
    · rw [List.mem_singleton] at hx
      refine ⟨k, cl st k, hk, by rw [hx, hnum_eq st n k h.len], .inr ⟨(hcl k).symm, ?_⟩⟩
      unfold op; rw [getD_set_eq st k hks]
  · obtain ⟨j, q, hj, e, hq⟩ := h.g _ hx
    exact ⟨j, q, hj, e, by rw [hcl]; exact hq⟩
  · have h1 := hands_set_gt st k n (true, cl st k) hks hk
    rw [hf] at h1
    have h2 := h.cnt
    simp at h1 ⊢
    omega
theorem lookF_some {st : List Pl} {n i : Nat} {h : Int} (hl : st.length = n) (hn : 0 < n) (e : lookF st h = some i) : i < n ∧ op st i = true ∧ h = hnum st i := by
  have hi := lookF_lt st h i (by omega) e
  unfold lookF at e
  split at e
  · cases e
  · split at e
    · rename_i hh
      cases e
      exact ⟨by omega, hh.1, hh.2.symm⟩
    · cases e
theorem Inv.closed {st : List Pl} {n i : Nat} {told gone : List Int} {h : Int} (hI : Inv st n told gone) (hn : 0 < n) (e : lookF st h = some i) :
    Inv (st.set i (false, cl st i + 1)) n told (gone ++ [h]) := by
  obtain ⟨hi, ho, rfl⟩ := lookF_some hI.len hn e
  have his : i < st.length := by rw [hI.len]; exact hi
  have hcl : ∀ j, cl (st.set i (false, cl st i + 1)) j = if j = i then cl st i + 1 else cl st j := fun j => by
    unfold cl
    by_cases e : j = i
    · subst e; rw [getD_set_eq st j his, if_pos rfl]
    · rw [getD_set_ne st i j e, if_neg e]
  refine ⟨by rw [List.length_set, hI.len], fun x hx => ?_, fun x hx => ?_, ?_⟩
  · obtain ⟨j, q, hj, e, hq⟩ := hI.t _ hx
    refine ⟨j, q, hj, e, ?_⟩
    rw [hcl]
    by_cases e : j = i
    · subst e; rw [if_pos rfl]; left; omega
    · rw [if_neg e]
      refine hq.imp id fun a => ⟨a.1, ?_⟩
      unfold op; rw [getD_set_ne st i j e]; exact a.2
  · rw [List.mem_append] at hx
    rcases hx with hx | hx
    · obtain ⟨j, q, hj, e, hq⟩ := hI.g _ hx
      refine ⟨j, q, hj, e, ?_⟩
      rw [hcl]
      split
      · rename_i hh; subst hh; omega
      · exact hq
    · rw [List.mem_singleton] at hx
      refine ⟨i, cl st i, hi, by rw [hx, hnum_eq st n i hI.len], ?_⟩
      rw [hcl, if_pos rfl]; omega
  · have h1 := hands_set_gt st i n (false, cl st i + 1) his hi
    rw [ho] at h1
    have h2 := hI.cnt
    simp at h1 ⊢
    omega
theorem Inv.stale {st : List Pl} {n : Nat} {told gone : List Int} {h : Int} (hI : Inv st n told gone) (hn : 0 < n) (hg : h ∈ gone) : lookF st h = none := by
  obtain ⟨r, hr⟩ : ∃ r, lookF st h = r := ⟨_, rfl⟩
  cases r with
  | none => exact hr
  | some i =>
    obtain ⟨hi, ho, e⟩ := lookF_some hI.len hn hr
    obtain ⟨j, q, hj, e2, hq⟩ := hI.g _ hg
    rw [hnum_eq st n i hI.len] at e
    have e' : 1 + i + n * cl st i = 1 + j + n * q := Int.ofNat.inj (e.symm.trans e2)
    obtain ⟨rfl, rfl⟩ := num_inj hi hj e'
    omega
end Go.Proofs.Ytoffpchabpfhkaa
