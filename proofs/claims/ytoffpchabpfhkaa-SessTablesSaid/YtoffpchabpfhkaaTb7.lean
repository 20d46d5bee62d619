/- sess: handle of the law -/
import Derived.Test.YtoffpchabpfhkaaTb6
namespace Go.Proofs.Ytoffpchabpfhkaa
open Go.RowKit

set_option maxRecDepth 100000 in
set_option maxHeartbeats 2000000 in
theorem hand_any (w : World) (x : ActV) (pa : Option Addr) (told : List Int) (cap : Nat) (ht : IntsAt w pa told) (hn : told.length ≤ 1000) (hx : -9223372036854775808 ≤ x.h ∧ x.h ≤ 9223372036854775807) :
    Calls Try.prog 18 #[.agg (actc x).toArray, .slice pa told.length cap] w fun e w' => e = .returned (.int .i64 (handF x told)) ∧ Below w.heap.size w w' := by
  obtain ⟨what, h, nth, alg, ka, kn, kc⟩ := x
  dsimp only at hx
  have hB : Below w.heap.size w (w.alloc (.cells (actc ⟨what, h, nth, alg, ka, kn, kc⟩).toArray 35)) := (Below.refl _ _).alloc (Nat.le_refl _) _
  have hbk := Blk.new w (actc ⟨what, h, nth, alg, ka, kn, kc⟩) 35
  have c1 := hbk.cell 1
  have c2 := hbk.cell 2
  simp only [show (actc ⟨what, h, nth, alg, ka, kn, kc⟩)[1]? = some (.int .i64 h) from rfl] at c1
  simp only [show (actc ⟨what, h, nth, alg, ka, kn, kc⟩)[2]? = some (.bool nth) from rfl] at c2
  clear hbk
  by_cases hc : nth = false ∨ told = []
  · have HF := hid (show handF ⟨what, h, nth, alg, ka, kn, kc⟩ told = h by unfold handF; rw [if_pos hc])
    by_cases hnf : nth = false
    · subst hnf
      clear hc
      go_enter Try.func18, Try.ntmps18
      go_wp2_with fail
      go_ret
      exact ⟨by rw [HF.out]; rfl, hB⟩
    · have hnt : nth = true := by simpa using hnf
      obtain rfl : told = [] := by rcases hc with hc | hc; · exact absurd hc hnf
                                   · exact hc
      subst hnt
      go_enter Try.func18, Try.ntmps18
      go_wp2_with fail
      go_ret
      exact ⟨by rw [HF.out]; rfl, hB⟩
  · have hnt : nth = true := by
      cases nth
      · exact absurd (.inl rfl) hc
      · rfl
    have htn : told ≠ [] := fun e => hc (.inr e)
    have hlp : 0 < told.length := List.length_pos_iff.2 htn
    subst hnt
    have HF := hid (show handF ⟨what, h, true, alg, ka, kn, kc⟩ told = told.getD (((h.tmod told.length) + told.length).tmod told.length).toNat 0 by unfold handF; rw [if_neg hc])
    have hr1 : -(told.length : Int) < h.tmod told.length := by have := Int.lt_tmod_of_pos h (show (0 : Int) < told.length by omega); omega
    have hr2 : h.tmod told.length < told.length := Int.tmod_lt_of_pos h (by omega)
    have hl0 : ((told.length : Int) == 0) = false := by rw [beq_eq_false_iff_ne]; omega
    obtain ⟨r, hr⟩ : ∃ r, h.tmod (told.length : Int) = r := ⟨_, rfl⟩
    rw [hr] at hr1 hr2 HF
    have hs1 : 0 ≤ (r + told.length).tmod told.length := Int.tmod_nonneg _ (by omega)
    have hs2 : (r + told.length).tmod told.length < told.length := Int.tmod_lt_of_pos _ (by omega)
    have hw : wrap64 (r + told.length) = r + told.length := by unfold wrap64; omega
    obtain ⟨s, hs⟩ : ∃ s : Nat, (r + (told.length : Int)).tmod told.length = s := ⟨((r + (told.length : Int)).tmod told.length).toNat, by omega⟩
    rw [hs, Int.toNat_natCast] at HF
    rw [hs] at hs1 hs2
    have hsl : s < told.length := by omega
    obtain ⟨b, o, rfl, hcell⟩ := ht s hsl
    have hbl : b < w.heap.size := by
      apply Decidable.byContradiction; intro hge
      have : w.heap[b]? = none := Array.getElem?_eq_none (by omega)
      simp [World.cell?, this] at hcell
    have hcell2 := hcell
    have hcell : (w.alloc (.cells (actc ⟨what, h, true, alg, ka, kn, kc⟩).toArray 35)).cell? ⟨b, o + s, none⟩ = some (.int .i64 told[s]) := by rw [← hcell2]; simp [World.cell?, hB.block b hbl]
    have HF := hid (HF.out.trans (show told.getD s 0 = told[s] by simp [List.getD, List.getElem?_eq_getElem hsl]))
    generalize told[s] = z at *
    generalize told.length = n at *
    clear hc htn ht hcell2
    go_enter Try.func18, Try.ntmps18
    go_wp2_with fail
    go_ret
    exact ⟨by rw [HF.out]; rfl, hB⟩
end Go.Proofs.Ytoffpchabpfhkaa
