/- cbc: Unpadded and Padded of the reference -/
import Derived.Test.YtlgeebnmonmdaaaBits1
namespace Go.Proofs.Ytlgeebnmonmdaaa
open Go.RowKit

def padF (n : Nat) : List UInt8 := List.replicate (16 - n % 16) (UInt8.ofNat (16 - n % 16))
theorem padF_len (n : Nat) : (padF n).length = 16 - n % 16 := by simp [padF]
def lastB (l : List UInt8) : UInt8 := l.getD (l.length - 1) 0
/-- How many bytes stand ahead of a padding. -/
def unpadF (l : List UInt8) : Option Nat :=
  if l.length = 0 ∨ l.length % 16 ≠ 0 then none
  else if (lastB l).toNat < 1 ∨ 16 < (lastB l).toNat then none
  else if l.drop (l.length - (lastB l).toNat) = List.replicate (lastB l).toNat (lastB l) then some (l.length - (lastB l).toNat) else none
def unpadI (l : List UInt8) : Int := match unpadF l with | some n => (n : Int) | none => -1
theorem drop_rep {l : List UInt8} {x : Nat} {b : UInt8} (hx : x ≤ l.length) : l.drop (l.length - x) = List.replicate x b ↔ ∀ j, l.length - x ≤ j → j < l.length → l.getD j 0 = b := by
  constructor
  · intro h j h1 h2
    have : (l.drop (l.length - x))[j - (l.length - x)]? = some b := by rw [h, List.getElem?_replicate, if_pos (by omega)]
    rw [List.getElem?_drop, show l.length - x + (j - (l.length - x)) = j by omega] at this
    simp [List.getD, this]
  · intro h
    refine List.ext_getElem? fun k => ?_
    rw [List.getElem?_drop, List.getElem?_replicate]
    by_cases hk : k < x
    · rw [if_pos hk]
      have := h (l.length - x + k) (by omega) (by omega)
      rw [List.getElem?_eq_getElem (by omega)]
      simp [List.getD, List.getElem?_eq_getElem (show l.length - x + k < l.length by omega)] at this
      rw [this]
    · rw [if_neg hk, List.getElem?_eq_none (by omega)]

set_option maxRecDepth 100000 in
set_option maxHeartbeats 1000000 in
theorem unpadded_any (w : World) (pa : Option Addr) (n cap : Nat) (l : List UInt8) (hl : RowAt w pa l) (hn : l.length = n) (hm : n ≤ 140737488355328) :
    Calls Try.prog 46 #[.slice pa n cap] w fun e w' => e = .returned (.int .i64 (unpadI l)) ∧ w = w' := by
  have hmod : ((n : Int)).tmod 16 = ((n % 16 : Nat) : Int) := by rw [Int.tmod_eq_emod_of_nonneg (by omega)]; omega
  have hmod' : ((n : Int)) % 16 = ((n % 16 : Nat) : Int) := by omega
  by_cases h0 : n = 0
  · have HU := hid (show unpadI l = -1 by unfold unpadI unpadF; rw [if_pos (.inl (by omega))])
    subst h0
    go_enter Try.func46, Try.ntmps46
    go_wp2_with fail
    go_ret
    exact ⟨by rw [HU.out]; rfl, rfl⟩
  · by_cases h16 : n % 16 = 0
    · have H16 := hid h16
      obtain ⟨b, o, rfl, hb, hc⟩ := hl (n - 1) (by omega)
      have hx : l.getD (n - 1) 0 = lastB l := by unfold lastB; rw [hn]
      rw [hx] at hc
      have hc : w.cell? ⟨b, o + (n - 1), none⟩ = some (.int .u8 (bv (lastB l))) := hc
      have hd : l.drop (n - (lastB l).toNat) = List.replicate (lastB l).toNat (lastB l) ∨ True := .inr trivial
      have hU1 : (lastB l).toNat < 1 ∨ 16 < (lastB l).toNat → unpadI l = -1 := fun h => by
        unfold unpadI unpadF; rw [if_neg (by omega), if_pos h]
      have hdr : ¬ ((lastB l).toNat < 1 ∨ 16 < (lastB l).toNat) → (l.drop (l.length - (lastB l).toNat) = List.replicate (lastB l).toNat (lastB l) ↔ ∀ j, n - (lastB l).toNat ≤ j → j < n → l.getD j 0 = lastB l) := fun h => by
        rw [← hn]; exact drop_rep (by omega)
      have hU2 : ¬ ((lastB l).toNat < 1 ∨ 16 < (lastB l).toNat) → (∀ j, n - (lastB l).toNat ≤ j → j < n → l.getD j 0 = lastB l) → unpadI l = ((n - (lastB l).toNat : Nat) : Int) := fun h h' => by
        unfold unpadI unpadF; rw [if_neg (by omega), if_neg h, if_pos ((hdr h).2 h'), hn]
      have hU3 : ¬ ((lastB l).toNat < 1 ∨ 16 < (lastB l).toNat) → ¬ (∀ j, n - (lastB l).toNat ≤ j → j < n → l.getD j 0 = lastB l) → unpadI l = -1 := fun h h' => by
        unfold unpadI unpadF; rw [if_neg (by omega), if_neg h, if_neg (fun e => h' ((hdr h).1 e))]
      clear hdr hd
      have Hl := hid hl
      have HU1 := hid hU1
      have HU2 := hid hU2
      have HU3 := hid hU3
      have hbt : bv (lastB l) = ((lastB l).toNat : Int) := rfl
      have hlt := (lastB l).toNat_lt
      have Hinj := hid (fun (y : UInt8) (h : bv y = bv (lastB l)) => bv_inj h)
      generalize lastB l = x at *
      generalize hxn : x.toNat = xn at *
      rw [hbt] at hc
      clear hl hU1 hU2 hU3 hx hmod hmod'
      have hmod : ((n : Int)).tmod 16 = 0 := by rw [Int.tmod_eq_emod_of_nonneg (by omega)]; omega
      have hmod' : ((n : Int)) % 16 = 0 := by omega
      by_cases h1 : xn < 1 ∨ 16 < xn
      · have HU := hid (HU1.out h1)
        by_cases h2 : xn < 1
        · go_enter Try.func46, Try.ntmps46
          go_wp2_with fail
          go_ret
          exact ⟨by rw [HU.out]; rfl, rfl⟩
        · have h3 : 16 < xn := by omega
          clear h1
          go_enter Try.func46, Try.ntmps46
          go_wp2_with fail
          go_ret
          exact ⟨by rw [HU.out]; rfl, rfl⟩
      · have HU2 := hid (HU2.out h1)
        have HU3 := hid (HU3.out h1)
        have h2 : 1 ≤ xn := by omega
        have h3 : xn ≤ 16 := by omega
        have h4 : xn ≤ n := by have := H16.out; omega
        clear h1
        go_enter Try.func46, Try.ntmps46
        go_wp2_with fail
        go_loopw [4] (fun i wr => ∃ k : Nat, n - xn ≤ k ∧ k ≤ n ∧ i = .int .i64 k ∧ (∀ j, n - xn ≤ j → j < k → l.getD j 0 = x) ∧ w = wr) (fun i _ => n - (intOf i).toNat)
        case atStart => exact ⟨n - xn, by omega, by omega, by go_num, fun j h h' => by omega, rfl⟩
        case round =>
          obtain ⟨k, hk0, hk, rfl, hall, rfl⟩ := hrel
          have Hall := hid hall
          clear hall
          by_cases hkn : k < n
          · obtain ⟨b', o', e, _, hck⟩ := Hl.out k (by omega)
            injection e with e; injection e with e1 e2; subst e1 e2
            by_cases hy : l.getD k 0 = x
            · have Hy := hid hy
              rw [hy, hbt] at hck
              clear hy
              go_wp2_with fail
              go_roundw
              case rel =>
                refine ⟨k + 1, by omega, by omega, by go_num, fun j h h' => ?_, trivial⟩
                by_cases e : j = k
                · subst e; exact Hy.out
                · exact Hall.out j h (by omega)
              case measure => simp [intOf]; omega
            · have hne : (bv (l.getD k 0) != (xn : Int)) = true := by
                rw [bne_iff_ne, ← hbt]; exact fun e => hy (Hinj.out _ e)
              have HU := hid (HU3.out (fun h => hy (h k (by omega) hkn)))
              have hne2 : ¬ (bv (l.getD k 0) = (xn : Int)) := by rw [← hbt]; exact fun e => hy (Hinj.out _ e)
              have hy0 := bv_lo (l.getD k 0)
              have hy1 := bv_le (l.getD k 0)
              generalize bv (l.getD k 0) = y at *
              clear hy
              go_wp2_with fail
              go_ret
              exact ⟨by rw [HU.out]; rfl, rfl⟩
          · obtain rfl : k = n := by omega
            have HU := hid (HU2.out Hall.out)
            have hk : (k : Int) - (xn : Int) = ((k - xn : Nat) : Int) := by omega
            go_wp2_with fail
            go_ret
            exact ⟨by rw [HU.out, ← hk]; rfl, rfl⟩
    · have HU := hid (show unpadI l = -1 by unfold unpadI unpadF; rw [if_pos (.inr (by omega))])
      have hb : ¬ (((n % 16 : Nat) : Int) = 0) := by omega
      have hb2 : ¬ ((n : Int) = 0) := by omega
      generalize ((n % 16 : Nat) : Int) = r at *
      have hb3 : (r != 0) = true := by rw [bne_iff_ne]; exact hb
      clear h16
      go_enter Try.func46, Try.ntmps46
      go_wp2_with fail
      go_ret
      exact ⟨by rw [HU.out]; rfl, rfl⟩
end Go.Proofs.Ytlgeebnmonmdaaa
