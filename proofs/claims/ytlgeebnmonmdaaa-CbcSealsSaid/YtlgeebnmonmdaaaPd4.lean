/- cbc: Padded of the reference -/
import Derived.Test.YtlgeebnmonmdaaaPd3
import Derived.Test.YtlgeebnmonmdaaaApp
namespace Go.Proofs.Ytlgeebnmonmdaaa
open Go.RowKit

set_option maxRecDepth 100000 in
set_option maxHeartbeats 1000000 in
theorem padded_any (w : World) (pa : Option Addr) (n cap : Nat) (l : List UInt8) (hl : RowAt w pa l) (hn : l.length = n) (hm : n ≤ 1000000000) :
    Calls Try.prog 48 #[.slice pa n cap] w fun e w' => ∃ v, e = .returned v ∧ w'.ownsRow w.heap.size 5 1 v (l ++ padF n).length (bys (l ++ padF n)) ∧ Below w.heap.size w w' := by
  obtain ⟨i0, hi0, hz0, hs0, hb0⟩ := info_parts info5
  have Hi0 := hid hi0
  have Hz0 := hid hz0
  have Hs0 := hid hs0
  have Hb0 := hid hb0
  clear hi0 hz0 hs0 hb0
  obtain ⟨m, hm2⟩ : ∃ m, 16 - n % 16 = m := ⟨_, rfl⟩
  have hm1 : 1 ≤ m := by omega
  have hm16 : m ≤ 16 := by omega
  have hpf : padF n = List.replicate m (UInt8.ofNat m) := by unfold padF; rw [hm2]
  obtain ⟨r, hr⟩ : ∃ r : Int, ((n % 16 : Nat) : Int) = r := ⟨_, rfl⟩
  have h1 : (n : Int).tmod 16 = r := by rw [Int.tmod_eq_emod_of_nonneg (by omega), ← hr]; omega
  have h1' : (n : Int) % 16 = r := by omega
  have hr0 : 0 ≤ r := by omega
  have hr1 : r ≤ 15 := by omega
  have h2 : (16 : Int) - r = (m : Int) := by omega
  have h4 : bv (UInt8.ofNat m) = (m : Int) := bv_lit m (by omega)
  have hown0 := hid (World.ownsRow_made w #[] 0 (e := 5) (size := 1) (base := w.heap.size) (Nat.le_refl _) (by unfold maxLen; omega) (by simp))
  have hB0 : Below w.heap.size w (w.alloc (.cells #[] 5)) := (Below.refl _ _).alloc (Nat.le_refl _) _
  have hl0 := hl.below hB0
  rw [hpf]
  have Hl0 := hid hl0
  clear hr hm2 hpf hl0 hl
  go_enter Try.func48, Try.ntmps48
  go_wp2_with (refine wpList_append_rows rfl (.tmp 6) (.tmp 7) rfl w.heap.size _ 0 [] rfl hown0.out pa n cap l rfl Hl0.out hn (by omega) (by simp) ?_; intro v1 w1 hown1 hgrow1 _)
  have hB1 := hB0.grown hgrow1 (by simp) (fun j e => by have e : w.heap.size = j := Option.some.inj e; omega)
  have Hown1 := hid hown1
  clear hown1 hgrow1
  go_loopw [3, 5] (fun v i wr => ∃ k : Nat, k ≤ m ∧ i = .int .i64 k ∧ wr.ownsRow w.heap.size 5 1 v (n + k) (bys (l ++ List.replicate k (UInt8.ofNat m))) ∧ Below w.heap.size w wr) (fun _ i _ => m - (intOf i).toNat)
  case atStart => exact ⟨0, by omega, rfl, by simpa using Hown1.out, hB1⟩
  case round =>
    obtain ⟨k, hk, rfl, hown, hB⟩ := hrel
    have Hown := hid hown
    clear hown Hown1 hB1
    by_cases hlt : k < m
    · have hs := hB.size
      go_wp2_with (refine wpList_append_own _ rfl (.tmp 18) (.tmp 21) 26 rfl w.heap.size 5 i0 _ 1 1 under33b Hi0.out Hz0.out Hs0.out Hb0.out rfl (by decide) _ (n + k) _ rfl (Hown.out.alloc _) ⟨wr.heap.size, 0, none⟩ 1 1 [.int .u8 m] rfl rfl (fun a u hu => by rw [Addr.add_mid]; exact (Blk.new wr [.int .u8 m] 5).whole a u hu) (by intro u hu; rw [List.mem_singleton] at hu; subst hu; rfl) (by unfold maxLen; omega) (by omega) (by simp; omega) ?_; intro v' w3 hown3 hgrow3 _; have hB3 := (hB.alloc hB.size (.cells [Value.int .u8 m].toArray 5)).grown hgrow3 (by simp; omega) (fun j e => by { have := (Hown.out.lt j e).1; omega }))
      go_roundw
      case rel =>
        refine ⟨k + 1, by omega, by go_num, ?_, hB3⟩
        rw [show n + (k + 1) = n + k + 1 by omega]
        have e : bys (l ++ List.replicate (k + 1) (UInt8.ofNat m)) = bys (l ++ List.replicate k (UInt8.ofNat m)) ++ [.int .u8 m] := by
          rw [List.replicate_succ', ← List.append_assoc]; simp [bys, h4]
        rw [e]; exact hown3
      case measure => simp [intOf]; omega
    · obtain rfl : k = m := by omega
      go_wp2_with fail
      go_ret
      exact ⟨_, rfl, by simpa [hn] using Hown.out, hB⟩
end Go.Proofs.Ytlgeebnmonmdaaa
