/- sess: the law's acts; light, handle -/
import Derived.Test.YtoffpchabpfhkaaTb3
namespace Go.Proofs.Ytoffpchabpfhkaa
open Go.RowKit

structure ActV where
  what : UInt8
  h : Int
  nth : Bool
  alg : Int
  ka : Option Addr
  kn : Nat
  kc : Nat
def actc (x : ActV) : List Value := [.int .u8 (bv x.what), .int .i64 x.h, .bool x.nth, .int .i64 x.alg, .slice x.ka x.kn x.kc]
/-- The acts lie one behind the other. -/
def ActsAt (w : World) (pa : Option Addr) (l : List ActV) : Prop :=
  ∀ k (h : k < l.length), ∃ b o, pa = some ⟨b, o, none⟩ ∧ b < w.heap.size ∧ ∀ j, j < 5 → w.cell? ⟨b, o + k * 5 + j, none⟩ = (actc l[k])[j]?
theorem ActsAt.below {w w' : World} {pa : Option Addr} {l : List ActV} (h : ActsAt w pa l) (hB : Below w.heap.size w w') : ActsAt w' pa l := fun k hk => by
  obtain ⟨b, o, h1, h2, h3⟩ := h k hk
  refine ⟨b, o, h1, Nat.lt_of_lt_of_le h2 hB.size, fun j hj => ?_⟩
  rw [← h3 j hj]
  simp [World.cell?, hB.block b h2]
def lightF (l : List ActV) : Bool := l.length ≤ 100 && l.all (fun x => x.kn ≤ 200)

def IntsAt (w : World) (pa : Option Addr) (l : List Int) : Prop :=
  ∀ k (h : k < l.length), ∃ b o, pa = some ⟨b, o, none⟩ ∧ w.cell? ⟨b, o + k, none⟩ = some (.int .i64 l[k])
def handF (x : ActV) (told : List Int) : Int :=
  if x.nth = false ∨ told = [] then x.h else told.getD (((x.h.tmod told.length) + told.length).tmod told.length).toNat 0

set_option maxRecDepth 100000 in
set_option maxHeartbeats 2000000 in
theorem light_any (w : World) (pa : Option Addr) (l : List ActV) (cap : Nat) (hl : ActsAt w pa l) :
    Calls Try.prog 14 #[.slice pa l.length cap] w fun e w' => e = .returned (.bool (lightF l)) ∧ w = w' := by
  by_cases hlen : l.length ≤ 100
  · have HL := hid (show lightF l = l.all (fun x => x.kn ≤ 200) by unfold lightF; simp [hlen])
    go_enter Try.func14, Try.ntmps14
    go_wp2_with fail
    go_loopw [3] (fun i wr => ∃ k : Nat, k ≤ l.length ∧ i = .int .i64 k ∧ (∀ j (h : j < l.length), j < k → l[j].kn ≤ 200) ∧ w = wr) (fun i _ => 101 - (intOf i).toNat)
    case atStart => exact ⟨0, by omega, rfl, fun j _ h => by omega, rfl⟩
    case round =>
      obtain ⟨k, hk, rfl, hall, rfl⟩ := hrel
      by_cases hlt : k < l.length
      · obtain ⟨b, o, rfl, hb, hc⟩ := hl k hlt
        have c4 := hc 4 (by omega)
        simp only [actc, List.getElem?_cons_zero, List.getElem?_cons_succ] at c4
        have Hall := hid hall
        clear hall hc
        by_cases h200 : l[k].kn ≤ 200
        · have Hk := hid h200
          generalize l[k].ka = ka at *
          generalize hkn : l[k].kn = kn at *
          go_wp2_with fail
          go_roundw
          case rel =>
            refine ⟨k + 1, by omega, by go_num, fun j hj hjk => ?_, trivial⟩
            by_cases e : j = k
            · subst e; omega
            · exact Hall.out j hj (by omega)
          case measure => simp [intOf]; omega
        · have hf : l.all (fun x => x.kn ≤ 200) = false := by
            rw [List.all_eq_false]; exact ⟨l[k], List.getElem_mem hlt, by simpa using h200⟩
          have HF := hid hf
          clear hf
          generalize hkn : l[k].kn = kn at *
          go_wp2_with fail
          go_ret
          exact ⟨by rw [HL.out, HF.out]; rfl, rfl⟩
      · obtain rfl : k = l.length := by omega
        have hf : l.all (fun x => x.kn ≤ 200) = true := by
          rw [List.all_eq_true]
          intro x hx
          obtain ⟨j, hj, rfl⟩ := List.getElem_of_mem hx
          simpa using hall j hj hj
        have HF := hid hf
        clear hf hall
        go_wp2_with fail
        go_ret
        exact ⟨by rw [HL.out, HF.out]; rfl, rfl⟩
  · have HL := hid (show lightF l = false by unfold lightF; simp [hlen])
    go_enter Try.func14, Try.ntmps14
    go_wp2_with fail
    go_ret
    exact ⟨by rw [HL.out]; rfl, rfl⟩
end Go.Proofs.Ytoffpchabpfhkaa
