/- AlgoRoom, walked -/
import Derived.Test.YtnmmnlffobnbfaaGreatDoorNA
import Derived.Test.YtnmmnlffobnbfaaGreatDoorNC
namespace Go.Proofs.YtnmmnlffobnbfaaGreatDoor
open Go.RowKit

theorem wpList_load_midG {P : Program} {ops : Array Oper} {rest : List Oper} {op : Oper} {a : Act} {w : World} {Q : Exit → Act → World → Prop} (hw : Region.wanted op (yielded ops a.tmps) = true) (ty : TypeId) (x : Operand) (ho : op.op = .load ty x)
    (b o : Nat) (hx : a.eval x = .pointer (some ⟨b, o, none⟩)) (cs : List Value) (d : TypeDesc) (hc : w.rangeAt b o cs)
    (hu : P.underlying ty = some d) (hd : d.isRow = true) (hi : (P.info? ty).map (·.size) = some cs.length)
    (h : wpList P ops Q rest (a.put op.dst (.agg cs.toArray)) w) : wpList P ops Q (op :: rest) a w :=
  wpList_step fun K hK => by rw [if_pos hw]; exact wp_load_mid ty x ho b o hx cs d hc hu hd hi (hK _ _ h)
theorem sizeRP : (Tryz.prog.info? tRP).map (·.size) = some 5 := by kernel_rfl
/-- The arguments of a law: a document's params, and bytes. -/
structure ArgP (w : World) (key iv aad b : List UInt8) (pk : Option Addr) (ck : Nat) (pv : Option Addr) (cv : Nat) (pa : Option Addr) (ca : Nat) (pb : Option Addr) (cb : Nat) : Prop where
  rk : RowAt w pk key
  rv : RowAt w pv iv
  ra : RowAt w pa aad
  rb : RowAt w pb b
  ck : key.length ≤ ck
  cv : iv.length ≤ cv
  ca : aad.length ≤ ca
  cb : b.length ≤ cb
theorem ArgP.below {w w' : World} {key iv aad b : List UInt8} {pk : Option Addr} {ck : Nat} {pv : Option Addr} {cv : Nat} {pa : Option Addr} {ca : Nat} {pb : Option Addr} {cb : Nat} (h : ArgP w key iv aad b pk ck pv cv pa ca pb cb) (hB : Below w.heap.size w w') : ArgP w' key iv aad b pk ck pv cv pa ca pb cb :=
  ⟨h.rk.below hB, h.rv.below hB, h.ra.below hB, h.rb.below hB, h.ck, h.cv, h.ca, h.cb⟩
theorem ArgP.par {w : World} {key iv aad b : List UInt8} {pk : Option Addr} {ck : Nat} {pv : Option Addr} {cv : Nat} {pa : Option Addr} {ca : Nat} {pb : Option Addr} {cb : Nat} (h : ArgP w key iv aad b pk ck pv cv pa ca pb cb) (op : Bool) (hl : aad.length < 1000000) : ParAt w op key iv aad pk ck pv cv pa ca :=
  ⟨h.rk, h.rv, h.ra, h.ck, h.cv, h.ca, hl⟩

set_option maxRecDepth 100000 in
set_option maxHeartbeats 8000000 in
theorem algoRoom_walk (w : World) (T : TabW w) (alg : Int) (op : Bool) (key iv aad b : List UInt8) (pk : Option Addr) (ck : Nat) (pv : Option Addr) (cv : Nat) (pa : Option Addr) (ca : Nat) (pb : Option Addr) (cb : Nat) (hA : ArgP w key iv aad b pk ck pv cv pa ca pb cb) :
    Calls Tryz.prog 6 #[.agg (parD alg op key iv aad pk ck pv cv pa ca).toArray, .slice pb b.length cb] w fun e w' => e = .returned (.bool true) ∧ Below w.heap.size w w' := by
  have hb := Blk.new w (parD alg op key iv aad pk ck pv cv pa ca) tRP
  have hB : Below w.heap.size w (w.alloc (.cells (parD alg op key iv aad pk ck pv cv pa ca).toArray tRP)) := (Below.refl _ _).alloc (Nat.le_refl _) _
  obtain ⟨w1, hw1⟩ : ∃ w1, w.alloc (.cells (parD alg op key iv aad pk ck pv cv pa ca).toArray tRP) = w1 := ⟨_, rfl⟩
  rw [hw1] at hb hB
  have hA1 := hA.below hB
  have T1 := T.below hB T.1
  have HW1 := hid hw1
  have hwh := hid hb.whole
  clear hw1 hA
  by_cases h100 : 100 < b.length
  · have q1 : (100 : Int) < (b.length : Int) := by omega
    go_enter Tryz.func6, Tryz.ntmps6
    go_upto_region 1 with fail
    change Code.wp _ _ _ _ (w.alloc (.cells (parD alg op key iv aad pk ck pv cv pa ca).toArray tRP))
    rw [HW1.out]
    go_wp2_with fail
    go_ret
    exact ⟨rfl, hB⟩
  have q1 : ¬ (100 : Int) < (b.length : Int) := by omega
  go_enter Tryz.func6, Tryz.ntmps6
  go_upto_region 1 with fail
  change Code.wp _ _ _ _ (w.alloc (.cells (parD alg op key iv aad pk ck pv cv pa ca).toArray tRP))
  rw [HW1.out]
  go_wp2_with (refine wpList_load_midG rfl tRP (.tmp 2) rfl w.heap.size 0 rfl (parD alg op key iv aad pk ck pv cv pa ca) _ hwh.out Tryz.underlying40 rfl sizeRP ?_)
  refine (pshort_any w1 alg op pk key.length ck pv iv.length cv pa aad.length ca).mono ?_
  rintro e w2 ⟨rfl, hB2⟩
  have hb2 := hb.below hB2 hb.lt
  have hA2 := hA1.below hB2
  have T2 := T1.below hB2 T1.1
  have hB12 := hB.trans (hB2.mono hB.size)
  have hwh2 := hid hb2.whole
  clear hwh HW1 hb hA1 hB2 hB T1
  by_cases hs : key.length ≤ 120 ∧ iv.length ≤ 100 ∧ aad.length ≤ 1100
  · rw [decide_eq_true hs]
    have HP := hid (pof_any w2 alg op key iv aad pk ck pv cv pa ca (hA2.par op (by omega)) (by omega) (by omega))
    go_wp2_with (refine wpList_load_mid rfl tRP (.tmp 2) rfl w.heap.size 0 rfl (parD alg op key iv aad pk ck pv cv pa ca) _ hwh2.out Tryz.underlying40 rfl sizeRP ?_)
    refine HP.out.mono ?_
    rintro e w3 ⟨pk3, ck3, pv3, cv3, pa3, ca3, rfl, hP3, hB3⟩
    have hb3 := hb2.below hB3 hb2.lt
    have hA3 := hA2.below hB3
    have T3 := T2.below hB3 T2.1
    have hB13 := hB12.trans (hB3.mono hB12.size)
    have HD := hid (do_any w3 alg op key iv aad b pk3 ck3 pv3 cv3 pa3 ca3 hP3 pb cb hA3.rb hA3.cb (by omega) T3)
    have hans := algF_ans alg op key iv aad b
    clear HP hwh2 hb2 hA2 T2 hB3 hB12
    go_wp2_with fail
    refine HD.out.mono ?_
    rintro e w4 ⟨⟨v, rfl, ⟨px, cx, rfl, hcx, hrx⟩, _⟩, hB4⟩
    have hb4 := hb3.below hB4 hb3.lt
    have T4 := T3.below hB4 T3.1
    have hB14 := hB13.trans (hB4.mono hB13.size)
    have c0 : w4.cell? ⟨w.heap.size, 0, none⟩ = some (.int .i64 alg) := hb4.cell 0
    have c1 : w4.cell? ⟨w.heap.size, 1, none⟩ = some (.bool op) := hb4.cell 1
    have HR := hid (room_any w4 alg op (b.length : Int) (by omega))
    clear HD hb3 hA3 hP3 T3 hB13 hB4 hrx hcx
    go_wp2_with fail
    refine HR.out.mono ?_
    rintro e w5 ⟨rfl, hB5⟩
    have hb5 := hb4.below hB5 hb4.lt
    have T5 := T4.below hB5 T4.1
    have hB15 := hB14.trans (hB5.mono hB14.size)
    have d0 : w5.cell? ⟨w.heap.size, 0, none⟩ = some (.int .i64 alg) := hb5.cell 0
    have d1 : w5.cell? ⟨w.heap.size, 1, none⟩ = some (.bool op) := hb5.cell 1
    have HW := hid (awake12_any w5 T5)
    have Hfin := hid (fun (w6 : World) (hB6 : Below w5.heap.size w5 w6) => (show Below w.heap.size w w6 from hB15.trans (hB6.mono hB15.size)))
    clear HR hb4 hb5 T4 T5 hB14 hB5 hB15 c0 c1
    rcases hans with ⟨h0, hnil⟩ | ⟨h0, hck, hrm, hlen⟩
    · rw [hnil]
      obtain ⟨x, hx⟩ : ∃ x, (algF alg op key iv aad b).1 = x := ⟨_, rfl⟩
      rw [hx] at h0 ⊢
      have hxi : ¬ (x : Int) = 0 := by omega
      clear hnil hx h0
      go_wp2_with fail
      refine HW.out.mono ?_
      rintro e w6 ⟨rfl, hB6⟩
      have := Hfin.out _ hB6
      clear HW Hfin d0 d1
      go_wp2_with fail
      go_ret
      exact ⟨rfl, this⟩
    · rw [h0]
      have hra := roomA_ok hck b.length
      rw [hra, hrm]
      obtain ⟨N, hN⟩ : ∃ N, (roomF alg op b.length).1 = N := ⟨_, rfl⟩
      rw [hN] at hlen ⊢
      obtain ⟨M, hM⟩ : ∃ M, (algF alg op key iv aad b).2.length = M := ⟨_, rfl⟩
      rw [hM] at hlen ⊢
      have hN9 : N ≤ 1000000 := by
        rw [← hN]; unfold roomF
        (repeat' split) <;> simp <;> omega
      clear hra hrm hN hM h0 hck
      by_cases h4 : alg = 4 ∧ op = true
      · obtain ⟨rfl, rfl⟩ := h4
        rw [if_pos ⟨rfl, rfl⟩] at hlen
        have q3 : (M : Int) < (N : Int) := by omega
        have q4 : (N : Int) - 16 ≤ (M : Int) := by omega
        have q5 : IntKind.i64.wrap ((N : Int) - 16) = (N : Int) - 16 := by rw [IntKind.wrap_i64]; omega
        clear hlen
        go_wp2_with fail
        refine HW.out.mono ?_
        rintro e w6 ⟨rfl, hB6⟩
        have := Hfin.out _ hB6
        clear HW Hfin d0 d1
        go_wp2_with fail
        go_ret
        exact ⟨rfl, this⟩
      · rw [if_neg h4] at hlen
        subst hlen
        by_cases ha : alg = 4
        · subst ha
          obtain rfl : op = false := by cases op; rfl; exact absurd ⟨rfl, rfl⟩ h4
          go_wp2_with fail
          refine HW.out.mono ?_
          rintro e w6 ⟨rfl, hB6⟩
          have := Hfin.out _ hB6
          clear HW Hfin d0 d1
          go_wp2_with fail
          go_ret
          exact ⟨rfl, this⟩
        · go_wp2_with fail
          refine HW.out.mono ?_
          rintro e w6 ⟨rfl, hB6⟩
          have := Hfin.out _ hB6
          clear HW Hfin d0 d1
          go_wp2_with fail
          go_ret
          exact ⟨rfl, this⟩
  · rw [decide_eq_false hs]
    go_wp2_with fail
    go_ret
    exact ⟨rfl, hB12⟩
end Go.Proofs.YtnmmnlffobnbfaaGreatDoor
