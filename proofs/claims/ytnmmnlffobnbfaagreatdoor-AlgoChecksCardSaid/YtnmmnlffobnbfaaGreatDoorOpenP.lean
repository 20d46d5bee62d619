/- a document's params as an argument, opened; params, bytes and two more bytes -/
import Derived.Test.YtnmmnlffobnbfaaGreatDoorND
import Derived.Test.YtnmmnlffobnbfaaGreatDoorLa
namespace Go.Proofs.YtnmmnlffobnbfaaGreatDoor
open Go.ChangeShapes Go.WideShapes Go.ChangeAt Go.RowKit Go.Deep
section
variable {H : Type} {enc : TypeId × Value → H} {w : World} {base b0 fuel : Nat} {spare : Nat → Bool} {held : Bool} {r : Reach}
set_option maxRecDepth 100000 in
theorem trod_params {cs : List Value} {x : DataW H × List MemPlace} (hf : DataW.trod enc Tryz.prog w base spare held fuel tRP cs = some x) :
    ∃ alg op key iv aad pk ck pv cv pa ca, cs = parD alg op key iv aad pk ck pv cv pa ca ∧ RowAt w pk key ∧ key.length ≤ ck ∧ RowAt w pv iv ∧ iv.length ≤ cv ∧ RowAt w pa aad ∧ aad.length ≤ ca := by
  obtain ⟨xs, m, _, _, hl, hxs, hi⟩ := DataW.trod_struct Tryz.underlying40 hf
  have hx5 : xs.length = 5 := hxs
  have h0 := hi 0 _ rfl
  have h1 := hi 1 _ rfl
  have h2 := hi 2 _ rfl
  have h3 := hi 3 _ rfl
  have h4 := hi 4 _ rfl
  rw [List.getElem?_eq_getElem (by omega)] at h0 h1 h2 h3 h4
  obtain ⟨alg, e0, _, _⟩ := DataW.trod_int Tryz.underlying3 h0
  obtain ⟨op, e1, _⟩ := DataW.trod_bool Tryz.underlying4 h1
  obtain ⟨pk, key, ck, e2, hck, _, hrk⟩ := trod_rowL h2
  obtain ⟨pv, iv, cv, e3, hcv, _, hrv⟩ := trod_rowL h3
  obtain ⟨pa, aad, ca, e4, hca, _, hra⟩ := trod_rowL h4
  have c0 : Tryz.prog.cellsOf 3 = 1 := by kernel_rfl
  have c1 : Tryz.prog.cellsOf 4 = 1 := by kernel_rfl
  have c2 : Tryz.prog.cellsOf 23 = 1 := by kernel_rfl
  have c3 : Tryz.prog.cellsOf tRP = 5 := by kernel_rfl
  have e0 : cs.take 1 = [.int .i64 alg] := by rw [← c0]; exact e0
  have e1 : (cs.drop 1).take 1 = [.bool op] := by rw [← c1]; exact e1
  have e2 : (cs.drop 2).take 1 = [.slice pk key.length ck] := by rw [← c2]; exact e2
  have e3 : (cs.drop 3).take 1 = [.slice pv iv.length cv] := by rw [← c2]; exact e3
  have e4 : (cs.drop 4).take 1 = [.slice pa aad.length ca] := by rw [← c2]; exact e4
  rw [c3] at hl
  refine ⟨alg, op, key, iv, aad, pk, ck, pv, cv, pa, ca, ?_, hrk, hck, hrv, hcv, hra, hca⟩
  match cs, hl with
  | [a0, a1, a2, a3, a4], _ =>
    simp only [List.take_succ_cons, List.take_zero, List.drop_succ_cons, List.drop_zero, List.cons.injEq, and_true] at e0 e1 e2 e3 e4
    subst e0 e1 e2 e3 e4
    rfl
set_option maxRecDepth 100000 in
theorem open_params {v : Value} {d : DataW H} {p : List MemPlace} (hv : Value.okWide Tryz.prog w r b0 tRP v) (h : DataW.Trod enc Tryz.prog w base spare held tRP v d p) :
    ∃ alg op key iv aad pk ck pv cv pa ca, v = .agg (parD alg op key iv aad pk ck pv cv pa ca).toArray ∧ RowAt w pk key ∧ key.length ≤ ck ∧ RowAt w pv iv ∧ iv.length ≤ cv ∧ RowAt w pa aad ∧ aad.length ≤ ca := by
  simp only [Value.okWide, Tryz.underlying40] at hv
  obtain ⟨cs, rfl, _, _⟩ := hv
  obtain ⟨fuel, hf⟩ := h
  obtain ⟨alg, op, key, iv, aad, pk, ck, pv, cv, pa, ca, e, h1⟩ := trod_params hf
  refine ⟨alg, op, key, iv, aad, pk, ck, pv, cv, pa, ca, ?_, h1⟩
  congr 1
  apply Array.toList_inj.1
  exact e
/-- Params, bytes, two bytes. -/
abbrev tdC (alg : Int) (op : Bool) (key iv aad : List UInt8) (pk : Option Addr) (ck : Nat) (pv : Option Addr) (cv : Nat) (pa : Option Addr) (ca : Nat) (pb : Option Addr) (n cb : Nat) (at_ by_ : UInt8) : List Value :=
  [.int .i64 alg, .bool op, .slice pk key.length ck, .slice pv iv.length cv, .slice pa aad.length ca, .slice pb n cb, .int .u8 (bv at_), .int .u8 (bv by_)]
abbrev tTd : TypeId := 50
set_option maxRecDepth 100000 in
theorem open_turned12 {v : Value} {d : DataW H} {p : List MemPlace} (hv : Value.okWide Tryz.prog w r b0 tTd v) (h : DataW.Trod enc Tryz.prog w base spare held tTd v d p) :
    ∃ alg op key iv aad pk ck pv cv pa ca pb b cb at_ by_, v = .agg (tdC alg op key iv aad pk ck pv cv pa ca pb (List.length b) cb at_ by_).toArray ∧ RowAt w pk key ∧ key.length ≤ ck ∧ RowAt w pv iv ∧ iv.length ≤ cv ∧ RowAt w pa aad ∧ aad.length ≤ ca ∧ RowAt w pb b ∧ b.length ≤ cb := by
  simp only [Value.okWide, Tryz.underlying50] at hv
  obtain ⟨cs, rfl, _, _⟩ := hv
  obtain ⟨fuel, hf⟩ := h
  obtain ⟨xs, m, _, _, hl, hxs, hi⟩ := DataW.trod_struct Tryz.underlying50 hf
  have hx4 : xs.length = 4 := hxs
  have h0 := hi 0 _ rfl
  have h1 := hi 1 _ rfl
  have h2 := hi 2 _ rfl
  have h3 := hi 3 _ rfl
  rw [List.getElem?_eq_getElem (by omega)] at h0 h1 h2 h3
  obtain ⟨alg, op, key, iv, aad, pk, ck, pv, cv, pa, ca, e0, g1, g2, g3, g4, g5, g6⟩ := trod_params h0
  obtain ⟨pb, b, cb, e1, hcb, _, hrb⟩ := trod_rowL h1
  obtain ⟨k2, e2, _, w2⟩ := DataW.trod_int Tryz.underlying5 h2
  obtain ⟨k3, e3, _, w3⟩ := DataW.trod_int Tryz.underlying5 h3
  obtain ⟨at_, rfl⟩ := byte_of w2
  obtain ⟨by_, rfl⟩ := byte_of w3
  have c0 : Tryz.prog.cellsOf tRP = 5 := by kernel_rfl
  have c1 : Tryz.prog.cellsOf 23 = 1 := by kernel_rfl
  have c2 : Tryz.prog.cellsOf 5 = 1 := by kernel_rfl
  have c3 : Tryz.prog.cellsOf tTd = 8 := by kernel_rfl
  have e0 : cs.toList.take 5 = parD alg op key iv aad pk ck pv cv pa ca := by rw [← c0]; exact e0
  have e1 : (cs.toList.drop 5).take 1 = [.slice pb b.length cb] := by rw [← c1]; exact e1
  have e2 : (cs.toList.drop 6).take 1 = [.int .u8 (bv at_)] := by rw [← c2]; exact e2
  have e3 : (cs.toList.drop 7).take 1 = [.int .u8 (bv by_)] := by rw [← c2]; exact e3
  rw [c3] at hl
  refine ⟨alg, op, key, iv, aad, pk, ck, pv, cv, pa, ca, pb, b, cb, at_, by_, ?_, g1, g2, g3, g4, g5, g6, hrb, hcb⟩
  congr 1
  apply Array.toList_inj.1
  have hl8 : cs.toList.length = 8 := hl
  have key8 : ∀ C : List Value, C.length = 8 → C.take 5 = parD alg op key iv aad pk ck pv cv pa ca → (C.drop 5).take 1 = [.slice pb b.length cb] → (C.drop 6).take 1 = [.int .u8 (bv at_)] → (C.drop 7).take 1 = [.int .u8 (bv by_)] → C = tdC alg op key iv aad pk ck pv cv pa ca pb b.length cb at_ by_ := by
    intro C hC e0 e1 e2 e3
    match C, hC with
    | [a0, a1, a2, a3, a4, a5, a6, a7], _ =>
      simp only [List.take_succ_cons, List.take_zero, List.drop_succ_cons, List.drop_zero, List.cons.injEq, and_true] at e0 e1 e2 e3
      subst e1 e2 e3
      obtain ⟨rfl, rfl, rfl, rfl, rfl⟩ := e0
      rfl
  exact key8 _ hl8 e0 e1 e2 e3
end
end Go.Proofs.YtnmmnlffobnbfaaGreatDoor
