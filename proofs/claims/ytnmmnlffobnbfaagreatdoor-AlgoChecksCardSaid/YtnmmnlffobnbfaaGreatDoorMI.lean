/- Xk · Gs4 · Cr4 (joined by merge4.py) -/
import Derived.Test.YtnmmnlffobnbfaaGreatDoorMG
import Derived.Test.YtnmmnlffobnbfaaGreatDoorMH
/- bytes under a stream of counters: plain lemmas -/
namespace Go.Proofs.YtnmmnlffobnbfaaGreatDoor
open Go.RowKit

/-- The stream's byte number i. -/
def ksb (E : List UInt8 → List UInt8) (iv : List UInt8) (i : Nat) : UInt8 := (E (cnt iv (i / 16))).getD (i % 16) 0
def ksL (E : List UInt8 → List UInt8) (iv : List UInt8) (p L : Nat) : List UInt8 := (List.range L).map fun i => ksb E iv (p + i)
/-- Bytes under the stream from place p on. -/
def xk (E : List UInt8 → List UInt8) (iv : List UInt8) (p : Nat) (b : List UInt8) : List UInt8 := (List.range b.length).map fun i => b.getD i 0 ^^^ ksb E iv (p + i)
theorem ksL_len (E : List UInt8 → List UInt8) (iv : List UInt8) (p L : Nat) : (ksL E iv p L).length = L := by simp [ksL]
theorem xk_len (E : List UInt8 → List UInt8) (iv : List UInt8) (p : Nat) (b : List UInt8) : (xk E iv p b).length = b.length := by simp [xk]
theorem xk_get (E : List UInt8 → List UInt8) (iv : List UInt8) (p : Nat) (b : List UInt8) (i : Nat) (h : i < b.length) : (xk E iv p b).getD i 0 = b.getD i 0 ^^^ ksb E iv (p + i) := by simp [xk, h]
theorem ksL_get (E : List UInt8 → List UInt8) (iv : List UInt8) (p L i : Nat) (h : i < L) : (ksL E iv p L).getD i 0 = ksb E iv (p + i) := by simp [ksL, h]
theorem ksL_drop (E : List UInt8 → List UInt8) (iv : List UInt8) (p L k : Nat) (h : k ≤ L) : (ksL E iv p L).drop k = ksL E iv (p + k) (L - k) := by
  apply ext_getD
  · simp [ksL]
  · intro j hj
    rw [List.length_drop, ksL_len] at hj
    rw [ksL_get _ _ _ _ _ hj]
    have : ((ksL E iv p L).drop k).getD j 0 = (ksL E iv p L).getD (k + j) 0 := by simp [List.getD]
    rw [this, ksL_get _ _ _ _ _ (by omega), Nat.add_assoc]
theorem ksL_block (E : List UInt8 → List UInt8) (iv : List UInt8) (f : Nat) (h : (E (cnt iv f)).length = 16) : E (cnt iv f) = ksL E iv (16 * f) 16 := by
  apply ext_getD
  · rw [ksL_len, h]
  · intro j hj
    rw [ksL_get _ _ _ _ _ (by omega)]
    unfold ksb
    rw [show (16 * f + j) / 16 = f by omega, show (16 * f + j) % 16 = j by omega]
/-- One part of the bytes at hand. -/
theorem xk_part (E : List UInt8 → List UInt8) (iv : List UInt8) (p L : Nat) (b : List UInt8) : List.zipWith (· ^^^ ·) b (ksL E iv p L) = xk E iv p (b.take (min b.length L)) := by
  apply ext_getD
  · rw [List.length_zipWith, ksL_len, xk_len, List.length_take]; omega
  · intro j hj
    rw [List.length_zipWith, ksL_len] at hj
    rw [xk_get _ _ _ _ _ (by rw [List.length_take]; omega)]
    have h1 : (List.zipWith (· ^^^ ·) b (ksL E iv p L)).getD j 0 = b.getD j 0 ^^^ (ksL E iv p L).getD j 0 := by
      simp only [List.getD, List.getElem?_zipWith]
      rw [List.getElem?_eq_getElem (show j < b.length by omega), List.getElem?_eq_getElem (show j < (ksL E iv p L).length by rw [ksL_len]; omega)]
      rfl
    have h2 : (b.take (min b.length L)).getD j 0 = b.getD j 0 := by simp only [List.getD, List.getElem?_take, if_pos hj]
    rw [h1, h2, ksL_get _ _ _ _ _ (by omega)]
theorem xk_append (E : List UInt8 → List UInt8) (iv : List UInt8) (p : Nat) (a b : List UInt8) : xk E iv p (a ++ b) = xk E iv p a ++ xk E iv (p + a.length) b := by
  apply ext_getD
  · simp [xk]
  · intro j hj
    rw [xk_len, List.length_append] at hj
    rw [xk_get _ _ _ _ _ (by rw [List.length_append]; exact hj)]
    by_cases h : j < a.length
    · have e1 : (xk E iv p a ++ xk E iv (p + a.length) b).getD j 0 = (xk E iv p a).getD j 0 := by simp [List.getD, List.getElem?_append_left (show j < (xk E iv p a).length by rw [xk_len]; exact h)]
      have e2 : (a ++ b).getD j 0 = a.getD j 0 := by simp [List.getD, List.getElem?_append_left h]
      rw [e1, e2, xk_get _ _ _ _ _ h]
    · have e1 : (xk E iv p a ++ xk E iv (p + a.length) b).getD j 0 = (xk E iv (p + a.length) b).getD (j - a.length) 0 := by
        simp [List.getD, List.getElem?_append_right (show (xk E iv p a).length ≤ j by rw [xk_len]; omega), xk_len]
      have e2 : (a ++ b).getD j 0 = b.getD (j - a.length) 0 := by simp [List.getD, List.getElem?_append_right (show a.length ≤ j by omega)]
      rw [e1, e2, xk_get _ _ _ _ _ (by omega), show p + a.length + (j - a.length) = p + j by omega]
theorem xk_xk (E : List UInt8 → List UInt8) (iv : List UInt8) (p : Nat) (b : List UInt8) : xk E iv p (xk E iv p b) = b := by
  apply ext_getD
  · simp [xk]
  · intro j hj
    rw [xk_len, xk_len] at hj
    rw [xk_get _ _ _ _ _ (by rw [xk_len]; exact hj), xk_get _ _ _ _ _ hj, UInt8.xor_assoc, UInt8.xor_self, UInt8.xor_zero]

end Go.Proofs.YtnmmnlffobnbfaaGreatDoor

/- ghash: Sum -/
namespace Go.Proofs.YtnmmnlffobnbfaaGreatDoor
open Go.RowKit

def sfrom (pa : Option Addr) (c k : Nat) : Option Addr := if c = k then pa else pa.map fun x => x.add k
theorem sfrom_row {w : World} {pa : Option Addr} {l : List UInt8} {m c k : Nat} (h : RowAt w pa l) (hl : l.length = m) (hc : m ≤ c) : RowAt w (sfrom pa c k) (l.drop k) := by
  unfold sfrom
  split
  · rename_i e
    rw [List.drop_of_length_le (by omega)]
    exact RowAt.nil _ _
  · intro j hj
    rw [List.length_drop] at hj
    obtain ⟨b, o, e, h1, h2⟩ := h (k + j) (by omega)
    subst e
    refine ⟨b, o + k, by rw [Option.map_some, Addr.add_mid], h1, ?_⟩
    rw [Nat.add_assoc, h2]
    simp [List.getD]
theorem wpList_copy_rowAt {P : Program} {w : World} {ops : Array Oper} {rest : List Oper} {o : Oper} {a : Act} {Q : Exit → Act → World → Prop} (hgd : o.guard = none) (d s : Operand) (dT sT : TypeId)
    (ho : o.op = .call { callee := .builtin .copy, args := #[d, s], argTypes := #[dT, sT] }) (elem : TypeId) (hu : P.underlying dT = some (.slice elem)) (hsz : (P.info? elem).map (·.size) = some 1)
    (g off dLen dCap q qo sLen sCap : Nat) (hd : a.eval d = .slice (some ⟨g, off, none⟩) dLen dCap) (hs : a.eval s = .slice (some ⟨q, qo, none⟩) sLen sCap)
    (cur : List Value) (src : List UInt8) (t : TypeId) (hg : Blk w g cur t) (hq : RowAt w (some ⟨q, qo, none⟩) src) (hl : src.length = sLen) (n : Nat) (hn : n = Nat.min sLen dLen) (hfit : off + n ≤ cur.length)
    (h : ∀ w', Blk w' g (splice cur off (bys (src.take n))) t → Chg w.heap.size [g] w w' → w'.heap.size = w.heap.size → wpList P ops Q rest (a.put o.dst (goInt n)) w') :
    wpList P ops Q (o :: rest) a w := by
  have hnl : (src.take n).length = n := by rw [List.length_take, hl, hn]; exact Nat.min_eq_left (Nat.min_le_left _ _)
  have hlb : (bys (src.take n)).length = n := by rw [bys_length, hnl]
  refine wpList_copy_own hgd d s dT sT ho elem hu hsz g off dLen dCap ⟨q, qo, none⟩ sLen sCap hd hs cur.toArray t hg (bys (src.take n)) (by rw [hlb]; exact hn) ((hq.take n).src rfl) (by rw [hlb]; simpa using hfit) (bys_one _) ?_
  have := h (w.setRow g (splice cur off (bys (src.take n))).toArray) (hg.setRow _) ((Chg.refl _ _ _).setRow (.inl (by simp)) _) (by simp)
  rw [hlb]
  simpa [splice, hlb] using this

theorem splice_blkZ (b : List UInt8) (j k : Nat) (hk : min (b.drop (16 * j)).length 16 = k) : splice (bys z16) 0 (bys ((b.drop (16 * j)).take k)) = bys (blkZ b j) := by
  obtain ⟨l, hl⟩ : ∃ l, b.drop (16 * j) = l := ⟨_, rfl⟩
  unfold blkZ
  rw [hl] at hk ⊢
  have h1 : l.take k = l.take 16 := by
    by_cases h : l.length ≤ 16
    · rw [List.take_of_length_le (by omega), List.take_of_length_le h]
    · rw [show k = 16 by omega]
  rw [h1]
  have h2 : (bys z16).drop ((l.take 16).length) = bys (List.replicate (16 - (l.take 16).length) 0) := by
    rw [show bys z16 = List.replicate 16 (.int .u8 (bv 0)) from rfl, List.drop_replicate]; simp [bys]
  unfold splice
  rw [List.take_zero, List.nil_append, bys_length, Nat.zero_add, h2]
  simp [bys]
/-- Sum on its way: j blocks are in. -/
structure GS (w w' : World) (H : Nat) (b : List UInt8) (kb j m : Nat) (pb : Option Addr) (c : Nat) : Prop where
  hx : ∃ xs : List UInt8, xs.length = 16 ∧ Blk w' (w.heap.size + 1 + 1 + 1 + 1) (bys xs) tA16
  hy : Blk w' (w.heap.size + 1 + 1) (elc (ghN H b j)) tEl
  he : ∃ e, Blk w' (w.heap.size + 1 + 1 + 1) (elc e) tEl
  hr : Blk w' (w.heap.size + 1) (bys z16) tA16
  hk : Blk w' kb (elc H) tEl
  hkb : w.heap.size + 1 + 1 + 1 + 1 < kb
  hb : RowAt w pb (b.drop (16 * j))
  hm : m = b.length - 16 * j
  hj : 16 * j < b.length + 16
  hc : m ≤ c
  hB : Below w.heap.size w w'

set_option maxRecDepth 100000 in
set_option maxHeartbeats 4000000 in
theorem gsum_any (w : World) (h : List UInt8) (hh : h.length = 16) (pb : Option Addr) (n cap : Nat) (b : List UInt8) (hb : RowAt w pb b) (hn : b.length = n) (hc : n ≤ cap) (h9 : n < 1000000000) :
    Calls Tryz.prog 201 #[.agg (bys h).toArray, .slice pb n cap] w fun e w' => e = .returned (.agg (bys (ghF h b)).toArray) ∧ Below w.heap.size w w' := by
  have Hn := hid hn
  have Hh := hid hh
  have h0 : Blk (((((w.alloc (.cells (bys h).toArray tA16)).alloc (.cells (bys z16).toArray tA16)).alloc (.cells #[U64 0, U64 0] tEl)).alloc (.cells #[U64 0, U64 0] tEl)).alloc (.cells (bys z16).toArray tA16)) w.heap.size (bys h) tA16 := ((((Blk.new w (bys h) tA16).alloc _).alloc _).alloc _).alloc _
  have h1 : Blk (((((w.alloc (.cells (bys h).toArray tA16)).alloc (.cells (bys z16).toArray tA16)).alloc (.cells #[U64 0, U64 0] tEl)).alloc (.cells #[U64 0, U64 0] tEl)).alloc (.cells (bys z16).toArray tA16)) (w.heap.size + 1) (bys z16) tA16 := by
    have := (((Blk.new (w.alloc (.cells (bys h).toArray tA16)) (bys z16) tA16).alloc (.cells #[U64 0, U64 0] tEl)).alloc (.cells #[U64 0, U64 0] tEl)).alloc (.cells (bys z16).toArray tA16)
    simp only [World.size_alloc] at this; exact this
  have h2 : Blk (((((w.alloc (.cells (bys h).toArray tA16)).alloc (.cells (bys z16).toArray tA16)).alloc (.cells #[U64 0, U64 0] tEl)).alloc (.cells #[U64 0, U64 0] tEl)).alloc (.cells (bys z16).toArray tA16)) (w.heap.size + 1 + 1) (elc 0) tEl := by
    have := ((Blk.new ((w.alloc (.cells (bys h).toArray tA16)).alloc (.cells (bys z16).toArray tA16)) (elc 0) tEl).alloc (.cells #[U64 0, U64 0] tEl)).alloc (.cells (bys z16).toArray tA16)
    simp only [World.size_alloc] at this; exact this
  have h3 : Blk (((((w.alloc (.cells (bys h).toArray tA16)).alloc (.cells (bys z16).toArray tA16)).alloc (.cells #[U64 0, U64 0] tEl)).alloc (.cells #[U64 0, U64 0] tEl)).alloc (.cells (bys z16).toArray tA16)) (w.heap.size + 1 + 1 + 1) (elc 0) tEl := by
    have := (Blk.new (((w.alloc (.cells (bys h).toArray tA16)).alloc (.cells (bys z16).toArray tA16)).alloc (.cells #[U64 0, U64 0] tEl)) (elc 0) tEl).alloc (.cells (bys z16).toArray tA16)
    simp only [World.size_alloc] at this; exact this
  have h4 : Blk (((((w.alloc (.cells (bys h).toArray tA16)).alloc (.cells (bys z16).toArray tA16)).alloc (.cells #[U64 0, U64 0] tEl)).alloc (.cells #[U64 0, U64 0] tEl)).alloc (.cells (bys z16).toArray tA16)) (w.heap.size + 1 + 1 + 1 + 1) (bys z16) tA16 := by
    have := Blk.new ((((w.alloc (.cells (bys h).toArray tA16)).alloc (.cells (bys z16).toArray tA16)).alloc (.cells #[U64 0, U64 0] tEl)).alloc (.cells #[U64 0, U64 0] tEl)) (bys z16) tA16
    simp only [World.size_alloc] at this; exact this
  have hB : Below w.heap.size w (((((w.alloc (.cells (bys h).toArray tA16)).alloc (.cells (bys z16).toArray tA16)).alloc (.cells #[U64 0, U64 0] tEl)).alloc (.cells #[U64 0, U64 0] tEl)).alloc (.cells (bys z16).toArray tA16)) :=
    (((((Below.refl _ _).alloc (Nat.le_refl _) _).alloc (by simp) _).alloc (by simp; omega) _).alloc (by simp; omega) _).alloc (by simp; omega) _
  have hsz : (Tryz.prog.info? 100).map (·.size) = some (bys h).length := by rw [size54, bys_length, hh]
  clear hn hh
  go_enter Tryz.func201, Tryz.ntmps201
  go_wp2_with fail
  refine wp_scope_jumps 0 (fun a' w' => ∃ (kb j m : Nat) (pb' : Option Addr) (c' : Nat) (u9 u10 u11 u12 u13 u14 u15 u16 u17 u18 u19 u20 u21 u22 u23 u24 u25 u26 u27 u28 u29 u30 u31 u32 u33 u34 u35 u36 : Value), a' = { tmps := #[.agg (bys h).toArray, .slice pb' m c', .pointer (some ⟨w.heap.size, 0, none⟩), undef, .pointer (some ⟨w.heap.size + 1, 0, none⟩), .pointer (some ⟨w.heap.size + 1 + 1, 0, none⟩), .pointer (some ⟨w.heap.size + 1 + 1 + 1, 0, none⟩), .pointer (some ⟨w.heap.size + 1 + 1 + 1 + 1, 0, none⟩), .pointer (some ⟨kb, 0, none⟩), u9, u10, u11, u12, u13, u14, u15, u16, u17, u18, u19, u20, u21, u22, u23, u24, u25, u26, u27, u28, u29, u30, u31, u32, u33, u34, u35, u36], defers := [] } ∧ GS w w' (be h) b kb j m pb' c')
    (fun a' _ => match a'.tmps.getD 1 undef with | .slice _ m _ => m | _ => 0) rfl ?first ?pass
  case' first =>
    go_wp2_with (refine wpList_load_mid rfl 100 (.tmp 2) rfl w.heap.size 0 rfl (bys h) _ h0.whole under54 rfl hsz ?_)
    change Calls _ _ _ (((((w.alloc (.cells (bys h).toArray tA16)).alloc (.cells (bys z16).toArray tA16)).alloc (.cells #[U64 0, U64 0] tEl)).alloc (.cells #[U64 0, U64 0] tEl)).alloc (.cells (bys z16).toArray tA16)) _
    generalize (((((w.alloc (.cells (bys h).toArray tA16)).alloc (.cells (bys z16).toArray tA16)).alloc (.cells #[U64 0, U64 0] tEl)).alloc (.cells #[U64 0, U64 0] tEl)).alloc (.cells (bys z16).toArray tA16)) = w1 at *
    refine (of_any w1 h Hh.out).mono ?_
    rintro e w2 ⟨rfl, hB2⟩
    have h1 := h1.below hB2 h1.lt
    have h2 := h2.below hB2 h2.lt
    have h3 := h3.below hB2 h3.lt
    have l4 := h4.lt
    have h4 := h4.below hB2 h4.lt
    have hB := hB.trans (hB2.mono hB.size)
    have hs2 := hB2.size
    clear hB2 h0
    have h5 : Blk (w2.alloc (.cells (elc (be h)).toArray tEl)) w2.heap.size (elc (be h)) tEl := Blk.new _ _ _
    have hcs : GS w (w2.alloc (.cells (elc (be h)).toArray tEl)) (be h) b w2.heap.size 0 n pb cap :=
      ⟨⟨z16, rfl, h4.alloc _⟩, h2.alloc _, ⟨0, h3.alloc _⟩, h1.alloc _, h5, by omega, by simpa using hb, by rw [Hn.out]; omega, by omega, hc, hB.alloc hB.size _⟩
    obtain ⟨j, hcs⟩ : ∃ j, GS w (w2.alloc (.cells (elc (be h)).toArray tEl)) (be h) b w2.heap.size j n pb cap := ⟨0, hcs⟩
    have Hcs := hid hcs
    clear hcs h1 h2 h3 h4 h5 hB l4 hs2
    go_wp2_with fail
    go_step3
    change Exit.then _ _ _ _ (w2.alloc (.cells (elc (be h)).toArray tEl))
    generalize w2.alloc (.cells (elc (be h)).toArray tEl) = w' at *
    generalize w2.heap.size = kb at *
    obtain ⟨m, hmn⟩ : ∃ m, n = m := ⟨_, rfl⟩
    rw [hmn] at Hcs ⊢
    clear hmn hb hc
    generalize pb = pb' at *
    generalize cap = c' at *
  case' pass =>
    rintro a' w' ⟨kb, j, m, pb', c', u9, u10, u11, u12, u13, u14, u15, u16, u17, u18, u19, u20, u21, u22, u23, u24, u25, u26, u27, u28, u29, u30, u31, u32, u33, u34, u35, u36, rfl, hcs⟩
    have Hcs := hid hcs
    clear hcs h0 h1 h2 h3 h4 hB hb hc
  all_goals
    have HG := Hcs.out
    obtain ⟨xs, hxl, hX⟩ := HG.hx
    obtain ⟨e0, hE⟩ := HG.he
    have hY := HG.hy
    have hR := HG.hr
    have hK := HG.hk
    have hYl := ghN_lt (be16 Hh.out) b j
    by_cases h0 : m = 0
    · have hfin : ghF h b = toBe 16 (ghN (be h) b j) := by
        unfold ghF
        have h1 := HG.hm
        have h2 := HG.hj
        rw [show nblk b.length = j by unfold nblk; omega]
      have hB := HG.hB
      obtain ⟨Y, hYe⟩ : ∃ Y, ghN (be h) b j = Y := ⟨_, rfl⟩
      rw [hYe] at hY hYl hfin
      have Hfin := hid hfin
      have y0 := hY.cell 0
      have y1 := hY.cell 1
      simp only [List.getElem?_cons_zero, List.getElem?_cons_succ] at y0 y1
      have lR := hR.lt
      clear hX hE hK hfin HG Hcs hYe
      go_wp2_with fail
      refine (block_any _ Y hYl).mono ?_
      rintro e w3 ⟨rfl, hB3⟩
      have hR3 := hR.below hB3 hR.lt
      have hBB := hB.trans (hB3.mono hB.size)
      have hql := toBe_len 16 Y
      obtain ⟨q, hq⟩ : ∃ q, toBe 16 Y = q := ⟨_, rfl⟩
      rw [hq] at hql Hfin ⊢
      clear hY y0 y1 hR hB3 hB hq
      go_wp2_with (refine wpList_store_mid rfl 100 (.tmp 4) (.tmp 15) rfl (w.heap.size + 1) 0 (bys q).toArray rfl rfl (hR3.there 0 _ (by rw [List.size_toArray, bys_length, bys_length, hql]; decide)) (by rw [size54, List.size_toArray, bys_length, hql]) (all_oneCell_toArray (bys_one _)) ?_)
      have h1d := hR3.setCells (bys q) 0 (by rw [bys_length, bys_length, hql]; decide)
      rw [splice_whole _ _ (by rw [bys_length, bys_length, hql]; rfl)] at h1d
      simp only [Exit.jump]
      refine bodyPost_ret (v := .agg (bys q).toArray) (results_cell_row (P := Tryz.prog) (p := 4) (ty := 100) rfl _ _ (w.heap.size + 1) tA16 _ (0, 0) _ rfl h1d under54 rfl (by rw [size54, List.size_toArray, bys_length, hql])) rfl ⟨by rw [Hfin.out], ?_⟩
      exact hBB.trans (((Chg.refl (w.heap.size) [] w3).setCells (.inr (by omega)) _ _).below (Nat.le_refl _) (by simp))
    · have q1 : ((m : Int) == 0) = false := by rw [beq_eq_false_iff_ne]; omega
      obtain ⟨bb, bo, rfl, hbl, _⟩ := HG.hb 0 (by rw [List.length_drop]; have := HG.hm; omega)
      obtain ⟨k, hk⟩ : ∃ k, min m 16 = k := ⟨_, rfl⟩
      have hx1 := hX.setCells (bys z16) 0 (by rw [bys_length, bys_length, hxl]; decide)
      rw [splice_whole _ _ (by rw [bys_length, bys_length, hxl]; rfl)] at hx1
      have hcx := (Chg.refl w'.heap.size [w.heap.size + 1 + 1 + 1 + 1] w').setCells (b := w.heap.size + 1 + 1 + 1 + 1) (.inl (by simp)) (bys z16) 0
      have hrow := (HG.hb.below HG.hB).chgL hcx (fun a e => by cases e; have := HG.hB.size; show bb < _; omega) (fun a e => by cases e; simp; omega)
      have hlen : (b.drop (16 * j)).length = m := by rw [List.length_drop, HG.hm]
      have hBx := HG.hB.trans (hcx.below (M := w.heap.size) HG.hB.size (fun k hk => by simp at hk; omega))
      have hy1 := hY.chg hcx hY.lt (by simp)
      have he1 := hE.chg hcx hE.lt (by simp)
      have hr1 := hR.chg hcx hR.lt (by simp)
      have hk1 := hK.chg hcx hK.lt (by simp; have := HG.hkb; omega)
      go_upto_region 7 with (refine wpList_store_mid rfl 100 (.tmp 7) (.tmp 16) rfl (w.heap.size + 1 + 1 + 1 + 1) 0 (bys z16).toArray rfl rfl (hX.there 0 _ (by rw [List.size_toArray, bys_length, bys_length, hxl]; decide)) (by rw [size54]; rfl) (all_oneCell_toArray (bys_one _)) ?_)
      change Code.wp _ _ _ _ (w'.setCells (w.heap.size + 1 + 1 + 1 + 1) 0 (bys z16))
      generalize w'.setCells (w.heap.size + 1 + 1 + 1 + 1) 0 (bys z16) = w2 at *
      have hz16 : (bys z16).length = 16 := rfl
      generalize hZe : bys z16 = Z at *
      clear hX hY hE hR hK hcx
      have hspl : splice Z 0 (bys ((b.drop (16 * j)).take k)) = bys (blkZ b j) := by
        rw [← hZe]; exact splice_blkZ b j k (by rw [hlen, hk])
      have Hspl := hid hspl
      have Hhp := hid (rfl : (sfrom (some ⟨bb, bo, none⟩) c' k) = (sfrom (some ⟨bb, bo, none⟩) c' k))
      obtain ⟨p2, hp2⟩ : ∃ p2, sfrom (some ⟨bb, bo, none⟩) c' k = p2 := ⟨_, rfl⟩
      have hrow2 := sfrom_row (k := k) HG.hb hlen HG.hc
      rw [hp2, List.drop_drop] at hrow2
      have hm2 : m - k = b.length - 16 * (j + 1) := by have := HG.hm; omega
      have hrow2' : RowAt w p2 (b.drop (16 * (j + 1))) := by
        by_cases h16 : k = 16
        · rw [h16, ← Nat.mul_succ] at hrow2; exact hrow2
        · rw [List.drop_of_length_le (by have := HG.hm; omega)]; exact RowAt.nil _ _
      have Hm2 := hid hm2
      have Hrow2 := hid hrow2'
      have Hk := hid hk
      have hkm : (k : Int) ≤ (m : Int) := by omega
      have hk0 : 0 ≤ (k : Int) := by omega
      have hmc := HG.hc
      have hkc : (k : Int) ≤ (c' : Int) := by omega
      have hp3 : (k = c' ∧ p2 = some ⟨bb, bo, none⟩) ∨ (c' ≠ k ∧ p2 = some ⟨bb, bo + k, none⟩) := by
        rw [← hp2]; unfold sfrom
        by_cases e : c' = k
        · exact .inl ⟨e.symm, by rw [if_pos e]⟩
        · exact .inr ⟨e, by rw [if_neg e, Option.map_some, Addr.add_mid]⟩
      have HZe := hid hZe
      clear hp2 hrow2 hrow2' hm2 hspl hZe
      have hkm' : min m 16 = k := Hk.out
      clear hk
      have HG2 := hid (⟨HG.hkb, HG.hj⟩ : _ ∧ _)
      have hmL := hid HG.hm
      clear HG Hcs
      rcases hp3 with ⟨hck, hp3⟩ | ⟨hck, hp3⟩
      case' inl => subst hck
      all_goals
        go_upto_region 8 with (refine wpList_copy_rowAt rfl (.tmp 18) (.tmp 19) 23 23 rfl 5 under33b (by kernel_rfl) (w.heap.size + 1 + 1 + 1 + 1) 0 16 16 bb bo m _ rfl rfl Z (b.drop (16 * j)) tA16 hx1 hrow hlen k hkm'.symm (by rw [hz16]; omega) ?_; intro w3 hx3 hC3 hs3)
        rw [Hspl.out] at hx3
        have hBx := hBx.trans (hC3.below (M := w.heap.size) hBx.size (fun k hk => by simp at hk; omega))
        have hy1 := hy1.chg hC3 hy1.lt (by simp)
        have he1 := he1.chg hC3 he1.lt (by simp)
        have hr1 := hr1.chg hC3 hr1.lt (by simp)
        have hk1 := hk1.chg hC3 hk1.lt (by simp; have := HG2.out.1; omega)
        have hbz := blkZ_len b j
        obtain ⟨x, hx⟩ : ∃ x, blkZ b j = x := ⟨_, rfl⟩
        rw [hx] at hx3 hbz
        have hgj : ghN (be h) b (j + 1) = mulN (ghN (be h) b j ^^^ be x) (be h) := by rw [ghN, hx]
        obtain ⟨Y, hYe⟩ : ∃ Y, ghN (be h) b j = Y := ⟨_, rfl⟩
        rw [hYe] at hgj hy1 hYl
        have hsx : (Tryz.prog.info? 100).map (·.size) = some (bys x).length := by rw [size54, bys_length, hbz]
        have Hgj := hid hgj
        clear hC3 hx hgj hYe Hspl
        go_wp2_with (refine wpList_load_mid rfl 100 (.tmp 7) rfl (w.heap.size + 1 + 1 + 1 + 1) 0 rfl (bys x) _ hx3.whole under54 rfl hsx ?_)
        refine (of_any w3 x hbz).mono ?_
        rintro e w4 ⟨rfl, hB4⟩
        have hbx := be16 hbz
        have hx3 := hx3.below hB4 hx3.lt
        have hy1 := hy1.below hB4 hy1.lt
        have he1 := he1.below hB4 he1.lt
        have hr1 := hr1.below hB4 hr1.lt
        have hk1 := hk1.below hB4 hk1.lt
        have hBx := hBx.trans (hB4.mono hBx.size)
        have hHl := be16 Hh.out
        obtain ⟨X, hXe⟩ : ∃ X, be x = X := ⟨_, rfl⟩
        obtain ⟨HH, hHe⟩ : ∃ HH, be h = HH := ⟨_, rfl⟩
        have hgj := Hgj.out
        rw [hXe] at hbx ⊢
        rw [hXe, hHe] at hgj
        rw [hHe] at hk1 hHl
        have HHe := hid hHe
        have Hgj2 := hid hgj
        have f0 := he1.frozen 0
        have f1 := he1.frozen 1
        have r0 := he1.cell 0
        have r1 := he1.cell 1
        simp only [List.getElem?_cons_zero, List.getElem?_cons_succ] at r0 r1
        have hC5 := ((Chg.refl w4.heap.size [w.heap.size + 1 + 1 + 1] w4).setCell (p := ⟨w.heap.size + 1 + 1 + 1, 0, none⟩) (.inl (by simp)) (U64 (hiN X))).setCell (p := ⟨w.heap.size + 1 + 1 + 1, 1, none⟩) (.inl (by simp)) (U64 (loN X))
        have he5 : Blk _ (w.heap.size + 1 + 1 + 1) (elc X) tEl := (he1.set 0 (U64 (hiN X))).set 1 (U64 (loN X))
        have hx5 := hx3.chg hC5 hx3.lt (by simp)
        have hy5 := hy1.chg hC5 hy1.lt (by simp)
        have hr5 := hr1.chg hC5 hr1.lt (by simp)
        have hk5 := hk1.chg hC5 hk1.lt (by simp; have := HG2.out.1; omega)
        have hB5 := hBx.trans (hC5.below (M := w.heap.size) hBx.size (fun k hk => by simp at hk; omega))
        have He5 := hid he5
        have Hx5 := hid hx5
        have Hy5 := hid hy5
        have Hr5 := hid hr5
        have Hk5 := hid hk5
        have HB5 := hid hB5
        clear hx3 hy1 he1 hr1 hk1 hBx hB4 hXe hHe hgj he5 hx5 hy5 hr5 hk5 hB5 hC5 Hgj
        go_upto_region 9 with fail
        clear f0 f1 r0 r1
        change Code.wp _ _ _ _ ((w4.setCell ⟨w.heap.size + 1 + 1 + 1, 0, none⟩ (U64 (hiN X))).setCell ⟨w.heap.size + 1 + 1 + 1, 1, none⟩ (U64 (loN X)))
        generalize (w4.setCell ⟨w.heap.size + 1 + 1 + 1, 0, none⟩ (U64 (hiN X))).setCell ⟨w.heap.size + 1 + 1 + 1, 1, none⟩ (U64 (loN X)) = w5 at *
        have y0 := Hy5.out.cell 0
        have y1 := Hy5.out.cell 1
        have x0 := He5.out.cell 0
        have x1 := He5.out.cell 1
        have k0 := Hk5.out.cell 0
        have k1 := Hk5.out.cell 1
        simp only [List.getElem?_cons_zero, List.getElem?_cons_succ] at y0 y1 x0 x1 k0 k1
        have hxa := bx_nat (hiN Y) (hiN X) (hiN_lt hYl) (hiN_lt hbx)
        have hxb := bx_nat (loN Y) (loN X) (loN_lt Y) (loN_lt X)
        rw [← hiN_xor] at hxa
        rw [← loN_xor] at hxb
        have hVl := Nat.xor_lt_two_pow hYl hbx
        have hgj := Hgj2.out
        obtain ⟨V, hV⟩ : ∃ V, Y ^^^ X = V := ⟨_, rfl⟩
        rw [hV] at hxa hxb hVl hgj
        have Hgj := hid hgj
        clear hV hgj Hgj2
        go_wp2_with fail
        refine (gtimes_any w5 V HH hVl hHl).mono ?_
        rintro e w6 ⟨rfl, hB6⟩
        have Ly := Hy5.out.lt
        have he6 := He5.out.below hB6 He5.out.lt
        have hx6 := Hx5.out.below hB6 Hx5.out.lt
        have hy6 := Hy5.out.below hB6 Hy5.out.lt
        have hr6 := Hr5.out.below hB6 Hr5.out.lt
        have hk6 := Hk5.out.below hB6 Hk5.out.lt
        have hB6 := HB5.out.trans (hB6.mono HB5.out.size)
        obtain ⟨U, hU⟩ : ∃ U, mulN V HH = U := ⟨_, rfl⟩
        have hgj := Hgj.out
        rw [hU] at hgj ⊢
        have hC7 := ((Chg.refl w6.heap.size [w.heap.size + 1 + 1] w6).setCell (p := ⟨w.heap.size + 1 + 1, 0, none⟩) (.inl (by simp)) (U64 (hiN U))).setCell (p := ⟨w.heap.size + 1 + 1, 1, none⟩) (.inl (by simp)) (U64 (loN U))
        have hy7 : Blk _ (w.heap.size + 1 + 1) (elc U) tEl := (hy6.set 0 (U64 (hiN U))).set 1 (U64 (loN U))
        have hlast : ∀ m2 c2, m2 = b.length - 16 * (j + 1) → m2 ≤ c2 → GS w ((w6.setCell ⟨w.heap.size + 1 + 1, 0, none⟩ (U64 (hiN U))).setCell ⟨w.heap.size + 1 + 1, 1, none⟩ (U64 (loN U))) (be h) b kb (j + 1) m2 p2 c2 := fun m2 c2 e1 e2 =>
          ⟨⟨x, hbz, hx6.chg hC7 hx6.lt (by simp only [List.mem_singleton]; omega)⟩, by rw [HHe.out, hgj]; exact hy7, ⟨X, he6.chg hC7 he6.lt (by simp only [List.mem_singleton]; omega)⟩, by rw [HZe.out]; exact hr6.chg hC7 hr6.lt (by simp only [List.mem_singleton]; omega), by rw [HHe.out]; exact hk6.chg hC7 hk6.lt (by simp; have := HG2.out.1; omega), HG2.out.1, Hrow2.out, e1,
            by have h1 := hmL.out; omega, e2, hB6.trans (hC7.below (M := w.heap.size) hB6.size (fun k hk => by simp at hk; omega))⟩
        have Hlast := hid hlast
        have f0 := hy6.frozen 0
        have f1 := hy6.frozen 1
        have r0 := hy6.cell 0
        have r1 := hy6.cell 1
        simp only [List.getElem?_cons_zero, List.getElem?_cons_succ] at r0 r1
        clear y0 y1 x0 x1 k0 k1 hxa hxb hU hgj he6 hx6 hy6 hr6 hk6 hB6 hC7 hy7 hlast
        go_wp2_with fail
        go_step3
        rw [hp3] at Hlast
        first
        | exact ⟨rfl, kb, j + 1, _, _, _, _, _, _, _, _, _, _, _, _, _, _, _, _, _, _, _, _, _, _, _, _, _, _, _, _, _, _, _, rfl, Hlast.out 0 0 (by have := Hm2.out; omega) (Nat.le_refl _)⟩
        | exact ⟨rfl, kb, j + 1, _, _, _, _, _, _, _, _, _, _, _, _, _, _, _, _, _, _, _, _, _, _, _, _, _, _, _, _, _, _, _, rfl, Hlast.out _ _ Hm2.out (by omega)⟩
        | exact ⟨rfl, ⟨kb, j + 1, _, _, _, _, _, _, _, _, _, _, _, _, _, _, _, _, _, _, _, _, _, _, _, _, _, _, _, _, _, _, _, rfl, Hlast.out 0 0 (by have := Hm2.out; omega) (Nat.le_refl _)⟩, by simp; omega⟩
        | exact ⟨rfl, ⟨kb, j + 1, _, _, _, _, _, _, _, _, _, _, _, _, _, _, _, _, _, _, _, _, _, _, _, _, _, _, _, _, _, _, _, rfl, Hlast.out _ _ Hm2.out (by omega)⟩, by simp; omega⟩
end Go.Proofs.YtnmmnlffobnbfaaGreatDoor

/- ctr: Crypt -/
namespace Go.Proofs.YtnmmnlffobnbfaaGreatDoor
open Go.RowKit

/-- Where something is left, it lies in a block of its own type. -/
def LeftB (w : World) (L : Nat) (pa : Option Addr) : Prop := 0 < L → ∃ b o cs, pa = some ⟨b, o, none⟩ ∧ Blk w b cs tA16
/-- A stream, p bytes done. -/
def StreamAt (w : World) (sb : Nat) (kv : Option Addr) (E : List UInt8 → List UInt8) (iv : List UInt8) (p : Nat) : Prop :=
  ∃ f pa L cap, Blk w sb (scells kv (cnt iv f) (.slice pa L cap) p) tStream ∧ p + L = 16 * f ∧ RowAt w pa (ksL E iv p L) ∧ L ≤ cap ∧ L ≤ 16 ∧ Off [sb] pa ∧ LeftB w L pa

theorem sfrom_off {F : List Nat} {pa : Option Addr} (c k : Nat) (h : Off F pa) : Off F (sfrom pa c k) := by
  unfold sfrom
  split
  · exact h
  · intro a e
    cases pa with
    | none => cases e
    | some x =>
      have hx := h x rfl
      cases e
      have e2 : (x.add k).block = x.block := by unfold Addr.add; split <;> rfl
      show (x.add k).block ∉ F
      rw [e2]; exact hx

/-- Crypt on its way: q bytes of b are done, m are left. -/
structure CS (w w' : World) (sb : Nat) (kv : Option Addr) (E : List UInt8 → List UInt8) (iv : List UInt8) (p t : Nat) (b : List UInt8) (q m f : Nat) (pa : Option Addr) (L cap : Nat) (pb : Option Addr) (c : Nat) (v : Value) : Prop where
  hq : q + m = b.length
  hs : Blk w' sb (scells kv (cnt iv f) (.slice pa L cap) t) tStream
  hf : p + q + L = 16 * f
  hr : RowAt w' pa (ksL E iv (p + q) L)
  hl : L ≤ cap
  h16 : L ≤ 16
  ho : Off [sb] pa
  hb : RowAt w' pb (b.drop q)
  hc : m ≤ c
  hob : 0 < m → Off [sb] pb
  hv : OwnR w.heap.size w' v (xk E iv p (b.take q))
  hch : Chg w.heap.size [sb] w w'
  hne : 0 < L → ∀ j, v.ownBlock = some j → Off [j] pa
  hpl : 0 < m → ∀ a, pb = some a → a.block < w.heap.size
  hta : LeftB w' L pa

set_option maxRecDepth 100000 in
set_option maxHeartbeats 4000000 in
theorem crypt_s (w : World) (sb : Nat) (kv : Option Addr) (E : List UInt8 → List UInt8) (iv : List UInt8) (p : Nat) (hs : StreamAt w sb kv E iv p) (hk : KeyV w kv E) (pb : Option Addr) (n cap : Nat) (b : List UInt8) (hb : RowAt w pb b) (hn : b.length = n) (hc : n ≤ cap) (hof : 0 < n → Off [sb] pb) (hp : p + n < 1000000000000) :
    Calls Tryz.prog 126 #[.pointer (some ⟨sb, 0, none⟩), .slice pb n cap] w fun e w' => ∃ v, e = .returned v ∧ OwnR w.heap.size w' v (xk E iv p b) ∧ StreamAt w' sb kv E iv (p + n) ∧ Chg w.heap.size [sb] w w' ∧ KeyV w' kv E := by
  have Hn := hid hn
  obtain ⟨t, ht⟩ : ∃ t, p + n = t := ⟨_, rfl⟩
  have htl : (p : Int) + (n : Int) = (t : Int) := by omega
  have ht9 : t < 1000000000000 := by omega
  rw [ht]
  have Ht := hid ht
  have hsl : sb < w.heap.size := by obtain ⟨_, _, _, _, h, _⟩ := hs; exact h.lt
  have HK : Hid (∀ w', Chg w.heap.size [sb] w w' → KeyV w' kv E) := hid (fun w' hc => by obtain ⟨_, _, _, _, h, _⟩ := hs; exact hk.chg hc (Nat.le_refl _) h)
  clear ht
  go_enter Tryz.func126, Tryz.ntmps126
  go_wp2_with fail
  refine wp_scope_jumps 0 (fun a' w' => ∃ (q m f : Nat) (pa : Option Addr) (cap : Nat) (pb' : Option Addr) (c' : Nat) (v u6 u7 u8 u9 u10 u11 u12 u13 u14 u15 u16 u17 u18 u19 u20 u21 u22 u23 u24 u25 u26 u27 u28 u29 u30 u31 u32 u33 u34 u35 u36 u37 u38 u39 u40 u41 u42 u43 u44 u45 u46 : Value), a' = { tmps := #[.pointer (some ⟨sb, 0, none⟩), .slice pb' m c', undef, undef, .slice none 0 0, v, u6, u7, u8, u9, u10, u11, u12, u13, u14, u15, u16, u17, u18, u19, u20, u21, u22, u23, u24, u25, u26, u27, u28, u29, u30, u31, u32, u33, u34, u35, u36, u37, u38, u39, u40, u41, u42, u43, u44, u45, u46], defers := [] } ∧ CS w w' sb kv E iv p t b q m f pa 16 cap pb' c' v)
    (fun a' _ => match a'.tmps.getD 1 undef with | .slice _ m _ => m | _ => 0) rfl ?first ?pass
  case' first =>
    obtain ⟨f, pa, L, cp, hsb, hf, hr, hl, h16, ho, hta⟩ := hs
    have hnx := cnt_len iv f
    have ha := hsb.cell 18
    rw [scells_at _ _ _ _ hnx] at ha
    have hfr := hsb.frozen 18
    have hsb2 := hsb.set 18 (.int .i64 (t : Int))
    rw [scells_set18 _ _ _ _ _ hnx] at hsb2
    have hC0 := (Chg.refl w.heap.size [sb] w).setCell (p := ⟨sb, 18, none⟩) (.inl (by simp)) (.int .i64 (t : Int))
    obtain ⟨q, hq0⟩ : ∃ q : Nat, q = 0 := ⟨0, rfl⟩
    obtain ⟨m, hmn⟩ : ∃ m, m = n := ⟨n, rfl⟩
    have hcs : CS w (w.setCell ⟨sb, 18, none⟩ (.int .i64 (t : Int))) sb kv E iv p t b q m f pa L cp pb cap (.slice none 0 0) :=
      ⟨by omega, hsb2, by omega, by rw [hq0, Nat.add_zero]; exact hr.chg hC0 (Nat.le_refl _) ho, hl, h16, ho, by rw [hq0]; exact hb.chg2 hC0 (Nat.le_refl _) (fun h => hof (by rw [← hn]; exact h)), by omega, (fun h => hof (by omega)), by rw [hq0]; exact OwnR.nil _ _, hC0,
        (fun _ j e => by cases e), (fun h0 => hb.pos (by omega)), fun h => by (obtain ⟨x, o, cs, e, hx⟩ := hta h; exact ⟨x, o, cs, e, hx.setNe (hx.ne hsb (by decide)) _⟩)⟩
    have Hcs := hid hcs
    clear hcs hC0 hsb2 hn hk hr hl h16 ho hf hnx hsb hb hof hq0 hta
    go_wp2_with fail
    go_step3
    rw [← hmn]
    clear hmn ha hfr hc
    generalize w.setCell ⟨sb, 18, none⟩ (.int .i64 (t : Int)) = w' at *
    generalize pb = pb' at *
    generalize cap = c' at *
  case' pass =>
    rintro a' w' ⟨q, m, f, pa, cp, pb', c', v, u6, u7, u8, u9, u10, u11, u12, u13, u14, u15, u16, u17, u18, u19, u20, u21, u22, u23, u24, u25, u26, u27, u28, u29, u30, u31, u32, u33, u34, u35, u36, u37, u38, u39, u40, u41, u42, u43, u44, u45, u46, rfl, hcs⟩
    have Hcs := hid hcs
    obtain ⟨L, hL⟩ : ∃ L : Nat, L = 16 := ⟨_, rfl⟩
    rw [← hL] at Hcs
    have HL := hid hL
    clear hcs hL hn hs hk hb hof hc
  all_goals
    have H := Hcs.out
    have hcn := cnt_len iv f
    have hl17 := H.hs.cell 17
    rw [scells_left _ _ _ _ hcn] at hl17
    obtain ⟨k, hk'⟩ : ∃ k, min m L = k := ⟨_, rfl⟩
    have hbl : (b.drop q).length = m := by rw [List.length_drop, ← H.hq]; omega
    have hx0 := xor_any w' pb' pa m c' L cp k _ _ H.hb H.hr hbl (ksL_len _ _ _ _) (by have := H.hq; have := Hn.out; omega) hk'.symm
    rw [xk_part, hbl, hk'] at hx0
    have hkm : k ≤ m := by omega
    have hkL : k ≤ L := by omega
    have hYl0 : (xk E iv (p + q) ((b.drop q).take k)).length = k := by rw [xk_len, List.length_take, hbl]; omega
    have hcat0 : xk E iv p (b.take q) ++ xk E iv (p + q) ((b.drop q).take k) = xk E iv p (b.take (q + k)) := by
      have e : b.take (q + k) = b.take q ++ (b.drop q).take k := List.take_add
      rw [e, xk_append, List.length_take, Nat.min_eq_left (by have := H.hq; omega)]
    have hXl0 : (xk E iv p (b.take q)).length = q := by rw [xk_len, List.length_take, Nat.min_eq_left (by have := H.hq; omega)]
    have hqn0 : q + m = n := by rw [H.hq, Hn.out]
    obtain ⟨Y, hY⟩ : ∃ Y, xk E iv (p + q) ((b.drop q).take k) = Y := ⟨_, rfl⟩
    rw [hY] at hx0 hYl0 hcat0
    have hx := hid hx0
    have hcat := hid hcat0
    have hYl := hid hYl0
    have hXl := hid hXl0
    have hKm := hid hk'
    have hqn := hid hqn0
    have hcn' := hid hcn
    clear H hcn hk' hbl hY hx0 hcat0 hYl0 hXl0 hqn0
    go_wp2_with (first | (go_at_call 137; refine hx.out.mono ?_; rintro e w2 ⟨rfl, hP, hB2⟩; have hv2 := Hcs.out.hv.below (hB2.mono (Nat.le_refl _) |> fun h => h); have hs2 := hB2.size; have hP2 := hP.rowAt0; have hsw := Hcs.out.hch.size) | (refine wpList_addO hv2 rfl (.tmp 24) (.tmp 25) rfl rfl _ k k Y rfl hP2 hYl.out (by rw [hXl.out]; have := hqn.out; omega) (by omega) ?_; intro v' w3 hown3 hgrow3 hob3; rw [hcat.out] at hown3))
    have H := Hcs.out
    have hs3 := (H.hs.below hB2 H.hs.lt).kept hgrow3 (fun e => by have := (H.hv.lt sb e).1; omega)
    have hr3 : RowAt w3 pa (ksL E iv (p + q) L) := (H.hr.below hB2).kept2 hgrow3 (fun hX j e => by
      have : 0 < L := by rw [← List.length_pos_iff, ksL_len] at hX; exact hX
      exact H.hne this j e)
    have hb3 : RowAt w3 pb' (b.drop q) := (H.hb.below hB2).kept2 hgrow3 (fun hX j e a ea => by
      have hm0 : 0 < m := by rw [← List.length_pos_iff, List.length_drop] at hX; have := H.hq; omega
      have h1 := H.hpl hm0 a ea
      have h2 := (H.hv.lt j e).1
      simp; omega)
    have hC3 : Chg w.heap.size [sb] w w3 := (H.hch.trans (Chg.ofBelow (hB2.mono hsw))).grown hgrow3 (by omega) (fun j e => .inr (H.hv.lt j e).1)
    have hne3 : 0 < L - k → ∀ j, v'.ownBlock = some j → Off [j] (sfrom pa cp k) := fun h0 j e => by
      refine sfrom_off _ _ ?_
      rcases hob3 with h1 | h1
      · exact H.hne (by omega) j (by rw [← h1]; exact e)
      · rw [h1] at e
        cases e
        intro a ea
        have := H.hr.pos (by rw [ksL_len]; omega) a ea
        simp; omega
    have hr4 := sfrom_row (k := k) hr3 (ksL_len _ _ _ _) H.hl
    rw [ksL_drop _ _ _ _ _ hkL, Nat.add_assoc] at hr4
    have hbl : (b.drop q).length = m := by rw [List.length_drop, ← H.hq]; omega
    have hb4 := sfrom_row (k := k) hb3 hbl H.hc
    rw [List.drop_drop] at hb4
    have hO1 := sfrom_off cp k H.ho
    have hO2 : 0 < m - k → Off [sb] (sfrom pb' c' k) := fun h => sfrom_off c' k (H.hob (by omega))
    have hbl2 : (b.drop (q + k)).length = m - k := by rw [List.length_drop]; have := H.hq; omega
    have hpl3 : 0 < m - k → ∀ a, sfrom pb' c' k = some a → a.block < w.heap.size := fun h0 a ea => by
      have h1 := H.hpl (by omega)
      unfold sfrom at ea
      split at ea
      · exact h1 a ea
      · cases pb' with
        | none => cases ea
        | some x =>
          cases ea
          have e2 : (x.add k).block = x.block := by unfold Addr.add; split <;> rfl
          show (x.add k).block < _
          rw [e2]; exact h1 x rfl
    have hf' : p + (q + k) + (L - k) = 16 * f := by have := H.hf; omega
    have hta3 : 0 < L - k → ∃ x o cs, sfrom pa cp k = some ⟨x, o, none⟩ ∧ Blk w3 x cs tA16 := fun h0 => by
      obtain ⟨x, o, cs, e, hx⟩ := H.hta (by omega)
      have hlx := H.hl
      refine ⟨x, o + k, cs, ?_, (hx.below hB2 hx.lt).kept hgrow3 (fun e2 => ?_)⟩
      · unfold sfrom; rw [if_neg (by omega), e, Option.map_some, Addr.add_mid]
      · obtain ⟨cs2, hx2⟩ := hv2.typ x e2
        exact absurd rfl ((hx.below hB2 hx.lt).ne hx2 (by decide))
    have hlc := H.hl
    have hmc := H.hc
    have hc17 := hs3.cell 17
    have hf17 := hs3.frozen 17
    rw [scells_left _ _ _ _ hcn'.out] at hc17
    have hs4 := (hs3.drew).set 17 (.slice (sfrom pa cp k) (L - k) (cp - k))
    rw [scells_set17 _ _ _ _ _ hcn'.out] at hs4
    have Hs4 := hid hs4
    have q1 : (k : Int) ≤ (m : Int) := by omega
    have q2 : (k : Int) ≤ (L : Int) := by omega
    have q3 : 0 ≤ (k : Int) := by omega
    clear H hs4 hbl
    try simp only [Act.put]
    refine tkR (fun w' => w'.cell? ⟨sb, 17, none⟩ = some (.slice pa L cp)) [15] (by kernel_rfl) (fun c a d v w h => by cases d <;> exact h) (hc17) (fun hPF hHeld => ?_)
    refine tkB 0 (.some 27) _ _ rfl rfl (by kernel_rfl) (by kernel_rfl) (by kernel_rfl) (by kernel_rfl) hPF rfl (fun w' => by (go_simp; try with_reducible rfl)) hHeld (fun hHeld => ?_)
    simp only [Act.put, List.setIfInBounds_toArray, List.set_cons_zero, List.set_cons_succ]
    refine tkB 1 (.some 28) _ _ rfl rfl (by kernel_rfl) (by kernel_rfl) (by kernel_rfl) (by kernel_rfl) hPF rfl (fun w' => by (go_simp; try with_reducible rfl)) hHeld (fun hHeld => ?_)
    simp only [Act.put, List.setIfInBounds_toArray, List.set_cons_zero, List.set_cons_succ]
    refine tkB 2 (.some 29) _ _ rfl rfl (by kernel_rfl) (by kernel_rfl) (by kernel_rfl) (by kernel_rfl) hPF rfl (fun w' => by (go_simp; try with_reducible rfl)) hHeld (fun hHeld => ?_)
    simp only [Act.put, List.setIfInBounds_toArray, List.set_cons_zero, List.set_cons_succ]
    refine tkB 3 (.some 30) _ _ rfl rfl (by kernel_rfl) (by kernel_rfl) (by kernel_rfl) (by kernel_rfl) hPF rfl (fun w' => by (go_simp; try with_reducible rfl)) hHeld (fun hHeld => ?_)
    simp only [Act.put, List.setIfInBounds_toArray, List.set_cons_zero, List.set_cons_succ]
    refine tkA 4 (.some 31) _ (.slice (sfrom pb' c' k) (m - k) (c' - k)) rfl rfl (by kernel_rfl) (by kernel_rfl) (by kernel_rfl) (by kernel_rfl) (by kernel_rfl) hPF rfl (fun w' hw' => by (go_simp; simp [sfrom])) hHeld (fun hHeld => ?_)
    simp only [Act.put, List.setIfInBounds_toArray, List.set_cons_zero, List.set_cons_succ]
    refine tkB 5 (.some 32) _ _ rfl rfl (by kernel_rfl) (by kernel_rfl) (by kernel_rfl) (by kernel_rfl) hPF rfl (fun w' => by (go_simp; try with_reducible rfl)) hHeld (fun hHeld => ?_)
    simp only [Act.put, List.setIfInBounds_toArray, List.set_cons_zero, List.set_cons_succ]
    refine tkB 6 (.some 33) _ _ rfl rfl (by kernel_rfl) (by kernel_rfl) (by kernel_rfl) (by kernel_rfl) hPF rfl (fun w' => by (go_simp; try with_reducible rfl)) hHeld (fun hHeld => ?_)
    simp only [Act.put, List.setIfInBounds_toArray, List.set_cons_zero, List.set_cons_succ]
    refine tkB 7 (.some 34) _ _ rfl rfl (by kernel_rfl) (by kernel_rfl) (by kernel_rfl) (by kernel_rfl) hPF rfl (fun w' => by (go_simp; try with_reducible rfl)) hHeld (fun hHeld => ?_)
    simp only [Act.put, List.setIfInBounds_toArray, List.set_cons_zero, List.set_cons_succ]
    refine tkA 8 (.some 35) _ _ rfl rfl (by kernel_rfl) (by kernel_rfl) (by kernel_rfl) (by kernel_rfl) (by kernel_rfl) hPF rfl (fun w' hw' => by (go_simp; try with_reducible rfl)) hHeld (fun hHeld => ?_)
    simp only [Act.put, List.setIfInBounds_toArray, List.set_cons_zero, List.set_cons_succ]
    refine tkB 9 (.some 36) _ _ rfl rfl (by kernel_rfl) (by kernel_rfl) (by kernel_rfl) (by kernel_rfl) hPF rfl (fun w' => by (go_simp; try with_reducible rfl)) hHeld (fun hHeld => ?_)
    simp only [Act.put, List.setIfInBounds_toArray, List.set_cons_zero, List.set_cons_succ]
    refine tkB 10 (.some 37) _ _ rfl rfl (by kernel_rfl) (by kernel_rfl) (by kernel_rfl) (by kernel_rfl) hPF rfl (fun w' => by (go_simp; try with_reducible rfl)) hHeld (fun hHeld => ?_)
    simp only [Act.put, List.setIfInBounds_toArray, List.set_cons_zero, List.set_cons_succ]
    refine tkA 11 (.some 38) _ (.slice (sfrom pa cp k) (L - k) (cp - k)) rfl rfl (by kernel_rfl) (by kernel_rfl) (by kernel_rfl) (by kernel_rfl) (by kernel_rfl) hPF rfl (fun w' hw' => by (go_simp; simp [sfrom])) hHeld (fun hHeld => ?_)
    simp only [Act.put, List.setIfInBounds_toArray, List.set_cons_zero, List.set_cons_succ]
    refine tkB 12 (.some 1) _ _ rfl rfl (by kernel_rfl) (by kernel_rfl) (by kernel_rfl) (by kernel_rfl) hPF rfl (fun w' => by (go_simp; try with_reducible rfl)) hHeld (fun hHeld => ?_)
    simp only [Act.put, List.setIfInBounds_toArray, List.set_cons_zero, List.set_cons_succ]
    refine tkB 13 (.some 39) _ _ rfl rfl (by kernel_rfl) (by kernel_rfl) (by kernel_rfl) (by kernel_rfl) hPF rfl (fun w' => by (go_simp; try with_reducible rfl)) hHeld (fun hHeld => ?_)
    simp only [Act.put, List.setIfInBounds_toArray, List.set_cons_zero, List.set_cons_succ]
    refine tkB 14 (.some 40) _ _ rfl rfl (by kernel_rfl) (by kernel_rfl) (by kernel_rfl) (by kernel_rfl) hPF rfl (fun w' => by (go_simp; try with_reducible rfl)) hHeld (fun hHeld => ?_)
    simp only [Act.put, List.setIfInBounds_toArray, List.set_cons_zero, List.set_cons_succ]
    refine tkW (rs := [15]) (by kernel_rfl) (by simp) (AllK.close (o := _) rfl (by kernel_rfl) (fun KC hKC => ?_) AllK.nil)
    go_simp
    refine hKC.out _ _ (fun hHeld => ?_)
    clear hKC KC
    try simp only [Act.put]
    refine tkD (by kernel_rfl) ?_ _
    obtain ⟨m', hm'⟩ : ∃ m', m - k = m' := ⟨_, rfl⟩
    rw [hm'] at hpl3 hO2 hbl2
    have Hbl2 := hid hbl2
    have hcm : m' ≤ c' - k := by omega
    have hC34 : Chg w3.heap.size [sb] w3 (w3.setCell ⟨sb, 17, none⟩ (.slice (sfrom pa cp k) (L - k) (cp - k))).drew := ((Chg.refl w3.heap.size [sb] w3).setCell (p := ⟨sb, 17, none⟩) (.inl (by simp)) _).drew
    have hs5 : Blk (w3.setCell ⟨sb, 17, none⟩ (.slice (sfrom pa cp k) (L - k) (cp - k))).drew sb (scells kv (cnt iv f) (.slice (sfrom pa cp k) (L - k) (cp - k)) t) tStream := (Hs4.out).drew
    have hsz5 : (w3.setCell ⟨sb, 17, none⟩ (.slice (sfrom pa cp k) (L - k) (cp - k))).drew.heap.size = w3.heap.size := by simp [World.setCell]
    have hC5 := hC3.trans (hC34.mono (M := w.heap.size) hC3.size (fun _ _ h => h))
    have hta5 : LeftB (w3.setCell ⟨sb, 17, none⟩ (.slice (sfrom pa cp k) (L - k) (cp - k))).drew (L - k) (sfrom pa cp k) := fun h0 => by
      obtain ⟨x, o, cs, e, hx⟩ := hta3 h0
      exact ⟨x, o, cs, e, (hx.setNe (hx.ne hs3 (by decide)) _).drew⟩
    have hr5 := hr4.chg hC34 (Nat.le_refl _) hO1
    have hb5 := hb4.chg2 hC34 (Nat.le_refl _) (fun h => hO2 (by rw [← Hbl2.out]; exact h))
    have ho5 := hown3.chg hC34 (Nat.le_refl _) (fun g e => by have := (hown3.lt g e).1; simp; omega)
    generalize (w3.setCell ⟨sb, 17, none⟩ (.slice (sfrom pa cp k) (L - k) (cp - k))).drew = w5 at *
    have hv5 : ∀ j, v'.ownBlock = some j → j < w5.heap.size := fun j e => (ho5.lt j e).2
    clear hs3 hr3 hb3 hC3 hr4 hb4 hown3 hgrow3 hc17 hf17 hC34 hbl2 hta3 hP hP2 hv2 hB2 hx hob3 hHeld hPF
    have Hsz5 := hid hsz5
    have Hm' := hid hm'
    clear hsz5
    rw [hm']
    by_cases h0 : m' = 0
    · subst h0
      have hqk : q + k = b.length := by have := Hcs.out.hq; omega
      rw [hqk, List.take_of_length_le (Nat.le_refl _)] at ho5
      have hst : StreamAt w5 sb kv E iv t := ⟨f, _, _, _, hs5, by have := Ht.out; have := Hn.out; omega, hr5.congr (by rw [← Ht.out, ← Hn.out, ← hqk]), by omega, by have := Hcs.out.h16; omega, hO1, hta5⟩
      have Hst := hid hst
      have Hky := HK.out _ hC5
      clear hs5 hr5 hb5 hst hqk hm'
      go_wp2_with fail
      simp only [Exit.jump]
      go_ret
      exact ⟨_, rfl, ho5, Hst.out, hC5, Hky⟩
    · have hb0 : ((m' : Int) == 0) = false := by rw [beq_eq_false_iff_ne]; omega
      have hkL2 := hid (show k = L by have := Hm'.out; have := hKm.out; omega)
      have hky := HK.out _ hC5
      go_wp2_with (refine (fill_any w5 sb kv E (cnt iv f) _ t hs5 hky hcn'.out).mono ?_; rintro e w6 ⟨rfl, gb, hge, hG6, hs6, hC6⟩)
      go_step3
      have hel : (E (cnt iv f)).length = 16 := hky.len _ hcn'.out
      have hfk : p + (q + k) = 16 * f := by have := Hcs.out.hf; have := hkL2.out; omega
      have hC6' := hC5.trans (hC6.mono (M := w.heap.size) hC5.size (fun _ _ h => h))
      have hrow : RowAt w6 (some ⟨gb, 0, none⟩) (ksL E iv (p + (q + k)) 16) := by
        rw [hfk, ← ksL_block E iv f hel]; exact hG6.rowAt0
      have hJ : CS w w6 sb kv E iv p t b (q + k) m' (f + 1) (some ⟨gb, 0, none⟩) 16 16 (sfrom pb' c' k) (c' - k) v' :=
        ⟨by have := Hcs.out.hq; have := Hm'.out; omega, by rw [← cnt_cnt]; exact hs6, by omega, hrow, Nat.le_refl _, Nat.le_refl _, fun a e => by (cases e; simp; have := hC5.size; omega),
          hb5.chg2 hC6 (Nat.le_refl _) (fun h => hO2 (by rw [← Hbl2.out]; exact h)), hcm, hO2, ho5.chg hC6 (Nat.le_refl _) (fun g e => by have := (ho5.lt g e).1; simp; omega), hC6',
          (fun _ j e a ea => by (cases ea; have := hv5 j e; simp; omega)), hpl3, fun _ => ⟨gb, 0, _, rfl, hG6⟩⟩
      first
      | exact ⟨rfl, q + k, m', f + 1, _, _, _, _, _, _, _, _, _, _, _, _, _, _, _, _, _, _, _, _, _, _, _, _, _, _, _, _, _, _, _, _, _, _, _, _, _, _, _, _, _, _, _, _, _, _, rfl, hJ⟩
      | exact ⟨rfl, ⟨q + k, m', f + 1, _, _, _, _, _, _, _, _, _, _, _, _, _, _, _, _, _, _, _, _, _, _, _, _, _, _, _, _, _, _, _, _, _, _, _, _, _, _, _, _, _, _, _, _, _, _, rfl, hJ⟩, by (have h1 := Hm'.out; have h2 := hkL2.out; have h3 := HL.out; simp; omega)⟩

theorem StreamAt.kept {w w' : World} {sb : Nat} {kv : Option Addr} {E : List UInt8 → List UInt8} {iv : List UInt8} {p : Nat} {row : Option Nat} (h : StreamAt w sb kv E iv p) (hg : w.grownBy w' row) (ht : ∀ j, row = some j → ∃ cs, Blk w j cs tU8) : StreamAt w' sb kv E iv p := by
  obtain ⟨f, pa, L, cp, hsb, hf, hr, hl, h16, ho, hta⟩ := h
  refine ⟨f, pa, L, cp, hsb.kept hg (fun e => ?_), hf, hr.kept2 hg (fun hX j e => ?_), hl, h16, ho, fun h0 => ?_⟩
  · obtain ⟨cs, hx⟩ := ht sb e
    exact absurd rfl (hsb.ne hx (by decide))
  · have h0 : 0 < L := by rw [← List.length_pos_iff, ksL_len] at hX; exact hX
    obtain ⟨b, o, cs, e2, hb⟩ := hta h0
    obtain ⟨cs2, hx⟩ := ht j e
    have hne := hb.ne hx (by decide)
    intro a ea
    rw [e2] at ea; cases ea
    simpa using hne
  · obtain ⟨b, o, cs, e2, hb⟩ := hta h0
    refine ⟨b, o, cs, e2, hb.kept hg (fun e => ?_)⟩
    obtain ⟨cs2, hx⟩ := ht b e
    exact absurd rfl (hb.ne hx (by decide))

set_option maxRecDepth 100000 in
theorem crypt_nil (w : World) (pb : Option Addr) (n cap : Nat) : Calls Tryz.prog 126 #[.pointer none, .slice pb n cap] w fun e w' => e = .returned (.slice none 0 0) ∧ w = w' := by
  go_enter Tryz.func126, Tryz.ntmps126
  go_wp2_with fail
  refine wp_scope_straight ?_
  go_wp2_with fail
  rw [Exit.noGoto_ret]
  go_ret
  exact ⟨rfl, rfl⟩

set_option maxRecDepth 100000 in
set_option maxHeartbeats 1000000 in
/-- ctr.Crypt. -/
theorem crypt_any (w : World) (kv : Option Addr) (E : List UInt8 → List UInt8) (iv : List UInt8) (hk : KeyV w kv E) (hiv : iv.length = 16) (pb : Option Addr) (n cap : Nat) (b : List UInt8) (hb : RowAt w pb b) (hn : b.length = n) (hc : n ≤ cap) (hp : n < 1000000000) :
    Calls Tryz.prog 83 #[.pointer kv, .agg (bys iv).toArray, .slice pb n cap] w fun e w' => ∃ v, e = .returned v ∧ OwnR w.heap.size w' v (xk E iv 0 b) ∧ Below w.heap.size w w' := by
  have h0 := Blk.new w (bys iv) tA16
  have hB0 : Below w.heap.size w (w.alloc (.cells (bys iv).toArray tA16)) := (Below.refl _ _).alloc (Nat.le_refl _) _
  have hsz : (Tryz.prog.info? 100).map (·.size) = some (bys iv).length := by rw [size54, bys_length, hiv]
  have hs1 : (w.alloc (.cells (bys iv).toArray tA16)).heap.size = w.heap.size + 1 := by simp
  have hk0 := hk.below hB0
  have hb0 := hb.below hB0
  have hpos := hb.pos
  clear hk hb
  go_enter Tryz.func83, Tryz.ntmps83
  go_wp2_with (refine wpList_load_mid rfl 100 (.tmp 4) rfl w.heap.size 0 rfl (bys iv) _ h0.whole under54 rfl hsz ?_)
  change Calls _ _ _ (w.alloc (.cells (bys iv).toArray tA16)) _
  generalize w.alloc (.cells (bys iv).toArray tA16) = w1 at *
  refine (new_any w1 kv iv hiv).mono ?_
  rintro e w2 ⟨rfl, hS2, hB2⟩
  have hst : StreamAt w2 (w1.heap.size + 1) kv E iv 0 := ⟨0, none, 0, 0, by rw [cnt_zero iv hiv]; exact hS2, rfl, RowAt.nil _ _, Nat.le_refl _, by omega, (fun a e => by cases e), fun h => absurd h (by decide)⟩
  have hw2 := hS2.lt
  have HC := hid (crypt_s w2 (w1.heap.size + 1) kv E iv 0 hst (hk0.below hB2) pb n cap b (hb0.below hB2) hn hc (fun h a e => by have := hpos (by omega) a e; simp; omega) (by omega))
  have hsz2 := hB2.size
  have HB2 := hid (hB0.trans (hB2.mono (by omega)))
  clear hst hk0 hb0 hS2 hB2 hB0 h0 hpos
  have Hs1 := hid hs1
  clear hs1
  go_wp2_with fail
  refine HC.out.mono ?_
  rintro e w3 ⟨v, rfl, hown, hst, hC3, _⟩
  go_wp2_with fail
  go_ret
  refine ⟨_, rfl, hown.mono (by have := Hs1.out; omega), ?_⟩
  exact HB2.out.trans (hC3.below (by have := Hs1.out; omega) (fun k hk => by simp at hk; have := Hs1.out; omega))
end Go.Proofs.YtnmmnlffobnbfaaGreatDoor
