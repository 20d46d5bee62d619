/- ghash: Sum -/
import Derived.Test.YtgellbapbphnlaaGh
import Derived.Test.YtgellbapbphnlaaXk
namespace Go.Proofs.Ytgellbapbphnlaa
open Go.RowKit

def sfrom (pa : Option Addr) (c k : Nat) : Option Addr := if c = k then pa else pa.map fun x => x.add k
theorem sfrom_row {w : World} {pa : Option Addr} {l : List UInt8} {m c k : Nat} (h : RowAt w pa l) (hl : l.length = m) (hc : m ≤ c) : RowAt w (sfrom pa c k) (l.drop k) := by
  unfold sfrom
  split
  · rename_i e
    rw [List.drop_of_length_le (by omega)]
    exact RowAt.nil _ _
  · intro j hj
    rw [List.length_drop] at hj
    obtain ⟨b, o, e, h1, h2⟩ := h (k + j) (by omega)
    subst e
    refine ⟨b, o + k, by rw [Option.map_some, Addr.add_mid], h1, ?_⟩
    rw [Nat.add_assoc, h2]
    simp [List.getD]
theorem wpList_copy_rowAt {P : Program} {w : World} {ops : Array Oper} {rest : List Oper} {o : Oper} {a : Act} {Q : Exit → Act → World → Prop} (hgd : o.guard = none) (d s : Operand) (dT sT : TypeId)
    (ho : o.op = .call { callee := .builtin .copy, args := #[d, s], argTypes := #[dT, sT] }) (elem : TypeId) (hu : P.underlying dT = some (.slice elem)) (hsz : (P.info? elem).map (·.size) = some 1)
    (g off dLen dCap q qo sLen sCap : Nat) (hd : a.eval d = .slice (some ⟨g, off, none⟩) dLen dCap) (hs : a.eval s = .slice (some ⟨q, qo, none⟩) sLen sCap)
    (cur : List Value) (src : List UInt8) (t : TypeId) (hg : Blk w g cur t) (hq : RowAt w (some ⟨q, qo, none⟩) src) (hl : src.length = sLen) (n : Nat) (hn : n = Nat.min sLen dLen) (hfit : off + n ≤ cur.length)
    (h : ∀ w', Blk w' g (splice cur off (bys (src.take n))) t → Chg w.heap.size [g] w w' → w'.heap.size = w.heap.size → wpList P ops Q rest (a.put o.dst (goInt n)) w') :
    wpList P ops Q (o :: rest) a w := by
  have hnl : (src.take n).length = n := by rw [List.length_take, hl, hn]; exact Nat.min_eq_left (Nat.min_le_left _ _)
  have hlb : (bys (src.take n)).length = n := by rw [bys_length, hnl]
  refine wpList_copy_own hgd d s dT sT ho elem hu hsz g off dLen dCap ⟨q, qo, none⟩ sLen sCap hd hs cur.toArray t hg (bys (src.take n)) (by rw [hlb]; exact hn) ((hq.take n).src rfl) (by rw [hlb]; simpa using hfit) (bys_one _) ?_
  have := h (w.setRow g (splice cur off (bys (src.take n))).toArray) (hg.setRow _) ((Chg.refl _ _ _).setRow (.inl (by simp)) _) (by simp)
  rw [hlb]
  simpa [splice, hlb] using this

theorem splice_blkZ (b : List UInt8) (j k : Nat) (hk : min (b.drop (16 * j)).length 16 = k) : splice (bys z16) 0 (bys ((b.drop (16 * j)).take k)) = bys (blkZ b j) := by
  obtain ⟨l, hl⟩ : ∃ l, b.drop (16 * j) = l := ⟨_, rfl⟩
  unfold blkZ
  rw [hl] at hk ⊢
  have h1 : l.take k = l.take 16 := by
    by_cases h : l.length ≤ 16
    · rw [List.take_of_length_le (by omega), List.take_of_length_le h]
    · rw [show k = 16 by omega]
  rw [h1]
  have h2 : (bys z16).drop ((l.take 16).length) = bys (List.replicate (16 - (l.take 16).length) 0) := by
    rw [show bys z16 = List.replicate 16 (.int .u8 (bv 0)) from rfl, List.drop_replicate]; simp [bys]
  unfold splice
  rw [List.take_zero, List.nil_append, bys_length, Nat.zero_add, h2]
  simp [bys]
/-- Sum on its way: j blocks are in. -/
structure GS (w w' : World) (H : Nat) (b : List UInt8) (kb j m : Nat) (pb : Option Addr) (c : Nat) : Prop where
  hx : ∃ xs : List UInt8, xs.length = 16 ∧ Blk w' (w.heap.size + 1 + 1 + 1 + 1) (bys xs) tA16
  hy : Blk w' (w.heap.size + 1 + 1) (elc (ghN H b j)) tEl
  he : ∃ e, Blk w' (w.heap.size + 1 + 1 + 1) (elc e) tEl
  hr : Blk w' (w.heap.size + 1) (bys z16) tA16
  hk : Blk w' kb (elc H) tEl
  hkb : w.heap.size + 1 + 1 + 1 + 1 < kb
  hb : RowAt w pb (b.drop (16 * j))
  hm : m = b.length - 16 * j
  hj : 16 * j < b.length + 16
  hc : m ≤ c
  hB : Below w.heap.size w w'

set_option maxRecDepth 100000 in
set_option maxHeartbeats 4000000 in
theorem gsum_any (w : World) (h : List UInt8) (hh : h.length = 16) (pb : Option Addr) (n cap : Nat) (b : List UInt8) (hb : RowAt w pb b) (hn : b.length = n) (hc : n ≤ cap) (h9 : n < 1000000000) :
    Calls Try.prog 95 #[.agg (bys h).toArray, .slice pb n cap] w fun e w' => e = .returned (.agg (bys (ghF h b)).toArray) ∧ Below w.heap.size w w' := by
  have Hn := hid hn
  have Hh := hid hh
  have h0 : Blk (((((w.alloc (.cells (bys h).toArray tA16)).alloc (.cells (bys z16).toArray tA16)).alloc (.cells #[U64 0, U64 0] tEl)).alloc (.cells #[U64 0, U64 0] tEl)).alloc (.cells (bys z16).toArray tA16)) w.heap.size (bys h) tA16 := ((((Blk.new w (bys h) tA16).alloc _).alloc _).alloc _).alloc _
  have h1 : Blk (((((w.alloc (.cells (bys h).toArray tA16)).alloc (.cells (bys z16).toArray tA16)).alloc (.cells #[U64 0, U64 0] tEl)).alloc (.cells #[U64 0, U64 0] tEl)).alloc (.cells (bys z16).toArray tA16)) (w.heap.size + 1) (bys z16) tA16 := by
    have := (((Blk.new (w.alloc (.cells (bys h).toArray tA16)) (bys z16) tA16).alloc (.cells #[U64 0, U64 0] tEl)).alloc (.cells #[U64 0, U64 0] tEl)).alloc (.cells (bys z16).toArray tA16)
    simp only [World.size_alloc] at this; exact this
  have h2 : Blk (((((w.alloc (.cells (bys h).toArray tA16)).alloc (.cells (bys z16).toArray tA16)).alloc (.cells #[U64 0, U64 0] tEl)).alloc (.cells #[U64 0, U64 0] tEl)).alloc (.cells (bys z16).toArray tA16)) (w.heap.size + 1 + 1) (elc 0) tEl := by
    have := ((Blk.new ((w.alloc (.cells (bys h).toArray tA16)).alloc (.cells (bys z16).toArray tA16)) (elc 0) tEl).alloc (.cells #[U64 0, U64 0] tEl)).alloc (.cells (bys z16).toArray tA16)
    simp only [World.size_alloc] at this; exact this
  have h3 : Blk (((((w.alloc (.cells (bys h).toArray tA16)).alloc (.cells (bys z16).toArray tA16)).alloc (.cells #[U64 0, U64 0] tEl)).alloc (.cells #[U64 0, U64 0] tEl)).alloc (.cells (bys z16).toArray tA16)) (w.heap.size + 1 + 1 + 1) (elc 0) tEl := by
    have := (Blk.new (((w.alloc (.cells (bys h).toArray tA16)).alloc (.cells (bys z16).toArray tA16)).alloc (.cells #[U64 0, U64 0] tEl)) (elc 0) tEl).alloc (.cells (bys z16).toArray tA16)
    simp only [World.size_alloc] at this; exact this
  have h4 : Blk (((((w.alloc (.cells (bys h).toArray tA16)).alloc (.cells (bys z16).toArray tA16)).alloc (.cells #[U64 0, U64 0] tEl)).alloc (.cells #[U64 0, U64 0] tEl)).alloc (.cells (bys z16).toArray tA16)) (w.heap.size + 1 + 1 + 1 + 1) (bys z16) tA16 := by
    have := Blk.new ((((w.alloc (.cells (bys h).toArray tA16)).alloc (.cells (bys z16).toArray tA16)).alloc (.cells #[U64 0, U64 0] tEl)).alloc (.cells #[U64 0, U64 0] tEl)) (bys z16) tA16
    simp only [World.size_alloc] at this; exact this
  have hB : Below w.heap.size w (((((w.alloc (.cells (bys h).toArray tA16)).alloc (.cells (bys z16).toArray tA16)).alloc (.cells #[U64 0, U64 0] tEl)).alloc (.cells #[U64 0, U64 0] tEl)).alloc (.cells (bys z16).toArray tA16)) :=
    (((((Below.refl _ _).alloc (Nat.le_refl _) _).alloc (by simp) _).alloc (by simp; omega) _).alloc (by simp; omega) _).alloc (by simp; omega) _
  have hsz : (Try.prog.info? 36).map (·.size) = some (bys h).length := by rw [size54, bys_length, hh]
  clear hn hh
  go_enter Try.func95, Try.ntmps95
  go_wp2_with fail
  refine wp_scope_jumps 0 (fun a' w' => ∃ (kb j m : Nat) (pb' : Option Addr) (c' : Nat) (u9 u10 u11 u12 u13 u14 u15 u16 u17 u18 u19 u20 u21 u22 u23 u24 u25 u26 u27 u28 u29 u30 u31 u32 u33 u34 u35 u36 : Value), a' = { tmps := #[.agg (bys h).toArray, .slice pb' m c', .pointer (some ⟨w.heap.size, 0, none⟩), undef, .pointer (some ⟨w.heap.size + 1, 0, none⟩), .pointer (some ⟨w.heap.size + 1 + 1, 0, none⟩), .pointer (some ⟨w.heap.size + 1 + 1 + 1, 0, none⟩), .pointer (some ⟨w.heap.size + 1 + 1 + 1 + 1, 0, none⟩), .pointer (some ⟨kb, 0, none⟩), u9, u10, u11, u12, u13, u14, u15, u16, u17, u18, u19, u20, u21, u22, u23, u24, u25, u26, u27, u28, u29, u30, u31, u32, u33, u34, u35, u36], defers := [] } ∧ GS w w' (be h) b kb j m pb' c')
    (fun a' _ => match a'.tmps.getD 1 undef with | .slice _ m _ => m | _ => 0) rfl ?first ?pass
  case' first =>
    go_wp2_with (refine wpList_load_mid rfl 36 (.tmp 2) rfl w.heap.size 0 rfl (bys h) _ h0.whole under54 rfl hsz ?_)
    change Calls _ _ _ (((((w.alloc (.cells (bys h).toArray tA16)).alloc (.cells (bys z16).toArray tA16)).alloc (.cells #[U64 0, U64 0] tEl)).alloc (.cells #[U64 0, U64 0] tEl)).alloc (.cells (bys z16).toArray tA16)) _
    generalize (((((w.alloc (.cells (bys h).toArray tA16)).alloc (.cells (bys z16).toArray tA16)).alloc (.cells #[U64 0, U64 0] tEl)).alloc (.cells #[U64 0, U64 0] tEl)).alloc (.cells (bys z16).toArray tA16)) = w1 at *
    refine (of_any w1 h Hh.out).mono ?_
    rintro e w2 ⟨rfl, hB2⟩
    have h1 := h1.below hB2 h1.lt
    have h2 := h2.below hB2 h2.lt
    have h3 := h3.below hB2 h3.lt
    have l4 := h4.lt
    have h4 := h4.below hB2 h4.lt
    have hB := hB.trans (hB2.mono hB.size)
    have hs2 := hB2.size
    clear hB2 h0
    have h5 : Blk (w2.alloc (.cells (elc (be h)).toArray tEl)) w2.heap.size (elc (be h)) tEl := Blk.new _ _ _
    have hcs : GS w (w2.alloc (.cells (elc (be h)).toArray tEl)) (be h) b w2.heap.size 0 n pb cap :=
      ⟨⟨z16, rfl, h4.alloc _⟩, h2.alloc _, ⟨0, h3.alloc _⟩, h1.alloc _, h5, by omega, by simpa using hb, by rw [Hn.out]; omega, by omega, hc, hB.alloc hB.size _⟩
    obtain ⟨j, hcs⟩ : ∃ j, GS w (w2.alloc (.cells (elc (be h)).toArray tEl)) (be h) b w2.heap.size j n pb cap := ⟨0, hcs⟩
    have Hcs := hid hcs
    clear hcs h1 h2 h3 h4 h5 hB l4 hs2
    go_wp2_with fail
    go_step3
    change Exit.then _ _ _ _ (w2.alloc (.cells (elc (be h)).toArray tEl))
    generalize w2.alloc (.cells (elc (be h)).toArray tEl) = w' at *
    generalize w2.heap.size = kb at *
    obtain ⟨m, hmn⟩ : ∃ m, n = m := ⟨_, rfl⟩
    rw [hmn] at Hcs ⊢
    clear hmn hb hc
    generalize pb = pb' at *
    generalize cap = c' at *
  case' pass =>
    rintro a' w' ⟨kb, j, m, pb', c', u9, u10, u11, u12, u13, u14, u15, u16, u17, u18, u19, u20, u21, u22, u23, u24, u25, u26, u27, u28, u29, u30, u31, u32, u33, u34, u35, u36, rfl, hcs⟩
    have Hcs := hid hcs
    clear hcs h0 h1 h2 h3 h4 hB hb hc
  all_goals
    have HG := Hcs.out
    obtain ⟨xs, hxl, hX⟩ := HG.hx
    obtain ⟨e0, hE⟩ := HG.he
    have hY := HG.hy
    have hR := HG.hr
    have hK := HG.hk
    have hYl := ghN_lt (be16 Hh.out) b j
    by_cases h0 : m = 0
    · have hfin : ghF h b = toBe 16 (ghN (be h) b j) := by
        unfold ghF
        have h1 := HG.hm
        have h2 := HG.hj
        rw [show nblk b.length = j by unfold nblk; omega]
      have hB := HG.hB
      obtain ⟨Y, hYe⟩ : ∃ Y, ghN (be h) b j = Y := ⟨_, rfl⟩
      rw [hYe] at hY hYl hfin
      have Hfin := hid hfin
      have y0 := hY.cell 0
      have y1 := hY.cell 1
      simp only [List.getElem?_cons_zero, List.getElem?_cons_succ] at y0 y1
      have lR := hR.lt
      clear hX hE hK hfin HG Hcs hYe
      go_wp2_with fail
      refine (block_any _ Y hYl).mono ?_
      rintro e w3 ⟨rfl, hB3⟩
      have hR3 := hR.below hB3 hR.lt
      have hBB := hB.trans (hB3.mono hB.size)
      have hql := toBe_len 16 Y
      obtain ⟨q, hq⟩ : ∃ q, toBe 16 Y = q := ⟨_, rfl⟩
      rw [hq] at hql Hfin ⊢
      clear hY y0 y1 hR hB3 hB hq
      go_wp2_with (refine wpList_store_mid rfl 36 (.tmp 4) (.tmp 15) rfl (w.heap.size + 1) 0 (bys q).toArray rfl rfl (hR3.there 0 _ (by rw [List.size_toArray, bys_length, bys_length, hql]; decide)) (by rw [size54, List.size_toArray, bys_length, hql]) (all_oneCell_toArray (bys_one _)) ?_)
      have h1d := hR3.setCells (bys q) 0 (by rw [bys_length, bys_length, hql]; decide)
      rw [splice_whole _ _ (by rw [bys_length, bys_length, hql]; rfl)] at h1d
      simp only [Exit.jump]
      refine bodyPost_ret (v := .agg (bys q).toArray) (results_cell_row (P := Try.prog) (p := 4) (ty := 36) rfl _ _ (w.heap.size + 1) tA16 _ (0, 0) _ rfl h1d under54 rfl (by rw [size54, List.size_toArray, bys_length, hql])) rfl ⟨by rw [Hfin.out], ?_⟩
      exact hBB.trans (((Chg.refl (w.heap.size) [] w3).setCells (.inr (by omega)) _ _).below (Nat.le_refl _) (by simp))
    · have q1 : ((m : Int) == 0) = false := by rw [beq_eq_false_iff_ne]; omega
      obtain ⟨bb, bo, rfl, hbl, _⟩ := HG.hb 0 (by rw [List.length_drop]; have := HG.hm; omega)
      obtain ⟨k, hk⟩ : ∃ k, min m 16 = k := ⟨_, rfl⟩
      have hx1 := hX.setCells (bys z16) 0 (by rw [bys_length, bys_length, hxl]; decide)
      rw [splice_whole _ _ (by rw [bys_length, bys_length, hxl]; rfl)] at hx1
      have hcx := (Chg.refl w'.heap.size [w.heap.size + 1 + 1 + 1 + 1] w').setCells (b := w.heap.size + 1 + 1 + 1 + 1) (.inl (by simp)) (bys z16) 0
      have hrow := (HG.hb.below HG.hB).chgL hcx (fun a e => by cases e; have := HG.hB.size; show bb < _; omega) (fun a e => by cases e; simp; omega)
      have hlen : (b.drop (16 * j)).length = m := by rw [List.length_drop, HG.hm]
      have hBx := HG.hB.trans (hcx.below (M := w.heap.size) HG.hB.size (fun k hk => by simp at hk; omega))
      have hy1 := hY.chg hcx hY.lt (by simp)
      have he1 := hE.chg hcx hE.lt (by simp)
      have hr1 := hR.chg hcx hR.lt (by simp)
      have hk1 := hK.chg hcx hK.lt (by simp; have := HG.hkb; omega)
      go_upto_region 7 with (refine wpList_store_mid rfl 36 (.tmp 7) (.tmp 16) rfl (w.heap.size + 1 + 1 + 1 + 1) 0 (bys z16).toArray rfl rfl (hX.there 0 _ (by rw [List.size_toArray, bys_length, bys_length, hxl]; decide)) (by rw [size54]; rfl) (all_oneCell_toArray (bys_one _)) ?_)
      change Code.wp _ _ _ _ (w'.setCells (w.heap.size + 1 + 1 + 1 + 1) 0 (bys z16))
      generalize w'.setCells (w.heap.size + 1 + 1 + 1 + 1) 0 (bys z16) = w2 at *
      have hz16 : (bys z16).length = 16 := rfl
      generalize hZe : bys z16 = Z at *
      clear hX hY hE hR hK hcx
      have hspl : splice Z 0 (bys ((b.drop (16 * j)).take k)) = bys (blkZ b j) := by
        rw [← hZe]; exact splice_blkZ b j k (by rw [hlen, hk])
      have Hspl := hid hspl
      have Hhp := hid (rfl : (sfrom (some ⟨bb, bo, none⟩) c' k) = (sfrom (some ⟨bb, bo, none⟩) c' k))
      obtain ⟨p2, hp2⟩ : ∃ p2, sfrom (some ⟨bb, bo, none⟩) c' k = p2 := ⟨_, rfl⟩
      have hrow2 := sfrom_row (k := k) HG.hb hlen HG.hc
      rw [hp2, List.drop_drop] at hrow2
      have hm2 : m - k = b.length - 16 * (j + 1) := by have := HG.hm; omega
      have hrow2' : RowAt w p2 (b.drop (16 * (j + 1))) := by
        by_cases h16 : k = 16
        · rw [h16, ← Nat.mul_succ] at hrow2; exact hrow2
        · rw [List.drop_of_length_le (by have := HG.hm; omega)]; exact RowAt.nil _ _
      have Hm2 := hid hm2
      have Hrow2 := hid hrow2'
      have Hk := hid hk
      have hkm : (k : Int) ≤ (m : Int) := by omega
      have hk0 : 0 ≤ (k : Int) := by omega
      have hmc := HG.hc
      have hkc : (k : Int) ≤ (c' : Int) := by omega
      have hp3 : (k = c' ∧ p2 = some ⟨bb, bo, none⟩) ∨ (c' ≠ k ∧ p2 = some ⟨bb, bo + k, none⟩) := by
        rw [← hp2]; unfold sfrom
        by_cases e : c' = k
        · exact .inl ⟨e.symm, by rw [if_pos e]⟩
        · exact .inr ⟨e, by rw [if_neg e, Option.map_some, Addr.add_mid]⟩
      have HZe := hid hZe
      clear hp2 hrow2 hrow2' hm2 hspl hZe
      have hkm' : min m 16 = k := Hk.out
      clear hk
      have HG2 := hid (⟨HG.hkb, HG.hj⟩ : _ ∧ _)
      have hmL := hid HG.hm
      clear HG Hcs
      rcases hp3 with ⟨hck, hp3⟩ | ⟨hck, hp3⟩
      case' inl => subst hck
      all_goals
        go_upto_region 8 with (refine wpList_copy_rowAt rfl (.tmp 18) (.tmp 19) 33 33 rfl 5 under33b (by kernel_rfl) (w.heap.size + 1 + 1 + 1 + 1) 0 16 16 bb bo m _ rfl rfl Z (b.drop (16 * j)) tA16 hx1 hrow hlen k hkm'.symm (by rw [hz16]; omega) ?_; intro w3 hx3 hC3 hs3)
        rw [Hspl.out] at hx3
        have hBx := hBx.trans (hC3.below (M := w.heap.size) hBx.size (fun k hk => by simp at hk; omega))
        have hy1 := hy1.chg hC3 hy1.lt (by simp)
        have he1 := he1.chg hC3 he1.lt (by simp)
        have hr1 := hr1.chg hC3 hr1.lt (by simp)
        have hk1 := hk1.chg hC3 hk1.lt (by simp; have := HG2.out.1; omega)
        have hbz := blkZ_len b j
        obtain ⟨x, hx⟩ : ∃ x, blkZ b j = x := ⟨_, rfl⟩
        rw [hx] at hx3 hbz
        have hgj : ghN (be h) b (j + 1) = mulN (ghN (be h) b j ^^^ be x) (be h) := by rw [ghN, hx]
        obtain ⟨Y, hYe⟩ : ∃ Y, ghN (be h) b j = Y := ⟨_, rfl⟩
        rw [hYe] at hgj hy1 hYl
        have hsx : (Try.prog.info? 36).map (·.size) = some (bys x).length := by rw [size54, bys_length, hbz]
        have Hgj := hid hgj
        clear hC3 hx hgj hYe Hspl
        go_wp2_with (refine wpList_load_mid rfl 36 (.tmp 7) rfl (w.heap.size + 1 + 1 + 1 + 1) 0 rfl (bys x) _ hx3.whole under54 rfl hsx ?_)
        refine (of_any w3 x hbz).mono ?_
        rintro e w4 ⟨rfl, hB4⟩
        have hbx := be16 hbz
        have hx3 := hx3.below hB4 hx3.lt
        have hy1 := hy1.below hB4 hy1.lt
        have he1 := he1.below hB4 he1.lt
        have hr1 := hr1.below hB4 hr1.lt
        have hk1 := hk1.below hB4 hk1.lt
        have hBx := hBx.trans (hB4.mono hBx.size)
        have hHl := be16 Hh.out
        obtain ⟨X, hXe⟩ : ∃ X, be x = X := ⟨_, rfl⟩
        obtain ⟨HH, hHe⟩ : ∃ HH, be h = HH := ⟨_, rfl⟩
        have hgj := Hgj.out
        rw [hXe] at hbx ⊢
        rw [hXe, hHe] at hgj
        rw [hHe] at hk1 hHl
        have HHe := hid hHe
        have Hgj2 := hid hgj
        have f0 := he1.frozen 0
        have f1 := he1.frozen 1
        have r0 := he1.cell 0
        have r1 := he1.cell 1
        simp only [List.getElem?_cons_zero, List.getElem?_cons_succ] at r0 r1
        have hC5 := ((Chg.refl w4.heap.size [w.heap.size + 1 + 1 + 1] w4).setCell (p := ⟨w.heap.size + 1 + 1 + 1, 0, none⟩) (.inl (by simp)) (U64 (hiN X))).setCell (p := ⟨w.heap.size + 1 + 1 + 1, 1, none⟩) (.inl (by simp)) (U64 (loN X))
        have he5 : Blk _ (w.heap.size + 1 + 1 + 1) (elc X) tEl := (he1.set 0 (U64 (hiN X))).set 1 (U64 (loN X))
        have hx5 := hx3.chg hC5 hx3.lt (by simp)
        have hy5 := hy1.chg hC5 hy1.lt (by simp)
        have hr5 := hr1.chg hC5 hr1.lt (by simp)
        have hk5 := hk1.chg hC5 hk1.lt (by simp; have := HG2.out.1; omega)
        have hB5 := hBx.trans (hC5.below (M := w.heap.size) hBx.size (fun k hk => by simp at hk; omega))
        have He5 := hid he5
        have Hx5 := hid hx5
        have Hy5 := hid hy5
        have Hr5 := hid hr5
        have Hk5 := hid hk5
        have HB5 := hid hB5
        clear hx3 hy1 he1 hr1 hk1 hBx hB4 hXe hHe hgj he5 hx5 hy5 hr5 hk5 hB5 hC5 Hgj
        go_upto_region 9 with fail
        clear f0 f1 r0 r1
        change Code.wp _ _ _ _ ((w4.setCell ⟨w.heap.size + 1 + 1 + 1, 0, none⟩ (U64 (hiN X))).setCell ⟨w.heap.size + 1 + 1 + 1, 1, none⟩ (U64 (loN X)))
        generalize (w4.setCell ⟨w.heap.size + 1 + 1 + 1, 0, none⟩ (U64 (hiN X))).setCell ⟨w.heap.size + 1 + 1 + 1, 1, none⟩ (U64 (loN X)) = w5 at *
        have y0 := Hy5.out.cell 0
        have y1 := Hy5.out.cell 1
        have x0 := He5.out.cell 0
        have x1 := He5.out.cell 1
        have k0 := Hk5.out.cell 0
        have k1 := Hk5.out.cell 1
        simp only [List.getElem?_cons_zero, List.getElem?_cons_succ] at y0 y1 x0 x1 k0 k1
        have hxa := bx_nat (hiN Y) (hiN X) (hiN_lt hYl) (hiN_lt hbx)
        have hxb := bx_nat (loN Y) (loN X) (loN_lt Y) (loN_lt X)
        rw [← hiN_xor] at hxa
        rw [← loN_xor] at hxb
        have hVl := Nat.xor_lt_two_pow hYl hbx
        have hgj := Hgj2.out
        obtain ⟨V, hV⟩ : ∃ V, Y ^^^ X = V := ⟨_, rfl⟩
        rw [hV] at hxa hxb hVl hgj
        have Hgj := hid hgj
        clear hV hgj Hgj2
        go_wp2_with fail
        refine (times_any w5 V HH hVl hHl).mono ?_
        rintro e w6 ⟨rfl, hB6⟩
        have Ly := Hy5.out.lt
        have he6 := He5.out.below hB6 He5.out.lt
        have hx6 := Hx5.out.below hB6 Hx5.out.lt
        have hy6 := Hy5.out.below hB6 Hy5.out.lt
        have hr6 := Hr5.out.below hB6 Hr5.out.lt
        have hk6 := Hk5.out.below hB6 Hk5.out.lt
        have hB6 := HB5.out.trans (hB6.mono HB5.out.size)
        obtain ⟨U, hU⟩ : ∃ U, mulN V HH = U := ⟨_, rfl⟩
        have hgj := Hgj.out
        rw [hU] at hgj ⊢
        have hC7 := ((Chg.refl w6.heap.size [w.heap.size + 1 + 1] w6).setCell (p := ⟨w.heap.size + 1 + 1, 0, none⟩) (.inl (by simp)) (U64 (hiN U))).setCell (p := ⟨w.heap.size + 1 + 1, 1, none⟩) (.inl (by simp)) (U64 (loN U))
        have hy7 : Blk _ (w.heap.size + 1 + 1) (elc U) tEl := (hy6.set 0 (U64 (hiN U))).set 1 (U64 (loN U))
        have hlast : ∀ m2 c2, m2 = b.length - 16 * (j + 1) → m2 ≤ c2 → GS w ((w6.setCell ⟨w.heap.size + 1 + 1, 0, none⟩ (U64 (hiN U))).setCell ⟨w.heap.size + 1 + 1, 1, none⟩ (U64 (loN U))) (be h) b kb (j + 1) m2 p2 c2 := fun m2 c2 e1 e2 =>
          ⟨⟨x, hbz, hx6.chg hC7 hx6.lt (by simp only [List.mem_singleton]; omega)⟩, by rw [HHe.out, hgj]; exact hy7, ⟨X, he6.chg hC7 he6.lt (by simp only [List.mem_singleton]; omega)⟩, by rw [HZe.out]; exact hr6.chg hC7 hr6.lt (by simp only [List.mem_singleton]; omega), by rw [HHe.out]; exact hk6.chg hC7 hk6.lt (by simp; have := HG2.out.1; omega), HG2.out.1, Hrow2.out, e1,
            by have h1 := hmL.out; omega, e2, hB6.trans (hC7.below (M := w.heap.size) hB6.size (fun k hk => by simp at hk; omega))⟩
        have Hlast := hid hlast
        have f0 := hy6.frozen 0
        have f1 := hy6.frozen 1
        have r0 := hy6.cell 0
        have r1 := hy6.cell 1
        simp only [List.getElem?_cons_zero, List.getElem?_cons_succ] at r0 r1
        clear y0 y1 x0 x1 k0 k1 hxa hxb hU hgj he6 hx6 hy6 hr6 hk6 hB6 hC7 hy7 hlast
        go_wp2_with fail
        go_step3
        rw [hp3] at Hlast
        first
        | exact ⟨rfl, kb, j + 1, _, _, _, _, _, _, _, _, _, _, _, _, _, _, _, _, _, _, _, _, _, _, _, _, _, _, _, _, _, _, _, rfl, Hlast.out 0 0 (by have := Hm2.out; omega) (Nat.le_refl _)⟩
        | exact ⟨rfl, kb, j + 1, _, _, _, _, _, _, _, _, _, _, _, _, _, _, _, _, _, _, _, _, _, _, _, _, _, _, _, _, _, _, _, rfl, Hlast.out _ _ Hm2.out (by omega)⟩
        | exact ⟨rfl, ⟨kb, j + 1, _, _, _, _, _, _, _, _, _, _, _, _, _, _, _, _, _, _, _, _, _, _, _, _, _, _, _, _, _, _, _, rfl, Hlast.out 0 0 (by have := Hm2.out; omega) (Nat.le_refl _)⟩, by simp; omega⟩
        | exact ⟨rfl, ⟨kb, j + 1, _, _, _, _, _, _, _, _, _, _, _, _, _, _, _, _, _, _, _, _, _, _, _, _, _, _, _, _, _, _, _, rfl, Hlast.out _ _ Hm2.out (by omega)⟩, by simp; omega⟩
end Go.Proofs.Ytgellbapbphnlaa
