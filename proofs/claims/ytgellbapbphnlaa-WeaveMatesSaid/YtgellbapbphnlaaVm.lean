/- WeaveMates, walked -/
import Derived.Test.YtgellbapbphnlaaVs
import Derived.Deep.Upon
/- WeaveMates, walked -/
namespace Go.Proofs.Ytgellbapbphnlaa
open Go.RowKit

def textcs (l : List TextV) : List Value := l.flatMap textc
theorem textc_one (x : TextV) : ∀ v ∈ textc x, v.oneCell' = true := by
  intro v hv
  unfold textc at hv
  simp only [List.mem_append, List.mem_cons, List.not_mem_nil, or_false] at hv
  rcases hv with ((hv | rfl) | hv) | rfl | rfl
  · exact bys_one _ v hv
  · rfl
  · exact bys_one _ v hv
  · rfl
  · rfl
theorem textcs_one (l : List TextV) : ∀ v ∈ textcs l, v.oneCell' = true := by
  intro v hv
  simp only [textcs, List.mem_flatMap] at hv
  obtain ⟨x, _, h⟩ := hv
  exact textc_one x v h
def textc0 : List Value := bys z32 ++ [.bool false] ++ bys z16 ++ [.int .u32 0, .slice none 0 0]
theorem infoText : (Try.prog.info? tText).map (fun i => (i.zero, i.size, i.bytes)) = some (some (.agg textc0.toArray), 51, 80) := by kernel_rfl
theorem underTexts : Try.prog.underlying 22 = some (.slice tText) := by kernel_rfl
theorem texts_cells {w : World} {pa : Option Addr} {l : List TextV} (h : TextsAt w pa l) (h0 : 0 < l.length) : ∃ b o, pa = some ⟨b, o, none⟩ ∧ ∀ j u, (textcs l)[j]? = some u → w.cell? ((⟨b, o, none⟩ : Addr).add j) = some u := by
  obtain ⟨_, b, o, rfl, _, _⟩ := h 0 h0
  have hl : ∀ x ∈ l, (textc x).length = 51 := fun x hx => by
    obtain ⟨j, hj, rfl⟩ := List.getElem_of_mem hx
    exact textc_len (h j hj).1
  refine ⟨b, o, rfl, fun j u hu => ?_⟩
  have hjl : j < l.length * 51 := by
    rcases Nat.lt_or_ge j (l.length * 51) with q | q
    · exact q
    · rw [List.getElem?_eq_none (by unfold textcs; rw [flat_len _ 51 l hl]; exact q)] at hu; cases hu
  have hk : j / 51 < l.length := by omega
  have e : j = j / 51 * 51 + j % 51 := by omega
  rw [e] at hu
  unfold textcs at hu
  rw [flat_get _ 51 l hl (j / 51) hk (j % 51) (Nat.mod_lt _ (by decide))] at hu
  obtain ⟨_, b', o', e', _, hc⟩ := h (j / 51) hk
  cases e'
  rw [Addr.add_mid, show o + j = o + j / 51 * 51 + j % 51 by omega, hc (j % 51) (Nat.mod_lt _ (by decide))]
  exact hu
theorem texts_of_owns {w : World} {base : Nat} {v : Value} {l : List TextV} {n : Nat} (h : w.ownsRow base tText 51 v n (textcs l)) (hn : l.length = n) (hok : ∀ x ∈ l, TextOk w x) : ∃ pa cap, v = .slice pa n cap ∧ n ≤ cap ∧ TextsAt w pa l := by
  rcases Nat.eq_zero_or_pos n with h0 | h0
  · subst h0
    obtain ⟨pa, cap, rfl⟩ := owns_zero h
    exact ⟨pa, cap, rfl, Nat.zero_le _, fun k hk => by omega⟩
  · obtain ⟨b, cap, rest, rfl, hc, _, hb⟩ := owns_blk h h0
    have hl : ∀ x ∈ l, (textc x).length = 51 := fun x hx => textc_len (hok x hx)
    refine ⟨_, cap, rfl, hc, fun k hk => ⟨hok _ (List.getElem_mem hk), b, 0, rfl, hb.lt, fun j hj => ?_⟩⟩
    have h3 : k * 51 + j < l.length * 51 := by
      have := Nat.mul_le_mul_right 51 (Nat.succ_le_of_lt hk)
      omega
    rw [hb.cell, Nat.zero_add, List.getElem?_append_left (by unfold textcs; rw [flat_len _ 51 l hl]; exact h3)]
    unfold textcs
    exact flat_get _ 51 l hl k hk j hj
theorem texts_one {w : World} {b : Nat} {x : TextV} {T : TypeId} (h : Blk w b (textc x) T) (hx : TextOk w x) : TextsAt w (some ⟨b, 0, none⟩) [x] := fun k hk => by
  obtain rfl : k = 0 := by simpa using hk
  exact ⟨hx, b, 0, rfl, h.lt, fun j _ => by rw [h.cell]; congr 1; omega⟩
theorem TextOk.below {w w' : World} {x : TextV} (h : TextOk w x) (hB : Below w.heap.size w w') : TextOk w' x := ⟨h.K, h.iv, h.n, h.row.below hB, h.cap⟩
theorem TextsAt.take {w : World} {pa : Option Addr} {l : List TextV} (h : TextsAt w pa l) (k : Nat) : TextsAt w pa (l.take k) := fun j hj => by
  have hj' : j < l.length := by rw [List.length_take] at hj; omega
  have := h j hj'
  rwa [show (l.take k)[j] = l[j] by simp]
def tfrom (pa : Option Addr) (c k : Nat) : Option Addr := if c = k then pa else pa.map fun x => x.add (k * 51)
theorem TextsAt.drop {w : World} {pa : Option Addr} {l : List TextV} (h : TextsAt w pa l) (c k : Nat) (hc : l.length ≤ c) : TextsAt w (tfrom pa c k) (l.drop k) := fun j hj => by
  have hj' : k + j < l.length := by rw [List.length_drop] at hj; omega
  obtain ⟨t, b, o, rfl, h1, h2⟩ := h (k + j) hj'
  rw [show (l.drop k)[j] = l[k + j] by simp]
  refine ⟨t, b, o + k * 51, ?_, h1, fun i hi => ?_⟩
  · unfold tfrom
    rw [if_neg (by omega), Option.map_some, Addr.add_mid]
  · rw [← h2 i hi]; congr 2; omega
/-- An append of texts, wherever they lie. -/
theorem wp_append_texts {w : World} {o : Oper} {a : Act} {K : Act → World → Prop} {Q : Exit → Act → World → Prop} (dd : Option Tmp) (hdd : o.dst = dd) (s x : Operand)
    (ho : o.op = .call { callee := .builtin .append, args := #[s, x], argTypes := #[22, 22] }) (base : Nat)
    (v : Value) (n : Nat) (xs : List Value) (hs : a.eval s = v) (hown : w.ownsRow base tText 51 v n xs) (pa : Option Addr) (m c : Nat) (l : List TextV) (hx : a.eval x = .slice pa m c) (hl : TextsAt w pa l) (hm : l.length = m) (hb : n + m ≤ 1000) (hbase : base ≤ w.heap.size)
    (h : ∀ v' w', w'.ownsRow base tText 51 v' (n + m) (xs ++ textcs l) → w.grownBy w' v.ownBlock → K (a.put dd v') w') : Oper.wp Try.prog o a w K Q := by
  subst hdd
  obtain ⟨i, hi, hz, hs0, hby⟩ := info_parts infoText
  have hr : ∃ v' w', (Builtin.append_ #[22, 22] o.type #[v, .slice pa m c]).run Try.prog w = .ok v' w' ∧ w'.ownsRow base tText 51 v' (n + m) (xs ++ textcs l) ∧ w.grownBy w' v.ownBlock := by
    by_cases h0 : m = 0
    · subst h0
      obtain rfl : l = [] := List.eq_nil_of_length_eq_zero hm
      have hsrc : Src Try.prog i.size 22 (.slice pa 0 c) 0 [] w := by
        cases pa with
        | none => exact Src.ofNil w underTexts c
        | some a => exact Src.ofSlice w underTexts a 0 c [] (by simp) (fun j u hu => by simp at hu) (fun u hu => by simp at hu)
      refine ⟨v, w, ?_, by simpa [textcs] using hown, ⟨rfl, rfl, rfl, Nat.le_refl _, fun _ _ _ => rfl⟩⟩
      rcases hown.2 with ⟨rfl, rfl⟩ | ⟨g, cap, cur, rfl, _, _, hc, _⟩
      · exact run_append_nothing w 22 22 o.type tText i underTexts hi none 0 0 (Nat.le_refl _) _ hsrc
      · exact run_append_nothing w 22 22 o.type tText i underTexts hi _ n cap hc _ hsrc
    · obtain ⟨b, of, rfl, hc⟩ := texts_cells hl (by omega)
      have hlen : (textcs l).length = m * 51 := by
        unfold textcs
        rw [flat_len _ 51 l (fun x hx => by obtain ⟨j, hj, rfl⟩ := List.getElem_of_mem hx; exact textc_len (hl j hj).1), hm]
      obtain ⟨v', w', hr, h2, h3, _, _⟩ := run_append_own_at (P := Try.prog) w base 22 o.type tText i _ 51 80 underTexts hi hz hs0 hby rfl (by decide) v n xs hown ⟨b, of, none⟩ m c (textcs l) hlen hc (textcs_one l) (by unfold maxLen; omega) (by omega) hbase
      exact ⟨v', w', hr, h2, h3⟩
  obtain ⟨v', w', hr, h2, h3⟩ := hr
  unfold Oper.wp execOp
  simp only [ho, resolve, invoke, builtin, Sem.run_bind, Sem.run_pure, Result.andThen_ok, List.map_toArray, List.map_cons, List.map_nil, hs, hx, hr]
  exact h v' w' h2 h3
set_option maxRecDepth 100000 in
set_option maxHeartbeats 4000000 in
theorem run_build_text (cs : List Value) (h : cs.length = 51) (W : World) : (Instr.buildSlice 22 1 #[(0, .agg cs.toArray)]).run Try.prog W = .ok (.slice (some ⟨W.heap.size, 0, none⟩) 1 1) (W.alloc (.cells cs.toArray tText)) := by
  match cs, h with
  | a0 :: a1 :: a2 :: a3 :: a4 :: a5 :: a6 :: a7 :: a8 :: a9 :: a10 :: a11 :: a12 :: a13 :: a14 :: a15 :: a16 :: a17 :: a18 :: a19 :: a20 :: a21 :: a22 :: a23 :: a24 :: a25 :: a26 :: a27 :: a28 :: a29 :: a30 :: a31 :: a32 :: a33 :: a34 :: a35 :: a36 :: a37 :: a38 :: a39 :: a40 :: a41 :: a42 :: a43 :: a44 :: a45 :: a46 :: a47 :: a48 :: a49 :: a50 :: [], _ => (first | kernel_rfl | go_simp)
theorem wp_build_text {w : World} {o : Oper} {a : Act} {K : Act → World → Prop} {Q : Exit → Act → World → Prop} (dd : Option Tmp) (hdd : o.dst = dd) (x : Operand) (ho : o.op = .buildSlice 22 1 #[(0, x)])
    (cs : List Value) (hx : a.eval x = .agg cs.toArray) (hl : cs.length = 51) (h : K (a.put dd (.slice (some ⟨w.heap.size, 0, none⟩) 1 1)) (w.alloc (.cells cs.toArray tText))) : Oper.wp Try.prog o a w K Q := by
  subst hdd
  have hr := run_build_text cs hl w
  unfold Oper.wp execOp
  simp only [ho, Sem.run_bind, Sem.run_pure, Result.andThen_ok, List.map_toArray, List.map_cons, List.map_nil, hx, hr]
  exact h
theorem wpList_build_text {w : World} {ops : Array Oper} {rest : List Oper} {o : Oper} {a : Act} {Q : Exit → Act → World → Prop} (hgd : o.guard = none) (x : Operand) (ho : o.op = .buildSlice 22 1 #[(0, x)])
    (cs : List Value) (hx : a.eval x = .agg cs.toArray) (hl : cs.length = 51) (h : wpList Try.prog ops Q rest (a.put o.dst (.slice (some ⟨w.heap.size, 0, none⟩) 1 1)) (w.alloc (.cells cs.toArray tText))) : wpList Try.prog ops Q (o :: rest) a w :=
  wpList_plain hgd fun _ hK => wp_build_text o.dst rfl x ho cs hx hl (hK _ _ h)
end Go.Proofs.Ytgellbapbphnlaa

/- WeaveMates, walked: what is between the texts -/
namespace Go.Proofs.Ytgellbapbphnlaa
open Go.RowKit

theorem mates_get (l : List TextV) (own : TextV) (k : Nat) (hk : k ≤ l.length) (h : k < (l.take k ++ [own] ++ l.drop k).length) : (l.take k ++ [own] ++ l.drop k)[k] = own := by
  have e : (l.take k).length = k := by rw [List.length_take]; omega
  rw [List.getElem_append_left (by rw [List.length_append, e]; exact Nat.lt_succ_self _), List.getElem_append_right (by omega)]
  simp [e]
theorem mates_len (l : List TextV) (own : TextV) (k : Nat) : (l.take k ++ [own] ++ l.drop k).length = l.length + 1 := by
  simp only [List.length_append, List.length_take, List.length_drop, List.length_singleton]
  omega
theorem mates_mem {l : List TextV} {own : TextV} {k : Nat} {p : TextV → Prop} (hl : ∀ x ∈ l, p x) (ho : p own) : ∀ x ∈ l.take k ++ [own] ++ l.drop k, p x := by
  intro x hx
  rcases List.mem_append.1 hx with h | h
  · rcases List.mem_append.1 h with h | h
    · exact hl x (List.mem_of_mem_take h)
    · obtain rfl := List.mem_singleton.1 h; exact ho
  · exact hl x (List.mem_of_mem_drop h)

set_option maxRecDepth 100000 in
set_option maxHeartbeats 8000000 in
theorem weaveMates_walk (w : World) (pa : Option Addr) (l : List TextV) (n cap : Nat) (own : TextV) (at' : UInt8) (hl : TextsAt w pa l) (hn : l.length = n) (hcap : n ≤ cap) (ho : TextOk w own) :
    Calls Try.prog 7 #[.slice pa n cap, .agg (textc own).toArray, .int .u8 (bv at')] w fun e w' => e = .returned (.bool true) ∧ Below w.heap.size w w' := by
  have Hn := hid hn
  have h0 := Blk.new w (textc own) tText
  have hB0 : Below w.heap.size w (w.alloc (.cells (textc own).toArray tText)) := (Below.refl _ _).alloc (Nat.le_refl _) _
  have c50 := h0.cell 50
  rw [textc_slice ho] at c50
  have b0 := bv_lo at'
  have b1 := bv_hi at'
  by_cases hgo : lightT l 100 = true ∧ n ≠ 8 ∧ own.b.length ≤ 100
  · obtain ⟨hlt, hn8, hob⟩ := hgo
    obtain ⟨h8, hm⟩ := lightT_spec hlt
    have Hlt := hid hlt
    have HM := hid hm
    rw [hn] at h8
    have hn7 : n ≤ 7 := by omega
    have q8 : ((n : Int) == 8) = false := by rw [beq_eq_false_iff_ne]; omega
    have qob : ¬ (100 < (own.b.length : Int)) := by omega
    obtain ⟨n1, hn1⟩ : ∃ m, n + 1 = m := ⟨_, rfl⟩
    have qn1 : (n : Int) + 1 = (n1 : Int) := by omega
    obtain ⟨k, hk⟩ : ∃ k, at'.toNat % n1 = k := ⟨_, rfl⟩
    have ebl : bv at' = (at'.toNat : Int) := rfl
    have hkn : k ≤ n := by have := Nat.mod_lt at'.toNat (show 0 < n1 by omega); omega
    have qk : (bv at').tmod (n1 : Int) = (k : Int) := by rw [Int.tmod_eq_emod_of_nonneg b0, ebl]; omega
    have qk2 : bv at' % (n1 : Int) = (k : Int) := by rw [ebl]; omega
    have qz : ((n1 : Int) == 0) = false := by rw [beq_eq_false_iff_ne]; omega
    have n18 : n1 ≤ 8 := by omega
    have Hn1 := hid hn1
    have hl0 := hl.below hB0
    have ho0 := ho.below hB0
    have hTl := textc_len ho
    have hszT : (Try.prog.info? 39).map (·.size) = some (textc own).length := by rw [sizeText, textc_len ho]
    have Hob := hid hob
    obtain ⟨po, hpo⟩ : ∃ p, own.pa = p := ⟨_, rfl⟩
    obtain ⟨bo, hbo⟩ : ∃ p, own.b.length = p := ⟨_, rfl⟩
    obtain ⟨co, hco⟩ : ∃ p, own.cap = p := ⟨_, rfl⟩
    rw [hpo, hbo, hco] at c50
    rw [hbo] at qob
    have Hbo := hid hbo
    clear hn hlt hm hk ebl hn1 hob hn8 hpo hbo hco hl ho
    go_enter Try.func7, Try.ntmps7
    go_wp2_with fail
    change Calls _ _ _ (w.alloc (.cells (textc own).toArray tText)) _
    obtain ⟨bx, hbx⟩ : ∃ bx, w.heap.size = bx := ⟨_, rfl⟩
    generalize w.alloc (.cells (textc own).toArray tText) = w1 at *
    rw [hbx] at h0 c50 ⊢
    have Hbx := hid hbx
    clear hbx
    refine (lightT_any w1 pa l n cap 100 hl0 Hn.out).mono ?_
    rw [Hlt.out]
    rintro e w2 ⟨rfl, rfl⟩
    go_upto_region 4 with fail
    have qkn : (k : Int) ≤ (n : Int) := by omega
    have qnc : (n : Int) ≤ (cap : Int) := by omega
    have qkc : (k : Int) ≤ (cap : Int) := by omega
    have qk0 : 0 ≤ (k : Int) := by omega
    have hS0 : Below w1.heap.size w1 w1.drew := (Below.refl _ _).drew
    try simp only [Act.put]
    refine tkR (fun w' => Below w1.heap.size w1 w') [] (by kernel_rfl) (fun c a d v w h => by cases d <;> exact h) (hS0) (fun hPF hHeld => ?_)
    refine tkB 1 (.some 42) _ _ rfl rfl (by kernel_rfl) (by kernel_rfl) (by kernel_rfl) (by kernel_rfl) hPF rfl (fun w' => by (go_simp; try with_reducible rfl)) hHeld (fun hHeld => ?_)
    simp only [Act.put, List.setIfInBounds_toArray, List.set_cons_zero, List.set_cons_succ]
    refine tkB 2 (.some 43) _ _ rfl rfl (by kernel_rfl) (by kernel_rfl) (by kernel_rfl) (by kernel_rfl) hPF rfl (fun w' => by (go_simp; try with_reducible rfl)) hHeld (fun hHeld => ?_)
    simp only [Act.put, List.setIfInBounds_toArray, List.set_cons_zero, List.set_cons_succ]
    refine tkA 3 (.some 44) _ (.slice pa k cap) rfl rfl (by kernel_rfl) (by kernel_rfl) (by kernel_rfl) (by kernel_rfl) (by kernel_rfl) hPF rfl (fun w' hw' => by (go_simp)) hHeld (fun hHeld => ?_)
    simp only [Act.put, List.setIfInBounds_toArray, List.set_cons_zero, List.set_cons_succ]
    refine tkL 5 (.some 46) _ rfl rfl 39 (.tmp 4) rfl bx 0 (textc own) _ (by kernel_rfl) (by kernel_rfl) (by kernel_rfl) (by kernel_rfl) (by kernel_rfl) hPF rfl rfl (fun w' hw' => (h0.below hw' h0.lt).whole) Try.underlying39 rfl hszT hHeld (fun hHeld => ?_)
    simp only [Act.put, List.setIfInBounds_toArray, List.set_cons_zero, List.set_cons_succ]
    refine tkB 8 (.some 49) _ _ rfl rfl (by kernel_rfl) (by kernel_rfl) (by kernel_rfl) (by kernel_rfl) hPF rfl (fun w' => by (go_simp; try with_reducible rfl)) hHeld (fun hHeld => ?_)
    simp only [Act.put, List.setIfInBounds_toArray, List.set_cons_zero, List.set_cons_succ]
    refine tkB 9 (.some 50) _ _ rfl rfl (by kernel_rfl) (by kernel_rfl) (by kernel_rfl) (by kernel_rfl) hPF rfl (fun w' => by (go_simp; try with_reducible rfl)) hHeld (fun hHeld => ?_)
    simp only [Act.put, List.setIfInBounds_toArray, List.set_cons_zero, List.set_cons_succ]
    refine tkA 10 (.some 51) _ (.slice (tfrom pa cap k) (n - k) (cap - k)) rfl rfl (by kernel_rfl) (by kernel_rfl) (by kernel_rfl) (by kernel_rfl) (by kernel_rfl) hPF rfl (fun w' hw' => by (go_simp; simp [tfrom])) hHeld (fun hHeld => ?_)
    simp only [Act.put, List.setIfInBounds_toArray, List.set_cons_zero, List.set_cons_succ]
    have hS := hHeld (by kernel_rfl)
    refine tkW (rs := [0, 6]) (by kernel_rfl) (by simp) (AllK.cons (o := _) rfl (fun KC hKC => ?_) (AllK.cons (o := _) rfl (fun KC hKC => ?_) AllK.nil))
    ·
      go_simp
      change KC _ (World.alloc w1.drew (.cells #[] tText))
      have hm0 : (World.alloc w1.drew (.cells #[] tText)).ownsRow w1.heap.size tText 51 (.slice (some ⟨w1.drew.heap.size, 0, none⟩) 0 0) 0 [] := World.ownsRow_made w1.drew #[] 0 (e := tText) (size := 51) (base := w1.heap.size) hS.size (by unfold maxLen; omega) (by simp)
      have s0 := hS.alloc hS.size (.cells #[] tText)
      generalize World.alloc w1.drew (.cells #[] tText) = w0 at *
      obtain ⟨mb, hmb⟩ : ∃ mb, w1.drew.heap.size = mb := ⟨_, rfl⟩
      rw [hmb] at hm0
      have hmlt := (World.ownsRow.lt hm0 mb rfl).2
      have hmb2 : w1.heap.size = mb := hmb
      rw [hmb2]
      refine hKC.out _ _ (s0) (fun hHeld => ?_)
      clear hKC KC
      try simp only [Act.put, List.setIfInBounds_toArray, List.set_cons_zero, List.set_cons_succ]
      have hS := hHeld (by kernel_rfl)
      refine tkW (rs := [4, 6]) (by kernel_rfl) (by simp) (AllK.cons (o := _) rfl (fun KC hKC => ?_) (AllK.cons (o := _) rfl (fun KC hKC => ?_) AllK.nil))
      ·
        refine wantIt rfl (wp_append_texts (.some 45) rfl (.tmp 41) (.tmp 44) rfl w1.heap.size _ 0 [] rfl hm0 pa k cap (l.take k) rfl ((hl0.take k).below s0) (by rw [List.length_take, Hn.out]; omega) (by omega) s0.size ?_)
        intro v4 w4 hown4 hgrow4
        have s4 := s0.grown hgrow4 s0.size (fun j e => (World.ownsRow.lt hm0 j e).1)
        rw [Nat.zero_add, List.nil_append] at hown4
        clear hgrow4
        refine hKC.out _ _ (s4) (fun hHeld => ?_)
        clear hKC KC
        try simp only [Act.put, List.setIfInBounds_toArray, List.set_cons_zero, List.set_cons_succ]
        have hS := hHeld (by kernel_rfl)
        refine tkW (rs := [6]) (by kernel_rfl) (by simp) (AllK.cons (o := _) rfl (fun KC hKC => ?_) AllK.nil)
        refine wantIt rfl (wp_build_text (.some 47) rfl (.tmp 46) rfl (textc own) rfl hTl ?_)
        have ho6 := Blk.new w4 (textc own) tText
        have ha6 : Below w4.heap.size w4 (World.alloc w4 (.cells (textc own).toArray tText)) := (Below.refl _ _).alloc (Nat.le_refl _) _
        have s6 := s4.trans (ha6.mono s4.size)
        have hown4 := owns_below hown4 ha6
        generalize World.alloc w4 (.cells (textc own).toArray tText) = w6 at *
        obtain ⟨b6, hb6⟩ : ∃ b6, w4.heap.size = b6 := ⟨_, rfl⟩
        rw [hb6] at ho6
        rw [hb6]
        clear ha6
        refine hKC.out _ _ (s6) (fun hHeld => ?_)
        clear hKC KC
        try simp only [Act.put, List.setIfInBounds_toArray, List.set_cons_zero, List.set_cons_succ]
        have hS := hHeld (by kernel_rfl)
        refine tkW (rs := [7]) (by kernel_rfl) (by simp) (AllK.cons (o := _) rfl (fun KC hKC => ?_) AllK.nil)
        refine wantIt rfl (wp_append_texts (.some 48) rfl (.tmp 45) (.tmp 47) rfl w1.heap.size v4 k (textcs (l.take k)) rfl hown4 (some ⟨b6, 0, none⟩) 1 1 [own] rfl (texts_one ho6 (ho0.below s6)) rfl (by omega) s6.size ?_)
        intro v7 w7 hown7 hgrow7
        have s7 := s6.grown hgrow7 s6.size (fun j e => (World.ownsRow.lt hown4 j e).1)
        clear hgrow7
        refine hKC.out _ _ (s7) (fun hHeld => ?_)
        clear hKC KC
        try simp only [Act.put, List.setIfInBounds_toArray, List.set_cons_zero, List.set_cons_succ]
        have hS := hHeld (by kernel_rfl)
        refine tkW (rs := [11]) (by kernel_rfl) (by simp) (AllK.cons (o := _) rfl (fun KC hKC => ?_) AllK.nil)
        refine wantIt rfl (wp_append_texts (.some 52) rfl (.tmp 48) (.tmp 51) rfl w1.heap.size v7 (k + 1) (textcs (l.take k) ++ textcs [own]) rfl hown7 (tfrom pa cap k) (n - k) (cap - k) (l.drop k) rfl ((hl0.drop cap k (by rw [Hn.out]; exact hcap)).below s7) (by rw [List.length_drop, Hn.out]) (by omega) s7.size ?_)
        intro v11 w11 hown11 hgrow11
        have s11 := s7.grown hgrow11 s7.size (fun j e => (World.ownsRow.lt hown7 j e).1)
        clear hgrow11
        refine hKC.out _ _ (s11) (fun hHeld => ?_)
        clear hKC KC
        try simp only [Act.put, List.setIfInBounds_toArray, List.set_cons_zero, List.set_cons_succ]
        refine tkB 12 (.some 8) _ _ rfl rfl (by kernel_rfl) (by kernel_rfl) (by kernel_rfl) (by kernel_rfl) hPF rfl (fun w' => by (go_simp; try with_reducible rfl)) hHeld (fun hHeld => ?_)
        simp only [Act.put, List.setIfInBounds_toArray, List.set_cons_zero, List.set_cons_succ]
        refine tkD (by kernel_rfl) ?_ _
        have hall : w11.ownsRow w1.heap.size tText 51 v11 n1 (textcs (l.take k ++ [own] ++ l.drop k)) := by
          have e1 : k + 1 + (n - k) = n1 := by have := Hn1.out; omega
          rw [e1] at hown11
          simpa [textcs, List.flatMap_append] using hown11
        have hALn : (l.take k ++ [own] ++ l.drop k).length = n1 := by rw [mates_len, Hn.out]; exact Hn1.out
        have hokA : ∀ x ∈ (l.take k ++ [own] ++ l.drop k), TextOk w11 x := mates_mem (fun x hx => by obtain ⟨j, hj, rfl⟩ := List.getElem_of_mem hx; exact ((hl0.below s11) j hj).1) (ho0.below s11)
        obtain ⟨pA, cA, rfl, hcA, hA⟩ := texts_of_owns hall hALn hokA
        have hALm : ∀ x ∈ (l.take k ++ [own] ++ l.drop k), x.b.length ≤ 100 := mates_mem (p := fun x => x.b.length ≤ 100) (fun x hx => by obtain ⟨j, hj, rfl⟩ := List.getElem_of_mem hx; exact HM.out j hj) Hob.out
        obtain ⟨AL, hAL⟩ : ∃ AL, l.take k ++ [own] ++ l.drop k = AL := ⟨_, rfl⟩
        have hALk : ∀ (h : k < AL.length), AL[k] = own := by subst hAL; exact fun h => mates_get l own k (by rw [Hn.out]; exact hkn) h
        rw [hAL] at hALn hA hALm
        have HALn := hid hALn
        have HALk := hid hALk
        have HALm := hid (fun j (h : j < AL.length) => Nat.le_trans (hALm _ (List.getElem_mem h)) (show 100 ≤ 1000 by omega))
        have Hob1 := hid (fun j (h : j < [own].length) => show [own][j].b.length ≤ 1000 by
          obtain rfl : j = 0 := by simpa using h
          exact Nat.le_trans Hob.out (by omega))
        have ho11 := h0.below s11 h0.lt
        have hoo11 := ho0.below s11
        have hBw := hB0.trans (s11.mono hB0.size)
        clear hall hALn hokA hALk hALm hAL hown11 hown7 hown4
        go_wp2_with fail
        refine (counters_any w11 pA AL n1 cA hA HALn.out (by omega) HALm.out).mono ?_
        rintro e w12 ⟨v12, cs, rfl, hcl, hcf, hco, hown12, hB12⟩
        obtain ⟨pc, cc, rfl, hcc, hatc⟩ := ctrs_of_owns hown12 hcl (fun x hx => (hco x hx).ok)
        have Hcl := hid hcl
        have Hcf := hid hcf
        have ho12 := ho11.below hB12 ho11.lt
        have hoo12 := hoo11.below hB12
        have hA12 := hA.below hB12
        have hBw := hBw.trans (hB12.mono hBw.size)
        clear hcl hcf hco hown12 hB12
        go_wp2_with (first | (refine wpList_load_mid rfl 39 (.tmp 4) rfl bx 0 rfl (textc own) _ ho12.whole Try.underlying39 rfl hszT ?_) | (refine wpList_build_text rfl (.tmp 59) rfl (textc own) rfl hTl ?_))
        have hq := Blk.new w12 (textc own) tText
        have haq : Below w12.heap.size w12 (w12.alloc (.cells (textc own).toArray tText)) := (Below.refl _ _).alloc (Nat.le_refl _) _
        change Calls _ _ _ (w12.alloc (.cells (textc own).toArray tText)) _
        have ho13 := ho12.below haq ho12.lt
        have hoo13 := hoo12.below haq
        have hA13 := hA12.below haq
        have hatc13 := hatc.below haq
        have hBw := hBw.trans (haq.mono hBw.size)
        obtain ⟨bq, hbq⟩ : ∃ bq, w12.heap.size = bq := ⟨_, rfl⟩
        generalize w12.alloc (.cells (textc own).toArray tText) = w13 at *
        rw [hbq] at hq ⊢
        clear haq hbq
        refine (counters_any w13 (some ⟨bq, 0, none⟩) [own] 1 1 (texts_one hq hoo13) rfl (by omega) Hob1.out).mono ?_
        rintro e w14 ⟨v14, ds, rfl, hdl, hdf, hdo, hown14, hB14⟩
        obtain ⟨pd, cd, rfl, hcd, hatd⟩ := ctrs_of_owns hown14 hdl (fun x hx => (hdo x hx).ok)
        have Hdl := hid hdl
        have Hdf := hid hdf
        have ho14 := ho13.below hB14 ho13.lt
        have hoo14 := hoo13.below hB14
        have hA14 := hA13.below hB14
        have hatc14 := hatc13.below hB14
        have hBw := hBw.trans (hB14.mono hBw.size)
        clear hdl hdf hdo hown14 hB14 hq
        go_wp2_with fail
        refine (ctr_any w14 pc cs n1 cc hatc14 Hcl.out (by omega) (fun j h => by
          have h' : j < AL.length := by rw [HALn.out, ← Hcl.out]; exact h
          rw [(Hcf.out j h h').b]; exact HALm.out j h')).mono ?_
        rintro e w15 ⟨g1, x1, rfl, _, hb15, hv15, hr15, hB15⟩
        generalize stepsF 16 8 (lens cs) = st1
        have ho15 := ho14.below hB15 ho14.lt
        have hoo15 := hoo14.below hB15
        have hA15 := hA14.below hB15
        have hatd15 := hatd.below hB15
        have hBw := hBw.trans (hB15.mono hBw.size)
        have Hv15 := hid hv15
        clear hv15 hB15
        go_wp2_with fail
        refine (ctr_any w15 pd ds 1 cd hatd15 Hdl.out (by omega) (fun j h => by
          have h' : j < [own].length := by rw [Hdl.out] at h; exact h
          rw [(Hdf.out j h h').b]; exact Hob1.out j h')).mono ?_
        rintro e w16 ⟨g2, x2, rfl, _, hb16, hv16, hr16, hB16⟩
        generalize stepsF 16 8 (lens ds) = st2
        have ho16 := ho15.below hB16 ho15.lt
        have hoo16 := hoo15.below hB16
        have hA16 := hA15.below hB16
        have hb15 := hb15.below hB16 hb15.lt
        have hr15 := hr15.below hB16
        have hBw := hBw.trans (hB16.mono hBw.size)
        have Hv16 := hid hv16
        clear hv16 hB16
        go_wp2_with fail
        refine (streams_any w16 pA AL n1 cA hA16 HALn.out (by omega) HALm.out).mono ?_
        rintro e w17 ⟨v17, ss, rfl, hsl, hsf, hso, hown17, hB17⟩
        obtain ⟨ps, csz, rfl, hcs, hats⟩ := strs_of_owns hown17 hsl (fun x hx => (hso x hx).ok)
        have Hsl := hid hsl
        have Hsf := hid hsf
        clear hsl hsf hso hown17
        go_wp2_with fail
        refine (chas_any w17 ps ss n1 csz hats Hsl.out (by omega) (fun j h => by
          have h' : j < AL.length := by rw [HALn.out, ← Hsl.out]; exact h
          rw [(Hsf.out j h h').b]; exact HALm.out j h')).mono ?_
        rintro e w18 ⟨g3, x3, rfl, _, hb18, hv18, hr18, hB18⟩
        generalize stepsF 64 4 (lensS ss) = st3
        have hB168 := hB17.trans (hB18.mono hB17.size)
        have ho18 := ho16.below hB168 ho16.lt
        have hoo18 := hoo16.below hB168
        have hb15 := hb15.below hB168 hb15.lt
        have hr15 := hr15.below hB168
        have hb16 := hb16.below hB168 hb16.lt
        have hr16 := hr16.below hB168
        have hBw := hBw.trans (hB168.mono hBw.size)
        have Hv18 := hid hv18
        clear hv18 hB17 hB18 hB168 hats
        go_wp2_with (first | (refine wpList_load_mid rfl 39 (.tmp 4) rfl bx 0 rfl (textc own) _ ho18.whole Try.underlying39 rfl hszT ?_) | (refine wpList_build_text rfl (.tmp 87) rfl (textc own) rfl hTl ?_))
        have hq := Blk.new w18 (textc own) tText
        have haq : Below w18.heap.size w18 (w18.alloc (.cells (textc own).toArray tText)) := (Below.refl _ _).alloc (Nat.le_refl _) _
        change Calls _ _ _ (w18.alloc (.cells (textc own).toArray tText)) _
        have ho19 := ho18.below haq ho18.lt
        have hoo19 := hoo18.below haq
        have hb15 := hb15.below haq hb15.lt
        have hr15 := hr15.below haq
        have hb16 := hb16.below haq hb16.lt
        have hr16 := hr16.below haq
        have hb18 := hb18.below haq hb18.lt
        have hr18 := hr18.below haq
        have hBw := hBw.trans (haq.mono hBw.size)
        obtain ⟨bq, hbq⟩ : ∃ bq, w18.heap.size = bq := ⟨_, rfl⟩
        generalize w18.alloc (.cells (textc own).toArray tText) = w19 at *
        rw [hbq] at hq ⊢
        clear haq hbq
        refine (streams_any w19 (some ⟨bq, 0, none⟩) [own] 1 1 (texts_one hq hoo19) rfl (by omega) Hob1.out).mono ?_
        rintro e w20 ⟨v20, ts, rfl, htl, htf, hto, hown20, hB20⟩
        obtain ⟨pt, ct, rfl, hct, hatt⟩ := strs_of_owns hown20 htl (fun x hx => (hto x hx).ok)
        have Htl := hid htl
        have Htf := hid htf
        clear htl htf hto hown20 hq
        go_wp2_with fail
        refine (chas_any w20 pt ts 1 ct hatt Htl.out (by omega) (fun j h => by
          have h' : j < [own].length := by rw [Htl.out] at h; exact h
          rw [(Htf.out j h h').b]; exact Hob1.out j h')).mono ?_
        rintro e w21 ⟨g4, x4, rfl, _, hb21, hv21, hr21, hB21⟩
        generalize stepsF 64 4 (lensS ts) = st4
        have hB192 := hB20.trans (hB21.mono hB20.size)
        have ho21 := ho19.below hB192 ho19.lt
        have hb15 := hb15.below hB192 hb15.lt
        have hr15 := hr15.below hB192
        have hb16 := hb16.below hB192 hb16.lt
        have hr16 := hr16.below hB192
        have hb18 := hb18.below hB192 hb18.lt
        have hr18 := hr18.below hB192
        have hBw := hBw.trans (hB192.mono hBw.size)
        clear hB20 hB21 hB192 hatt
        have hkA : k < AL.length := by rw [HALn.out]; have := Hn1.out; omega
        have hkc : k < cs.length := by rw [Hcl.out, ← HALn.out]; exact hkA
        have hks : k < ss.length := by rw [Hsl.out, ← HALn.out]; exact hkA
        have r1 := hr15.row k (by rw [Hv15.out, ← HALn.out]; exact hkA)
        have r2 := hr16.row 0 (by rw [Hv16.out]; omega)
        have r3 := hr18.row k (by rw [Hv18.out, ← HALn.out]; exact hkA)
        have r4 := hr21.row 0 (by rw [hv21]; omega)
        rw [CF_for Hcf.out k hkc hkA, HALk.out hkA] at r1
        rw [CF_for Hdf.out 0 (by rw [Hdl.out]; omega) (by simp)] at r2
        rw [SF_for Hsf.out k hks hkA, HALk.out hkA] at r3
        rw [SF_for Htf.out 0 (by rw [Htl.out]; omega) (by simp)] at r4
        simp only [List.getElem_cons_zero] at r2 r4
        obtain ⟨X, hX⟩ : ∃ X, xk (enc (rkT own)) own.iv 0 own.b = X := ⟨_, rfl⟩
        obtain ⟨Y, hY⟩ : ∃ Y, xf (ksR own.K (own.iv.take 12) (UInt32.ofNat own.n)) own.b = Y := ⟨_, rfl⟩
        have hXl : X.length = bo := by rw [← hX, xk_len]; exact Hbo.out
        have hYl : Y.length = bo := by rw [← hY, xf_len]; exact Hbo.out
        rw [hX] at r1 r2
        rw [hY] at r3 r4
        obtain ⟨p1, c1, e1, _, t1⟩ := r1.row
        obtain ⟨p2, c2, e2, _, t2⟩ := r2.row
        obtain ⟨p3, c3, e3, _, t3⟩ := r3.row
        obtain ⟨p4, c4, e4, _, t4⟩ := r4.row
        have f1 : x1[k]? = some (.slice p1 bo c1) := by rw [← hXl, ← e1]; simp [List.getD, Hv15.out, show k < n1 by rw [← HALn.out]; exact hkA]
        have f2 : x2[0]? = some (.slice p2 bo c2) := by rw [← hXl, ← e2]; simp [List.getD, Hv16.out]
        have f3 : x3[k]? = some (.slice p3 bo c3) := by rw [← hYl, ← e3]; simp [List.getD, Hv18.out, show k < n1 by rw [← HALn.out]; exact hkA]
        have f4 : x4[0]? = some (.slice p4 bo c4) := by rw [← hYl, ← e4]; simp [List.getD, hv21]
        have f5 : (textc own)[50]? = some (.slice own.pa bo own.cap) := by rw [← Hbo.out]; exact textc_slice ho0
        have C1 := hid (fun w' (h : Below w21.heap.size w21 w') => ((hb15.below h hb15.lt).cell k).trans f1)
        have C2 := hid (fun w' (h : Below w21.heap.size w21 w') => ((hb16.below h hb16.lt).cell 0).trans f2)
        have C3 := hid (fun w' (h : Below w21.heap.size w21 w') => ((hb18.below h hb18.lt).cell k).trans f3)
        have C4 := hid (fun w' (h : Below w21.heap.size w21 w') => ((hb21.below h hb21.lt).cell 0).trans f4)
        have C5 := hid (fun w' (h : Below w21.heap.size w21 w') => ((ho21.below h ho21.lt).cell 50).trans f5)
        have HXl := hid hXl
        have HYl := hid hYl
        have qk1 : (k : Int) < (n1 : Int) := by have := Hn1.out; omega
        generalize own.pa = po' at C5
        generalize own.cap = co' at C5
        clear hX hY hXl hYl e1 e2 e3 e4 f1 f2 f3 f4 f5 r1 r2 r3 r4 hr15 hr16 hr18 hr21 hb15 hb16 hb18 hb21 hkA hkc hks hv21 ho21 ho19 hoo19 ho18 hoo18 ho16 hoo16 ho15 hoo15 ho14 hoo14 ho13 hoo13 ho12 hoo12 ho11 hoo11 hA hA12 hA13 hA14 hA15 hA16
        go_upto_region 13 with fail
        have T0 : Below w21.heap.size w21 w21.drew := (Below.refl _ _).drew
        try simp only [Act.put]
        refine tkR (fun w' => Below w21.heap.size w21 w') [] (by kernel_rfl) (fun c a d v w h => by cases d <;> exact h) (T0) (fun hPF hHeld => ?_)
        refine tkB 0 (.some 93) _ _ rfl rfl (by kernel_rfl) (by kernel_rfl) (by kernel_rfl) (by kernel_rfl) hPF rfl (fun w' => by (go_simp; try with_reducible rfl)) hHeld (fun hHeld => ?_)
        simp only [Act.put, List.setIfInBounds_toArray, List.set_cons_zero, List.set_cons_succ]
        refine tkB 1 (.some 94) _ _ rfl rfl (by kernel_rfl) (by kernel_rfl) (by kernel_rfl) (by kernel_rfl) hPF rfl (fun w' => by (go_simp; try with_reducible rfl)) hHeld (fun hHeld => ?_)
        simp only [Act.put, List.setIfInBounds_toArray, List.set_cons_zero, List.set_cons_succ]
        refine tkB 2 (.some 95) _ _ rfl rfl (by kernel_rfl) (by kernel_rfl) (by kernel_rfl) (by kernel_rfl) hPF rfl (fun w' => by (go_simp; try with_reducible rfl)) hHeld (fun hHeld => ?_)
        simp only [Act.put, List.setIfInBounds_toArray, List.set_cons_zero, List.set_cons_succ]
        refine tkB 3 (.some 96) _ _ rfl rfl (by kernel_rfl) (by kernel_rfl) (by kernel_rfl) (by kernel_rfl) hPF rfl (fun w' => by (go_simp; try with_reducible rfl)) hHeld (fun hHeld => ?_)
        simp only [Act.put, List.setIfInBounds_toArray, List.set_cons_zero, List.set_cons_succ]
        refine tkB 4 (.some 97) _ _ rfl rfl (by kernel_rfl) (by kernel_rfl) (by kernel_rfl) (by kernel_rfl) hPF rfl (fun w' => by (go_simp; try with_reducible rfl)) hHeld (fun hHeld => ?_)
        simp only [Act.put, List.setIfInBounds_toArray, List.set_cons_zero, List.set_cons_succ]
        refine tkB 5 (.some 98) _ _ rfl rfl (by kernel_rfl) (by kernel_rfl) (by kernel_rfl) (by kernel_rfl) hPF rfl (fun w' => by (go_simp; try with_reducible rfl)) hHeld (fun hHeld => ?_)
        simp only [Act.put, List.setIfInBounds_toArray, List.set_cons_zero, List.set_cons_succ]
        refine tkB 6 (.some 99) _ _ rfl rfl (by kernel_rfl) (by kernel_rfl) (by kernel_rfl) (by kernel_rfl) hPF rfl (fun w' => by (go_simp; try with_reducible rfl)) hHeld (fun hHeld => ?_)
        simp only [Act.put, List.setIfInBounds_toArray, List.set_cons_zero, List.set_cons_succ]
        refine tkB 7 (.some 100) _ _ rfl rfl (by kernel_rfl) (by kernel_rfl) (by kernel_rfl) (by kernel_rfl) hPF rfl (fun w' => by (go_simp; try with_reducible rfl)) hHeld (fun hHeld => ?_)
        simp only [Act.put, List.setIfInBounds_toArray, List.set_cons_zero, List.set_cons_succ]
        refine tkB 8 (.some 101) _ _ rfl rfl (by kernel_rfl) (by kernel_rfl) (by kernel_rfl) (by kernel_rfl) hPF rfl (fun w' => by (go_simp; try with_reducible rfl)) hHeld (fun hHeld => ?_)
        simp only [Act.put, List.setIfInBounds_toArray, List.set_cons_zero, List.set_cons_succ]
        refine tkB 9 (.some 102) _ _ rfl rfl (by kernel_rfl) (by kernel_rfl) (by kernel_rfl) (by kernel_rfl) hPF rfl (fun w' => by (go_simp; try with_reducible rfl)) hHeld (fun hHeld => ?_)
        simp only [Act.put, List.setIfInBounds_toArray, List.set_cons_zero, List.set_cons_succ]
        refine tkB 10 (.some 103) _ _ rfl rfl (by kernel_rfl) (by kernel_rfl) (by kernel_rfl) (by kernel_rfl) hPF rfl (fun w' => by (go_simp; try with_reducible rfl)) hHeld (fun hHeld => ?_)
        simp only [Act.put, List.setIfInBounds_toArray, List.set_cons_zero, List.set_cons_succ]
        refine tkB 11 (.some 104) _ _ rfl rfl (by kernel_rfl) (by kernel_rfl) (by kernel_rfl) (by kernel_rfl) hPF rfl (fun w' => by (go_simp; try with_reducible rfl)) hHeld (fun hHeld => ?_)
        simp only [Act.put, List.setIfInBounds_toArray, List.set_cons_zero, List.set_cons_succ]
        refine tkB 12 (.some 105) _ _ rfl rfl (by kernel_rfl) (by kernel_rfl) (by kernel_rfl) (by kernel_rfl) hPF rfl (fun w' => by (go_simp; try with_reducible rfl)) hHeld (fun hHeld => ?_)
        simp only [Act.put, List.setIfInBounds_toArray, List.set_cons_zero, List.set_cons_succ]
        refine tkB 13 (.some 106) _ _ rfl rfl (by kernel_rfl) (by kernel_rfl) (by kernel_rfl) (by kernel_rfl) hPF rfl (fun w' => by (go_simp; try with_reducible rfl)) hHeld (fun hHeld => ?_)
        simp only [Act.put, List.setIfInBounds_toArray, List.set_cons_zero, List.set_cons_succ]
        refine tkB 14 (.some 107) _ _ rfl rfl (by kernel_rfl) (by kernel_rfl) (by kernel_rfl) (by kernel_rfl) hPF rfl (fun w' => by (go_simp; try with_reducible rfl)) hHeld (fun hHeld => ?_)
        simp only [Act.put, List.setIfInBounds_toArray, List.set_cons_zero, List.set_cons_succ]
        refine tkB 15 (.some 108) _ _ rfl rfl (by kernel_rfl) (by kernel_rfl) (by kernel_rfl) (by kernel_rfl) hPF rfl (fun w' => by (go_simp; try with_reducible rfl)) hHeld (fun hHeld => ?_)
        simp only [Act.put, List.setIfInBounds_toArray, List.set_cons_zero, List.set_cons_succ]
        refine tkB 16 (.some 109) _ _ rfl rfl (by kernel_rfl) (by kernel_rfl) (by kernel_rfl) (by kernel_rfl) hPF rfl (fun w' => by (go_simp; try with_reducible rfl)) hHeld (fun hHeld => ?_)
        simp only [Act.put, List.setIfInBounds_toArray, List.set_cons_zero, List.set_cons_succ]
        refine tkB 17 (.some 110) _ _ rfl rfl (by kernel_rfl) (by kernel_rfl) (by kernel_rfl) (by kernel_rfl) hPF rfl (fun w' => by (go_simp; try with_reducible rfl)) hHeld (fun hHeld => ?_)
        simp only [Act.put, List.setIfInBounds_toArray, List.set_cons_zero, List.set_cons_succ]
        refine tkB 18 (.some 111) _ _ rfl rfl (by kernel_rfl) (by kernel_rfl) (by kernel_rfl) (by kernel_rfl) hPF rfl (fun w' => by (go_simp; try with_reducible rfl)) hHeld (fun hHeld => ?_)
        simp only [Act.put, List.setIfInBounds_toArray, List.set_cons_zero, List.set_cons_succ]
        refine tkB 19 (.some 112) _ _ rfl rfl (by kernel_rfl) (by kernel_rfl) (by kernel_rfl) (by kernel_rfl) hPF rfl (fun w' => by (go_simp; try with_reducible rfl)) hHeld (fun hHeld => ?_)
        simp only [Act.put, List.setIfInBounds_toArray, List.set_cons_zero, List.set_cons_succ]
        refine tkB 20 (.some 113) _ _ rfl rfl (by kernel_rfl) (by kernel_rfl) (by kernel_rfl) (by kernel_rfl) hPF rfl (fun w' => by (go_simp; try with_reducible rfl)) hHeld (fun hHeld => ?_)
        simp only [Act.put, List.setIfInBounds_toArray, List.set_cons_zero, List.set_cons_succ]
        refine tkB 21 (.some 114) _ _ rfl rfl (by kernel_rfl) (by kernel_rfl) (by kernel_rfl) (by kernel_rfl) hPF rfl (fun w' => by (go_simp; try with_reducible rfl)) hHeld (fun hHeld => ?_)
        simp only [Act.put, List.setIfInBounds_toArray, List.set_cons_zero, List.set_cons_succ]
        refine tkB 22 (.some 115) _ _ rfl rfl (by kernel_rfl) (by kernel_rfl) (by kernel_rfl) (by kernel_rfl) hPF rfl (fun w' => by (go_simp; try with_reducible rfl)) hHeld (fun hHeld => ?_)
        simp only [Act.put, List.setIfInBounds_toArray, List.set_cons_zero, List.set_cons_succ]
        refine tkB 23 (.some 116) _ _ rfl rfl (by kernel_rfl) (by kernel_rfl) (by kernel_rfl) (by kernel_rfl) hPF rfl (fun w' => by (go_simp; try with_reducible rfl)) hHeld (fun hHeld => ?_)
        simp only [Act.put, List.setIfInBounds_toArray, List.set_cons_zero, List.set_cons_succ]
        refine tkB 24 (.some 117) _ _ rfl rfl (by kernel_rfl) (by kernel_rfl) (by kernel_rfl) (by kernel_rfl) hPF rfl (fun w' => by (go_simp; try with_reducible rfl)) hHeld (fun hHeld => ?_)
        simp only [Act.put, List.setIfInBounds_toArray, List.set_cons_zero, List.set_cons_succ]
        refine tkB 25 (.some 118) _ _ rfl rfl (by kernel_rfl) (by kernel_rfl) (by kernel_rfl) (by kernel_rfl) hPF rfl (fun w' => by (go_simp; try with_reducible rfl)) hHeld (fun hHeld => ?_)
        simp only [Act.put, List.setIfInBounds_toArray, List.set_cons_zero, List.set_cons_succ]
        refine tkA 26 (.some 119) _ _ rfl rfl (by kernel_rfl) (by kernel_rfl) (by kernel_rfl) (by kernel_rfl) (by kernel_rfl) hPF rfl (fun w' hw' => by (have h1 := C1.out _ hw'; go_simp; try with_reducible rfl)) hHeld (fun hHeld => ?_)
        simp only [Act.put, List.setIfInBounds_toArray, List.set_cons_zero, List.set_cons_succ]
        refine tkA 27 (.some 120) _ _ rfl rfl (by kernel_rfl) (by kernel_rfl) (by kernel_rfl) (by kernel_rfl) (by kernel_rfl) hPF rfl (fun w' hw' => by (have h1 := str_row (n := bo) (c := c1) (t1.below hw') HXl.out; go_simp; try with_reducible rfl)) hHeld (fun hHeld => ?_)
        simp only [Act.put, List.setIfInBounds_toArray, List.set_cons_zero, List.set_cons_succ]
        refine tkB 28 (.some 121) _ _ rfl rfl (by kernel_rfl) (by kernel_rfl) (by kernel_rfl) (by kernel_rfl) hPF rfl (fun w' => by (go_simp; try with_reducible rfl)) hHeld (fun hHeld => ?_)
        simp only [Act.put, List.setIfInBounds_toArray, List.set_cons_zero, List.set_cons_succ]
        refine tkB 29 (.some 122) _ _ rfl rfl (by kernel_rfl) (by kernel_rfl) (by kernel_rfl) (by kernel_rfl) hPF rfl (fun w' => by (go_simp; try with_reducible rfl)) hHeld (fun hHeld => ?_)
        simp only [Act.put, List.setIfInBounds_toArray, List.set_cons_zero, List.set_cons_succ]
        refine tkA 30 (.some 123) _ _ rfl rfl (by kernel_rfl) (by kernel_rfl) (by kernel_rfl) (by kernel_rfl) (by kernel_rfl) hPF rfl (fun w' hw' => by (have h1 := C2.out _ hw'; go_simp; try with_reducible rfl)) hHeld (fun hHeld => ?_)
        simp only [Act.put, List.setIfInBounds_toArray, List.set_cons_zero, List.set_cons_succ]
        refine tkA 31 (.some 124) _ _ rfl rfl (by kernel_rfl) (by kernel_rfl) (by kernel_rfl) (by kernel_rfl) (by kernel_rfl) hPF rfl (fun w' hw' => by (have h1 := str_row (n := bo) (c := c2) (t2.below hw') HXl.out; go_simp; try with_reducible rfl)) hHeld (fun hHeld => ?_)
        simp only [Act.put, List.setIfInBounds_toArray, List.set_cons_zero, List.set_cons_succ]
        refine tkA 32 (.some 125) _ (.bool true) rfl rfl (by kernel_rfl) (by kernel_rfl) (by kernel_rfl) (by kernel_rfl) (by kernel_rfl) hPF rfl (fun w' hw' => by (go_simp)) hHeld (fun hHeld => ?_)
        simp only [Act.put, List.setIfInBounds_toArray, List.set_cons_zero, List.set_cons_succ]
        refine tkB 33 (.some 126) _ _ rfl rfl (by kernel_rfl) (by kernel_rfl) (by kernel_rfl) (by kernel_rfl) hPF rfl (fun w' => by (go_simp; try with_reducible rfl)) hHeld (fun hHeld => ?_)
        simp only [Act.put, List.setIfInBounds_toArray, List.set_cons_zero, List.set_cons_succ]
        refine tkB 34 (.some 127) _ _ rfl rfl (by kernel_rfl) (by kernel_rfl) (by kernel_rfl) (by kernel_rfl) hPF rfl (fun w' => by (go_simp; try with_reducible rfl)) hHeld (fun hHeld => ?_)
        simp only [Act.put, List.setIfInBounds_toArray, List.set_cons_zero, List.set_cons_succ]
        refine tkB 35 (.some 128) _ _ rfl rfl (by kernel_rfl) (by kernel_rfl) (by kernel_rfl) (by kernel_rfl) hPF rfl (fun w' => by (go_simp; try with_reducible rfl)) hHeld (fun hHeld => ?_)
        simp only [Act.put, List.setIfInBounds_toArray, List.set_cons_zero, List.set_cons_succ]
        refine tkB 36 (.some 129) _ _ rfl rfl (by kernel_rfl) (by kernel_rfl) (by kernel_rfl) (by kernel_rfl) hPF rfl (fun w' => by (go_simp; try with_reducible rfl)) hHeld (fun hHeld => ?_)
        simp only [Act.put, List.setIfInBounds_toArray, List.set_cons_zero, List.set_cons_succ]
        refine tkB 37 (.some 130) _ _ rfl rfl (by kernel_rfl) (by kernel_rfl) (by kernel_rfl) (by kernel_rfl) hPF rfl (fun w' => by (go_simp; try with_reducible rfl)) hHeld (fun hHeld => ?_)
        simp only [Act.put, List.setIfInBounds_toArray, List.set_cons_zero, List.set_cons_succ]
        refine tkA 38 (.some 131) _ _ rfl rfl (by kernel_rfl) (by kernel_rfl) (by kernel_rfl) (by kernel_rfl) (by kernel_rfl) hPF rfl (fun w' hw' => by (have h1 := C3.out _ hw'; go_simp; try with_reducible rfl)) hHeld (fun hHeld => ?_)
        simp only [Act.put, List.setIfInBounds_toArray, List.set_cons_zero, List.set_cons_succ]
        refine tkA 39 (.some 132) _ _ rfl rfl (by kernel_rfl) (by kernel_rfl) (by kernel_rfl) (by kernel_rfl) (by kernel_rfl) hPF rfl (fun w' hw' => by (have h1 := str_row (n := bo) (c := c3) (t3.below hw') HYl.out; go_simp; try with_reducible rfl)) hHeld (fun hHeld => ?_)
        simp only [Act.put, List.setIfInBounds_toArray, List.set_cons_zero, List.set_cons_succ]
        refine tkB 40 (.some 133) _ _ rfl rfl (by kernel_rfl) (by kernel_rfl) (by kernel_rfl) (by kernel_rfl) hPF rfl (fun w' => by (go_simp; try with_reducible rfl)) hHeld (fun hHeld => ?_)
        simp only [Act.put, List.setIfInBounds_toArray, List.set_cons_zero, List.set_cons_succ]
        refine tkB 41 (.some 134) _ _ rfl rfl (by kernel_rfl) (by kernel_rfl) (by kernel_rfl) (by kernel_rfl) hPF rfl (fun w' => by (go_simp; try with_reducible rfl)) hHeld (fun hHeld => ?_)
        simp only [Act.put, List.setIfInBounds_toArray, List.set_cons_zero, List.set_cons_succ]
        refine tkA 42 (.some 135) _ _ rfl rfl (by kernel_rfl) (by kernel_rfl) (by kernel_rfl) (by kernel_rfl) (by kernel_rfl) hPF rfl (fun w' hw' => by (have h1 := C4.out _ hw'; go_simp; try with_reducible rfl)) hHeld (fun hHeld => ?_)
        simp only [Act.put, List.setIfInBounds_toArray, List.set_cons_zero, List.set_cons_succ]
        refine tkA 43 (.some 136) _ _ rfl rfl (by kernel_rfl) (by kernel_rfl) (by kernel_rfl) (by kernel_rfl) (by kernel_rfl) hPF rfl (fun w' hw' => by (have h1 := str_row (n := bo) (c := c4) (t4.below hw') HYl.out; go_simp; try with_reducible rfl)) hHeld (fun hHeld => ?_)
        simp only [Act.put, List.setIfInBounds_toArray, List.set_cons_zero, List.set_cons_succ]
        refine tkA 44 (.some 137) _ (.bool true) rfl rfl (by kernel_rfl) (by kernel_rfl) (by kernel_rfl) (by kernel_rfl) (by kernel_rfl) hPF rfl (fun w' hw' => by (go_simp)) hHeld (fun hHeld => ?_)
        simp only [Act.put, List.setIfInBounds_toArray, List.set_cons_zero, List.set_cons_succ]
        refine tkB 45 (.some 138) _ _ rfl rfl (by kernel_rfl) (by kernel_rfl) (by kernel_rfl) (by kernel_rfl) hPF rfl (fun w' => by (go_simp; try with_reducible rfl)) hHeld (fun hHeld => ?_)
        simp only [Act.put, List.setIfInBounds_toArray, List.set_cons_zero, List.set_cons_succ]
        refine tkB 46 (.some 139) _ _ rfl rfl (by kernel_rfl) (by kernel_rfl) (by kernel_rfl) (by kernel_rfl) hPF rfl (fun w' => by (go_simp; try with_reducible rfl)) hHeld (fun hHeld => ?_)
        simp only [Act.put, List.setIfInBounds_toArray, List.set_cons_zero, List.set_cons_succ]
        refine tkB 47 (.some 140) _ _ rfl rfl (by kernel_rfl) (by kernel_rfl) (by kernel_rfl) (by kernel_rfl) hPF rfl (fun w' => by (go_simp; try with_reducible rfl)) hHeld (fun hHeld => ?_)
        simp only [Act.put, List.setIfInBounds_toArray, List.set_cons_zero, List.set_cons_succ]
        refine tkB 48 (.some 141) _ _ rfl rfl (by kernel_rfl) (by kernel_rfl) (by kernel_rfl) (by kernel_rfl) hPF rfl (fun w' => by (go_simp; try with_reducible rfl)) hHeld (fun hHeld => ?_)
        simp only [Act.put, List.setIfInBounds_toArray, List.set_cons_zero, List.set_cons_succ]
        refine tkA 49 (.some 142) _ _ rfl rfl (by kernel_rfl) (by kernel_rfl) (by kernel_rfl) (by kernel_rfl) (by kernel_rfl) hPF rfl (fun w' hw' => by (have h1 := C2.out _ hw'; go_simp; try with_reducible rfl)) hHeld (fun hHeld => ?_)
        simp only [Act.put, List.setIfInBounds_toArray, List.set_cons_zero, List.set_cons_succ]
        refine tkB 50 (.some 143) _ _ rfl rfl (by kernel_rfl) (by kernel_rfl) (by kernel_rfl) (by kernel_rfl) hPF rfl (fun w' => by (go_simp; try with_reducible rfl)) hHeld (fun hHeld => ?_)
        simp only [Act.put, List.setIfInBounds_toArray, List.set_cons_zero, List.set_cons_succ]
        refine tkB 51 (.some 144) _ _ rfl rfl (by kernel_rfl) (by kernel_rfl) (by kernel_rfl) (by kernel_rfl) hPF rfl (fun w' => by (go_simp; try with_reducible rfl)) hHeld (fun hHeld => ?_)
        simp only [Act.put, List.setIfInBounds_toArray, List.set_cons_zero, List.set_cons_succ]
        refine tkA 52 (.some 145) _ _ rfl rfl (by kernel_rfl) (by kernel_rfl) (by kernel_rfl) (by kernel_rfl) (by kernel_rfl) hPF rfl (fun w' hw' => by (have h1 := C5.out _ hw'; go_simp; try with_reducible rfl)) hHeld (fun hHeld => ?_)
        simp only [Act.put, List.setIfInBounds_toArray, List.set_cons_zero, List.set_cons_succ]
        refine tkB 53 (.some 146) _ _ rfl rfl (by kernel_rfl) (by kernel_rfl) (by kernel_rfl) (by kernel_rfl) hPF rfl (fun w' => by (go_simp; try with_reducible rfl)) hHeld (fun hHeld => ?_)
        simp only [Act.put, List.setIfInBounds_toArray, List.set_cons_zero, List.set_cons_succ]
        refine tkB 54 (.some 147) _ _ rfl rfl (by kernel_rfl) (by kernel_rfl) (by kernel_rfl) (by kernel_rfl) hPF rfl (fun w' => by (go_simp; try with_reducible rfl)) hHeld (fun hHeld => ?_)
        simp only [Act.put, List.setIfInBounds_toArray, List.set_cons_zero, List.set_cons_succ]
        refine tkB 55 (.some 148) _ _ rfl rfl (by kernel_rfl) (by kernel_rfl) (by kernel_rfl) (by kernel_rfl) hPF rfl (fun w' => by (go_simp; try with_reducible rfl)) hHeld (fun hHeld => ?_)
        simp only [Act.put, List.setIfInBounds_toArray, List.set_cons_zero, List.set_cons_succ]
        refine tkB 56 (.some 149) _ _ rfl rfl (by kernel_rfl) (by kernel_rfl) (by kernel_rfl) (by kernel_rfl) hPF rfl (fun w' => by (go_simp; try with_reducible rfl)) hHeld (fun hHeld => ?_)
        simp only [Act.put, List.setIfInBounds_toArray, List.set_cons_zero, List.set_cons_succ]
        have hS := hHeld (by kernel_rfl)
        refine tkW (rs := [57]) (by kernel_rfl) (by simp) (AllK.cons (o := _) rfl (fun KC hKC => ?_) AllK.nil)
        go_simp
        refine (awake14_any _).mono ?_
        rintro e w22 ⟨rfl, hB22⟩
        have h57 := hS.trans (hB22.mono hS.size)
        refine hKC.out _ _ (h57) (fun hHeld => ?_)
        clear hKC KC
        try simp only [Act.put, List.setIfInBounds_toArray, List.set_cons_zero, List.set_cons_succ]
        refine tkB 58 (.some 151) _ _ rfl rfl (by kernel_rfl) (by kernel_rfl) (by kernel_rfl) (by kernel_rfl) hPF rfl (fun w' => by (go_simp; try with_reducible rfl)) hHeld (fun hHeld => ?_)
        simp only [Act.put, List.setIfInBounds_toArray, List.set_cons_zero, List.set_cons_succ]
        refine tkB 59 (.some 6) _ _ rfl rfl (by kernel_rfl) (by kernel_rfl) (by kernel_rfl) (by kernel_rfl) hPF rfl (fun w' => by (go_simp; try with_reducible rfl)) hHeld (fun hHeld => ?_)
        simp only [Act.put, List.setIfInBounds_toArray, List.set_cons_zero, List.set_cons_succ]
        refine tkD (by kernel_rfl) ?_ _
        have hBz := hBw.trans (h57.mono hBw.size)
        go_wp2_with fail
        go_ret
        exact ⟨rfl, hBz⟩
      ·
        refine wantIt rfl (wp_build_text (.some 47) rfl (.tmp 46) rfl (textc own) rfl hTl ?_)
        have ho6 := Blk.new w0 (textc own) tText
        have ha6 : Below w0.heap.size w0 (World.alloc w0 (.cells (textc own).toArray tText)) := (Below.refl _ _).alloc (Nat.le_refl _) _
        have s6 := s0.trans (ha6.mono s0.size)
        have hm0 := owns_below hm0 ha6
        generalize World.alloc w0 (.cells (textc own).toArray tText) = w6 at *
        obtain ⟨b6, hb6⟩ : ∃ b6, w0.heap.size = b6 := ⟨_, rfl⟩
        rw [hb6] at ho6
        rw [hb6]
        clear ha6
        refine hKC.out _ _ (s6) (fun hHeld => ?_)
        clear hKC KC
        try simp only [Act.put, List.setIfInBounds_toArray, List.set_cons_zero, List.set_cons_succ]
        have hS := hHeld (by kernel_rfl)
        refine tkW (rs := [4]) (by kernel_rfl) (by simp) (AllK.cons (o := _) rfl (fun KC hKC => ?_) AllK.nil)
        refine wantIt rfl (wp_append_texts (.some 45) rfl (.tmp 41) (.tmp 44) rfl w1.heap.size _ 0 [] rfl hm0 pa k cap (l.take k) rfl ((hl0.take k).below s6) (by rw [List.length_take, Hn.out]; omega) (by omega) s6.size ?_)
        intro v4 w4 hown4 hgrow4
        have s4 := s6.grown hgrow4 s6.size (fun j e => (World.ownsRow.lt hm0 j e).1)
        rw [Nat.zero_add, List.nil_append] at hown4
        have ho6 := ho6.kept hgrow4 (fun e => by have h1 : mb = b6 := Option.some.inj e; have h2 := hmlt; have h3 := hb6; omega)
        clear hgrow4
        refine hKC.out _ _ (s4) (fun hHeld => ?_)
        clear hKC KC
        try simp only [Act.put, List.setIfInBounds_toArray, List.set_cons_zero, List.set_cons_succ]
        have hS := hHeld (by kernel_rfl)
        refine tkW (rs := [7]) (by kernel_rfl) (by simp) (AllK.cons (o := _) rfl (fun KC hKC => ?_) AllK.nil)
        refine wantIt rfl (wp_append_texts (.some 48) rfl (.tmp 45) (.tmp 47) rfl w1.heap.size v4 k (textcs (l.take k)) rfl hown4 (some ⟨b6, 0, none⟩) 1 1 [own] rfl (texts_one ho6 (ho0.below s4)) rfl (by omega) s4.size ?_)
        intro v7 w7 hown7 hgrow7
        have s7 := s4.grown hgrow7 s4.size (fun j e => (World.ownsRow.lt hown4 j e).1)
        clear hgrow7
        refine hKC.out _ _ (s7) (fun hHeld => ?_)
        clear hKC KC
        try simp only [Act.put, List.setIfInBounds_toArray, List.set_cons_zero, List.set_cons_succ]
        have hS := hHeld (by kernel_rfl)
        refine tkW (rs := [11]) (by kernel_rfl) (by simp) (AllK.cons (o := _) rfl (fun KC hKC => ?_) AllK.nil)
        refine wantIt rfl (wp_append_texts (.some 52) rfl (.tmp 48) (.tmp 51) rfl w1.heap.size v7 (k + 1) (textcs (l.take k) ++ textcs [own]) rfl hown7 (tfrom pa cap k) (n - k) (cap - k) (l.drop k) rfl ((hl0.drop cap k (by rw [Hn.out]; exact hcap)).below s7) (by rw [List.length_drop, Hn.out]) (by omega) s7.size ?_)
        intro v11 w11 hown11 hgrow11
        have s11 := s7.grown hgrow11 s7.size (fun j e => (World.ownsRow.lt hown7 j e).1)
        clear hgrow11
        refine hKC.out _ _ (s11) (fun hHeld => ?_)
        clear hKC KC
        try simp only [Act.put, List.setIfInBounds_toArray, List.set_cons_zero, List.set_cons_succ]
        refine tkB 12 (.some 8) _ _ rfl rfl (by kernel_rfl) (by kernel_rfl) (by kernel_rfl) (by kernel_rfl) hPF rfl (fun w' => by (go_simp; try with_reducible rfl)) hHeld (fun hHeld => ?_)
        simp only [Act.put, List.setIfInBounds_toArray, List.set_cons_zero, List.set_cons_succ]
        refine tkD (by kernel_rfl) ?_ _
        have hall : w11.ownsRow w1.heap.size tText 51 v11 n1 (textcs (l.take k ++ [own] ++ l.drop k)) := by
          have e1 : k + 1 + (n - k) = n1 := by have := Hn1.out; omega
          rw [e1] at hown11
          simpa [textcs, List.flatMap_append] using hown11
        have hALn : (l.take k ++ [own] ++ l.drop k).length = n1 := by rw [mates_len, Hn.out]; exact Hn1.out
        have hokA : ∀ x ∈ (l.take k ++ [own] ++ l.drop k), TextOk w11 x := mates_mem (fun x hx => by obtain ⟨j, hj, rfl⟩ := List.getElem_of_mem hx; exact ((hl0.below s11) j hj).1) (ho0.below s11)
        obtain ⟨pA, cA, rfl, hcA, hA⟩ := texts_of_owns hall hALn hokA
        have hALm : ∀ x ∈ (l.take k ++ [own] ++ l.drop k), x.b.length ≤ 100 := mates_mem (p := fun x => x.b.length ≤ 100) (fun x hx => by obtain ⟨j, hj, rfl⟩ := List.getElem_of_mem hx; exact HM.out j hj) Hob.out
        obtain ⟨AL, hAL⟩ : ∃ AL, l.take k ++ [own] ++ l.drop k = AL := ⟨_, rfl⟩
        have hALk : ∀ (h : k < AL.length), AL[k] = own := by subst hAL; exact fun h => mates_get l own k (by rw [Hn.out]; exact hkn) h
        rw [hAL] at hALn hA hALm
        have HALn := hid hALn
        have HALk := hid hALk
        have HALm := hid (fun j (h : j < AL.length) => Nat.le_trans (hALm _ (List.getElem_mem h)) (show 100 ≤ 1000 by omega))
        have Hob1 := hid (fun j (h : j < [own].length) => show [own][j].b.length ≤ 1000 by
          obtain rfl : j = 0 := by simpa using h
          exact Nat.le_trans Hob.out (by omega))
        have ho11 := h0.below s11 h0.lt
        have hoo11 := ho0.below s11
        have hBw := hB0.trans (s11.mono hB0.size)
        clear hall hALn hokA hALk hALm hAL hown11 hown7 hown4
        go_wp2_with fail
        refine (counters_any w11 pA AL n1 cA hA HALn.out (by omega) HALm.out).mono ?_
        rintro e w12 ⟨v12, cs, rfl, hcl, hcf, hco, hown12, hB12⟩
        obtain ⟨pc, cc, rfl, hcc, hatc⟩ := ctrs_of_owns hown12 hcl (fun x hx => (hco x hx).ok)
        have Hcl := hid hcl
        have Hcf := hid hcf
        have ho12 := ho11.below hB12 ho11.lt
        have hoo12 := hoo11.below hB12
        have hA12 := hA.below hB12
        have hBw := hBw.trans (hB12.mono hBw.size)
        clear hcl hcf hco hown12 hB12
        go_wp2_with (first | (refine wpList_load_mid rfl 39 (.tmp 4) rfl bx 0 rfl (textc own) _ ho12.whole Try.underlying39 rfl hszT ?_) | (refine wpList_build_text rfl (.tmp 59) rfl (textc own) rfl hTl ?_))
        have hq := Blk.new w12 (textc own) tText
        have haq : Below w12.heap.size w12 (w12.alloc (.cells (textc own).toArray tText)) := (Below.refl _ _).alloc (Nat.le_refl _) _
        change Calls _ _ _ (w12.alloc (.cells (textc own).toArray tText)) _
        have ho13 := ho12.below haq ho12.lt
        have hoo13 := hoo12.below haq
        have hA13 := hA12.below haq
        have hatc13 := hatc.below haq
        have hBw := hBw.trans (haq.mono hBw.size)
        obtain ⟨bq, hbq⟩ : ∃ bq, w12.heap.size = bq := ⟨_, rfl⟩
        generalize w12.alloc (.cells (textc own).toArray tText) = w13 at *
        rw [hbq] at hq ⊢
        clear haq hbq
        refine (counters_any w13 (some ⟨bq, 0, none⟩) [own] 1 1 (texts_one hq hoo13) rfl (by omega) Hob1.out).mono ?_
        rintro e w14 ⟨v14, ds, rfl, hdl, hdf, hdo, hown14, hB14⟩
        obtain ⟨pd, cd, rfl, hcd, hatd⟩ := ctrs_of_owns hown14 hdl (fun x hx => (hdo x hx).ok)
        have Hdl := hid hdl
        have Hdf := hid hdf
        have ho14 := ho13.below hB14 ho13.lt
        have hoo14 := hoo13.below hB14
        have hA14 := hA13.below hB14
        have hatc14 := hatc13.below hB14
        have hBw := hBw.trans (hB14.mono hBw.size)
        clear hdl hdf hdo hown14 hB14 hq
        go_wp2_with fail
        refine (ctr_any w14 pc cs n1 cc hatc14 Hcl.out (by omega) (fun j h => by
          have h' : j < AL.length := by rw [HALn.out, ← Hcl.out]; exact h
          rw [(Hcf.out j h h').b]; exact HALm.out j h')).mono ?_
        rintro e w15 ⟨g1, x1, rfl, _, hb15, hv15, hr15, hB15⟩
        generalize stepsF 16 8 (lens cs) = st1
        have ho15 := ho14.below hB15 ho14.lt
        have hoo15 := hoo14.below hB15
        have hA15 := hA14.below hB15
        have hatd15 := hatd.below hB15
        have hBw := hBw.trans (hB15.mono hBw.size)
        have Hv15 := hid hv15
        clear hv15 hB15
        go_wp2_with fail
        refine (ctr_any w15 pd ds 1 cd hatd15 Hdl.out (by omega) (fun j h => by
          have h' : j < [own].length := by rw [Hdl.out] at h; exact h
          rw [(Hdf.out j h h').b]; exact Hob1.out j h')).mono ?_
        rintro e w16 ⟨g2, x2, rfl, _, hb16, hv16, hr16, hB16⟩
        generalize stepsF 16 8 (lens ds) = st2
        have ho16 := ho15.below hB16 ho15.lt
        have hoo16 := hoo15.below hB16
        have hA16 := hA15.below hB16
        have hb15 := hb15.below hB16 hb15.lt
        have hr15 := hr15.below hB16
        have hBw := hBw.trans (hB16.mono hBw.size)
        have Hv16 := hid hv16
        clear hv16 hB16
        go_wp2_with fail
        refine (streams_any w16 pA AL n1 cA hA16 HALn.out (by omega) HALm.out).mono ?_
        rintro e w17 ⟨v17, ss, rfl, hsl, hsf, hso, hown17, hB17⟩
        obtain ⟨ps, csz, rfl, hcs, hats⟩ := strs_of_owns hown17 hsl (fun x hx => (hso x hx).ok)
        have Hsl := hid hsl
        have Hsf := hid hsf
        clear hsl hsf hso hown17
        go_wp2_with fail
        refine (chas_any w17 ps ss n1 csz hats Hsl.out (by omega) (fun j h => by
          have h' : j < AL.length := by rw [HALn.out, ← Hsl.out]; exact h
          rw [(Hsf.out j h h').b]; exact HALm.out j h')).mono ?_
        rintro e w18 ⟨g3, x3, rfl, _, hb18, hv18, hr18, hB18⟩
        generalize stepsF 64 4 (lensS ss) = st3
        have hB168 := hB17.trans (hB18.mono hB17.size)
        have ho18 := ho16.below hB168 ho16.lt
        have hoo18 := hoo16.below hB168
        have hb15 := hb15.below hB168 hb15.lt
        have hr15 := hr15.below hB168
        have hb16 := hb16.below hB168 hb16.lt
        have hr16 := hr16.below hB168
        have hBw := hBw.trans (hB168.mono hBw.size)
        have Hv18 := hid hv18
        clear hv18 hB17 hB18 hB168 hats
        go_wp2_with (first | (refine wpList_load_mid rfl 39 (.tmp 4) rfl bx 0 rfl (textc own) _ ho18.whole Try.underlying39 rfl hszT ?_) | (refine wpList_build_text rfl (.tmp 87) rfl (textc own) rfl hTl ?_))
        have hq := Blk.new w18 (textc own) tText
        have haq : Below w18.heap.size w18 (w18.alloc (.cells (textc own).toArray tText)) := (Below.refl _ _).alloc (Nat.le_refl _) _
        change Calls _ _ _ (w18.alloc (.cells (textc own).toArray tText)) _
        have ho19 := ho18.below haq ho18.lt
        have hoo19 := hoo18.below haq
        have hb15 := hb15.below haq hb15.lt
        have hr15 := hr15.below haq
        have hb16 := hb16.below haq hb16.lt
        have hr16 := hr16.below haq
        have hb18 := hb18.below haq hb18.lt
        have hr18 := hr18.below haq
        have hBw := hBw.trans (haq.mono hBw.size)
        obtain ⟨bq, hbq⟩ : ∃ bq, w18.heap.size = bq := ⟨_, rfl⟩
        generalize w18.alloc (.cells (textc own).toArray tText) = w19 at *
        rw [hbq] at hq ⊢
        clear haq hbq
        refine (streams_any w19 (some ⟨bq, 0, none⟩) [own] 1 1 (texts_one hq hoo19) rfl (by omega) Hob1.out).mono ?_
        rintro e w20 ⟨v20, ts, rfl, htl, htf, hto, hown20, hB20⟩
        obtain ⟨pt, ct, rfl, hct, hatt⟩ := strs_of_owns hown20 htl (fun x hx => (hto x hx).ok)
        have Htl := hid htl
        have Htf := hid htf
        clear htl htf hto hown20 hq
        go_wp2_with fail
        refine (chas_any w20 pt ts 1 ct hatt Htl.out (by omega) (fun j h => by
          have h' : j < [own].length := by rw [Htl.out] at h; exact h
          rw [(Htf.out j h h').b]; exact Hob1.out j h')).mono ?_
        rintro e w21 ⟨g4, x4, rfl, _, hb21, hv21, hr21, hB21⟩
        generalize stepsF 64 4 (lensS ts) = st4
        have hB192 := hB20.trans (hB21.mono hB20.size)
        have ho21 := ho19.below hB192 ho19.lt
        have hb15 := hb15.below hB192 hb15.lt
        have hr15 := hr15.below hB192
        have hb16 := hb16.below hB192 hb16.lt
        have hr16 := hr16.below hB192
        have hb18 := hb18.below hB192 hb18.lt
        have hr18 := hr18.below hB192
        have hBw := hBw.trans (hB192.mono hBw.size)
        clear hB20 hB21 hB192 hatt
        have hkA : k < AL.length := by rw [HALn.out]; have := Hn1.out; omega
        have hkc : k < cs.length := by rw [Hcl.out, ← HALn.out]; exact hkA
        have hks : k < ss.length := by rw [Hsl.out, ← HALn.out]; exact hkA
        have r1 := hr15.row k (by rw [Hv15.out, ← HALn.out]; exact hkA)
        have r2 := hr16.row 0 (by rw [Hv16.out]; omega)
        have r3 := hr18.row k (by rw [Hv18.out, ← HALn.out]; exact hkA)
        have r4 := hr21.row 0 (by rw [hv21]; omega)
        rw [CF_for Hcf.out k hkc hkA, HALk.out hkA] at r1
        rw [CF_for Hdf.out 0 (by rw [Hdl.out]; omega) (by simp)] at r2
        rw [SF_for Hsf.out k hks hkA, HALk.out hkA] at r3
        rw [SF_for Htf.out 0 (by rw [Htl.out]; omega) (by simp)] at r4
        simp only [List.getElem_cons_zero] at r2 r4
        obtain ⟨X, hX⟩ : ∃ X, xk (enc (rkT own)) own.iv 0 own.b = X := ⟨_, rfl⟩
        obtain ⟨Y, hY⟩ : ∃ Y, xf (ksR own.K (own.iv.take 12) (UInt32.ofNat own.n)) own.b = Y := ⟨_, rfl⟩
        have hXl : X.length = bo := by rw [← hX, xk_len]; exact Hbo.out
        have hYl : Y.length = bo := by rw [← hY, xf_len]; exact Hbo.out
        rw [hX] at r1 r2
        rw [hY] at r3 r4
        obtain ⟨p1, c1, e1, _, t1⟩ := r1.row
        obtain ⟨p2, c2, e2, _, t2⟩ := r2.row
        obtain ⟨p3, c3, e3, _, t3⟩ := r3.row
        obtain ⟨p4, c4, e4, _, t4⟩ := r4.row
        have f1 : x1[k]? = some (.slice p1 bo c1) := by rw [← hXl, ← e1]; simp [List.getD, Hv15.out, show k < n1 by rw [← HALn.out]; exact hkA]
        have f2 : x2[0]? = some (.slice p2 bo c2) := by rw [← hXl, ← e2]; simp [List.getD, Hv16.out]
        have f3 : x3[k]? = some (.slice p3 bo c3) := by rw [← hYl, ← e3]; simp [List.getD, Hv18.out, show k < n1 by rw [← HALn.out]; exact hkA]
        have f4 : x4[0]? = some (.slice p4 bo c4) := by rw [← hYl, ← e4]; simp [List.getD, hv21]
        have f5 : (textc own)[50]? = some (.slice own.pa bo own.cap) := by rw [← Hbo.out]; exact textc_slice ho0
        have C1 := hid (fun w' (h : Below w21.heap.size w21 w') => ((hb15.below h hb15.lt).cell k).trans f1)
        have C2 := hid (fun w' (h : Below w21.heap.size w21 w') => ((hb16.below h hb16.lt).cell 0).trans f2)
        have C3 := hid (fun w' (h : Below w21.heap.size w21 w') => ((hb18.below h hb18.lt).cell k).trans f3)
        have C4 := hid (fun w' (h : Below w21.heap.size w21 w') => ((hb21.below h hb21.lt).cell 0).trans f4)
        have C5 := hid (fun w' (h : Below w21.heap.size w21 w') => ((ho21.below h ho21.lt).cell 50).trans f5)
        have HXl := hid hXl
        have HYl := hid hYl
        have qk1 : (k : Int) < (n1 : Int) := by have := Hn1.out; omega
        generalize own.pa = po' at C5
        generalize own.cap = co' at C5
        clear hX hY hXl hYl e1 e2 e3 e4 f1 f2 f3 f4 f5 r1 r2 r3 r4 hr15 hr16 hr18 hr21 hb15 hb16 hb18 hb21 hkA hkc hks hv21 ho21 ho19 hoo19 ho18 hoo18 ho16 hoo16 ho15 hoo15 ho14 hoo14 ho13 hoo13 ho12 hoo12 ho11 hoo11 hA hA12 hA13 hA14 hA15 hA16
        go_upto_region 13 with fail
        have T0 : Below w21.heap.size w21 w21.drew := (Below.refl _ _).drew
        try simp only [Act.put]
        refine tkR (fun w' => Below w21.heap.size w21 w') [] (by kernel_rfl) (fun c a d v w h => by cases d <;> exact h) (T0) (fun hPF hHeld => ?_)
        refine tkB 0 (.some 93) _ _ rfl rfl (by kernel_rfl) (by kernel_rfl) (by kernel_rfl) (by kernel_rfl) hPF rfl (fun w' => by (go_simp; try with_reducible rfl)) hHeld (fun hHeld => ?_)
        simp only [Act.put, List.setIfInBounds_toArray, List.set_cons_zero, List.set_cons_succ]
        refine tkB 1 (.some 94) _ _ rfl rfl (by kernel_rfl) (by kernel_rfl) (by kernel_rfl) (by kernel_rfl) hPF rfl (fun w' => by (go_simp; try with_reducible rfl)) hHeld (fun hHeld => ?_)
        simp only [Act.put, List.setIfInBounds_toArray, List.set_cons_zero, List.set_cons_succ]
        refine tkB 2 (.some 95) _ _ rfl rfl (by kernel_rfl) (by kernel_rfl) (by kernel_rfl) (by kernel_rfl) hPF rfl (fun w' => by (go_simp; try with_reducible rfl)) hHeld (fun hHeld => ?_)
        simp only [Act.put, List.setIfInBounds_toArray, List.set_cons_zero, List.set_cons_succ]
        refine tkB 3 (.some 96) _ _ rfl rfl (by kernel_rfl) (by kernel_rfl) (by kernel_rfl) (by kernel_rfl) hPF rfl (fun w' => by (go_simp; try with_reducible rfl)) hHeld (fun hHeld => ?_)
        simp only [Act.put, List.setIfInBounds_toArray, List.set_cons_zero, List.set_cons_succ]
        refine tkB 4 (.some 97) _ _ rfl rfl (by kernel_rfl) (by kernel_rfl) (by kernel_rfl) (by kernel_rfl) hPF rfl (fun w' => by (go_simp; try with_reducible rfl)) hHeld (fun hHeld => ?_)
        simp only [Act.put, List.setIfInBounds_toArray, List.set_cons_zero, List.set_cons_succ]
        refine tkB 5 (.some 98) _ _ rfl rfl (by kernel_rfl) (by kernel_rfl) (by kernel_rfl) (by kernel_rfl) hPF rfl (fun w' => by (go_simp; try with_reducible rfl)) hHeld (fun hHeld => ?_)
        simp only [Act.put, List.setIfInBounds_toArray, List.set_cons_zero, List.set_cons_succ]
        refine tkB 6 (.some 99) _ _ rfl rfl (by kernel_rfl) (by kernel_rfl) (by kernel_rfl) (by kernel_rfl) hPF rfl (fun w' => by (go_simp; try with_reducible rfl)) hHeld (fun hHeld => ?_)
        simp only [Act.put, List.setIfInBounds_toArray, List.set_cons_zero, List.set_cons_succ]
        refine tkB 7 (.some 100) _ _ rfl rfl (by kernel_rfl) (by kernel_rfl) (by kernel_rfl) (by kernel_rfl) hPF rfl (fun w' => by (go_simp; try with_reducible rfl)) hHeld (fun hHeld => ?_)
        simp only [Act.put, List.setIfInBounds_toArray, List.set_cons_zero, List.set_cons_succ]
        refine tkB 8 (.some 101) _ _ rfl rfl (by kernel_rfl) (by kernel_rfl) (by kernel_rfl) (by kernel_rfl) hPF rfl (fun w' => by (go_simp; try with_reducible rfl)) hHeld (fun hHeld => ?_)
        simp only [Act.put, List.setIfInBounds_toArray, List.set_cons_zero, List.set_cons_succ]
        refine tkB 9 (.some 102) _ _ rfl rfl (by kernel_rfl) (by kernel_rfl) (by kernel_rfl) (by kernel_rfl) hPF rfl (fun w' => by (go_simp; try with_reducible rfl)) hHeld (fun hHeld => ?_)
        simp only [Act.put, List.setIfInBounds_toArray, List.set_cons_zero, List.set_cons_succ]
        refine tkB 10 (.some 103) _ _ rfl rfl (by kernel_rfl) (by kernel_rfl) (by kernel_rfl) (by kernel_rfl) hPF rfl (fun w' => by (go_simp; try with_reducible rfl)) hHeld (fun hHeld => ?_)
        simp only [Act.put, List.setIfInBounds_toArray, List.set_cons_zero, List.set_cons_succ]
        refine tkB 11 (.some 104) _ _ rfl rfl (by kernel_rfl) (by kernel_rfl) (by kernel_rfl) (by kernel_rfl) hPF rfl (fun w' => by (go_simp; try with_reducible rfl)) hHeld (fun hHeld => ?_)
        simp only [Act.put, List.setIfInBounds_toArray, List.set_cons_zero, List.set_cons_succ]
        refine tkB 12 (.some 105) _ _ rfl rfl (by kernel_rfl) (by kernel_rfl) (by kernel_rfl) (by kernel_rfl) hPF rfl (fun w' => by (go_simp; try with_reducible rfl)) hHeld (fun hHeld => ?_)
        simp only [Act.put, List.setIfInBounds_toArray, List.set_cons_zero, List.set_cons_succ]
        refine tkB 13 (.some 106) _ _ rfl rfl (by kernel_rfl) (by kernel_rfl) (by kernel_rfl) (by kernel_rfl) hPF rfl (fun w' => by (go_simp; try with_reducible rfl)) hHeld (fun hHeld => ?_)
        simp only [Act.put, List.setIfInBounds_toArray, List.set_cons_zero, List.set_cons_succ]
        refine tkB 14 (.some 107) _ _ rfl rfl (by kernel_rfl) (by kernel_rfl) (by kernel_rfl) (by kernel_rfl) hPF rfl (fun w' => by (go_simp; try with_reducible rfl)) hHeld (fun hHeld => ?_)
        simp only [Act.put, List.setIfInBounds_toArray, List.set_cons_zero, List.set_cons_succ]
        refine tkB 15 (.some 108) _ _ rfl rfl (by kernel_rfl) (by kernel_rfl) (by kernel_rfl) (by kernel_rfl) hPF rfl (fun w' => by (go_simp; try with_reducible rfl)) hHeld (fun hHeld => ?_)
        simp only [Act.put, List.setIfInBounds_toArray, List.set_cons_zero, List.set_cons_succ]
        refine tkB 16 (.some 109) _ _ rfl rfl (by kernel_rfl) (by kernel_rfl) (by kernel_rfl) (by kernel_rfl) hPF rfl (fun w' => by (go_simp; try with_reducible rfl)) hHeld (fun hHeld => ?_)
        simp only [Act.put, List.setIfInBounds_toArray, List.set_cons_zero, List.set_cons_succ]
        refine tkB 17 (.some 110) _ _ rfl rfl (by kernel_rfl) (by kernel_rfl) (by kernel_rfl) (by kernel_rfl) hPF rfl (fun w' => by (go_simp; try with_reducible rfl)) hHeld (fun hHeld => ?_)
        simp only [Act.put, List.setIfInBounds_toArray, List.set_cons_zero, List.set_cons_succ]
        refine tkB 18 (.some 111) _ _ rfl rfl (by kernel_rfl) (by kernel_rfl) (by kernel_rfl) (by kernel_rfl) hPF rfl (fun w' => by (go_simp; try with_reducible rfl)) hHeld (fun hHeld => ?_)
        simp only [Act.put, List.setIfInBounds_toArray, List.set_cons_zero, List.set_cons_succ]
        refine tkB 19 (.some 112) _ _ rfl rfl (by kernel_rfl) (by kernel_rfl) (by kernel_rfl) (by kernel_rfl) hPF rfl (fun w' => by (go_simp; try with_reducible rfl)) hHeld (fun hHeld => ?_)
        simp only [Act.put, List.setIfInBounds_toArray, List.set_cons_zero, List.set_cons_succ]
        refine tkB 20 (.some 113) _ _ rfl rfl (by kernel_rfl) (by kernel_rfl) (by kernel_rfl) (by kernel_rfl) hPF rfl (fun w' => by (go_simp; try with_reducible rfl)) hHeld (fun hHeld => ?_)
        simp only [Act.put, List.setIfInBounds_toArray, List.set_cons_zero, List.set_cons_succ]
        refine tkB 21 (.some 114) _ _ rfl rfl (by kernel_rfl) (by kernel_rfl) (by kernel_rfl) (by kernel_rfl) hPF rfl (fun w' => by (go_simp; try with_reducible rfl)) hHeld (fun hHeld => ?_)
        simp only [Act.put, List.setIfInBounds_toArray, List.set_cons_zero, List.set_cons_succ]
        refine tkB 22 (.some 115) _ _ rfl rfl (by kernel_rfl) (by kernel_rfl) (by kernel_rfl) (by kernel_rfl) hPF rfl (fun w' => by (go_simp; try with_reducible rfl)) hHeld (fun hHeld => ?_)
        simp only [Act.put, List.setIfInBounds_toArray, List.set_cons_zero, List.set_cons_succ]
        refine tkB 23 (.some 116) _ _ rfl rfl (by kernel_rfl) (by kernel_rfl) (by kernel_rfl) (by kernel_rfl) hPF rfl (fun w' => by (go_simp; try with_reducible rfl)) hHeld (fun hHeld => ?_)
        simp only [Act.put, List.setIfInBounds_toArray, List.set_cons_zero, List.set_cons_succ]
        refine tkB 24 (.some 117) _ _ rfl rfl (by kernel_rfl) (by kernel_rfl) (by kernel_rfl) (by kernel_rfl) hPF rfl (fun w' => by (go_simp; try with_reducible rfl)) hHeld (fun hHeld => ?_)
        simp only [Act.put, List.setIfInBounds_toArray, List.set_cons_zero, List.set_cons_succ]
        refine tkB 25 (.some 118) _ _ rfl rfl (by kernel_rfl) (by kernel_rfl) (by kernel_rfl) (by kernel_rfl) hPF rfl (fun w' => by (go_simp; try with_reducible rfl)) hHeld (fun hHeld => ?_)
        simp only [Act.put, List.setIfInBounds_toArray, List.set_cons_zero, List.set_cons_succ]
        refine tkA 26 (.some 119) _ _ rfl rfl (by kernel_rfl) (by kernel_rfl) (by kernel_rfl) (by kernel_rfl) (by kernel_rfl) hPF rfl (fun w' hw' => by (have h1 := C1.out _ hw'; go_simp; try with_reducible rfl)) hHeld (fun hHeld => ?_)
        simp only [Act.put, List.setIfInBounds_toArray, List.set_cons_zero, List.set_cons_succ]
        refine tkA 27 (.some 120) _ _ rfl rfl (by kernel_rfl) (by kernel_rfl) (by kernel_rfl) (by kernel_rfl) (by kernel_rfl) hPF rfl (fun w' hw' => by (have h1 := str_row (n := bo) (c := c1) (t1.below hw') HXl.out; go_simp; try with_reducible rfl)) hHeld (fun hHeld => ?_)
        simp only [Act.put, List.setIfInBounds_toArray, List.set_cons_zero, List.set_cons_succ]
        refine tkB 28 (.some 121) _ _ rfl rfl (by kernel_rfl) (by kernel_rfl) (by kernel_rfl) (by kernel_rfl) hPF rfl (fun w' => by (go_simp; try with_reducible rfl)) hHeld (fun hHeld => ?_)
        simp only [Act.put, List.setIfInBounds_toArray, List.set_cons_zero, List.set_cons_succ]
        refine tkB 29 (.some 122) _ _ rfl rfl (by kernel_rfl) (by kernel_rfl) (by kernel_rfl) (by kernel_rfl) hPF rfl (fun w' => by (go_simp; try with_reducible rfl)) hHeld (fun hHeld => ?_)
        simp only [Act.put, List.setIfInBounds_toArray, List.set_cons_zero, List.set_cons_succ]
        refine tkA 30 (.some 123) _ _ rfl rfl (by kernel_rfl) (by kernel_rfl) (by kernel_rfl) (by kernel_rfl) (by kernel_rfl) hPF rfl (fun w' hw' => by (have h1 := C2.out _ hw'; go_simp; try with_reducible rfl)) hHeld (fun hHeld => ?_)
        simp only [Act.put, List.setIfInBounds_toArray, List.set_cons_zero, List.set_cons_succ]
        refine tkA 31 (.some 124) _ _ rfl rfl (by kernel_rfl) (by kernel_rfl) (by kernel_rfl) (by kernel_rfl) (by kernel_rfl) hPF rfl (fun w' hw' => by (have h1 := str_row (n := bo) (c := c2) (t2.below hw') HXl.out; go_simp; try with_reducible rfl)) hHeld (fun hHeld => ?_)
        simp only [Act.put, List.setIfInBounds_toArray, List.set_cons_zero, List.set_cons_succ]
        refine tkA 32 (.some 125) _ (.bool true) rfl rfl (by kernel_rfl) (by kernel_rfl) (by kernel_rfl) (by kernel_rfl) (by kernel_rfl) hPF rfl (fun w' hw' => by (go_simp)) hHeld (fun hHeld => ?_)
        simp only [Act.put, List.setIfInBounds_toArray, List.set_cons_zero, List.set_cons_succ]
        refine tkB 33 (.some 126) _ _ rfl rfl (by kernel_rfl) (by kernel_rfl) (by kernel_rfl) (by kernel_rfl) hPF rfl (fun w' => by (go_simp; try with_reducible rfl)) hHeld (fun hHeld => ?_)
        simp only [Act.put, List.setIfInBounds_toArray, List.set_cons_zero, List.set_cons_succ]
        refine tkB 34 (.some 127) _ _ rfl rfl (by kernel_rfl) (by kernel_rfl) (by kernel_rfl) (by kernel_rfl) hPF rfl (fun w' => by (go_simp; try with_reducible rfl)) hHeld (fun hHeld => ?_)
        simp only [Act.put, List.setIfInBounds_toArray, List.set_cons_zero, List.set_cons_succ]
        refine tkB 35 (.some 128) _ _ rfl rfl (by kernel_rfl) (by kernel_rfl) (by kernel_rfl) (by kernel_rfl) hPF rfl (fun w' => by (go_simp; try with_reducible rfl)) hHeld (fun hHeld => ?_)
        simp only [Act.put, List.setIfInBounds_toArray, List.set_cons_zero, List.set_cons_succ]
        refine tkB 36 (.some 129) _ _ rfl rfl (by kernel_rfl) (by kernel_rfl) (by kernel_rfl) (by kernel_rfl) hPF rfl (fun w' => by (go_simp; try with_reducible rfl)) hHeld (fun hHeld => ?_)
        simp only [Act.put, List.setIfInBounds_toArray, List.set_cons_zero, List.set_cons_succ]
        refine tkB 37 (.some 130) _ _ rfl rfl (by kernel_rfl) (by kernel_rfl) (by kernel_rfl) (by kernel_rfl) hPF rfl (fun w' => by (go_simp; try with_reducible rfl)) hHeld (fun hHeld => ?_)
        simp only [Act.put, List.setIfInBounds_toArray, List.set_cons_zero, List.set_cons_succ]
        refine tkA 38 (.some 131) _ _ rfl rfl (by kernel_rfl) (by kernel_rfl) (by kernel_rfl) (by kernel_rfl) (by kernel_rfl) hPF rfl (fun w' hw' => by (have h1 := C3.out _ hw'; go_simp; try with_reducible rfl)) hHeld (fun hHeld => ?_)
        simp only [Act.put, List.setIfInBounds_toArray, List.set_cons_zero, List.set_cons_succ]
        refine tkA 39 (.some 132) _ _ rfl rfl (by kernel_rfl) (by kernel_rfl) (by kernel_rfl) (by kernel_rfl) (by kernel_rfl) hPF rfl (fun w' hw' => by (have h1 := str_row (n := bo) (c := c3) (t3.below hw') HYl.out; go_simp; try with_reducible rfl)) hHeld (fun hHeld => ?_)
        simp only [Act.put, List.setIfInBounds_toArray, List.set_cons_zero, List.set_cons_succ]
        refine tkB 40 (.some 133) _ _ rfl rfl (by kernel_rfl) (by kernel_rfl) (by kernel_rfl) (by kernel_rfl) hPF rfl (fun w' => by (go_simp; try with_reducible rfl)) hHeld (fun hHeld => ?_)
        simp only [Act.put, List.setIfInBounds_toArray, List.set_cons_zero, List.set_cons_succ]
        refine tkB 41 (.some 134) _ _ rfl rfl (by kernel_rfl) (by kernel_rfl) (by kernel_rfl) (by kernel_rfl) hPF rfl (fun w' => by (go_simp; try with_reducible rfl)) hHeld (fun hHeld => ?_)
        simp only [Act.put, List.setIfInBounds_toArray, List.set_cons_zero, List.set_cons_succ]
        refine tkA 42 (.some 135) _ _ rfl rfl (by kernel_rfl) (by kernel_rfl) (by kernel_rfl) (by kernel_rfl) (by kernel_rfl) hPF rfl (fun w' hw' => by (have h1 := C4.out _ hw'; go_simp; try with_reducible rfl)) hHeld (fun hHeld => ?_)
        simp only [Act.put, List.setIfInBounds_toArray, List.set_cons_zero, List.set_cons_succ]
        refine tkA 43 (.some 136) _ _ rfl rfl (by kernel_rfl) (by kernel_rfl) (by kernel_rfl) (by kernel_rfl) (by kernel_rfl) hPF rfl (fun w' hw' => by (have h1 := str_row (n := bo) (c := c4) (t4.below hw') HYl.out; go_simp; try with_reducible rfl)) hHeld (fun hHeld => ?_)
        simp only [Act.put, List.setIfInBounds_toArray, List.set_cons_zero, List.set_cons_succ]
        refine tkA 44 (.some 137) _ (.bool true) rfl rfl (by kernel_rfl) (by kernel_rfl) (by kernel_rfl) (by kernel_rfl) (by kernel_rfl) hPF rfl (fun w' hw' => by (go_simp)) hHeld (fun hHeld => ?_)
        simp only [Act.put, List.setIfInBounds_toArray, List.set_cons_zero, List.set_cons_succ]
        refine tkB 45 (.some 138) _ _ rfl rfl (by kernel_rfl) (by kernel_rfl) (by kernel_rfl) (by kernel_rfl) hPF rfl (fun w' => by (go_simp; try with_reducible rfl)) hHeld (fun hHeld => ?_)
        simp only [Act.put, List.setIfInBounds_toArray, List.set_cons_zero, List.set_cons_succ]
        refine tkB 46 (.some 139) _ _ rfl rfl (by kernel_rfl) (by kernel_rfl) (by kernel_rfl) (by kernel_rfl) hPF rfl (fun w' => by (go_simp; try with_reducible rfl)) hHeld (fun hHeld => ?_)
        simp only [Act.put, List.setIfInBounds_toArray, List.set_cons_zero, List.set_cons_succ]
        refine tkB 47 (.some 140) _ _ rfl rfl (by kernel_rfl) (by kernel_rfl) (by kernel_rfl) (by kernel_rfl) hPF rfl (fun w' => by (go_simp; try with_reducible rfl)) hHeld (fun hHeld => ?_)
        simp only [Act.put, List.setIfInBounds_toArray, List.set_cons_zero, List.set_cons_succ]
        refine tkB 48 (.some 141) _ _ rfl rfl (by kernel_rfl) (by kernel_rfl) (by kernel_rfl) (by kernel_rfl) hPF rfl (fun w' => by (go_simp; try with_reducible rfl)) hHeld (fun hHeld => ?_)
        simp only [Act.put, List.setIfInBounds_toArray, List.set_cons_zero, List.set_cons_succ]
        refine tkA 49 (.some 142) _ _ rfl rfl (by kernel_rfl) (by kernel_rfl) (by kernel_rfl) (by kernel_rfl) (by kernel_rfl) hPF rfl (fun w' hw' => by (have h1 := C2.out _ hw'; go_simp; try with_reducible rfl)) hHeld (fun hHeld => ?_)
        simp only [Act.put, List.setIfInBounds_toArray, List.set_cons_zero, List.set_cons_succ]
        refine tkB 50 (.some 143) _ _ rfl rfl (by kernel_rfl) (by kernel_rfl) (by kernel_rfl) (by kernel_rfl) hPF rfl (fun w' => by (go_simp; try with_reducible rfl)) hHeld (fun hHeld => ?_)
        simp only [Act.put, List.setIfInBounds_toArray, List.set_cons_zero, List.set_cons_succ]
        refine tkB 51 (.some 144) _ _ rfl rfl (by kernel_rfl) (by kernel_rfl) (by kernel_rfl) (by kernel_rfl) hPF rfl (fun w' => by (go_simp; try with_reducible rfl)) hHeld (fun hHeld => ?_)
        simp only [Act.put, List.setIfInBounds_toArray, List.set_cons_zero, List.set_cons_succ]
        refine tkA 52 (.some 145) _ _ rfl rfl (by kernel_rfl) (by kernel_rfl) (by kernel_rfl) (by kernel_rfl) (by kernel_rfl) hPF rfl (fun w' hw' => by (have h1 := C5.out _ hw'; go_simp; try with_reducible rfl)) hHeld (fun hHeld => ?_)
        simp only [Act.put, List.setIfInBounds_toArray, List.set_cons_zero, List.set_cons_succ]
        refine tkB 53 (.some 146) _ _ rfl rfl (by kernel_rfl) (by kernel_rfl) (by kernel_rfl) (by kernel_rfl) hPF rfl (fun w' => by (go_simp; try with_reducible rfl)) hHeld (fun hHeld => ?_)
        simp only [Act.put, List.setIfInBounds_toArray, List.set_cons_zero, List.set_cons_succ]
        refine tkB 54 (.some 147) _ _ rfl rfl (by kernel_rfl) (by kernel_rfl) (by kernel_rfl) (by kernel_rfl) hPF rfl (fun w' => by (go_simp; try with_reducible rfl)) hHeld (fun hHeld => ?_)
        simp only [Act.put, List.setIfInBounds_toArray, List.set_cons_zero, List.set_cons_succ]
        refine tkB 55 (.some 148) _ _ rfl rfl (by kernel_rfl) (by kernel_rfl) (by kernel_rfl) (by kernel_rfl) hPF rfl (fun w' => by (go_simp; try with_reducible rfl)) hHeld (fun hHeld => ?_)
        simp only [Act.put, List.setIfInBounds_toArray, List.set_cons_zero, List.set_cons_succ]
        refine tkB 56 (.some 149) _ _ rfl rfl (by kernel_rfl) (by kernel_rfl) (by kernel_rfl) (by kernel_rfl) hPF rfl (fun w' => by (go_simp; try with_reducible rfl)) hHeld (fun hHeld => ?_)
        simp only [Act.put, List.setIfInBounds_toArray, List.set_cons_zero, List.set_cons_succ]
        have hS := hHeld (by kernel_rfl)
        refine tkW (rs := [57]) (by kernel_rfl) (by simp) (AllK.cons (o := _) rfl (fun KC hKC => ?_) AllK.nil)
        go_simp
        refine (awake14_any _).mono ?_
        rintro e w22 ⟨rfl, hB22⟩
        have h57 := hS.trans (hB22.mono hS.size)
        refine hKC.out _ _ (h57) (fun hHeld => ?_)
        clear hKC KC
        try simp only [Act.put, List.setIfInBounds_toArray, List.set_cons_zero, List.set_cons_succ]
        refine tkB 58 (.some 151) _ _ rfl rfl (by kernel_rfl) (by kernel_rfl) (by kernel_rfl) (by kernel_rfl) hPF rfl (fun w' => by (go_simp; try with_reducible rfl)) hHeld (fun hHeld => ?_)
        simp only [Act.put, List.setIfInBounds_toArray, List.set_cons_zero, List.set_cons_succ]
        refine tkB 59 (.some 6) _ _ rfl rfl (by kernel_rfl) (by kernel_rfl) (by kernel_rfl) (by kernel_rfl) hPF rfl (fun w' => by (go_simp; try with_reducible rfl)) hHeld (fun hHeld => ?_)
        simp only [Act.put, List.setIfInBounds_toArray, List.set_cons_zero, List.set_cons_succ]
        refine tkD (by kernel_rfl) ?_ _
        have hBz := hBw.trans (h57.mono hBw.size)
        go_wp2_with fail
        go_ret
        exact ⟨rfl, hBz⟩
    ·
      refine wantIt rfl (wp_build_text (.some 47) rfl (.tmp 46) rfl (textc own) rfl hTl ?_)
      have ho6 := Blk.new w1.drew (textc own) tText
      have ha6 : Below w1.drew.heap.size w1.drew (World.alloc w1.drew (.cells (textc own).toArray tText)) := (Below.refl _ _).alloc (Nat.le_refl _) _
      have s6 := hS.trans (ha6.mono hS.size)
      skip
      generalize World.alloc w1.drew (.cells (textc own).toArray tText) = w6 at *
      obtain ⟨b6, hb6⟩ : ∃ b6, w1.drew.heap.size = b6 := ⟨_, rfl⟩
      rw [hb6] at ho6
      rw [hb6]
      clear ha6
      refine hKC.out _ _ (s6) (fun hHeld => ?_)
      clear hKC KC
      try simp only [Act.put, List.setIfInBounds_toArray, List.set_cons_zero, List.set_cons_succ]
      have hS := hHeld (by kernel_rfl)
      refine tkW (rs := [0]) (by kernel_rfl) (by simp) (AllK.cons (o := _) rfl (fun KC hKC => ?_) AllK.nil)
      go_simp
      change KC _ (World.alloc w6 (.cells #[] tText))
      have hm0 : (World.alloc w6 (.cells #[] tText)).ownsRow w1.heap.size tText 51 (.slice (some ⟨w6.heap.size, 0, none⟩) 0 0) 0 [] := World.ownsRow_made w6 #[] 0 (e := tText) (size := 51) (base := w1.heap.size) s6.size (by unfold maxLen; omega) (by simp)
      have hb6lt := ho6.lt
      have ho6 := ho6.alloc (.cells #[] tText)
      have s0 := s6.alloc s6.size (.cells #[] tText)
      generalize World.alloc w6 (.cells #[] tText) = w0 at *
      obtain ⟨mb, hmb⟩ : ∃ mb, w6.heap.size = mb := ⟨_, rfl⟩
      rw [hmb] at hm0
      have hmlt := (World.ownsRow.lt hm0 mb rfl).2
      skip
      rw [hmb]
      refine hKC.out _ _ (s0) (fun hHeld => ?_)
      clear hKC KC
      try simp only [Act.put, List.setIfInBounds_toArray, List.set_cons_zero, List.set_cons_succ]
      have hS := hHeld (by kernel_rfl)
      refine tkW (rs := [4]) (by kernel_rfl) (by simp) (AllK.cons (o := _) rfl (fun KC hKC => ?_) AllK.nil)
      refine wantIt rfl (wp_append_texts (.some 45) rfl (.tmp 41) (.tmp 44) rfl w1.heap.size _ 0 [] rfl hm0 pa k cap (l.take k) rfl ((hl0.take k).below s0) (by rw [List.length_take, Hn.out]; omega) (by omega) s0.size ?_)
      intro v4 w4 hown4 hgrow4
      have s4 := s0.grown hgrow4 s0.size (fun j e => (World.ownsRow.lt hm0 j e).1)
      rw [Nat.zero_add, List.nil_append] at hown4
      have ho6 := ho6.kept hgrow4 (fun e => by have h1 : mb = b6 := Option.some.inj e; have h2 := hmb; have h3 := hb6lt; omega)
      clear hgrow4
      refine hKC.out _ _ (s4) (fun hHeld => ?_)
      clear hKC KC
      try simp only [Act.put, List.setIfInBounds_toArray, List.set_cons_zero, List.set_cons_succ]
      have hS := hHeld (by kernel_rfl)
      refine tkW (rs := [7]) (by kernel_rfl) (by simp) (AllK.cons (o := _) rfl (fun KC hKC => ?_) AllK.nil)
      refine wantIt rfl (wp_append_texts (.some 48) rfl (.tmp 45) (.tmp 47) rfl w1.heap.size v4 k (textcs (l.take k)) rfl hown4 (some ⟨b6, 0, none⟩) 1 1 [own] rfl (texts_one ho6 (ho0.below s4)) rfl (by omega) s4.size ?_)
      intro v7 w7 hown7 hgrow7
      have s7 := s4.grown hgrow7 s4.size (fun j e => (World.ownsRow.lt hown4 j e).1)
      clear hgrow7
      refine hKC.out _ _ (s7) (fun hHeld => ?_)
      clear hKC KC
      try simp only [Act.put, List.setIfInBounds_toArray, List.set_cons_zero, List.set_cons_succ]
      have hS := hHeld (by kernel_rfl)
      refine tkW (rs := [11]) (by kernel_rfl) (by simp) (AllK.cons (o := _) rfl (fun KC hKC => ?_) AllK.nil)
      refine wantIt rfl (wp_append_texts (.some 52) rfl (.tmp 48) (.tmp 51) rfl w1.heap.size v7 (k + 1) (textcs (l.take k) ++ textcs [own]) rfl hown7 (tfrom pa cap k) (n - k) (cap - k) (l.drop k) rfl ((hl0.drop cap k (by rw [Hn.out]; exact hcap)).below s7) (by rw [List.length_drop, Hn.out]) (by omega) s7.size ?_)
      intro v11 w11 hown11 hgrow11
      have s11 := s7.grown hgrow11 s7.size (fun j e => (World.ownsRow.lt hown7 j e).1)
      clear hgrow11
      refine hKC.out _ _ (s11) (fun hHeld => ?_)
      clear hKC KC
      try simp only [Act.put, List.setIfInBounds_toArray, List.set_cons_zero, List.set_cons_succ]
      refine tkB 12 (.some 8) _ _ rfl rfl (by kernel_rfl) (by kernel_rfl) (by kernel_rfl) (by kernel_rfl) hPF rfl (fun w' => by (go_simp; try with_reducible rfl)) hHeld (fun hHeld => ?_)
      simp only [Act.put, List.setIfInBounds_toArray, List.set_cons_zero, List.set_cons_succ]
      refine tkD (by kernel_rfl) ?_ _
      have hall : w11.ownsRow w1.heap.size tText 51 v11 n1 (textcs (l.take k ++ [own] ++ l.drop k)) := by
        have e1 : k + 1 + (n - k) = n1 := by have := Hn1.out; omega
        rw [e1] at hown11
        simpa [textcs, List.flatMap_append] using hown11
      have hALn : (l.take k ++ [own] ++ l.drop k).length = n1 := by rw [mates_len, Hn.out]; exact Hn1.out
      have hokA : ∀ x ∈ (l.take k ++ [own] ++ l.drop k), TextOk w11 x := mates_mem (fun x hx => by obtain ⟨j, hj, rfl⟩ := List.getElem_of_mem hx; exact ((hl0.below s11) j hj).1) (ho0.below s11)
      obtain ⟨pA, cA, rfl, hcA, hA⟩ := texts_of_owns hall hALn hokA
      have hALm : ∀ x ∈ (l.take k ++ [own] ++ l.drop k), x.b.length ≤ 100 := mates_mem (p := fun x => x.b.length ≤ 100) (fun x hx => by obtain ⟨j, hj, rfl⟩ := List.getElem_of_mem hx; exact HM.out j hj) Hob.out
      obtain ⟨AL, hAL⟩ : ∃ AL, l.take k ++ [own] ++ l.drop k = AL := ⟨_, rfl⟩
      have hALk : ∀ (h : k < AL.length), AL[k] = own := by subst hAL; exact fun h => mates_get l own k (by rw [Hn.out]; exact hkn) h
      rw [hAL] at hALn hA hALm
      have HALn := hid hALn
      have HALk := hid hALk
      have HALm := hid (fun j (h : j < AL.length) => Nat.le_trans (hALm _ (List.getElem_mem h)) (show 100 ≤ 1000 by omega))
      have Hob1 := hid (fun j (h : j < [own].length) => show [own][j].b.length ≤ 1000 by
        obtain rfl : j = 0 := by simpa using h
        exact Nat.le_trans Hob.out (by omega))
      have ho11 := h0.below s11 h0.lt
      have hoo11 := ho0.below s11
      have hBw := hB0.trans (s11.mono hB0.size)
      clear hall hALn hokA hALk hALm hAL hown11 hown7 hown4
      go_wp2_with fail
      refine (counters_any w11 pA AL n1 cA hA HALn.out (by omega) HALm.out).mono ?_
      rintro e w12 ⟨v12, cs, rfl, hcl, hcf, hco, hown12, hB12⟩
      obtain ⟨pc, cc, rfl, hcc, hatc⟩ := ctrs_of_owns hown12 hcl (fun x hx => (hco x hx).ok)
      have Hcl := hid hcl
      have Hcf := hid hcf
      have ho12 := ho11.below hB12 ho11.lt
      have hoo12 := hoo11.below hB12
      have hA12 := hA.below hB12
      have hBw := hBw.trans (hB12.mono hBw.size)
      clear hcl hcf hco hown12 hB12
      go_wp2_with (first | (refine wpList_load_mid rfl 39 (.tmp 4) rfl bx 0 rfl (textc own) _ ho12.whole Try.underlying39 rfl hszT ?_) | (refine wpList_build_text rfl (.tmp 59) rfl (textc own) rfl hTl ?_))
      have hq := Blk.new w12 (textc own) tText
      have haq : Below w12.heap.size w12 (w12.alloc (.cells (textc own).toArray tText)) := (Below.refl _ _).alloc (Nat.le_refl _) _
      change Calls _ _ _ (w12.alloc (.cells (textc own).toArray tText)) _
      have ho13 := ho12.below haq ho12.lt
      have hoo13 := hoo12.below haq
      have hA13 := hA12.below haq
      have hatc13 := hatc.below haq
      have hBw := hBw.trans (haq.mono hBw.size)
      obtain ⟨bq, hbq⟩ : ∃ bq, w12.heap.size = bq := ⟨_, rfl⟩
      generalize w12.alloc (.cells (textc own).toArray tText) = w13 at *
      rw [hbq] at hq ⊢
      clear haq hbq
      refine (counters_any w13 (some ⟨bq, 0, none⟩) [own] 1 1 (texts_one hq hoo13) rfl (by omega) Hob1.out).mono ?_
      rintro e w14 ⟨v14, ds, rfl, hdl, hdf, hdo, hown14, hB14⟩
      obtain ⟨pd, cd, rfl, hcd, hatd⟩ := ctrs_of_owns hown14 hdl (fun x hx => (hdo x hx).ok)
      have Hdl := hid hdl
      have Hdf := hid hdf
      have ho14 := ho13.below hB14 ho13.lt
      have hoo14 := hoo13.below hB14
      have hA14 := hA13.below hB14
      have hatc14 := hatc13.below hB14
      have hBw := hBw.trans (hB14.mono hBw.size)
      clear hdl hdf hdo hown14 hB14 hq
      go_wp2_with fail
      refine (ctr_any w14 pc cs n1 cc hatc14 Hcl.out (by omega) (fun j h => by
        have h' : j < AL.length := by rw [HALn.out, ← Hcl.out]; exact h
        rw [(Hcf.out j h h').b]; exact HALm.out j h')).mono ?_
      rintro e w15 ⟨g1, x1, rfl, _, hb15, hv15, hr15, hB15⟩
      generalize stepsF 16 8 (lens cs) = st1
      have ho15 := ho14.below hB15 ho14.lt
      have hoo15 := hoo14.below hB15
      have hA15 := hA14.below hB15
      have hatd15 := hatd.below hB15
      have hBw := hBw.trans (hB15.mono hBw.size)
      have Hv15 := hid hv15
      clear hv15 hB15
      go_wp2_with fail
      refine (ctr_any w15 pd ds 1 cd hatd15 Hdl.out (by omega) (fun j h => by
        have h' : j < [own].length := by rw [Hdl.out] at h; exact h
        rw [(Hdf.out j h h').b]; exact Hob1.out j h')).mono ?_
      rintro e w16 ⟨g2, x2, rfl, _, hb16, hv16, hr16, hB16⟩
      generalize stepsF 16 8 (lens ds) = st2
      have ho16 := ho15.below hB16 ho15.lt
      have hoo16 := hoo15.below hB16
      have hA16 := hA15.below hB16
      have hb15 := hb15.below hB16 hb15.lt
      have hr15 := hr15.below hB16
      have hBw := hBw.trans (hB16.mono hBw.size)
      have Hv16 := hid hv16
      clear hv16 hB16
      go_wp2_with fail
      refine (streams_any w16 pA AL n1 cA hA16 HALn.out (by omega) HALm.out).mono ?_
      rintro e w17 ⟨v17, ss, rfl, hsl, hsf, hso, hown17, hB17⟩
      obtain ⟨ps, csz, rfl, hcs, hats⟩ := strs_of_owns hown17 hsl (fun x hx => (hso x hx).ok)
      have Hsl := hid hsl
      have Hsf := hid hsf
      clear hsl hsf hso hown17
      go_wp2_with fail
      refine (chas_any w17 ps ss n1 csz hats Hsl.out (by omega) (fun j h => by
        have h' : j < AL.length := by rw [HALn.out, ← Hsl.out]; exact h
        rw [(Hsf.out j h h').b]; exact HALm.out j h')).mono ?_
      rintro e w18 ⟨g3, x3, rfl, _, hb18, hv18, hr18, hB18⟩
      generalize stepsF 64 4 (lensS ss) = st3
      have hB168 := hB17.trans (hB18.mono hB17.size)
      have ho18 := ho16.below hB168 ho16.lt
      have hoo18 := hoo16.below hB168
      have hb15 := hb15.below hB168 hb15.lt
      have hr15 := hr15.below hB168
      have hb16 := hb16.below hB168 hb16.lt
      have hr16 := hr16.below hB168
      have hBw := hBw.trans (hB168.mono hBw.size)
      have Hv18 := hid hv18
      clear hv18 hB17 hB18 hB168 hats
      go_wp2_with (first | (refine wpList_load_mid rfl 39 (.tmp 4) rfl bx 0 rfl (textc own) _ ho18.whole Try.underlying39 rfl hszT ?_) | (refine wpList_build_text rfl (.tmp 87) rfl (textc own) rfl hTl ?_))
      have hq := Blk.new w18 (textc own) tText
      have haq : Below w18.heap.size w18 (w18.alloc (.cells (textc own).toArray tText)) := (Below.refl _ _).alloc (Nat.le_refl _) _
      change Calls _ _ _ (w18.alloc (.cells (textc own).toArray tText)) _
      have ho19 := ho18.below haq ho18.lt
      have hoo19 := hoo18.below haq
      have hb15 := hb15.below haq hb15.lt
      have hr15 := hr15.below haq
      have hb16 := hb16.below haq hb16.lt
      have hr16 := hr16.below haq
      have hb18 := hb18.below haq hb18.lt
      have hr18 := hr18.below haq
      have hBw := hBw.trans (haq.mono hBw.size)
      obtain ⟨bq, hbq⟩ : ∃ bq, w18.heap.size = bq := ⟨_, rfl⟩
      generalize w18.alloc (.cells (textc own).toArray tText) = w19 at *
      rw [hbq] at hq ⊢
      clear haq hbq
      refine (streams_any w19 (some ⟨bq, 0, none⟩) [own] 1 1 (texts_one hq hoo19) rfl (by omega) Hob1.out).mono ?_
      rintro e w20 ⟨v20, ts, rfl, htl, htf, hto, hown20, hB20⟩
      obtain ⟨pt, ct, rfl, hct, hatt⟩ := strs_of_owns hown20 htl (fun x hx => (hto x hx).ok)
      have Htl := hid htl
      have Htf := hid htf
      clear htl htf hto hown20 hq
      go_wp2_with fail
      refine (chas_any w20 pt ts 1 ct hatt Htl.out (by omega) (fun j h => by
        have h' : j < [own].length := by rw [Htl.out] at h; exact h
        rw [(Htf.out j h h').b]; exact Hob1.out j h')).mono ?_
      rintro e w21 ⟨g4, x4, rfl, _, hb21, hv21, hr21, hB21⟩
      generalize stepsF 64 4 (lensS ts) = st4
      have hB192 := hB20.trans (hB21.mono hB20.size)
      have ho21 := ho19.below hB192 ho19.lt
      have hb15 := hb15.below hB192 hb15.lt
      have hr15 := hr15.below hB192
      have hb16 := hb16.below hB192 hb16.lt
      have hr16 := hr16.below hB192
      have hb18 := hb18.below hB192 hb18.lt
      have hr18 := hr18.below hB192
      have hBw := hBw.trans (hB192.mono hBw.size)
      clear hB20 hB21 hB192 hatt
      have hkA : k < AL.length := by rw [HALn.out]; have := Hn1.out; omega
      have hkc : k < cs.length := by rw [Hcl.out, ← HALn.out]; exact hkA
      have hks : k < ss.length := by rw [Hsl.out, ← HALn.out]; exact hkA
      have r1 := hr15.row k (by rw [Hv15.out, ← HALn.out]; exact hkA)
      have r2 := hr16.row 0 (by rw [Hv16.out]; omega)
      have r3 := hr18.row k (by rw [Hv18.out, ← HALn.out]; exact hkA)
      have r4 := hr21.row 0 (by rw [hv21]; omega)
      rw [CF_for Hcf.out k hkc hkA, HALk.out hkA] at r1
      rw [CF_for Hdf.out 0 (by rw [Hdl.out]; omega) (by simp)] at r2
      rw [SF_for Hsf.out k hks hkA, HALk.out hkA] at r3
      rw [SF_for Htf.out 0 (by rw [Htl.out]; omega) (by simp)] at r4
      simp only [List.getElem_cons_zero] at r2 r4
      obtain ⟨X, hX⟩ : ∃ X, xk (enc (rkT own)) own.iv 0 own.b = X := ⟨_, rfl⟩
      obtain ⟨Y, hY⟩ : ∃ Y, xf (ksR own.K (own.iv.take 12) (UInt32.ofNat own.n)) own.b = Y := ⟨_, rfl⟩
      have hXl : X.length = bo := by rw [← hX, xk_len]; exact Hbo.out
      have hYl : Y.length = bo := by rw [← hY, xf_len]; exact Hbo.out
      rw [hX] at r1 r2
      rw [hY] at r3 r4
      obtain ⟨p1, c1, e1, _, t1⟩ := r1.row
      obtain ⟨p2, c2, e2, _, t2⟩ := r2.row
      obtain ⟨p3, c3, e3, _, t3⟩ := r3.row
      obtain ⟨p4, c4, e4, _, t4⟩ := r4.row
      have f1 : x1[k]? = some (.slice p1 bo c1) := by rw [← hXl, ← e1]; simp [List.getD, Hv15.out, show k < n1 by rw [← HALn.out]; exact hkA]
      have f2 : x2[0]? = some (.slice p2 bo c2) := by rw [← hXl, ← e2]; simp [List.getD, Hv16.out]
      have f3 : x3[k]? = some (.slice p3 bo c3) := by rw [← hYl, ← e3]; simp [List.getD, Hv18.out, show k < n1 by rw [← HALn.out]; exact hkA]
      have f4 : x4[0]? = some (.slice p4 bo c4) := by rw [← hYl, ← e4]; simp [List.getD, hv21]
      have f5 : (textc own)[50]? = some (.slice own.pa bo own.cap) := by rw [← Hbo.out]; exact textc_slice ho0
      have C1 := hid (fun w' (h : Below w21.heap.size w21 w') => ((hb15.below h hb15.lt).cell k).trans f1)
      have C2 := hid (fun w' (h : Below w21.heap.size w21 w') => ((hb16.below h hb16.lt).cell 0).trans f2)
      have C3 := hid (fun w' (h : Below w21.heap.size w21 w') => ((hb18.below h hb18.lt).cell k).trans f3)
      have C4 := hid (fun w' (h : Below w21.heap.size w21 w') => ((hb21.below h hb21.lt).cell 0).trans f4)
      have C5 := hid (fun w' (h : Below w21.heap.size w21 w') => ((ho21.below h ho21.lt).cell 50).trans f5)
      have HXl := hid hXl
      have HYl := hid hYl
      have qk1 : (k : Int) < (n1 : Int) := by have := Hn1.out; omega
      generalize own.pa = po' at C5
      generalize own.cap = co' at C5
      clear hX hY hXl hYl e1 e2 e3 e4 f1 f2 f3 f4 f5 r1 r2 r3 r4 hr15 hr16 hr18 hr21 hb15 hb16 hb18 hb21 hkA hkc hks hv21 ho21 ho19 hoo19 ho18 hoo18 ho16 hoo16 ho15 hoo15 ho14 hoo14 ho13 hoo13 ho12 hoo12 ho11 hoo11 hA hA12 hA13 hA14 hA15 hA16
      go_upto_region 13 with fail
      have T0 : Below w21.heap.size w21 w21.drew := (Below.refl _ _).drew
      try simp only [Act.put]
      refine tkR (fun w' => Below w21.heap.size w21 w') [] (by kernel_rfl) (fun c a d v w h => by cases d <;> exact h) (T0) (fun hPF hHeld => ?_)
      refine tkB 0 (.some 93) _ _ rfl rfl (by kernel_rfl) (by kernel_rfl) (by kernel_rfl) (by kernel_rfl) hPF rfl (fun w' => by (go_simp; try with_reducible rfl)) hHeld (fun hHeld => ?_)
      simp only [Act.put, List.setIfInBounds_toArray, List.set_cons_zero, List.set_cons_succ]
      refine tkB 1 (.some 94) _ _ rfl rfl (by kernel_rfl) (by kernel_rfl) (by kernel_rfl) (by kernel_rfl) hPF rfl (fun w' => by (go_simp; try with_reducible rfl)) hHeld (fun hHeld => ?_)
      simp only [Act.put, List.setIfInBounds_toArray, List.set_cons_zero, List.set_cons_succ]
      refine tkB 2 (.some 95) _ _ rfl rfl (by kernel_rfl) (by kernel_rfl) (by kernel_rfl) (by kernel_rfl) hPF rfl (fun w' => by (go_simp; try with_reducible rfl)) hHeld (fun hHeld => ?_)
      simp only [Act.put, List.setIfInBounds_toArray, List.set_cons_zero, List.set_cons_succ]
      refine tkB 3 (.some 96) _ _ rfl rfl (by kernel_rfl) (by kernel_rfl) (by kernel_rfl) (by kernel_rfl) hPF rfl (fun w' => by (go_simp; try with_reducible rfl)) hHeld (fun hHeld => ?_)
      simp only [Act.put, List.setIfInBounds_toArray, List.set_cons_zero, List.set_cons_succ]
      refine tkB 4 (.some 97) _ _ rfl rfl (by kernel_rfl) (by kernel_rfl) (by kernel_rfl) (by kernel_rfl) hPF rfl (fun w' => by (go_simp; try with_reducible rfl)) hHeld (fun hHeld => ?_)
      simp only [Act.put, List.setIfInBounds_toArray, List.set_cons_zero, List.set_cons_succ]
      refine tkB 5 (.some 98) _ _ rfl rfl (by kernel_rfl) (by kernel_rfl) (by kernel_rfl) (by kernel_rfl) hPF rfl (fun w' => by (go_simp; try with_reducible rfl)) hHeld (fun hHeld => ?_)
      simp only [Act.put, List.setIfInBounds_toArray, List.set_cons_zero, List.set_cons_succ]
      refine tkB 6 (.some 99) _ _ rfl rfl (by kernel_rfl) (by kernel_rfl) (by kernel_rfl) (by kernel_rfl) hPF rfl (fun w' => by (go_simp; try with_reducible rfl)) hHeld (fun hHeld => ?_)
      simp only [Act.put, List.setIfInBounds_toArray, List.set_cons_zero, List.set_cons_succ]
      refine tkB 7 (.some 100) _ _ rfl rfl (by kernel_rfl) (by kernel_rfl) (by kernel_rfl) (by kernel_rfl) hPF rfl (fun w' => by (go_simp; try with_reducible rfl)) hHeld (fun hHeld => ?_)
      simp only [Act.put, List.setIfInBounds_toArray, List.set_cons_zero, List.set_cons_succ]
      refine tkB 8 (.some 101) _ _ rfl rfl (by kernel_rfl) (by kernel_rfl) (by kernel_rfl) (by kernel_rfl) hPF rfl (fun w' => by (go_simp; try with_reducible rfl)) hHeld (fun hHeld => ?_)
      simp only [Act.put, List.setIfInBounds_toArray, List.set_cons_zero, List.set_cons_succ]
      refine tkB 9 (.some 102) _ _ rfl rfl (by kernel_rfl) (by kernel_rfl) (by kernel_rfl) (by kernel_rfl) hPF rfl (fun w' => by (go_simp; try with_reducible rfl)) hHeld (fun hHeld => ?_)
      simp only [Act.put, List.setIfInBounds_toArray, List.set_cons_zero, List.set_cons_succ]
      refine tkB 10 (.some 103) _ _ rfl rfl (by kernel_rfl) (by kernel_rfl) (by kernel_rfl) (by kernel_rfl) hPF rfl (fun w' => by (go_simp; try with_reducible rfl)) hHeld (fun hHeld => ?_)
      simp only [Act.put, List.setIfInBounds_toArray, List.set_cons_zero, List.set_cons_succ]
      refine tkB 11 (.some 104) _ _ rfl rfl (by kernel_rfl) (by kernel_rfl) (by kernel_rfl) (by kernel_rfl) hPF rfl (fun w' => by (go_simp; try with_reducible rfl)) hHeld (fun hHeld => ?_)
      simp only [Act.put, List.setIfInBounds_toArray, List.set_cons_zero, List.set_cons_succ]
      refine tkB 12 (.some 105) _ _ rfl rfl (by kernel_rfl) (by kernel_rfl) (by kernel_rfl) (by kernel_rfl) hPF rfl (fun w' => by (go_simp; try with_reducible rfl)) hHeld (fun hHeld => ?_)
      simp only [Act.put, List.setIfInBounds_toArray, List.set_cons_zero, List.set_cons_succ]
      refine tkB 13 (.some 106) _ _ rfl rfl (by kernel_rfl) (by kernel_rfl) (by kernel_rfl) (by kernel_rfl) hPF rfl (fun w' => by (go_simp; try with_reducible rfl)) hHeld (fun hHeld => ?_)
      simp only [Act.put, List.setIfInBounds_toArray, List.set_cons_zero, List.set_cons_succ]
      refine tkB 14 (.some 107) _ _ rfl rfl (by kernel_rfl) (by kernel_rfl) (by kernel_rfl) (by kernel_rfl) hPF rfl (fun w' => by (go_simp; try with_reducible rfl)) hHeld (fun hHeld => ?_)
      simp only [Act.put, List.setIfInBounds_toArray, List.set_cons_zero, List.set_cons_succ]
      refine tkB 15 (.some 108) _ _ rfl rfl (by kernel_rfl) (by kernel_rfl) (by kernel_rfl) (by kernel_rfl) hPF rfl (fun w' => by (go_simp; try with_reducible rfl)) hHeld (fun hHeld => ?_)
      simp only [Act.put, List.setIfInBounds_toArray, List.set_cons_zero, List.set_cons_succ]
      refine tkB 16 (.some 109) _ _ rfl rfl (by kernel_rfl) (by kernel_rfl) (by kernel_rfl) (by kernel_rfl) hPF rfl (fun w' => by (go_simp; try with_reducible rfl)) hHeld (fun hHeld => ?_)
      simp only [Act.put, List.setIfInBounds_toArray, List.set_cons_zero, List.set_cons_succ]
      refine tkB 17 (.some 110) _ _ rfl rfl (by kernel_rfl) (by kernel_rfl) (by kernel_rfl) (by kernel_rfl) hPF rfl (fun w' => by (go_simp; try with_reducible rfl)) hHeld (fun hHeld => ?_)
      simp only [Act.put, List.setIfInBounds_toArray, List.set_cons_zero, List.set_cons_succ]
      refine tkB 18 (.some 111) _ _ rfl rfl (by kernel_rfl) (by kernel_rfl) (by kernel_rfl) (by kernel_rfl) hPF rfl (fun w' => by (go_simp; try with_reducible rfl)) hHeld (fun hHeld => ?_)
      simp only [Act.put, List.setIfInBounds_toArray, List.set_cons_zero, List.set_cons_succ]
      refine tkB 19 (.some 112) _ _ rfl rfl (by kernel_rfl) (by kernel_rfl) (by kernel_rfl) (by kernel_rfl) hPF rfl (fun w' => by (go_simp; try with_reducible rfl)) hHeld (fun hHeld => ?_)
      simp only [Act.put, List.setIfInBounds_toArray, List.set_cons_zero, List.set_cons_succ]
      refine tkB 20 (.some 113) _ _ rfl rfl (by kernel_rfl) (by kernel_rfl) (by kernel_rfl) (by kernel_rfl) hPF rfl (fun w' => by (go_simp; try with_reducible rfl)) hHeld (fun hHeld => ?_)
      simp only [Act.put, List.setIfInBounds_toArray, List.set_cons_zero, List.set_cons_succ]
      refine tkB 21 (.some 114) _ _ rfl rfl (by kernel_rfl) (by kernel_rfl) (by kernel_rfl) (by kernel_rfl) hPF rfl (fun w' => by (go_simp; try with_reducible rfl)) hHeld (fun hHeld => ?_)
      simp only [Act.put, List.setIfInBounds_toArray, List.set_cons_zero, List.set_cons_succ]
      refine tkB 22 (.some 115) _ _ rfl rfl (by kernel_rfl) (by kernel_rfl) (by kernel_rfl) (by kernel_rfl) hPF rfl (fun w' => by (go_simp; try with_reducible rfl)) hHeld (fun hHeld => ?_)
      simp only [Act.put, List.setIfInBounds_toArray, List.set_cons_zero, List.set_cons_succ]
      refine tkB 23 (.some 116) _ _ rfl rfl (by kernel_rfl) (by kernel_rfl) (by kernel_rfl) (by kernel_rfl) hPF rfl (fun w' => by (go_simp; try with_reducible rfl)) hHeld (fun hHeld => ?_)
      simp only [Act.put, List.setIfInBounds_toArray, List.set_cons_zero, List.set_cons_succ]
      refine tkB 24 (.some 117) _ _ rfl rfl (by kernel_rfl) (by kernel_rfl) (by kernel_rfl) (by kernel_rfl) hPF rfl (fun w' => by (go_simp; try with_reducible rfl)) hHeld (fun hHeld => ?_)
      simp only [Act.put, List.setIfInBounds_toArray, List.set_cons_zero, List.set_cons_succ]
      refine tkB 25 (.some 118) _ _ rfl rfl (by kernel_rfl) (by kernel_rfl) (by kernel_rfl) (by kernel_rfl) hPF rfl (fun w' => by (go_simp; try with_reducible rfl)) hHeld (fun hHeld => ?_)
      simp only [Act.put, List.setIfInBounds_toArray, List.set_cons_zero, List.set_cons_succ]
      refine tkA 26 (.some 119) _ _ rfl rfl (by kernel_rfl) (by kernel_rfl) (by kernel_rfl) (by kernel_rfl) (by kernel_rfl) hPF rfl (fun w' hw' => by (have h1 := C1.out _ hw'; go_simp; try with_reducible rfl)) hHeld (fun hHeld => ?_)
      simp only [Act.put, List.setIfInBounds_toArray, List.set_cons_zero, List.set_cons_succ]
      refine tkA 27 (.some 120) _ _ rfl rfl (by kernel_rfl) (by kernel_rfl) (by kernel_rfl) (by kernel_rfl) (by kernel_rfl) hPF rfl (fun w' hw' => by (have h1 := str_row (n := bo) (c := c1) (t1.below hw') HXl.out; go_simp; try with_reducible rfl)) hHeld (fun hHeld => ?_)
      simp only [Act.put, List.setIfInBounds_toArray, List.set_cons_zero, List.set_cons_succ]
      refine tkB 28 (.some 121) _ _ rfl rfl (by kernel_rfl) (by kernel_rfl) (by kernel_rfl) (by kernel_rfl) hPF rfl (fun w' => by (go_simp; try with_reducible rfl)) hHeld (fun hHeld => ?_)
      simp only [Act.put, List.setIfInBounds_toArray, List.set_cons_zero, List.set_cons_succ]
      refine tkB 29 (.some 122) _ _ rfl rfl (by kernel_rfl) (by kernel_rfl) (by kernel_rfl) (by kernel_rfl) hPF rfl (fun w' => by (go_simp; try with_reducible rfl)) hHeld (fun hHeld => ?_)
      simp only [Act.put, List.setIfInBounds_toArray, List.set_cons_zero, List.set_cons_succ]
      refine tkA 30 (.some 123) _ _ rfl rfl (by kernel_rfl) (by kernel_rfl) (by kernel_rfl) (by kernel_rfl) (by kernel_rfl) hPF rfl (fun w' hw' => by (have h1 := C2.out _ hw'; go_simp; try with_reducible rfl)) hHeld (fun hHeld => ?_)
      simp only [Act.put, List.setIfInBounds_toArray, List.set_cons_zero, List.set_cons_succ]
      refine tkA 31 (.some 124) _ _ rfl rfl (by kernel_rfl) (by kernel_rfl) (by kernel_rfl) (by kernel_rfl) (by kernel_rfl) hPF rfl (fun w' hw' => by (have h1 := str_row (n := bo) (c := c2) (t2.below hw') HXl.out; go_simp; try with_reducible rfl)) hHeld (fun hHeld => ?_)
      simp only [Act.put, List.setIfInBounds_toArray, List.set_cons_zero, List.set_cons_succ]
      refine tkA 32 (.some 125) _ (.bool true) rfl rfl (by kernel_rfl) (by kernel_rfl) (by kernel_rfl) (by kernel_rfl) (by kernel_rfl) hPF rfl (fun w' hw' => by (go_simp)) hHeld (fun hHeld => ?_)
      simp only [Act.put, List.setIfInBounds_toArray, List.set_cons_zero, List.set_cons_succ]
      refine tkB 33 (.some 126) _ _ rfl rfl (by kernel_rfl) (by kernel_rfl) (by kernel_rfl) (by kernel_rfl) hPF rfl (fun w' => by (go_simp; try with_reducible rfl)) hHeld (fun hHeld => ?_)
      simp only [Act.put, List.setIfInBounds_toArray, List.set_cons_zero, List.set_cons_succ]
      refine tkB 34 (.some 127) _ _ rfl rfl (by kernel_rfl) (by kernel_rfl) (by kernel_rfl) (by kernel_rfl) hPF rfl (fun w' => by (go_simp; try with_reducible rfl)) hHeld (fun hHeld => ?_)
      simp only [Act.put, List.setIfInBounds_toArray, List.set_cons_zero, List.set_cons_succ]
      refine tkB 35 (.some 128) _ _ rfl rfl (by kernel_rfl) (by kernel_rfl) (by kernel_rfl) (by kernel_rfl) hPF rfl (fun w' => by (go_simp; try with_reducible rfl)) hHeld (fun hHeld => ?_)
      simp only [Act.put, List.setIfInBounds_toArray, List.set_cons_zero, List.set_cons_succ]
      refine tkB 36 (.some 129) _ _ rfl rfl (by kernel_rfl) (by kernel_rfl) (by kernel_rfl) (by kernel_rfl) hPF rfl (fun w' => by (go_simp; try with_reducible rfl)) hHeld (fun hHeld => ?_)
      simp only [Act.put, List.setIfInBounds_toArray, List.set_cons_zero, List.set_cons_succ]
      refine tkB 37 (.some 130) _ _ rfl rfl (by kernel_rfl) (by kernel_rfl) (by kernel_rfl) (by kernel_rfl) hPF rfl (fun w' => by (go_simp; try with_reducible rfl)) hHeld (fun hHeld => ?_)
      simp only [Act.put, List.setIfInBounds_toArray, List.set_cons_zero, List.set_cons_succ]
      refine tkA 38 (.some 131) _ _ rfl rfl (by kernel_rfl) (by kernel_rfl) (by kernel_rfl) (by kernel_rfl) (by kernel_rfl) hPF rfl (fun w' hw' => by (have h1 := C3.out _ hw'; go_simp; try with_reducible rfl)) hHeld (fun hHeld => ?_)
      simp only [Act.put, List.setIfInBounds_toArray, List.set_cons_zero, List.set_cons_succ]
      refine tkA 39 (.some 132) _ _ rfl rfl (by kernel_rfl) (by kernel_rfl) (by kernel_rfl) (by kernel_rfl) (by kernel_rfl) hPF rfl (fun w' hw' => by (have h1 := str_row (n := bo) (c := c3) (t3.below hw') HYl.out; go_simp; try with_reducible rfl)) hHeld (fun hHeld => ?_)
      simp only [Act.put, List.setIfInBounds_toArray, List.set_cons_zero, List.set_cons_succ]
      refine tkB 40 (.some 133) _ _ rfl rfl (by kernel_rfl) (by kernel_rfl) (by kernel_rfl) (by kernel_rfl) hPF rfl (fun w' => by (go_simp; try with_reducible rfl)) hHeld (fun hHeld => ?_)
      simp only [Act.put, List.setIfInBounds_toArray, List.set_cons_zero, List.set_cons_succ]
      refine tkB 41 (.some 134) _ _ rfl rfl (by kernel_rfl) (by kernel_rfl) (by kernel_rfl) (by kernel_rfl) hPF rfl (fun w' => by (go_simp; try with_reducible rfl)) hHeld (fun hHeld => ?_)
      simp only [Act.put, List.setIfInBounds_toArray, List.set_cons_zero, List.set_cons_succ]
      refine tkA 42 (.some 135) _ _ rfl rfl (by kernel_rfl) (by kernel_rfl) (by kernel_rfl) (by kernel_rfl) (by kernel_rfl) hPF rfl (fun w' hw' => by (have h1 := C4.out _ hw'; go_simp; try with_reducible rfl)) hHeld (fun hHeld => ?_)
      simp only [Act.put, List.setIfInBounds_toArray, List.set_cons_zero, List.set_cons_succ]
      refine tkA 43 (.some 136) _ _ rfl rfl (by kernel_rfl) (by kernel_rfl) (by kernel_rfl) (by kernel_rfl) (by kernel_rfl) hPF rfl (fun w' hw' => by (have h1 := str_row (n := bo) (c := c4) (t4.below hw') HYl.out; go_simp; try with_reducible rfl)) hHeld (fun hHeld => ?_)
      simp only [Act.put, List.setIfInBounds_toArray, List.set_cons_zero, List.set_cons_succ]
      refine tkA 44 (.some 137) _ (.bool true) rfl rfl (by kernel_rfl) (by kernel_rfl) (by kernel_rfl) (by kernel_rfl) (by kernel_rfl) hPF rfl (fun w' hw' => by (go_simp)) hHeld (fun hHeld => ?_)
      simp only [Act.put, List.setIfInBounds_toArray, List.set_cons_zero, List.set_cons_succ]
      refine tkB 45 (.some 138) _ _ rfl rfl (by kernel_rfl) (by kernel_rfl) (by kernel_rfl) (by kernel_rfl) hPF rfl (fun w' => by (go_simp; try with_reducible rfl)) hHeld (fun hHeld => ?_)
      simp only [Act.put, List.setIfInBounds_toArray, List.set_cons_zero, List.set_cons_succ]
      refine tkB 46 (.some 139) _ _ rfl rfl (by kernel_rfl) (by kernel_rfl) (by kernel_rfl) (by kernel_rfl) hPF rfl (fun w' => by (go_simp; try with_reducible rfl)) hHeld (fun hHeld => ?_)
      simp only [Act.put, List.setIfInBounds_toArray, List.set_cons_zero, List.set_cons_succ]
      refine tkB 47 (.some 140) _ _ rfl rfl (by kernel_rfl) (by kernel_rfl) (by kernel_rfl) (by kernel_rfl) hPF rfl (fun w' => by (go_simp; try with_reducible rfl)) hHeld (fun hHeld => ?_)
      simp only [Act.put, List.setIfInBounds_toArray, List.set_cons_zero, List.set_cons_succ]
      refine tkB 48 (.some 141) _ _ rfl rfl (by kernel_rfl) (by kernel_rfl) (by kernel_rfl) (by kernel_rfl) hPF rfl (fun w' => by (go_simp; try with_reducible rfl)) hHeld (fun hHeld => ?_)
      simp only [Act.put, List.setIfInBounds_toArray, List.set_cons_zero, List.set_cons_succ]
      refine tkA 49 (.some 142) _ _ rfl rfl (by kernel_rfl) (by kernel_rfl) (by kernel_rfl) (by kernel_rfl) (by kernel_rfl) hPF rfl (fun w' hw' => by (have h1 := C2.out _ hw'; go_simp; try with_reducible rfl)) hHeld (fun hHeld => ?_)
      simp only [Act.put, List.setIfInBounds_toArray, List.set_cons_zero, List.set_cons_succ]
      refine tkB 50 (.some 143) _ _ rfl rfl (by kernel_rfl) (by kernel_rfl) (by kernel_rfl) (by kernel_rfl) hPF rfl (fun w' => by (go_simp; try with_reducible rfl)) hHeld (fun hHeld => ?_)
      simp only [Act.put, List.setIfInBounds_toArray, List.set_cons_zero, List.set_cons_succ]
      refine tkB 51 (.some 144) _ _ rfl rfl (by kernel_rfl) (by kernel_rfl) (by kernel_rfl) (by kernel_rfl) hPF rfl (fun w' => by (go_simp; try with_reducible rfl)) hHeld (fun hHeld => ?_)
      simp only [Act.put, List.setIfInBounds_toArray, List.set_cons_zero, List.set_cons_succ]
      refine tkA 52 (.some 145) _ _ rfl rfl (by kernel_rfl) (by kernel_rfl) (by kernel_rfl) (by kernel_rfl) (by kernel_rfl) hPF rfl (fun w' hw' => by (have h1 := C5.out _ hw'; go_simp; try with_reducible rfl)) hHeld (fun hHeld => ?_)
      simp only [Act.put, List.setIfInBounds_toArray, List.set_cons_zero, List.set_cons_succ]
      refine tkB 53 (.some 146) _ _ rfl rfl (by kernel_rfl) (by kernel_rfl) (by kernel_rfl) (by kernel_rfl) hPF rfl (fun w' => by (go_simp; try with_reducible rfl)) hHeld (fun hHeld => ?_)
      simp only [Act.put, List.setIfInBounds_toArray, List.set_cons_zero, List.set_cons_succ]
      refine tkB 54 (.some 147) _ _ rfl rfl (by kernel_rfl) (by kernel_rfl) (by kernel_rfl) (by kernel_rfl) hPF rfl (fun w' => by (go_simp; try with_reducible rfl)) hHeld (fun hHeld => ?_)
      simp only [Act.put, List.setIfInBounds_toArray, List.set_cons_zero, List.set_cons_succ]
      refine tkB 55 (.some 148) _ _ rfl rfl (by kernel_rfl) (by kernel_rfl) (by kernel_rfl) (by kernel_rfl) hPF rfl (fun w' => by (go_simp; try with_reducible rfl)) hHeld (fun hHeld => ?_)
      simp only [Act.put, List.setIfInBounds_toArray, List.set_cons_zero, List.set_cons_succ]
      refine tkB 56 (.some 149) _ _ rfl rfl (by kernel_rfl) (by kernel_rfl) (by kernel_rfl) (by kernel_rfl) hPF rfl (fun w' => by (go_simp; try with_reducible rfl)) hHeld (fun hHeld => ?_)
      simp only [Act.put, List.setIfInBounds_toArray, List.set_cons_zero, List.set_cons_succ]
      have hS := hHeld (by kernel_rfl)
      refine tkW (rs := [57]) (by kernel_rfl) (by simp) (AllK.cons (o := _) rfl (fun KC hKC => ?_) AllK.nil)
      go_simp
      refine (awake14_any _).mono ?_
      rintro e w22 ⟨rfl, hB22⟩
      have h57 := hS.trans (hB22.mono hS.size)
      refine hKC.out _ _ (h57) (fun hHeld => ?_)
      clear hKC KC
      try simp only [Act.put, List.setIfInBounds_toArray, List.set_cons_zero, List.set_cons_succ]
      refine tkB 58 (.some 151) _ _ rfl rfl (by kernel_rfl) (by kernel_rfl) (by kernel_rfl) (by kernel_rfl) hPF rfl (fun w' => by (go_simp; try with_reducible rfl)) hHeld (fun hHeld => ?_)
      simp only [Act.put, List.setIfInBounds_toArray, List.set_cons_zero, List.set_cons_succ]
      refine tkB 59 (.some 6) _ _ rfl rfl (by kernel_rfl) (by kernel_rfl) (by kernel_rfl) (by kernel_rfl) hPF rfl (fun w' => by (go_simp; try with_reducible rfl)) hHeld (fun hHeld => ?_)
      simp only [Act.put, List.setIfInBounds_toArray, List.set_cons_zero, List.set_cons_succ]
      refine tkD (by kernel_rfl) ?_ _
      have hBz := hBw.trans (h57.mono hBw.size)
      go_wp2_with fail
      go_ret
      exact ⟨rfl, hBz⟩
  · have hret : lightT l 100 = false ∨ n = 8 ∨ 100 < own.b.length := by
      rcases Bool.eq_false_or_eq_true (lightT l 100) with h | h
      · by_cases h8 : n = 8
        · exact .inr (.inl h8)
        · by_cases ho : own.b.length ≤ 100
          · exact absurd ⟨h, h8, ho⟩ hgo
          · exact .inr (.inr (by omega))
      · exact .inl h
    have hl0 := hl.below hB0
    have Hret := hid hret
    have Hgo := hid hgo
    obtain ⟨po, hpo⟩ : ∃ p, own.pa = p := ⟨_, rfl⟩
    obtain ⟨bo, hbo⟩ : ∃ p, own.b.length = p := ⟨_, rfl⟩
    obtain ⟨co, hco⟩ : ∃ p, own.cap = p := ⟨_, rfl⟩
    rw [hpo, hbo, hco] at c50
    rw [hbo] at Hret
    clear hret hgo hl hn ho hpo hbo hco Hgo
    obtain ⟨lt, hlt⟩ : ∃ b, lightT l 100 = b := ⟨_, rfl⟩
    have Hlt := hid hlt
    rw [hlt] at Hret
    clear hlt
    go_enter Try.func7, Try.ntmps7
    go_wp2_with fail
    change Calls _ _ _ (w.alloc (.cells (textc own).toArray tText)) _
    generalize w.alloc (.cells (textc own).toArray tText) = w1 at *
    refine (lightT_any w1 pa l n cap 100 hl0 Hn.out).mono ?_
    rw [Hlt.out]
    rintro e w2 ⟨rfl, rfl⟩
    cases lt with
    | false =>
      go_wp2_with fail
      go_ret
      exact ⟨rfl, hB0⟩
    | true =>
      by_cases h8 : n = 8
      · have q8 : ((n : Int) == 8) = true := by rw [h8]; rfl
        clear h8
        go_wp2_with fail
        go_ret
        exact ⟨rfl, hB0⟩
      · have q8 : ((n : Int) == 8) = false := by rw [beq_eq_false_iff_ne]; omega
        have qob : 100 < (bo : Int) := by
          rcases Hret.out with h | h | h
          · cases h
          · exact absurd h h8
          · omega
        clear h8
        go_wp2_with fail
        go_ret
        exact ⟨rfl, hB0⟩
end Go.Proofs.Ytgellbapbphnlaa
