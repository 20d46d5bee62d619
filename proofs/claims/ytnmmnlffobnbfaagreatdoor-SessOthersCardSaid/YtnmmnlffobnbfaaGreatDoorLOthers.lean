/- sessions: SessOthers, walked -/
import Derived.Test.YtnmmnlffobnbfaaGreatDoorSe
import Derived.Test.YtnmmnlffobnbfaaGreatDoorSt
import Derived.Test.YtnmmnlffobnbfaaGreatDoorOpenL
namespace Go.Proofs.YtnmmnlffobnbfaaGreatDoor
open Go.RowKit

theorem check2' (n : Nat) (h1 : 1 ≤ n) (h2 : n ≤ 100) : checkF 2 false n 0 0 = 0 := by
  unfold checkF
  rw [if_neg (by simp), if_neg (by simp; omega), if_neg (by simp), if_neg (by simp)]
/-- Twenty places, the first m of them open. -/
def plM (m : Nat) : List Pl := (List.range 20).map fun j => (decide (j < m), 0)
def owM (vs : List Value) : List Ses := vs.map (fun v => (2, v)) ++ List.replicate (20 - vs.length) noSes
theorem plM_len (m : Nat) : (plM m).length = 20 := by simp [plM]
theorem plM_get (m j : Nat) (h : j < 20) : (plM m).getD j (false, 0) = (decide (j < m), 0) := by simp [plM, List.getD, h]
theorem plM_zero : plM 0 = List.replicate 20 (false, 0) := by decide
theorem plM_set (m : Nat) (h : m < 20) : (plM m).set m (true, ((plM m).getD m (false, 0)).2) = plM (m + 1) := by
  rw [plM_get m m h]
  apply List.ext_getElem
  · simp [plM]
  · intro j h1 h2
    simp [plM] at h2
    by_cases e : j = m
    · subst e; simp [plM]
    · rw [List.getElem_set_ne (by omega)]
      simp [plM]; omega
theorem plM_idx (m : Nat) (h : m < 20) : idx (plM m) = m := idx_at _ m (by rw [plM_len]; exact h) (fun j hj => by rw [plM_get m j (by omega)]; simp [hj]) (by rw [plM_get m m h]; simp)
theorem plM_num (m j : Nat) (h : j < 20) : hnum (plM m) j = ((j + 1 : Nat) : Int) := by
  unfold hnum; rw [plM_len, plM_get m j h]; omega
theorem plM_small (m j : Nat) (h : j < (plM m).length) : ((plM m).getD j (false, 0)).2 < 1000000 := by
  rw [plM_len] at h; rw [plM_get m j h]; simp
theorem owM_nil : owM [] = List.replicate 20 noSes := by simp [owM]
theorem owM_set (vs : List Value) (v : Value) (h : vs.length < 20) : (owM vs).set vs.length (2, v) = owM (vs ++ [v]) := by
  unfold owM
  rw [List.set_append_right _ _ (by simp), List.length_map, Nat.sub_self, show 20 - vs.length = (20 - (vs.length + 1)) + 1 by omega, List.replicate_succ, List.set_cons_zero, List.map_append, List.append_assoc, List.length_append]
  rfl
theorem owM_get (vs : List Value) (j : Nat) (h : j < vs.length) : (owM vs).getD j noSes = (2, vs.getD j undef) := by
  unfold owM
  simp [List.getD, List.getElem?_append_left, h]
/-- The law's first loop: m sessions are there. -/
structure OS (W wr : World) (s t pb ob : Nat) (L : List (List UInt8)) (m : Nat) (vs : List Value) : Prop where
  len : vs.length = m
  ses : SesAt wr s t pb ob (plM m) (owM vs)
  row : ∀ j, j < m → OwnR W.heap.size wr (vs.getD j undef) (L.getD j [])
  two : ∀ i j, i < j → j < m → ∀ b, (vs.getD i undef).ownBlock = some b → (vs.getD j undef).ownBlock ≠ some b
  below : Below W.heap.size W wr
  short : ∀ j, j < m → 1 ≤ (L.getD j []).length ∧ (L.getD j []).length ≤ 100
theorem idx_two {vs : List Value} {m : Nat} (h : ∀ i j, i < j → j < m → ∀ b, (vs.getD i undef).ownBlock = some b → (vs.getD j undef).ownBlock ≠ some b) {i j : Nat} (hi : i < m) (hj : j < m) (hne : i ≠ j) {b : Nat} (hb : (vs.getD i undef).ownBlock = some b) : (vs.getD j undef).ownBlock ≠ some b := by
  rcases Nat.lt_or_ge i j with h1 | h1
  · exact h i j h1 hj b hb
  · intro e
    exact h j i (by omega) hi b e hb

theorem getD_left {vs : List Value} {v : Value} {j : Nat} (h : j < vs.length) : (vs ++ [v]).getD j undef = vs.getD j undef := by
  simp [List.getD, List.getElem?_append_left h]
theorem getD_last {vs : List Value} {v : Value} {m : Nat} (h : vs.length = m) : (vs ++ [v]).getD m undef = v := by
  subst h; simp [List.getD]
theorem OS.put {W wr w2 : World} {s t pb ob : Nat} {L : List (List UInt8)} {m : Nat} {vs : List Value} (h : OS W wr s t pb ob L m vs) (hm : m < 20) (hp : W.heap.size ≤ pb) (ho : W.heap.size ≤ ob) (v : Value)
    (hS : SesAt w2 s t pb ob ((plM m).set m (true, ((plM m).getD m (false, 0)).2)) ((owM vs).set m (2, v))) (hO : OwnR wr.heap.size w2 v (L.getD m [])) (hC : Chg wr.heap.size [pb, ob] wr w2) (hq : 1 ≤ (L.getD m []).length ∧ (L.getD m []).length ≤ 100) : OS W w2 s t pb ob L (m + 1) (vs ++ [v]) := by
  have hl := h.len
  rw [plM_set m hm] at hS
  have e := owM_set vs v (by omega)
  rw [hl] at e
  rw [e] at hS
  refine ⟨by rw [List.length_append, hl]; rfl, hS, fun j hj => ?_, fun i j hij hj b hb => ?_, h.below.trans (hC.below h.below.size (fun k hk => by simp at hk; omega)), fun j hj => by
    by_cases hjm : j < m
    · exact h.short j hjm
    · obtain rfl : j = m := by omega
      exact hq⟩
  · by_cases hjm : j < m
    · rw [getD_left (by omega)]
      refine (h.row j hjm).chg hC (Nat.le_refl _) (fun b eb => ?_)
      obtain ⟨cs, hb⟩ := (h.row j hjm).typ b eb
      have n1 : b ≠ pb := hb.ne h.ses.tab.2 (by decide)
      have n2 : b ≠ ob := hb.ne h.ses.row (by decide)
      simp; exact ⟨n1, n2⟩
    · obtain rfl : j = m := by omega
      rw [getD_last hl]
      exact hO.mono h.below.size
  · by_cases hjm : j < m
    · rw [getD_left (by omega)] at hb ⊢
      exact h.two i j hij hjm b hb
    · obtain rfl : j = m := by omega
      rw [getD_left (by omega)] at hb
      rw [getD_last hl]
      intro e2
      have := ((h.row i hij).lt b hb).2
      have := (hO.lt b e2).1
      omega

theorem closed_get (m k j : Nat) (hj : j < 20) : ((plM m).set k (false, 1)).getD j (false, 0) = if j = k then (false, 1) else (decide (j < m), 0) := by
  by_cases e : j = k
  · subst e
    rw [if_pos rfl, getD_set_eq _ _ (by rw [plM_len]; exact hj)]
  · rw [if_neg e, getD_set_ne _ _ _ e, plM_get m j hj]
theorem closed_num (m k j : Nat) (hj : j < 20) (hjk : j ≠ k) : hnum ((plM m).set k (false, 1)) j = ((j + 1 : Nat) : Int) := by
  unfold hnum
  rw [List.length_set, plM_len, closed_get m k j hj, if_neg hjk]; omega
theorem closed_look (m k j : Nat) (hm : m ≤ 20) (hj : j < m) (hjk : j ≠ k) : lookF ((plM m).set k (false, 1)) ((j : Int) + 1) = some j :=
  look_hit (by rw [List.length_set, plM_len]; omega) (by rw [closed_get m k j (by omega), if_neg hjk]; simpa using hj) (by rw [closed_num m k j (by omega) hjk]; simp)
theorem closed_miss (m k : Nat) (hk : k < 20) : lookF ((plM m).set k (false, 1)) ((k : Int) + 1) = none := by
  unfold lookF
  have e : (((k : Int) + 1 - 1) % (((plM m).set k (false, 1)).length : Int)).toNat = k := by
    rw [List.length_set, plM_len]; omega
  rw [if_neg (by omega), e, if_neg (by rw [closed_get m k k hk, if_pos rfl]; simp)]
theorem closed_small (m k j : Nat) (h : j < ((plM m).set k (false, 1)).length) : (((plM m).set k (false, 1)).getD j (false, 0)).2 < 1000000 := by
  rw [List.length_set, plM_len] at h
  rw [closed_get m k j h]
  split <;> simp
theorem open_look (m k : Nat) (hm : m ≤ 20) (hk : k < m) : lookF (plM m) ((k : Int) + 1) = some k :=
  look_hit (by rw [plM_len]; omega) (by rw [plM_get m k (by omega)]; simpa using hk) (by rw [plM_num m k (by omega)]; simp)
theorem open_close (m k : Nat) (hm : m ≤ 20) (hk : k < m) : closeF (plM m) ((k : Int) + 1) = (plM m).set k (false, 1) := by
  unfold closeF
  rw [open_look m k hm hk]
  show (plM m).set k (false, ((plM m).getD k (false, 0)).2 + 1) = _
  rw [plM_get m k (by omega)]
theorem closed_hands : ∀ m, m < 21 → ∀ k, k < 20 → k < m → (hands ((plM m).set k (false, 1)) 20).length = m - 1 := by decide +kernel
theorem rem_nat (x : UInt8) (m : Nat) : (wrap64 (bv x)).tmod (m : Int) = ((x.toNat % m : Nat) : Int) := by
  have h1 := bv_lo x
  have h2 := bv_hi x
  have e : wrap64 (bv x) = ((x.toNat : Nat) : Int) := by
    have e2 : bv x = ((x.toNat : Nat) : Int) := rfl
    rw [← e2]; unfold wrap64; omega
  rw [e]; rfl
/-- The law's second loop: session k is ended, the others are there. -/
structure OE (W w2 : World) (s t pb ob : Nat) (L : List (List UInt8)) (m k : Nat) (vs : List Value) : Prop where
  ses : SesAt w2 s t pb ob ((plM m).set k (false, 1)) ((owM vs).set k noSes)
  row : ∀ j, j < m → j ≠ k → OwnR W.heap.size w2 (vs.getD j undef) (L.getD j [])
  below : Below W.heap.size W w2
theorem OE.keep {W w2 w3 : World} {s t pb ob : Nat} {L : List (List UInt8)} {m k : Nat} {vs : List Value} (h : OE W w2 s t pb ob L m k vs) (hB : Below w2.heap.size w2 w3) : OE W w3 s t pb ob L m k vs :=
  ⟨h.ses.below hB, fun j hj hk => (h.row j hj hk).below hB, h.below.trans (hB.mono h.below.size)⟩
theorem OE.drewN {W w2 : World} {s t pb ob : Nat} {L : List (List UInt8)} {m k : Nat} {vs : List Value} (h : OE W w2 s t pb ob L m k vs) (n : Nat) : OE W (w2.drewN n) s t pb ob L m k vs :=
  ⟨⟨h.ses.top.drewN n, h.ses.tab.drewN n, h.ses.row.drewN n, h.ses.len⟩, fun j hj hk => h.row j hj hk, below_drewN h.below n⟩
theorem OS.close {W wr w2 : World} {s t pb ob : Nat} {L : List (List UInt8)} {m k : Nat} {vs : List Value} (h : OS W wr s t pb ob L m vs) (hm : m ≤ 20) (hk : k < m) (hp : W.heap.size ≤ pb) (ho : W.heap.size ≤ ob) {kb : Nat} (hb : (vs.getD k undef).ownBlock = some kb)
    (hS : SesAt w2 s t pb ob (closeF (plM m) ((k : Int) + 1)) ((owM vs).set k noSes)) (hC : Chg wr.heap.size [pb, ob, kb] wr w2) : OE W w2 s t pb ob L m k vs := by
  rw [open_close m k hm hk] at hS
  have hkb := (h.row k hk).lt kb hb
  refine ⟨hS, fun j hj hjk => (h.row j hj).chg hC (Nat.le_refl _) (fun b eb => ?_), h.below.trans (hC.below h.below.size (fun i hi => by simp at hi; omega))⟩
  obtain ⟨cs, hbb⟩ := (h.row j hj).typ b eb
  have n1 : b ≠ pb := hbb.ne h.ses.tab.2 (by decide)
  have n2 : b ≠ ob := hbb.ne h.ses.row (by decide)
  have n3 : b ≠ kb := fun e => idx_two h.two hj hk hjk eb (by rw [hb, e])
  simp; exact ⟨n1, n2, n3⟩

set_option maxRecDepth 100000 in
set_option maxHeartbeats 4000000 in
theorem sessOthers_walk (pl : Option Addr) (n cap : Nat) (L : List (List UInt8)) (wh : UInt8) (w : World) (hL : RowsAt w w.heap.size pl L) (hn : L.length = n) :
    Calls Tryz.prog 11 #[.slice pl n cap, .int .u8 (bv wh)] w fun e w' => e = .returned (.bool true) ∧ Below w.heap.size w w' := by
  by_cases hg : n < 1
  · obtain rfl : n = 0 := by omega
    go_enter Tryz.func11, Tryz.ntmps11
    go_wp2_with fail
    go_ret
    exact ⟨rfl, Below.refl _ _⟩
  by_cases hg2 : 20 < n
  · go_enter Tryz.func11, Tryz.ntmps11
    go_wp2_with fail
    go_ret
    exact ⟨rfl, Below.refl _ _⟩
  have Hn := hid hn
  have q1 : ¬ (n : Int) < 1 := by omega
  have q2 : ¬ (20 : Int) < (n : Int) := by omega
  clear hn
  go_enter Tryz.func11, Tryz.ntmps11
  go_wp2_with fail
  refine (sessnew_any w 20 (by omega) (by omega)).mono ?_
  rintro e w1 ⟨s, t, pb, ob, rfl, hS, hB, hs0, hp0, ho0⟩
  rw [← plM_zero, ← owM_nil] at hS
  have hos : OS w w1 s t pb ob L 0 [] := ⟨rfl, hS, fun j hj => by omega, fun i j h1 h2 => by omega, hB, fun j hj => by omega⟩
  have HP := hid hp0
  have HO := hid ho0
  clear hS hB hs0
  go_wp2_with fail
  go_loopw [7] (fun i wr => ∃ m : Nat, ∃ vs, m ≤ n ∧ i = .int .i64 m ∧ OS w wr s t pb ob L m vs) (fun i _ => n - (intOf i).toNat)
  case atStart => exact ⟨0, [], by omega, rfl, hos⟩
  case round =>
    obtain ⟨m, vs, hm, rfl, hO⟩ := hrel
    by_cases hlt : m < n
    · obtain ⟨b, o, pj, cj, rfl, hb, hcell, hlj, hrj, hlo⟩ := hL m (by rw [Hn.out]; exact hlt)
      have hbk := hO.below.block b hb
      have c0 : wr.cell? ⟨b, o + m, none⟩ = some (.slice pj (L.getD m []).length cj) := by
        have e : wr.cell? ⟨b, o + m, none⟩ = w.cell? ⟨b, o + m, none⟩ := by simp [World.cell?, hbk]
        rw [e]; exact hcell
      have hrr := hrj.below hO.below
      have HRow := hid hO.row
      obtain ⟨key, hkey⟩ : ∃ key, L.getD m [] = key := ⟨_, rfl⟩
      rw [hkey] at c0 hrj hlj hrr hlo
      have HK := hid hkey
      clear hkey hcell hbk
      obtain ⟨k, hk⟩ : ∃ k, key.length = k := ⟨_, rfl⟩
      rw [hk] at c0
      have HKL := hid hk
      have hB0 := hid hO.below
      by_cases h1 : k < 1
      · obtain rfl : k = 0 := by omega
        clear hk
        go_wp2_with fail
        go_ret
        exact ⟨rfl, hB0.out⟩
      by_cases h2 : 100 < k
      · have u1 : ¬ (k : Int) < 1 := by omega
        clear hk
        go_wp2_with fail
        go_ret
        exact ⟨rfl, hB0.out⟩
      have u1 : ¬ (k : Int) < 1 := by omega
      have u2 : ¬ (100 : Int) < (k : Int) := by omega
      clear hk
      have hm20 : m < 20 := by omega
      have hck := check2' k (by omega) (by omega)
      have HA := hid (sadd_any wr s t pb ob (plM m) (owM vs) m hO.ses (by rw [plM_len]; omega) (by rw [plM_len]; exact hm20) (plM_idx m hm20) (fun j hj => plM_small m j hj) 2 pj k cj key hrr HKL.out (by omega) hck (fun a e => by
        have := hlo (by rw [HKL.out]; omega) a e
        have := HP.out
        have := HO.out
        simp; omega))
      clear hck hrr
      have hnm : hnum (plM m) m = (m : Int) + 1 := by rw [plM_num m m hm20]; simp
      rw [hnm] at HA
      go_wp2_with fail
      refine HA.out.mono ?_
      rintro e w2 ⟨v, rfl, hS2, hO2, hC2⟩
      rw [← HK.out] at hO2
      have hnx := hid (hO.put hm20 HP.out HO.out v hS2 hO2 hC2 (by rw [HK.out, HKL.out]; omega))
      clear hS2 hO2 hC2 HA hO hB0 HRow c0 hL hlo hlj hrj hnm
      go_wp2_with fail
      go_roundw
      case rel => exact ⟨m + 1, vs ++ [v], by omega, by go_num, hnx.out⟩
      case measure => simp [intOf]; omega
    · obtain rfl : m = n := by omega
      clear hlt hm
      go_wp2_with fail
      rw [rem_nat]
      have hkm : wh.toNat % m < m := Nat.mod_lt _ (by omega)
      generalize wh.toNat % m = k at *
      rw [show wrap64 ((k : Int) + 1) = (k : Int) + 1 from by unfold wrap64; omega]
      have hq := hO.short k hkm
      obtain ⟨kb, ck, rest, hvk, hck, hkb, hbk⟩ := (hO.row k hkm).blk (by omega)
      have hvl := hO.len
      refine (send_any wr s t pb ob (plM m) (owM vs) ((k : Int) + 1) k hO.ses (by rw [plM_len]; omega) (by rw [plM_len]; omega) (fun j hj => plM_small m j hj) (by omega) (open_look m k (by omega) hkm) 2 kb (L.getD k []).length ck _ (by rw [owM_get vs k (by omega), hvk]) (by omega) hbk (by simp [bys_length])).mono ?_
      rintro e w2 ⟨rfl, hS2, hC2⟩
      have hE := hO.close (by omega) hkm HP.out HO.out (by rw [hvk]; rfl) hS2 hC2
      have hsh := hid hO.short
      have hvl' := hid hO.len
      clear hS2 hC2 hO hbk hvk hkb hck hq hvl hos
      have HHd := hid (shandles_any w2 s t pb ob _ _ hE.ses (by rw [List.length_set, plM_len]; omega) (fun j hj => closed_small m k j hj))
      rw [List.length_set, plM_len, closed_hands m (by omega) k (by omega) hkm] at HHd
      have e1 : ((m - 1 : Nat) : Int) = (m : Int) - 1 := by omega
      go_wp2_with fail
      refine HHd.out.mono ?_
      rintro e w3 ⟨a, c, rfl, hB3⟩
      have hE := hE.keep hB3
      clear HHd hB3
      go_wp2_with fail
      go_loopw [11] (fun i wr => ∃ j : Nat, j ≤ m ∧ i = .int .i64 j ∧ OE w wr s t pb ob L m k vs) (fun i _ => m - (intOf i).toNat)
      case atStart => exact ⟨0, by omega, rfl, hE⟩
      case round =>
        obtain ⟨j, hj, rfl, hF⟩ := hrel
        by_cases hlt : j < m
        · by_cases hjk : j = k
          · subst hjk
            have HG := hid (sget_none wr s t pb ob _ _ ((j : Int) + 1) hF.ses (by rw [List.length_set, plM_len]; omega) (by rw [List.length_set, plM_len]; omega) (fun i hi => closed_small m j i hi) (by omega) (closed_miss m j (by omega)))
            clear hE
            go_wp2_with fail
            refine HG.out.mono ?_
            rintro e w5 ⟨rfl, hB5⟩
            have hF := hF.keep hB5
            clear HG hB5
            go_upto_region 21 with (fail)
            have y9 := Blk.new w5 [.int .i64 0, .slice none 0 0] tSes
            have hF := hF.keep ((Below.refl w5.heap.size w5).alloc (Nat.le_refl _) (.cells [.int .i64 0, .slice none 0 0].toArray tSes))
            change Code.wp _ _ _ _ (w5.alloc (.cells [.int .i64 0, .slice none 0 0].toArray tSes))
            generalize w5.heap.size = yb at *
            generalize w5.alloc (.cells [.int .i64 0, .slice none 0 0].toArray tSes) = w9 at *
            have z1 : w9.cell? ⟨yb, 1, none⟩ = some (.slice none 0 0) := y9.cell 1
            clear y9
            go_quiet (fail)
            have hF9 := hid hF
            clear hF
            go_wp2_with fail
            go_roundw
            case rel => exact ⟨j + 1, by omega, by go_num, hF9.out.drewN _⟩
            case measure => simp [intOf]; omega
          · have hlen := hsh.out j hlt
            have HG := (hF.row j hlt hjk).row
            obtain ⟨pj, cj, hvj, hcj, hrj⟩ := HG
            have HG := hid (sget_any wr s t pb ob _ _ ((j : Int) + 1) j hF.ses (by rw [List.length_set, plM_len]; omega) (by rw [List.length_set, plM_len]; omega) (fun i hi => closed_small m k i hi) (by omega) (closed_look m k j (by omega) hlt hjk) 2 pj (L.getD j []).length cj (L.getD j []) (by
              rw [show ((owM vs).set k noSes).getD j noSes = (owM vs).getD j noSes from by simp [List.getD, List.getElem?_set_ne (fun e => hjk e.symm)]]
              rw [owM_get vs j (by rw [hvl'.out]; exact hlt), hvj]) hrj rfl (by omega))
            clear hE hvj hrj hcj
            go_wp2_with fail
            refine HG.out.mono ?_
            rintro e w5 ⟨v5, rfl, hO5, hB5⟩
            obtain ⟨p8, c8, rfl, hc8, hr8⟩ := hO5.row
            have hF := hF.keep hB5
            obtain ⟨key, hkey⟩ : ∃ key, L.getD j [] = key := ⟨_, rfl⟩
            obtain ⟨b, o, pj, cj, rfl, hb, hcell, hlj, hrj, hlo⟩ := hL j (by rw [Hn.out]; exact hlt)
            rw [hkey] at hlen hr8 hcell hrj hlj ⊢
            clear HG hB5 hO5 hkey hlo
            obtain ⟨q, hq⟩ : ∃ q, key.length = q := ⟨_, rfl⟩
            rw [hq] at hlen hcell ⊢
            have Hq := hid hq
            clear hq hlj hc8
            go_upto_region 21 with (fail)
            have y9 := Blk.new w5 [.int .i64 2, .slice p8 q c8] tSes
            have hBa := (Below.refl w5.heap.size w5).alloc (Nat.le_refl _) (.cells [.int .i64 2, .slice p8 q c8].toArray tSes)
            have hF := hF.keep hBa
            have hr9 := hr8.below hBa
            change Code.wp _ _ _ _ (w5.alloc (.cells [.int .i64 2, .slice p8 q c8].toArray tSes))
            generalize w5.heap.size = yb at *
            generalize w5.alloc (.cells [.int .i64 2, .slice p8 q c8].toArray tSes) = w9 at *
            have z1 : w9.cell? ⟨yb, 1, none⟩ = some (.slice p8 q c8) := y9.cell 1
            have hrw := hrj.below hF.below
            have z2 : w9.cell? ⟨b, o + j, none⟩ = some (.slice pj q cj) := by
              have hbk := hF.below.block b hb
              have e : w9.cell? ⟨b, o + j, none⟩ = w.cell? ⟨b, o + j, none⟩ := by simp [World.cell?, hbk]
              rw [e]; exact hcell
            have s1 := fun i => str_row (n := q) (c := c8) (hr9.drewN i) Hq.out
            have s2 := fun i => str_row (n := q) (c := cj) (hrw.drewN i) Hq.out
            have hF9 := hid hF
            clear y9 hF hr9 hrw hBa hcell hrj hr8
            have hjk' : ¬ (j : Int) = (k : Int) := by omega
            go_quiet (fail)
            go_wp2_with fail
            go_roundw
            case rel => exact ⟨j + 1, by omega, by go_num, hF9.out.drewN _⟩
            case measure => simp [intOf]; omega
        · obtain rfl : j = m := by omega
          have HB := hid hF.below
          clear hF hE
          go_wp2_with fail
          refine (awake19_any wr).mono ?_
          rintro e w10 ⟨rfl, hB11⟩
          go_wp2_with fail
          go_ret
          exact ⟨rfl, HB.out.trans (hB11.mono HB.out.size)⟩
end Go.Proofs.YtnmmnlffobnbfaaGreatDoor
