/- aes: what is enciphered is deciphered to what it was -/
import Derived.Test.YtlgeebnmonmdaaaAes7
import Derived.Test.YtlgeebnmonmdaaaTab
import Derived.Test.YtlgeebnmonmdaaaLin
namespace Go.Proofs.Ytlgeebnmonmdaaa

def boxes : Bool := (List.range 256).all fun n => TABL.getD (256 + (TABL.getD n 0).toNat) 0 == UInt8.ofNat n && TABL.getD (TABL.getD (256 + n) 0).toNat 0 == UInt8.ofNat n
set_option maxRecDepth 100000 in
theorem boxes_ok : boxes = true := by decide +kernel
theorem box_at (x : UInt8) : sinv (sbox x) = x ∧ sbox (sinv x) = x := by
  have h := boxes_ok
  unfold boxes at h
  rw [List.all_eq_true] at h
  have := h x.toNat (List.mem_range.2 x.toNat_lt)
  simp only [Bool.and_eq_true, beq_iff_eq, UInt8.ofNat_toNat] at this
  unfold sinv sbox
  rw [TAB_eq]
  exact this
theorem sbox_inj {x y : UInt8} (h : sbox x = sbox y) : x = y := by rw [← (box_at x).1, h, (box_at y).1]
theorem map_back (l : List UInt8) : (l.map sbox).map sinv = l := by
  rw [List.map_map]; conv => rhs; rw [← List.map_id l]
  exact List.map_congr_left fun x _ => by simp only [Function.comp_apply, id_eq, (box_at x).1]
theorem map_there (l : List UInt8) : (l.map sinv).map sbox = l := by
  rw [List.map_map]; conv => rhs; rw [← List.map_id l]
  exact List.map_congr_left fun x _ => by simp only [Function.comp_apply, id_eq, (box_at x).2]
theorem hs_sh {l : List UInt8} (h : l.length = 16) : hs16 (sh16 l) = l := by
  obtain ⟨a0, a1, a2, a3, a4, a5, a6, a7, a8, a9, a10, a11, a12, a13, a14, a15, rfl⟩ := len16 h; rfl
theorem sh_hs {l : List UInt8} (h : l.length = 16) : sh16 (hs16 l) = l := by
  obtain ⟨a0, a1, a2, a3, a4, a5, a6, a7, a8, a9, a10, a11, a12, a13, a14, a15, rfl⟩ := len16 h; rfl
theorem zip_zip : ∀ (l k : List UInt8), l.length ≤ k.length → List.zipWith (· ^^^ ·) (List.zipWith (· ^^^ ·) l k) k = l
  | [], k, _ => by simp
  | a :: l, [], h => by simp at h
  | a :: l, b :: k, h => by
    have := zip_zip l k (by simpa using h)
    simp only [List.zipWith_cons_cons, this]
    rw [UInt8.xor_assoc]; simp
theorem addK_form (rk : List UInt8) (r : Nat) (s : List UInt8) (hs : s.length = 16) : addK rk r s = List.zipWith (· ^^^ ·) s ((rk.drop (16 * r)).take 16) := by
  unfold addK addTo
  rw [List.take_of_length_le (l := s) (by omega), List.drop_of_length_le (l := s) (by omega), List.append_nil]
theorem addK_addK (rk : List UInt8) (r : Nat) (s : List UInt8) (h : 16 * r + 16 ≤ rk.length) (hs : s.length = 16) : addK rk r (addK rk r s) = s := by
  rw [addK_form rk r _ (addK_len rk r s h hs), addK_form rk r s hs]
  exact zip_zip _ _ (by simp; omega)
theorem mix_form (t : Nat) {l : List UInt8} (h : l.length = 16) : mixTo t 4 l = mxN t (l.take 4) ++ mxN t ((l.drop 4).take 4) ++ mxN t ((l.drop 8).take 4) ++ mxN t ((l.drop 12).take 4) := by
  unfold mixTo
  rw [List.drop_of_length_le (by omega), List.append_nil]
  simp [cols]
theorem mxN_back (a b : Nat) (hab : a + b = 4) {l : List UInt8} (h : l.length = 4) : mxN a (mxN b l) = l := by
  have : mxN a (mxN b l) = mxN 4 l := by
    rw [← hab]
    clear hab
    induction a with
    | zero => simp [mxN]
    | succ a ih => rw [show a + 1 + b = (a + b) + 1 by omega]; simp only [mxN]; rw [ih]
  rw [this]
  exact mx_four h
theorem mix_back (a b : Nat) (hab : a + b = 4) {l : List UInt8} (h : l.length = 16) : mixTo a 4 (mixTo b 4 l) = l := by
  have h0 : (l.take 4).length = 4 := by simp; omega
  have h1 : ((l.drop 4).take 4).length = 4 := by simp; omega
  have h2 : ((l.drop 8).take 4).length = 4 := by simp; omega
  have h3 : ((l.drop 12).take 4).length = 4 := by simp; omega
  rw [mix_form a (mixTo_len b 4 l (by omega) h), mix_form b h]
  have m0 := mxN_len b h0
  have m1 := mxN_len b h1
  have m2 := mxN_len b h2
  have m3 := mxN_len b h3
  have back : l = l.take 4 ++ (l.drop 4).take 4 ++ (l.drop 8).take 4 ++ (l.drop 12).take 4 := by
    obtain ⟨a0, a1, a2, a3, a4, a5, a6, a7, a8, a9, a10, a11, a12, a13, a14, a15, rfl⟩ := len16 h; rfl
  have b0 := mxN_back a b hab h0
  have b1 := mxN_back a b hab h1
  have b2 := mxN_back a b hab h2
  have b3 := mxN_back a b hab h3
  generalize mxN b (l.take 4) = A at *
  generalize mxN b ((l.drop 4).take 4) = B at *
  generalize mxN b ((l.drop 8).take 4) = C at *
  generalize mxN b ((l.drop 12).take 4) = D at *
  have e : (A ++ B ++ C ++ D).take 4 = A ∧ ((A ++ B ++ C ++ D).drop 4).take 4 = B ∧ ((A ++ B ++ C ++ D).drop 8).take 4 = C ∧ ((A ++ B ++ C ++ D).drop 12).take 4 = D := by
    obtain ⟨_, _, _, _, rfl⟩ := len4 m0
    obtain ⟨_, _, _, _, rfl⟩ := len4 m1
    obtain ⟨_, _, _, _, rfl⟩ := len4 m2
    obtain ⟨_, _, _, _, rfl⟩ := len4 m3
    exact ⟨rfl, rfl, rfl, rfl⟩
  obtain ⟨e0, e1, e2, e3⟩ := e
  rw [e0, e1, e2, e3, b0, b1, b2, b3]
  exact back.symm

theorem dec_at (rk : List UInt8) (R : Nat) (s : List UInt8) (hrk : 16 * R + 16 ≤ rk.length) (hs : s.length = 16) (d : Nat) (hd : d ≤ R) (hd0 : 0 < d) : decTo rk R (encTo rk R s R) d = encTo rk R s (R - d) := by
  have step : ∀ d, d < R → ∀ x, x = encTo rk R s (R - d) → decStep rk R d x = encTo rk R s (R - (d + 1)) := by
    intro d hd x hx
    obtain ⟨r, hr⟩ : ∃ r, R - d = r + 1 := ⟨R - d - 1, by omega⟩
    have hl := encTo_len rk R s r (by omega) hs
    have hm : ((encTo rk R s r).map sbox).length = 16 := by rw [List.length_map]; exact hl
    rw [hx, show R - (d + 1) = r by omega, hr]
    unfold decStep
    rw [hr]
    simp only [encTo]
    by_cases h0 : 0 < d
    · rw [if_pos h0, if_pos (by omega), addK_addK rk (r + 1) _ (by omega) (mixTo_len _ _ _ (by omega) (sh16_len hm)), mix_back 3 1 rfl (sh16_len hm), hs_sh hm, map_back]
    · rw [if_neg h0, if_neg (by omega), addK_addK rk (r + 1) _ (by omega) (sh16_len hm), hs_sh hm, map_back]
  induction d with
  | zero => omega
  | succ d ih =>
    simp only [decTo]
    by_cases h0 : d = 0
    · subst h0; exact step 0 (by omega) _ (by simp [decTo])
    · exact step d (by omega) _ (ih (by omega) (by omega))
theorem dec_enc (rk s : List UInt8) (hrk : 16 * roundsOf rk + 16 ≤ rk.length) (hR : 0 < roundsOf rk) (hs : s.length = 16) : dec rk (enc rk s) = s := by
  unfold dec enc
  rw [dec_at rk _ s hrk hs _ (Nat.le_refl _) hR, Nat.sub_self]
  exact addK_addK rk 0 s (by omega) hs

theorem enc_at (rk : List UInt8) (R : Nat) (s : List UInt8) (hrk : 16 * R + 16 ≤ rk.length) (hs : s.length = 16) (r : Nat) (hr : r < R) : encTo rk R (addK rk 0 (decTo rk R s R)) r = decTo rk R s (R - r) := by
  induction r with
  | zero => simp only [encTo, Nat.sub_zero]; exact addK_addK rk 0 _ (by omega) (decTo_len rk R s R hrk hs)
  | succ r ih =>
    simp only [encTo]
    rw [ih (by omega), if_pos hr]
    obtain ⟨d, hd⟩ : ∃ d, R - r = d + 1 := ⟨R - r - 1, by omega⟩
    have hl := decTo_len rk R s d hrk hs
    have ha := addK_len rk (R - d) _ (by omega) hl
    rw [hd, show R - (r + 1) = d by omega, show r + 1 = R - d by omega]
    simp only [decTo, decStep]
    rw [if_pos (by omega), map_there, sh_hs (mixTo_len _ _ _ (by omega) ha), mix_back 1 3 rfl ha]
    exact addK_addK rk (R - d) _ (by omega) hl
theorem enc_dec (rk s : List UInt8) (hrk : 16 * roundsOf rk + 16 ≤ rk.length) (hR : 0 < roundsOf rk) (hs : s.length = 16) : enc rk (dec rk s) = s := by
  unfold dec enc
  generalize roundsOf rk = R at *
  obtain ⟨r, rfl⟩ : ∃ r, R = r + 1 := ⟨R - 1, by omega⟩
  have e := enc_at rk (r + 1) s hrk hs r (by omega)
  rw [show r + 1 - r = 1 by omega] at e
  simp only [encTo]
  rw [e, if_neg (by omega)]
  have ha := addK_len rk (r + 1) s (by omega) hs
  simp only [decTo, decStep]
  rw [if_neg (by omega), Nat.sub_zero, map_there, sh_hs ha]
  exact addK_addK rk (r + 1) s (by omega) hs
#print axioms enc_dec
end Go.Proofs.Ytlgeebnmonmdaaa
