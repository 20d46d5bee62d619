/- Tab · Lin · Pure (joined by merge4.py) -/
import Derived.Test.YtnmmnlffobnbfaaGreatDoorMC
import Derived.Test.YtnmmnlffobnbfaaGreatDoorMM
/- aes: the tables, written out -/
namespace Go.Proofs.YtnmmnlffobnbfaaGreatDoor
def TABL : List UInt8 :=
  [99, 124, 119, 123, 242, 107, 111, 197, 48, 1, 103, 43, 254, 215, 171, 118, 202, 130, 201, 125, 250, 89, 71, 240, 173, 212, 162, 175, 156, 164, 114, 192, 183, 253, 147, 38, 54, 63,
  247, 204, 52, 165, 229, 241, 113, 216, 49, 21, 4, 199, 35, 195, 24, 150, 5, 154, 7, 18, 128, 226, 235, 39, 178, 117, 9, 131, 44, 26, 27, 110, 90, 160, 82, 59, 214, 179, 41, 227,
  47, 132, 83, 209, 0, 237, 32, 252, 177, 91, 106, 203, 190, 57, 74, 76, 88, 207, 208, 239, 170, 251, 67, 77, 51, 133, 69, 249, 2, 127, 80, 60, 159, 168, 81, 163, 64, 143, 146, 157,
  56, 245, 188, 182, 218, 33, 16, 255, 243, 210, 205, 12, 19, 236, 95, 151, 68, 23, 196, 167, 126, 61, 100, 93, 25, 115, 96, 129, 79, 220, 34, 42, 144, 136, 70, 238, 184, 20, 222,
  94, 11, 219, 224, 50, 58, 10, 73, 6, 36, 92, 194, 211, 172, 98, 145, 149, 228, 121, 231, 200, 55, 109, 141, 213, 78, 169, 108, 86, 244, 234, 101, 122, 174, 8, 186, 120, 37, 46, 28,
  166, 180, 198, 232, 221, 116, 31, 75, 189, 139, 138, 112, 62, 181, 102, 72, 3, 246, 14, 97, 53, 87, 185, 134, 193, 29, 158, 225, 248, 152, 17, 105, 217, 142, 148, 155, 30, 135,
  233, 206, 85, 40, 223, 140, 161, 137, 13, 191, 230, 66, 104, 65, 153, 45, 15, 176, 84, 187, 22, 82, 9, 106, 213, 48, 54, 165, 56, 191, 64, 163, 158, 129, 243, 215, 251, 124, 227,
  57, 130, 155, 47, 255, 135, 52, 142, 67, 68, 196, 222, 233, 203, 84, 123, 148, 50, 166, 194, 35, 61, 238, 76, 149, 11, 66, 250, 195, 78, 8, 46, 161, 102, 40, 217, 36, 178, 118, 91,
  162, 73, 109, 139, 209, 37, 114, 248, 246, 100, 134, 104, 152, 22, 212, 164, 92, 204, 93, 101, 182, 146, 108, 112, 72, 80, 253, 237, 185, 218, 94, 21, 70, 87, 167, 141, 157, 132,
  144, 216, 171, 0, 140, 188, 211, 10, 247, 228, 88, 5, 184, 179, 69, 6, 208, 44, 30, 143, 202, 63, 15, 2, 193, 175, 189, 3, 1, 19, 138, 107, 58, 145, 17, 65, 79, 103, 220, 234, 151,
  242, 207, 206, 240, 180, 230, 115, 150, 172, 116, 34, 231, 173, 53, 133, 226, 249, 55, 232, 28, 117, 223, 110, 71, 241, 26, 113, 29, 41, 197, 137, 111, 183, 98, 14, 170, 24, 190,
  27, 252, 86, 62, 75, 198, 210, 121, 32, 154, 219, 192, 254, 120, 205, 90, 244, 31, 221, 168, 51, 136, 7, 199, 49, 177, 18, 16, 89, 39, 128, 236, 95, 96, 81, 127, 169, 25, 181, 74,
  13, 45, 229, 122, 159, 147, 201, 156, 239, 160, 224, 59, 77, 174, 42, 245, 176, 200, 235, 187, 60, 131, 83, 153, 97, 23, 43, 4, 126, 186, 119, 214, 38, 225, 105, 20, 99, 85, 33,
  12, 125]
set_option maxRecDepth 100000 in
theorem TAB_eq : TAB = TABL := by decide +kernel
end Go.Proofs.YtnmmnlffobnbfaaGreatDoor

/- aes: a column mixed four times is what it was -/
namespace Go.Proofs.YtnmmnlffobnbfaaGreatDoor

theorem all256 {p : UInt8 → Prop} (h : ∀ n : Fin 256, p (UInt8.ofNat n)) (x : UInt8) : p x := by
  have := h ⟨x.toNat, x.toNat_lt⟩
  simpa using this
def g27 (y : UInt8) : UInt8 := if y = 0 then 0 else 27
theorem dbl_form (x : UInt8) : dbl x = (x <<< 1) ^^^ g27 (x >>> 7) := by
  revert x; apply all256; decide +kernel
theorem shr7 (x : UInt8) : x >>> 7 = 0 ∨ x >>> 7 = 1 := by
  revert x; apply all256; decide +kernel
theorem dbl_xor (x y : UInt8) : dbl (x ^^^ y) = dbl x ^^^ dbl y := by
  rw [dbl_form, dbl_form, dbl_form]
  have e1 : (x ^^^ y) <<< 1 = x <<< 1 ^^^ y <<< 1 := by
    apply UInt8.toBitVec_inj.1; simp [BitVec.shiftLeft_xor_distrib]
  have e2 : (x ^^^ y) >>> 7 = x >>> 7 ^^^ y >>> 7 := by
    apply UInt8.toBitVec_inj.1; simp [BitVec.ushiftRight_xor_distrib]
  rw [e1, e2]
  have e3 : g27 (x >>> 7 ^^^ y >>> 7) = g27 (x >>> 7) ^^^ g27 (y >>> 7) := by
    rcases shr7 x with h | h <;> rcases shr7 y with h' | h' <;> rw [h, h'] <;> decide
  rw [e3]
  ac_rfl
theorem xlc (a b c : UInt8) : a ^^^ (b ^^^ c) = b ^^^ (a ^^^ c) := by rw [← UInt8.xor_assoc, UInt8.xor_comm a b, UInt8.xor_assoc]
theorem xss (a b : UInt8) : a ^^^ (a ^^^ b) = b := by rw [← UInt8.xor_assoc]; simp
set_option maxHeartbeats 1000000 in
theorem mx_two (a b c d : UInt8) : mx4 (mx4 [a, b, c, d]) = [a ^^^ dbl (dbl (a ^^^ c)), b ^^^ dbl (dbl (b ^^^ d)), c ^^^ dbl (dbl (a ^^^ c)), d ^^^ dbl (dbl (b ^^^ d))] := by
  simp only [mx4, dbl_xor]
  generalize dbl (dbl a) = a2
  generalize dbl (dbl b) = b2
  generalize dbl (dbl c) = c2
  generalize dbl (dbl d) = d2
  generalize dbl a = a1
  generalize dbl b = b1
  generalize dbl c = c1
  generalize dbl d = d1
  simp only [UInt8.xor_assoc]
  simp [UInt8.xor_comm, xlc, xss]
theorem mx_four {l : List UInt8} (h : l.length = 4) : mx4 (mx4 (mx4 (mx4 l))) = l := by
  obtain ⟨a, b, c, d, rfl⟩ := len4 h
  rw [mx_two, mx_two]
  have e1 : a ^^^ dbl (dbl (a ^^^ c)) ^^^ (c ^^^ dbl (dbl (a ^^^ c))) = a ^^^ c := by
    generalize dbl (dbl (a ^^^ c)) = z
    simp [UInt8.xor_comm, xlc]
  have e2 : b ^^^ dbl (dbl (b ^^^ d)) ^^^ (d ^^^ dbl (dbl (b ^^^ d))) = b ^^^ d := by
    generalize dbl (dbl (b ^^^ d)) = z
    simp [UInt8.xor_comm, xlc]
  rw [e1, e2]
  simp [UInt8.xor_assoc]
end Go.Proofs.YtnmmnlffobnbfaaGreatDoor

/- aes: what is enciphered is deciphered to what it was -/
namespace Go.Proofs.YtnmmnlffobnbfaaGreatDoor

def boxes : Bool := (List.range 256).all fun n => TABL.getD (256 + (TABL.getD n 0).toNat) 0 == UInt8.ofNat n && TABL.getD (TABL.getD (256 + n) 0).toNat 0 == UInt8.ofNat n
set_option maxRecDepth 100000 in
theorem boxes_ok : boxes = true := by decide +kernel
theorem box_at (x : UInt8) : sinv (sbox x) = x ∧ sbox (sinv x) = x := by
  have h := boxes_ok
  unfold boxes at h
  rw [List.all_eq_true] at h
  have := h x.toNat (List.mem_range.2 x.toNat_lt)
  simp only [Bool.and_eq_true, beq_iff_eq, UInt8.ofNat_toNat] at this
  unfold sinv sbox
  rw [TAB_eq]
  exact this
theorem sbox_inj {x y : UInt8} (h : sbox x = sbox y) : x = y := by rw [← (box_at x).1, h, (box_at y).1]
theorem map_back (l : List UInt8) : (l.map sbox).map sinv = l := by
  rw [List.map_map]; conv => rhs; rw [← List.map_id l]
  exact List.map_congr_left fun x _ => by simp only [Function.comp_apply, id_eq, (box_at x).1]
theorem map_there (l : List UInt8) : (l.map sinv).map sbox = l := by
  rw [List.map_map]; conv => rhs; rw [← List.map_id l]
  exact List.map_congr_left fun x _ => by simp only [Function.comp_apply, id_eq, (box_at x).2]
theorem hs_sh {l : List UInt8} (h : l.length = 16) : hs16 (sh16 l) = l := by
  obtain ⟨a0, a1, a2, a3, a4, a5, a6, a7, a8, a9, a10, a11, a12, a13, a14, a15, rfl⟩ := len16 h; rfl
theorem sh_hs {l : List UInt8} (h : l.length = 16) : sh16 (hs16 l) = l := by
  obtain ⟨a0, a1, a2, a3, a4, a5, a6, a7, a8, a9, a10, a11, a12, a13, a14, a15, rfl⟩ := len16 h; rfl
theorem zip_zip : ∀ (l k : List UInt8), l.length ≤ k.length → List.zipWith (· ^^^ ·) (List.zipWith (· ^^^ ·) l k) k = l
  | [], k, _ => by simp
  | a :: l, [], h => by simp at h
  | a :: l, b :: k, h => by
    have := zip_zip l k (by simpa using h)
    simp only [List.zipWith_cons_cons, this]
    rw [UInt8.xor_assoc]; simp
theorem addK_form (rk : List UInt8) (r : Nat) (s : List UInt8) (hs : s.length = 16) : addK rk r s = List.zipWith (· ^^^ ·) s ((rk.drop (16 * r)).take 16) := by
  unfold addK addTo
  rw [List.take_of_length_le (l := s) (by omega), List.drop_of_length_le (l := s) (by omega), List.append_nil]
theorem addK_addK (rk : List UInt8) (r : Nat) (s : List UInt8) (h : 16 * r + 16 ≤ rk.length) (hs : s.length = 16) : addK rk r (addK rk r s) = s := by
  rw [addK_form rk r _ (addK_len rk r s h hs), addK_form rk r s hs]
  exact zip_zip _ _ (by simp; omega)
theorem mix_form (t : Nat) {l : List UInt8} (h : l.length = 16) : mixTo t 4 l = mxN t (l.take 4) ++ mxN t ((l.drop 4).take 4) ++ mxN t ((l.drop 8).take 4) ++ mxN t ((l.drop 12).take 4) := by
  unfold mixTo
  rw [List.drop_of_length_le (by omega), List.append_nil]
  simp [cols]
theorem mxN_back (a b : Nat) (hab : a + b = 4) {l : List UInt8} (h : l.length = 4) : mxN a (mxN b l) = l := by
  have : mxN a (mxN b l) = mxN 4 l := by
    rw [← hab]
    clear hab
    induction a with
    | zero => simp [mxN]
    | succ a ih => rw [show a + 1 + b = (a + b) + 1 by omega]; simp only [mxN]; rw [ih]
  rw [this]
  exact mx_four h
theorem mix_back (a b : Nat) (hab : a + b = 4) {l : List UInt8} (h : l.length = 16) : mixTo a 4 (mixTo b 4 l) = l := by
  have h0 : (l.take 4).length = 4 := by simp; omega
  have h1 : ((l.drop 4).take 4).length = 4 := by simp; omega
  have h2 : ((l.drop 8).take 4).length = 4 := by simp; omega
  have h3 : ((l.drop 12).take 4).length = 4 := by simp; omega
  rw [mix_form a (mixTo_len b 4 l (by omega) h), mix_form b h]
  have m0 := mxN_len b h0
  have m1 := mxN_len b h1
  have m2 := mxN_len b h2
  have m3 := mxN_len b h3
  have back : l = l.take 4 ++ (l.drop 4).take 4 ++ (l.drop 8).take 4 ++ (l.drop 12).take 4 := by
    obtain ⟨a0, a1, a2, a3, a4, a5, a6, a7, a8, a9, a10, a11, a12, a13, a14, a15, rfl⟩ := len16 h; rfl
  have b0 := mxN_back a b hab h0
  have b1 := mxN_back a b hab h1
  have b2 := mxN_back a b hab h2
  have b3 := mxN_back a b hab h3
  generalize mxN b (l.take 4) = A at *
  generalize mxN b ((l.drop 4).take 4) = B at *
  generalize mxN b ((l.drop 8).take 4) = C at *
  generalize mxN b ((l.drop 12).take 4) = D at *
  have e : (A ++ B ++ C ++ D).take 4 = A ∧ ((A ++ B ++ C ++ D).drop 4).take 4 = B ∧ ((A ++ B ++ C ++ D).drop 8).take 4 = C ∧ ((A ++ B ++ C ++ D).drop 12).take 4 = D := by
    obtain ⟨_, _, _, _, rfl⟩ := len4 m0
    obtain ⟨_, _, _, _, rfl⟩ := len4 m1
    obtain ⟨_, _, _, _, rfl⟩ := len4 m2
    obtain ⟨_, _, _, _, rfl⟩ := len4 m3
    exact ⟨rfl, rfl, rfl, rfl⟩
  obtain ⟨e0, e1, e2, e3⟩ := e
  rw [e0, e1, e2, e3, b0, b1, b2, b3]
  exact back.symm

theorem dec_at (rk : List UInt8) (R : Nat) (s : List UInt8) (hrk : 16 * R + 16 ≤ rk.length) (hs : s.length = 16) (d : Nat) (hd : d ≤ R) (hd0 : 0 < d) : decTo rk R (encTo rk R s R) d = encTo rk R s (R - d) := by
  have step : ∀ d, d < R → ∀ x, x = encTo rk R s (R - d) → decStep rk R d x = encTo rk R s (R - (d + 1)) := by
    intro d hd x hx
    obtain ⟨r, hr⟩ : ∃ r, R - d = r + 1 := ⟨R - d - 1, by omega⟩
    have hl := encTo_len rk R s r (by omega) hs
    have hm : ((encTo rk R s r).map sbox).length = 16 := by rw [List.length_map]; exact hl
    rw [hx, show R - (d + 1) = r by omega, hr]
    unfold decStep
    rw [hr]
    simp only [encTo]
    by_cases h0 : 0 < d
    · rw [if_pos h0, if_pos (by omega), addK_addK rk (r + 1) _ (by omega) (mixTo_len _ _ _ (by omega) (sh16_len hm)), mix_back 3 1 rfl (sh16_len hm), hs_sh hm, map_back]
    · rw [if_neg h0, if_neg (by omega), addK_addK rk (r + 1) _ (by omega) (sh16_len hm), hs_sh hm, map_back]
  induction d with
  | zero => omega
  | succ d ih =>
    simp only [decTo]
    by_cases h0 : d = 0
    · subst h0; exact step 0 (by omega) _ (by simp [decTo])
    · exact step d (by omega) _ (ih (by omega) (by omega))
theorem dec_enc (rk s : List UInt8) (hrk : 16 * roundsOf rk + 16 ≤ rk.length) (hR : 0 < roundsOf rk) (hs : s.length = 16) : dec rk (enc rk s) = s := by
  unfold dec enc
  rw [dec_at rk _ s hrk hs _ (Nat.le_refl _) hR, Nat.sub_self]
  exact addK_addK rk 0 s (by omega) hs

theorem enc_at (rk : List UInt8) (R : Nat) (s : List UInt8) (hrk : 16 * R + 16 ≤ rk.length) (hs : s.length = 16) (r : Nat) (hr : r < R) : encTo rk R (addK rk 0 (decTo rk R s R)) r = decTo rk R s (R - r) := by
  induction r with
  | zero => simp only [encTo, Nat.sub_zero]; exact addK_addK rk 0 _ (by omega) (decTo_len rk R s R hrk hs)
  | succ r ih =>
    simp only [encTo]
    rw [ih (by omega), if_pos hr]
    obtain ⟨d, hd⟩ : ∃ d, R - r = d + 1 := ⟨R - r - 1, by omega⟩
    have hl := decTo_len rk R s d hrk hs
    have ha := addK_len rk (R - d) _ (by omega) hl
    rw [hd, show R - (r + 1) = d by omega, show r + 1 = R - d by omega]
    simp only [decTo, decStep]
    rw [if_pos (by omega), map_there, sh_hs (mixTo_len _ _ _ (by omega) ha), mix_back 1 3 rfl ha]
    exact addK_addK rk (R - d) _ (by omega) hl
theorem enc_dec (rk s : List UInt8) (hrk : 16 * roundsOf rk + 16 ≤ rk.length) (hR : 0 < roundsOf rk) (hs : s.length = 16) : enc rk (dec rk s) = s := by
  unfold dec enc
  generalize roundsOf rk = R at *
  obtain ⟨r, rfl⟩ : ∃ r, R = r + 1 := ⟨R - 1, by omega⟩
  have e := enc_at rk (r + 1) s hrk hs r (by omega)
  rw [show r + 1 - r = 1 by omega] at e
  simp only [encTo]
  rw [e, if_neg (by omega)]
  have ha := addK_len rk (r + 1) s (by omega) hs
  simp only [decTo, decStep]
  rw [if_neg (by omega), Nat.sub_zero, map_there, sh_hs ha]
  exact addK_addK rk (r + 1) s (by omega) hs
#print axioms enc_dec
end Go.Proofs.YtnmmnlffobnbfaaGreatDoor
