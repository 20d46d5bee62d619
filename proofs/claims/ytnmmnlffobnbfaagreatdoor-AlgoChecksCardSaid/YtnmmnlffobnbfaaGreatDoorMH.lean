/- Gf · El4 · Gp4 · Gh4 (joined by merge4.py) -/
import Derived.Test.YtnmmnlffobnbfaaGreatDoorMA
import Derived.Test.YtnmmnlffobnbfaaGreatDoorMF
import Derived.Deep.DeepCutAuto
import Derived.Test.YtnmmnlffobnbfaaGreatDoorMG
/- the field of 2^128 elements that GCM's hash counts in, over numbers: a product, that it is commutative and associative, that it has no divisors of nought. Plain lemmas. -/
namespace Go.Proofs.YtnmmnlffobnbfaaGreatDoor

def W128 : Nat := 299076299051606071403356588563077529600
def onN (n : Nat) : Nat := (n >>> 1) ^^^ (if n.testBit 0 then W128 else 0)
/-- k times x. -/
def onI : Nat → Nat → Nat
  | 0, v => v
  | k + 1, v => onI k (onN v)
def mulTo (e f : Nat) : Nat → Nat
  | 0 => 0
  | i + 1 => mulTo e f i ^^^ (if e.testBit (127 - i) then onI i f else 0)
def mulN (e f : Nat) : Nat := mulTo e f 128
def sqN (a : Nat) : Nat := mulN a a
def sqI : Nat → Nat → Nat
  | 0, v => v
  | k + 1, v => sqI k (sqN v)
def ONE : Nat := 170141183460469231731687303715884105728

theorem xor_self_zero (a : Nat) : a ^^^ a = 0 := Nat.xor_self a
theorem xor4 (a b c d : Nat) : (a ^^^ b) ^^^ (c ^^^ d) = (a ^^^ c) ^^^ (b ^^^ d) := by
  rw [Nat.xor_assoc, Nat.xor_assoc, ← Nat.xor_assoc b, Nat.xor_comm b c, Nat.xor_assoc c]
theorem xor_eq_zero {a b : Nat} (h : a ^^^ b = 0) : a = b := by
  have : (a ^^^ b) ^^^ b = b := by rw [h, Nat.zero_xor]
  rwa [Nat.xor_assoc, Nat.xor_self, Nat.xor_zero] at this
theorem ite_xor (p q : Bool) (v : Nat) : (if (p != q) = true then v else 0) = (if p = true then v else 0) ^^^ (if q = true then v else 0) := by
  cases p <;> cases q <;> simp
theorem onN_xor (a b : Nat) : onN (a ^^^ b) = onN a ^^^ onN b := by
  unfold onN
  rw [Nat.shiftRight_xor_distrib, Nat.testBit_xor, ite_xor, xor4]
theorem onN_zero : onN 0 = 0 := rfl
theorem onI_xor : ∀ k a b, onI k (a ^^^ b) = onI k a ^^^ onI k b
  | 0, _, _ => rfl
  | k + 1, a, b => by rw [onI, onN_xor, onI_xor k]; rfl
theorem onI_zero : ∀ k, onI k 0 = 0
  | 0 => rfl
  | k + 1 => by rw [onI, onN_zero, onI_zero k]
theorem onI_onN : ∀ k v, onI k (onN v) = onN (onI k v)
  | 0, _ => rfl
  | k + 1, v => by rw [onI, onI_onN k]; rfl
theorem onI_succ (k v : Nat) : onI (k + 1) v = onN (onI k v) := onI_onN k v
theorem onI_add : ∀ a b v, onI (a + b) v = onI a (onI b v)
  | a, 0, _ => rfl
  | a, b + 1, v => by rw [← Nat.add_assoc, onI, onI_add a b]; rfl
theorem ite_on (c : Bool) (f : Nat → Nat) (h : f 0 = 0) (v : Nat) : f (if c = true then v else 0) = if c = true then f v else 0 := by cases c <;> simp [h]
theorem mulTo_right (e a b : Nat) : ∀ k, mulTo e (a ^^^ b) k = mulTo e a k ^^^ mulTo e b k
  | 0 => (Nat.xor_self 0).symm
  | k + 1 => by
    rw [mulTo, mulTo_right e a b k, onI_xor, mulTo, mulTo, xor4]
    congr 1
    cases e.testBit (127 - k) <;> simp
theorem mulTo_left (d e f : Nat) : ∀ k, mulTo (d ^^^ e) f k = mulTo d f k ^^^ mulTo e f k
  | 0 => (Nat.xor_self 0).symm
  | k + 1 => by rw [mulTo, mulTo_left d e f k, Nat.testBit_xor, ite_xor, mulTo, mulTo, xor4]
theorem mulTo_zero (e : Nat) : ∀ k, mulTo e 0 k = 0
  | 0 => rfl
  | k + 1 => by rw [mulTo, mulTo_zero e k, onI_zero]; simp
theorem zero_mulTo (f : Nat) : ∀ k, mulTo 0 f k = 0
  | 0 => rfl
  | k + 1 => by rw [mulTo, zero_mulTo f k]; simp
theorem mulTo_onN (e f : Nat) : ∀ k, mulTo e (onN f) k = onN (mulTo e f k)
  | 0 => onN_zero.symm
  | k + 1 => by rw [mulTo, mulTo_onN e f k, onI_onN, mulTo, onN_xor, ite_on _ onN onN_zero]
theorem mulTo_onI (e f k : Nat) : ∀ j, mulTo e (onI j f) k = onI j (mulTo e f k)
  | 0 => rfl
  | j + 1 => by rw [onI_succ, mulTo_onN, mulTo_onI e f k j, ← onI_succ]
theorem mulTo_swap (e f g m : Nat) : ∀ k, mulTo e (mulTo g f m) k = mulTo g (mulTo e f k) m
  | 0 => by rw [mulTo, mulTo, mulTo_zero]
  | k + 1 => by rw [mulTo, mulTo_swap e f g m k, mulTo, mulTo_right, ← mulTo_onI]; cases e.testBit (127 - k) <;> simp [mulTo_zero]
theorem onI_ONE : ∀ i, i < 128 → onI i ONE = 2 ^ (127 - i) := by
  intro i hi
  have h : (List.range 128).all (fun i => onI i ONE == 2 ^ (127 - i)) = true := by decide +kernel
  rw [List.all_eq_true] at h
  simpa using h i (by simpa using hi)
theorem mulTo_ONE (e : Nat) : ∀ k, k ≤ 128 → ∀ j, (mulTo e ONE k).testBit j = (e.testBit j && decide (127 - k < j ∨ k = 128) && decide (j ≤ 127))
  | 0, _, j => by simp [mulTo]
  | k + 1, h, j => by
    rw [mulTo, Nat.testBit_xor, mulTo_ONE e k (by omega) j, onI_ONE k (by omega)]
    by_cases hj : j = 127 - k
    · subst hj
      have h2 : (decide (127 - k < 127 - k ∨ k = 128)) = false := by simp; omega
      have h3 : (decide (127 - (k + 1) < 127 - k ∨ k + 1 = 128)) = true := by simp; omega
      rw [h2, h3]
      cases e.testBit (127 - k) <;> simp [Nat.testBit_two_pow_self]
    · have h2 : (2 ^ (127 - k)).testBit j = false := Nat.testBit_two_pow_of_ne (fun e => hj e.symm)
      have h3 : (if e.testBit (127 - k) = true then 2 ^ (127 - k) else 0).testBit j = false := by cases e.testBit (127 - k) <;> simp [h2]
      rw [h3, Bool.xor_false]
      by_cases h5 : j ≤ 127
      · have h4 : (decide (127 - k < j ∨ k = 128)) = decide (127 - (k + 1) < j ∨ k + 1 = 128) := by
          apply decide_eq_decide.2; omega
        rw [h4]
      · simp [h5]
theorem mulN_ONE {e : Nat} (h : e < 2 ^ 128) : mulN e ONE = e := by
  apply Nat.eq_of_testBit_eq
  intro j
  rw [mulN, mulTo_ONE e 128 (Nat.le_refl _)]
  by_cases hj : j ≤ 127
  · simp [hj]
  · rw [Nat.testBit_lt_two_pow (Nat.lt_of_lt_of_le h (Nat.pow_le_pow_right (by decide) (by omega)))]; rfl
theorem onN_lt {n : Nat} (h : n < 2 ^ 128) : onN n < 2 ^ 128 := by
  unfold onN
  refine Nat.xor_lt_two_pow ?_ ?_
  · rw [Nat.shiftRight_eq_div_pow]; omega
  · cases n.testBit 0 <;> decide
theorem onI_lt : ∀ k {n : Nat}, n < 2 ^ 128 → onI k n < 2 ^ 128
  | 0, _, h => h
  | k + 1, _, h => onI_lt k (onN_lt h)
theorem mulTo_lt (e : Nat) {f : Nat} (h : f < 2 ^ 128) : ∀ k, mulTo e f k < 2 ^ 128
  | 0 => by show 0 < 2 ^ 128; decide
  | k + 1 => by
    rw [mulTo]
    refine Nat.xor_lt_two_pow (mulTo_lt e h k) ?_
    cases e.testBit (127 - k)
    · simp
    · exact onI_lt k h
theorem mulN_lt (e : Nat) {f : Nat} (h : f < 2 ^ 128) : mulN e f < 2 ^ 128 := mulTo_lt e h 128
theorem ONE_lt : ONE < 2 ^ 128 := by decide
theorem mulN_swap (e f g : Nat) : mulN e (mulN g f) = mulN g (mulN e f) := mulTo_swap e f g 128 128
theorem mulN_comm {e f : Nat} (he : e < 2 ^ 128) (hf : f < 2 ^ 128) : mulN e f = mulN f e := by
  have h := mulN_swap e ONE f
  rwa [mulN_ONE he, mulN_ONE hf] at h
theorem mulN_assoc {e f g : Nat} (_ : e < 2 ^ 128) (hf : f < 2 ^ 128) (hg : g < 2 ^ 128) : mulN (mulN e f) g = mulN e (mulN f g) := by
  rw [mulN_comm (mulN_lt e hf) hg, mulN_swap, mulN_comm hf hg]
theorem mulN_right (e a b : Nat) : mulN e (a ^^^ b) = mulN e a ^^^ mulN e b := mulTo_right e a b 128
theorem mulN_left (d e f : Nat) : mulN (d ^^^ e) f = mulN d f ^^^ mulN e f := mulTo_left d e f 128
theorem mulN_zero (e : Nat) : mulN e 0 = 0 := mulTo_zero e 128
theorem zero_mulN (f : Nat) : mulN 0 f = 0 := zero_mulTo f 128
theorem ONE_mulN {f : Nat} (h : f < 2 ^ 128) : mulN ONE f = f := by rw [mulN_comm ONE_lt h, mulN_ONE h]
theorem sqN_lt {a : Nat} (h : a < 2 ^ 128) : sqN a < 2 ^ 128 := mulN_lt a h
theorem sqN_xor {a b : Nat} (ha : a < 2 ^ 128) (hb : b < 2 ^ 128) : sqN (a ^^^ b) = sqN a ^^^ sqN b := by
  unfold sqN
  rw [mulN_right, mulN_left, mulN_left, mulN_comm hb ha, xor4, Nat.xor_comm (mulN a b), ← xor4, Nat.xor_self, Nat.xor_zero]
theorem sqN_mul {a b : Nat} (ha : a < 2 ^ 128) (hb : b < 2 ^ 128) : sqN (mulN a b) = mulN (sqN a) (sqN b) := by
  unfold sqN
  rw [mulN_assoc ha hb (mulN_lt _ hb), mulN_assoc ha ha (mulN_lt _ hb), mulN_swap b b a]
theorem sqI_lt : ∀ k {a : Nat}, a < 2 ^ 128 → sqI k a < 2 ^ 128
  | 0, _, h => h
  | k + 1, _, h => sqI_lt k (sqN_lt h)
theorem sqI_xor : ∀ k {a b : Nat}, a < 2 ^ 128 → b < 2 ^ 128 → sqI k (a ^^^ b) = sqI k a ^^^ sqI k b
  | 0, _, _, _, _ => rfl
  | k + 1, _, _, ha, hb => by rw [sqI, sqN_xor ha hb, sqI_xor k (sqN_lt ha) (sqN_lt hb)]; rfl
theorem sqI_mul : ∀ k {a b : Nat}, a < 2 ^ 128 → b < 2 ^ 128 → sqI k (mulN a b) = mulN (sqI k a) (sqI k b)
  | 0, _, _, _, _ => rfl
  | k + 1, _, _, ha, hb => by rw [sqI, sqN_mul ha hb, sqI_mul k (sqN_lt ha) (sqN_lt hb)]; rfl
theorem sqI_zero : ∀ k, sqI k 0 = 0
  | 0 => rfl
  | k + 1 => by rw [sqI, show sqN 0 = 0 from mulN_zero 0, sqI_zero k]
theorem sqI_succ : ∀ k v, sqI (k + 1) v = sqN (sqI k v)
  | 0, _ => rfl
  | k + 1, v => by rw [sqI, sqI_succ k]; rfl
def XX : Nat := 85070591730234615865843651857942052864
theorem XX_lt : XX < 2 ^ 128 := by decide
theorem onN_XX {v : Nat} (h : v < 2 ^ 128) : onN v = mulN XX v := by
  have h1 : onN ONE = XX := by decide
  have h2 : mulN v (onN ONE) = onN (mulN v ONE) := mulTo_onN v ONE 128
  rw [mulN_ONE h, h1, mulN_comm h XX_lt] at h2
  exact h2.symm
theorem sqI_XX : sqI 128 XX = XX := by decide +kernel
theorem sqI_ONE : sqI 128 ONE = ONE := by decide +kernel
theorem sqI_on (k : Nat) : sqI 128 (onI k ONE) = onI k ONE := by
  induction k with
  | zero => exact sqI_ONE
  | succ k ih =>
    have hl := onI_lt k ONE_lt
    rw [onI_succ, onN_XX hl, sqI_mul 128 XX_lt hl, ih, sqI_XX]
/-- To the power of 2^128 each is what it was. -/
theorem sqI_id {a : Nat} (h : a < 2 ^ 128) : sqI 128 a = a := by
  have : ∀ k, sqI 128 (mulTo a ONE k) = mulTo a ONE k := by
    intro k
    induction k with
    | zero => exact sqI_zero 128
    | succ k ih =>
      rw [mulTo, sqI_xor 128 (mulTo_lt a ONE_lt k) (by cases a.testBit (127 - k); simp; exact onI_lt k ONE_lt), ih]
      cases a.testBit (127 - k)
      · simp [sqI_zero]
      · simp [sqI_on]
  have h2 := this 128
  rwa [show mulTo a ONE 128 = mulN a ONE from rfl, mulN_ONE h] at h2
/-- What is found by elimination: a way back from a square and itself. -/
def backL : List Nat := [0, 6161591008139076202154902373133594561, 71430717218983613641036104277415506289, 87518597585245962833849474628053070758, 72921817864677867521778898634038080609, 163309321578052146879237778733101511783, 126814247099887467207929949960147586332, 133487668004820722767044853458355047125, 108887185710678174598840578861931466132, 72978216601350599296199603180564021825, 126976600203468727039316187211004055892, 49689517519420395515082114066310337331, 12764899024296983899235621676887115841, 59792954277794326371429463258526948146, 275464514806027128612938827324864, 33882886127255646541338116557250298163, 133385434108064708788808215410435911893, 153238470225796905537047657204766862374, 127777348636302309636952298273557535380, 58594334107495617071392172125656399538, 5725366257701666555538562805218717057, 159324042485362592547018579093184240551, 149021274876537960721224429182834492454, 94333773739946854309780815578084996199, 161752945482599484730126084874801441767, 115575792119390728221592460023876181333, 133436244703473040169882794575366898389, 34751610155981195849944733847405496627, 100972845268357601278728964017462078439, 44935323831972008745566419208193456946, 132003651752985294974180122299820886164, 45594221442569777339127844318073854322, 100983558286137050684044238585428660711, 140308235276559149970208740923126577813, 92325303522414418149753570460923091879, 26944628100264108509229864938392397555, 81071795988965022717357904530596407232, 58275656592719279154056000246173111091, 51613027339492204128265575524803459891, 142140898696765075202304690604976981845, 53639910565545342273528145980335791795, 4726979706490419237355323591502507968, 161542955870533464563010084267448332775, 65334779303751560239471195525024588352, 122557457634345817322758110469731963540, 79569572988994598121356082874814992321, 9537274821874957483351388617584152641, 109427184872331881977228478262674814292, 96504253903287235160744645914913229863, 35809052500294759256374056413191545715, 63089105448741488643398279942380763954, 84108490886122099842324906724524496768, 161537358671016203777973217828391545831, 49921000058860506912943830473554996979, 113870918609522322281985099445019275925, 45994406431766860863727072382817147250, 6116654749483988959971426010360459777, 88394181539591460295416373139500891046, 93226277353508642900164249188457535015, 123506241354959402090274531190302866772, 72992884249465865451566362034747193217, 123492369307601207700488716387690115284, 67288019353279926038130604499846823936, 96617416833907240315124182200439430055, 6161591008139076220601646446843146177, 87518597585245962796955986480633967526, 163309321578052146805450802438263305319, 133487668004820722619470900868678634197, 72978216601350599591347508359916847681, 49689517519420396105377924425015989043, 59792954277794325190837842541115644722, 33882886127255648902521357992072905011, 153238470225796900814681174335121648678, 58594334107495626516125137864946826930, 159324042485362573657552647614603385767, 94333773739946892088712678535246705767, 115575792119390803779456185938199600469, 34751610155981346965672185676052334899, 44935323831971706514111515550899780402, 45594221442570381802037651632661207410, 140308235276560358896028355552301283989, 26944628100266526360869094196741809907, 58275656592714443450777541729474286387, 142140898696755403795747773571579332437, 4726979706471076424241489524707209152, 65334779303712874613243527391433990720, 79569572989071969373811419141996187585, 109427184872177139472317805728312423764, 35809052500604244266195401481916326771, 84108490886741069861967596861974058880, 49921000057622566873658450198655872755, 45994406429290980785156311833018898802, 88394181544543220452557894239097387942, 123506241345055881775991488991109872980, 123492369287794167071922631989304127700, 96617416873521321572256350997211405223, 87518597506017800282691648887090017190, 133487668163277047647999576055766534869, 49689517202507746048320574050840187699, 33882886761080949016636058740424507699, 58594332839845026287895736368243621554, 94333771204645691632253875541840295015, 34751615226583747878589791662865156403, 45594211301365579976202439659035564402, 26944648382676130012539518143993095923, 142140858131936196492406925677076760405, 65334698174074460006561831602428846656, 109427022612900310258954414150302135636, 84108166368187411435240813705953482624, 45993757392183663931702745520977746290, 123504943270841248069084356367027567956, 96614820725092054158442085749046795175, 133492860460135582475628106552095754965, 33893271354798018671893119733082947891, 94354540392079830942767997527157175399, 45552672926497301355174195688401803634, 142223934881672753734463413618344281941, 109593176112373424743067390032837178708, 46326064391129892899928697286047832434, 95950206727199596221990182218906622887, 32564043359013102798989312672802603315, 42894216934927469609366581567841114482, 114910088095513088234682618273958557012, 85316382760920269238759725736663866279, 64161864867486123575827494532326627698, 127851678626037577171681551665634892711, 42781086895802961305837899807692839847, 22349210433241643211303706255459310228]
def backTo (v : Nat) : Nat → Nat
  | 0 => 0
  | j + 1 => backTo v j ^^^ (if v.testBit j then backL.getD j 0 else 0)
theorem backTo_xor (a b : Nat) : ∀ k, backTo (a ^^^ b) k = backTo a k ^^^ backTo b k
  | 0 => (Nat.xor_self 0).symm
  | k + 1 => by rw [backTo, backTo_xor a b k, Nat.testBit_xor, ite_xor, backTo, backTo, xor4]
theorem backTo_zero : ∀ k, backTo 0 k = 0
  | 0 => rfl
  | k + 1 => by rw [backTo, backTo_zero k]; simp
theorem back_on : ∀ i, i < 128 → 0 < i → backTo (sqN (onI i ONE) ^^^ onI i ONE) 128 = onI i ONE := by
  intro i hi h0
  have h : (List.range 128).all (fun i => i == 0 || backTo (sqN (onI i ONE) ^^^ onI i ONE) 128 == onI i ONE) = true := by decide +kernel
  rw [List.all_eq_true] at h
  have := h i (by simpa using hi)
  simp only [Bool.or_eq_true, beq_iff_eq] at this
  exact this.resolve_left (by omega)
/-- Only nought and one are their own squares. -/
theorem idem {e : Nat} (h : e < 2 ^ 128) (he : sqN e = e) : e = 0 ∨ e = ONE := by
  have hone : sqN ONE ^^^ ONE = 0 := by decide +kernel
  have key : ∀ k, k ≤ 127 → backTo (sqN (mulTo e ONE (k + 1)) ^^^ mulTo e ONE (k + 1)) 128 = mulTo e ONE (k + 1) ^^^ (if e.testBit 127 then ONE else 0) := by
    intro k
    induction k with
    | zero =>
      intro _
      simp only [mulTo, Nat.zero_xor, onI, Nat.sub_zero]
      cases e.testBit 127
      · decide +kernel
      · simp [hone, backTo_zero]
    | succ k ih =>
      intro hk
      have hl := mulTo_lt e ONE_lt (k + 1)
      rw [mulTo]
      cases hb : e.testBit (127 - (k + 1))
      · simpa using ih (by omega)
      · simp only [if_true]
        rw [sqN_xor hl (onI_lt _ ONE_lt), xor4, backTo_xor, ih (by omega), back_on _ (by omega) (by omega), Nat.xor_assoc, Nat.xor_assoc, Nat.xor_comm (onI _ _)]
  have h2 := key 127 (by omega)
  rw [show mulTo e ONE (127 + 1) = e from mulN_ONE h, he, Nat.xor_self, backTo_zero] at h2
  have h3 := xor_eq_zero h2.symm
  cases hb : e.testBit 127
  · rw [hb] at h3; exact .inl (by simpa using h3)
  · rw [hb] at h3; exact .inr (by simpa using h3)
/-- To the power of 2^k - 1. -/
def powP (h : Nat) : Nat → Nat
  | 0 => ONE
  | k + 1 => mulN h (sqN (powP h k))
theorem powP_lt {h : Nat} (hh : h < 2 ^ 128) : ∀ k, powP h k < 2 ^ 128
  | 0 => ONE_lt
  | k + 1 => mulN_lt h (sqN_lt (powP_lt hh k))
theorem powP_mul {h : Nat} (hh : h < 2 ^ 128) : ∀ k, mulN h (powP h k) = sqI k h
  | 0 => mulN_ONE hh
  | k + 1 => by
    have hl := powP_lt hh k
    rw [powP, sqI_succ, ← powP_mul hh k, sqN_mul hh hl]
    exact (mulN_assoc hh hh (sqN_lt hl)).symm
/-- A product is nought only if one of the two is. -/
theorem no_zero {h d : Nat} (hh : h < 2 ^ 128) (hd : d < 2 ^ 128) (e : mulN h d = 0) : h = 0 ∨ d = 0 := by
  have hr := sqN_lt (powP_lt hh 127)
  have hE : mulN h (powP h 128) = h := by rw [powP_mul hh, sqI_id hh]
  have hP : powP h 128 = mulN h (sqN (powP h 127)) := rfl
  have hi : sqN (powP h 128) = powP h 128 := by
    unfold sqN
    conv => lhs; arg 1; rw [hP, mulN_comm hh hr]
    rw [mulN_assoc hr hh (powP_lt hh _), hE, mulN_comm hr hh, ← hP]
  rcases idem (powP_lt hh _) hi with h0 | h1
  · left; rw [h0, mulN_zero] at hE; exact hE.symm
  · right
    have h2 : mulN (powP h 128) d = 0 := by rw [hP, mulN_comm hh hr, mulN_assoc hr hh hd, e, mulN_zero]
    rw [h1, ONE_mulN hd] at h2
    exact h2
theorem mulN_inj {h a b : Nat} (hh : h < 2 ^ 128) (h0 : h ≠ 0) (ha : a < 2 ^ 128) (hb : b < 2 ^ 128) (e : mulN a h = mulN b h) : a = b := by
  have h1 : mulN h (a ^^^ b) = 0 := by rw [mulN_right, mulN_comm hh ha, mulN_comm hh hb, e, Nat.xor_self]
  exact xor_eq_zero ((no_zero hh (Nat.xor_lt_two_pow ha hb) h1).resolve_left h0)
end Go.Proofs.YtnmmnlffobnbfaaGreatDoor

/- ghash: elements, times x -/
namespace Go.Proofs.YtnmmnlffobnbfaaGreatDoor
open Go.RowKit

def hiN (n : Nat) : Nat := n / 18446744073709551616
def loN (n : Nat) : Nat := n % 18446744073709551616
/-- An element's cells. -/
abbrev elc (n : Nat) : List Value := [U64 (hiN n), U64 (loN n)]
abbrev tEl : TypeId := 257
theorem hiN_lt {n : Nat} (h : n < 2 ^ 128) : hiN n < 18446744073709551616 := by unfold hiN; omega
theorem loN_lt (n : Nat) : loN n < 18446744073709551616 := by unfold loN; omega
theorem hilo (n : Nat) : hiN n * 18446744073709551616 + loN n = n := by unfold hiN loN; omega
theorem hiN_of {a b : Nat} (hb : b < 18446744073709551616) : hiN (a * 18446744073709551616 + b) = a := by unfold hiN; omega
theorem loN_of {a b : Nat} (hb : b < 18446744073709551616) : loN (a * 18446744073709551616 + b) = b := by unfold loN; omega
theorem hiN_xor (x y : Nat) : hiN (x ^^^ y) = hiN x ^^^ hiN y := Nat.xor_div_two_pow (n := 64)
theorem loN_xor (x y : Nat) : loN (x ^^^ y) = loN x ^^^ loN y := Nat.xor_mod_two_pow (n := 64)
theorem bx_nat (m k : Nat) (hm : m < 18446744073709551616) (hk : k < 18446744073709551616) : bits .xor .u64 (m : Int) (k : Int) = ((m ^^^ k : Nat) : Int) := by
  rw [u64_xor_nat _ _ hm hk]
theorem onN_hi (n : Nat) : hiN (onN n) = (hiN n / 2) ^^^ (if loN n % 2 = 1 then 16212958658533785600 else 0) := by
  unfold onN
  rw [hiN_xor, Nat.shiftRight_eq_div_pow, Nat.testBit_zero]
  have h1 : hiN (n / 2 ^ 1) = hiN n / 2 := by unfold hiN; omega
  have h2 : loN n % 2 = n % 2 := by unfold loN; omega
  rw [h1, h2]
  congr 1
  by_cases h : n % 2 = 1
  · simp only [h, decide_true, if_true]; decide
  · simp only [h, decide_false, if_false]; rfl
theorem onN_lo (n : Nat) : loN (onN n) = loN n / 2 + hiN n % 2 * 9223372036854775808 := by
  unfold onN
  have h0 : loN (if n.testBit 0 = true then W128 else 0) = 0 := by cases n.testBit 0 <;> decide
  rw [loN_xor, h0, Nat.xor_zero, Nat.shiftRight_eq_div_pow]
  unfold loN hiN
  omega
theorem or_half (x c : Nat) (h : x < 9223372036854775808) (hc : c < 2) : bits .or .u64 (x : Int) ((c * 9223372036854775808 : Nat) : Int) = ((x + c * 9223372036854775808 : Nat) : Int) := by
  rw [u64_or_nat _ _ (by omega) (by omega)]
  have := Nat.two_pow_add_eq_or_of_lt (i := 63) (b := x) (by omega) c
  rw [Nat.or_comm, show c * 9223372036854775808 = 2 ^ 63 * c by omega, ← this, Nat.add_comm]
theorem sizeEl : (Tryz.prog.info? 257).map (·.size) = some 2 := by kernel_rfl
theorem blkEl (w : World) (a b x d : Value) : Blk (((w.alloc (.cells #[a, b] tEl)).alloc (.cells #[x, d] tEl)).alloc (.cells #[x, d] tEl)) (w.heap.size + 1) [x, d] tEl := by
  have := (Blk.new (w.alloc (.cells #[a, b] tEl)) [x, d] tEl).alloc (.cells #[x, d] tEl)
  simpa using this
set_option maxRecDepth 100000 in
set_option maxHeartbeats 1000000 in
theorem on_any (w : World) (n : Nat) (hn : n < 2 ^ 128) :
    Calls Tryz.prog 223 #[.agg (elc n).toArray] w fun e w' => e = .returned (.agg (elc (onN n)).toArray) ∧ Below w.heap.size w w' := by
  obtain ⟨a, ha⟩ : ∃ a, hiN n = a := ⟨_, rfl⟩
  obtain ⟨b, hb⟩ : ∃ b, loN n = b := ⟨_, rfl⟩
  have h1 := onN_hi n
  have h2 := onN_lo n
  have la := hiN_lt hn
  have lb := loN_lt n
  unfold elc
  rw [ha, hb] at h1 h2
  rw [ha] at la
  rw [hb] at lb
  rw [ha, hb, h1, h2]
  obtain ⟨q, hq⟩ : ∃ q, a / 2 = q := ⟨_, rfl⟩
  obtain ⟨r, hr⟩ : ∃ r, b / 2 = r := ⟨_, rfl⟩
  obtain ⟨c, hc⟩ : ∃ c, a % 2 * 9223372036854775808 = c := ⟨_, rfl⟩
  obtain ⟨d, hd⟩ : ∃ d, r + c = d := ⟨_, rfl⟩
  obtain ⟨x, hx⟩ : ∃ x, q ^^^ 16212958658533785600 = x := ⟨_, rfl⟩
  have e1 : (a : Int) / 2 = (q : Int) := by omega
  have e2 : (b : Int) / 2 = (r : Int) := by omega
  have e3 : IntKind.u64.wrap ((a : Int) * 9223372036854775808) = (c : Int) := by rw [IntKind.wrap_u64]; omega
  have e4 : bits .or .u64 (r : Int) (c : Int) = (d : Int) := by rw [← hc, or_half _ _ (by omega) (by omega), hc, hd]
  have e5 : bits .xor .u64 (q : Int) 16212958658533785600 = (x : Int) := by
    have := bx_nat q 16212958658533785600 (by omega) (by decide)
    rw [hx] at this; exact this
  rw [hq, hr, hc, hd]
  have hB : ∀ o1 o2 o3 : Obj, Below w.heap.size w (((w.alloc o1).alloc o2).alloc o3) := fun o1 o2 o3 => (((Below.refl _ _).alloc (Nat.le_refl _) _).alloc (by simp) _).alloc (by simp; omega) _
  by_cases ho : b % 2 = 1
  · have e6 : bits .and .u64 (b : Int) 1 = 1 := by
      have := u64_and_nat b 1 lb (by decide)
      rw [Nat.and_one_is_mod, ho] at this; exact this
    rw [if_pos ho, hx]
    clear h1 h2 ha hb hn hq hr hc hd hx ho la lb
    go_enter Tryz.func223, Tryz.ntmps223
    go_wp2_with fail
    refine bodyPost_ret (v := .agg [U64 x, U64 d].toArray) (results_cell_row (P := Tryz.prog) (p := 2) (ty := 257) rfl _ _ (w.heap.size + 1) tEl _ (0, 0) _ rfl (blkEl w (U64 a) (U64 b) (U64 x) (U64 d)) Tryz.underlying257 rfl sizeEl) rfl ⟨rfl, hB _ _ _⟩
  · have e6 : bits .and .u64 (b : Int) 1 = 0 := by
      have := u64_and_nat b 1 lb (by decide)
      rw [Nat.and_one_is_mod, show b % 2 = 0 by omega] at this; exact this
    rw [if_neg ho, Nat.xor_zero]
    clear h1 h2 ha hb hn hq hr hc hd hx e5 ho la lb
    go_enter Tryz.func223, Tryz.ntmps223
    go_wp2_with fail
    refine bodyPost_ret (v := .agg [U64 q, U64 d].toArray) (results_cell_row (P := Tryz.prog) (p := 2) (ty := 257) rfl _ _ (w.heap.size + 1) tEl _ (0, 0) _ rfl (blkEl w (U64 a) (U64 b) (U64 q) (U64 d)) Tryz.underlying257 rfl sizeEl) rfl ⟨rfl, hB _ _ _⟩

theorem bit_hi (e k : Nat) (he : e < 2 ^ 128) (h : k ≤ 63) : bits .and .u64 ((hiN e : Int) / 2 ^ (63 - k)) 1 = if e.testBit (127 - k) = true then 1 else 0 := by
  have e1 : ((hiN e : Int) / 2 ^ (63 - k)) = ((hiN e / 2 ^ (63 - k) : Nat) : Int) := by simp
  have e3 : hiN e / 2 ^ (63 - k) = e / 2 ^ (127 - k) := by
    unfold hiN
    rw [show (18446744073709551616 : Nat) = 2 ^ 64 from rfl, Nat.div_div_eq_div_mul, ← Nat.pow_add]
    congr 2; omega
  have e2 := u64_and_nat (hiN e / 2 ^ (63 - k)) 1 (Nat.lt_of_le_of_lt (Nat.div_le_self _ _) (hiN_lt he)) (by decide)
  rw [e1]
  refine Eq.trans e2 ?_
  rw [Nat.and_one_is_mod, e3, Nat.testBit_eq_decide_div_mod_eq]
  by_cases h2 : e / 2 ^ (127 - k) % 2 = 1
  · rw [h2]; rfl
  · rw [show e / 2 ^ (127 - k) % 2 = 0 by omega]; rfl
theorem bit_lo (e s : Nat) (h : s ≤ 63) : bits .and .u64 ((loN e : Int) / 2 ^ s) 1 = if e.testBit s = true then 1 else 0 := by
  have e1 : ((loN e : Int) / 2 ^ s) = ((loN e / 2 ^ s : Nat) : Int) := by simp
  have e3 : (loN e).testBit s = e.testBit s := by
    show (e % 2 ^ 64).testBit s = _
    rw [Nat.testBit_mod_two_pow, decide_eq_true (by omega), Bool.true_and]
  have e2 := u64_and_nat (loN e / 2 ^ s) 1 (Nat.lt_of_le_of_lt (Nat.div_le_self _ _) (loN_lt e)) (by decide)
  rw [e1]
  refine Eq.trans e2 ?_
  rw [← e3, Nat.and_one_is_mod, Nat.testBit_eq_decide_div_mod_eq]
  by_cases h2 : loN e / 2 ^ s % 2 = 1
  · rw [h2]; rfl
  · rw [show loN e / 2 ^ s % 2 = 0 by omega]; rfl
set_option maxRecDepth 100000 in
set_option maxHeartbeats 2000000 in
theorem gtimes_any (w : World) (e f : Nat) (he : e < 2 ^ 128) (hf : f < 2 ^ 128) :
    Calls Tryz.prog 220 #[.agg (elc e).toArray, .agg (elc f).toArray] w fun e' w' => e' = .returned (.agg (elc (mulN e f)).toArray) ∧ Below w.heap.size w w' := by
  have HE := hid he
  have HF := hid hf
  clear he hf
  go_enter Tryz.func220, Tryz.ntmps220
  go_wp2_with fail
  go_loopw [9] (fun i wx => ∃ k : Nat, k ≤ 128 ∧ i = .int .i64 k ∧ Blk wx w.heap.size (elc e) tEl ∧ Blk wx (w.heap.size + 1) (elc (onI k f)) tEl ∧ Blk wx (w.heap.size + 1 + 1) (elc 0) tEl ∧ Blk wx (w.heap.size + 1 + 1 + 1) (elc (mulTo e f k)) tEl ∧ Below w.heap.size w wx) (fun i _ => 128 - (intOf i).toNat)
  case atStart =>
    refine ⟨0, by omega, rfl, ?_, ?_, ?_, ?_, ?_⟩
    · exact (((Blk.new w (elc e) tEl).alloc _).alloc _).alloc _
    · have := ((Blk.new (w.alloc (.cells (elc e).toArray tEl)) (elc f) tEl).alloc (.cells #[U64 0, U64 0] tEl)).alloc (.cells #[U64 0, U64 0] tEl)
      (simp only [World.size_alloc] at this; exact this)
    · have := (Blk.new ((w.alloc (.cells (elc e).toArray tEl)).alloc (.cells (elc f).toArray tEl)) (elc 0) tEl).alloc (.cells #[U64 0, U64 0] tEl)
      (simp only [World.size_alloc] at this; exact this)
    · have := Blk.new (((w.alloc (.cells (elc e).toArray tEl)).alloc (.cells (elc f).toArray tEl)).alloc (.cells #[U64 0, U64 0] tEl)) (elc 0) tEl
      (simp only [World.size_alloc] at this; exact this)
    · exact ((((Below.refl _ _).alloc (Nat.le_refl _) _).alloc (by simp) _).alloc (by simp; omega) _).alloc (by simp; omega) _
  case round =>
    obtain ⟨k, hk, rfl, h0, h1, h2, h3, hB⟩ := hrel
    by_cases hlt : k < 128
    · obtain ⟨F, hF⟩ : ∃ F, onI k f = F := ⟨_, rfl⟩
      obtain ⟨G, hG⟩ : ∃ G, onN F = G := ⟨_, rfl⟩
      obtain ⟨O, hO⟩ : ∃ O, mulTo e f k = O := ⟨_, rfl⟩
      have hFl : F < 2 ^ 128 := by rw [← hF]; exact onI_lt k HF.out
      have hOl : O < 2 ^ 128 := by rw [← hO]; exact mulTo_lt e HF.out k
      have hmu : mulTo e f (k + 1) = O ^^^ (if e.testBit (127 - k) = true then F else 0) := by rw [mulTo, hO, hF]
      have HFl := hid hFl
      have HOl := hid hOl
      have HG := hid hG
      have HFe := hid hF
      rw [hF] at h1
      rw [hO] at h3
      clear hF hG hO hFl hOl
      have c0 := h0.cell 0
      have c1 := h0.cell 1
      have d0 := h1.cell 0
      have d1 := h1.cell 1
      have g0 := h3.cell 0
      have g1 := h3.cell 1
      have f0 := h3.frozen 0
      have f1 := h3.frozen 1
      simp only [List.getElem?_cons_zero, List.getElem?_cons_succ] at c0 c1 d0 d1 g0 g1
      by_cases h63 : k ≤ 63
      · have q2 : ¬ (63 < (k : Int)) := by omega
        have hand := bit_hi e k HE.out h63
        have H0 := hid h0
        have H1 := hid h1
        have H2 := hid h2
        have H3 := hid h3
        have HBB := hid hB
        clear h0 h1 h2 h3 hB
        cases hbit : e.testBit (127 - k)
        · rw [hbit] at hand hmu
          simp only [Bool.false_eq_true, if_false, Nat.xor_zero] at hand hmu
          have Hmu := hid hmu
          clear hmu hbit
          go_wp2_with fail
          refine (on_any _ F HFl.out).mono ?_
          rintro e' w2 ⟨rfl, hB2⟩
          rw [HG.out]
          have l1 := H1.out.lt
          have l3 := H3.out.lt
          have h0 := H0.out.below hB2 H0.out.lt
          have h1 := H1.out.below hB2 H1.out.lt
          have h2 := H2.out.below hB2 H2.out.lt
          have h3 := H3.out.below hB2 H3.out.lt
          have hB := HBB.out.trans (hB2.mono HBB.out.size)
          have f0 := h1.frozen 0
          have f1 := h1.frozen 1
          have d0 := h1.cell 0
          have d1 := h1.cell 1
          simp only [List.getElem?_cons_zero, List.getElem?_cons_succ] at d0 d1
          have h1' := (h1.set 0 (U64 (hiN G))).set 1 (U64 (loN G))
          have h0' := (h0.setNe (a := ⟨w.heap.size + 1, 0, none⟩) (by simp) (U64 (hiN G))).setNe (a := ⟨w.heap.size + 1, 1, none⟩) (by simp) (U64 (loN G))
          have h2' := (h2.setNe (a := ⟨w.heap.size + 1, 0, none⟩) (by simp) (U64 (hiN G))).setNe (a := ⟨w.heap.size + 1, 1, none⟩) (by simp) (U64 (loN G))
          have h3' := (h3.setNe (a := ⟨w.heap.size + 1, 0, none⟩) (by simp only; omega) (U64 (hiN G))).setNe (a := ⟨w.heap.size + 1, 1, none⟩) (by simp only; omega) (U64 (loN G))
          have hB' := hB.trans ((((Chg.refl w.heap.size [] w2).setCell (p := ⟨w.heap.size + 1, 0, none⟩) (.inr (by simp)) (U64 (hiN G))).setCell (p := ⟨w.heap.size + 1, 1, none⟩) (.inr (by simp)) (U64 (loN G))).below (Nat.le_refl _) (by simp))
          have K1 := hid h1'
          have K0 := hid h0'
          have K2 := hid h2'
          have K3 := hid h3'
          have KB := hid hB'
          clear h0 h1 h2 h3 hB h1' h0' h2' h3' hB' l1 l3
          go_wp2_with fail
          go_roundw
          case rel => exact ⟨k + 1, by omega, by go_num, K0.out, by rw [onI_succ, HFe.out, HG.out]; exact K1.out, K2.out, by rw [Hmu.out]; exact K3.out, KB.out⟩
          case measure => (simp [intOf]; try omega)
        · rw [hbit] at hand hmu
          simp only [if_true] at hand hmu
          have hxa := bx_nat (hiN O) (hiN F) (hiN_lt HOl.out) (hiN_lt HFl.out)
          have hxb := bx_nat (loN O) (loN F) (loN_lt O) (loN_lt F)
          rw [← hiN_xor] at hxa
          rw [← loN_xor] at hxb
          obtain ⟨X, hX⟩ : ∃ X, O ^^^ F = X := ⟨_, rfl⟩
          rw [hX] at hxa hxb hmu
          have Hmu := hid hmu
          have L3 := H3.out.lt
          have h3 := (H3.out.set 0 (U64 (hiN X))).set 1 (U64 (loN X))
          have h0 := (H0.out.setNe (a := ⟨w.heap.size + 1 + 1 + 1, 0, none⟩) (by simp only; omega) (U64 (hiN X))).setNe (a := ⟨w.heap.size + 1 + 1 + 1, 1, none⟩) (by simp only; omega) (U64 (loN X))
          have h1 := (H1.out.setNe (a := ⟨w.heap.size + 1 + 1 + 1, 0, none⟩) (by simp only; omega) (U64 (hiN X))).setNe (a := ⟨w.heap.size + 1 + 1 + 1, 1, none⟩) (by simp only; omega) (U64 (loN X))
          have h2 := (H2.out.setNe (a := ⟨w.heap.size + 1 + 1 + 1, 0, none⟩) (by simp only; omega) (U64 (hiN X))).setNe (a := ⟨w.heap.size + 1 + 1 + 1, 1, none⟩) (by simp only; omega) (U64 (loN X))
          have hB := HBB.out.trans ((((Chg.refl w.heap.size [] wr).setCell (p := ⟨w.heap.size + 1 + 1 + 1, 0, none⟩) (.inr (by simp only; omega)) (U64 (hiN X))).setCell (p := ⟨w.heap.size + 1 + 1 + 1, 1, none⟩) (.inr (by simp only; omega)) (U64 (loN X))).below (Nat.le_refl _) (by simp))
          clear H0 H1 H2 H3 HBB
          have H0 := hid h0
          have H1 := hid h1
          have H2 := hid h2
          have H3 := hid h3
          have HBB := hid hB
          clear h0 h1 h2 h3 hB hmu hbit hX
          go_wp2_with fail
          refine (on_any _ F HFl.out).mono ?_
          rintro e' w2 ⟨rfl, hB2⟩
          rw [HG.out]
          have l1 := H1.out.lt
          have l3 := H3.out.lt
          have h0 := H0.out.below hB2 H0.out.lt
          have h1 := H1.out.below hB2 H1.out.lt
          have h2 := H2.out.below hB2 H2.out.lt
          have h3 := H3.out.below hB2 H3.out.lt
          have hB := HBB.out.trans (hB2.mono HBB.out.size)
          have f0 := h1.frozen 0
          have f1 := h1.frozen 1
          have d0 := h1.cell 0
          have d1 := h1.cell 1
          simp only [List.getElem?_cons_zero, List.getElem?_cons_succ] at d0 d1
          have h1' := (h1.set 0 (U64 (hiN G))).set 1 (U64 (loN G))
          have h0' := (h0.setNe (a := ⟨w.heap.size + 1, 0, none⟩) (by simp) (U64 (hiN G))).setNe (a := ⟨w.heap.size + 1, 1, none⟩) (by simp) (U64 (loN G))
          have h2' := (h2.setNe (a := ⟨w.heap.size + 1, 0, none⟩) (by simp) (U64 (hiN G))).setNe (a := ⟨w.heap.size + 1, 1, none⟩) (by simp) (U64 (loN G))
          have h3' := (h3.setNe (a := ⟨w.heap.size + 1, 0, none⟩) (by simp only; omega) (U64 (hiN G))).setNe (a := ⟨w.heap.size + 1, 1, none⟩) (by simp only; omega) (U64 (loN G))
          have hB' := hB.trans ((((Chg.refl w.heap.size [] w2).setCell (p := ⟨w.heap.size + 1, 0, none⟩) (.inr (by simp)) (U64 (hiN G))).setCell (p := ⟨w.heap.size + 1, 1, none⟩) (.inr (by simp)) (U64 (loN G))).below (Nat.le_refl _) (by simp))
          have K1 := hid h1'
          have K0 := hid h0'
          have K2 := hid h2'
          have K3 := hid h3'
          have KB := hid hB'
          clear h0 h1 h2 h3 hB h1' h0' h2' h3' hB' l1 l3
          go_wp2_with fail
          go_roundw
          case rel => exact ⟨k + 1, by omega, by go_num, K0.out, by rw [onI_succ, HFe.out, HG.out]; exact K1.out, K2.out, by rw [Hmu.out]; exact K3.out, KB.out⟩
          case measure => (simp [intOf]; try omega)
      ·
        have q2 : 63 < (k : Int) := by omega
        obtain ⟨s, hs⟩ : ∃ s, 127 - k = s := ⟨_, rfl⟩
        have q3 : (63 : Int) - ((k : Int) - 63 - 1) = (s : Int) := by omega
        have q4 : (0 : Int) ≤ (s : Int) := by omega
        have hand := bit_lo e s (by omega)
        rw [hs] at hmu
        clear hs
        have H0 := hid h0
        have H1 := hid h1
        have H2 := hid h2
        have H3 := hid h3
        have HBB := hid hB
        clear h0 h1 h2 h3 hB
        cases hbit : e.testBit s
        · rw [hbit] at hand hmu
          simp only [Bool.false_eq_true, if_false, Nat.xor_zero] at hand hmu
          have Hmu := hid hmu
          clear hmu hbit
          go_wp2_with fail
          refine (on_any _ F HFl.out).mono ?_
          rintro e' w2 ⟨rfl, hB2⟩
          rw [HG.out]
          have l1 := H1.out.lt
          have l3 := H3.out.lt
          have h0 := H0.out.below hB2 H0.out.lt
          have h1 := H1.out.below hB2 H1.out.lt
          have h2 := H2.out.below hB2 H2.out.lt
          have h3 := H3.out.below hB2 H3.out.lt
          have hB := HBB.out.trans (hB2.mono HBB.out.size)
          have f0 := h1.frozen 0
          have f1 := h1.frozen 1
          have d0 := h1.cell 0
          have d1 := h1.cell 1
          simp only [List.getElem?_cons_zero, List.getElem?_cons_succ] at d0 d1
          have h1' := (h1.set 0 (U64 (hiN G))).set 1 (U64 (loN G))
          have h0' := (h0.setNe (a := ⟨w.heap.size + 1, 0, none⟩) (by simp) (U64 (hiN G))).setNe (a := ⟨w.heap.size + 1, 1, none⟩) (by simp) (U64 (loN G))
          have h2' := (h2.setNe (a := ⟨w.heap.size + 1, 0, none⟩) (by simp) (U64 (hiN G))).setNe (a := ⟨w.heap.size + 1, 1, none⟩) (by simp) (U64 (loN G))
          have h3' := (h3.setNe (a := ⟨w.heap.size + 1, 0, none⟩) (by simp only; omega) (U64 (hiN G))).setNe (a := ⟨w.heap.size + 1, 1, none⟩) (by simp only; omega) (U64 (loN G))
          have hB' := hB.trans ((((Chg.refl w.heap.size [] w2).setCell (p := ⟨w.heap.size + 1, 0, none⟩) (.inr (by simp)) (U64 (hiN G))).setCell (p := ⟨w.heap.size + 1, 1, none⟩) (.inr (by simp)) (U64 (loN G))).below (Nat.le_refl _) (by simp))
          have K1 := hid h1'
          have K0 := hid h0'
          have K2 := hid h2'
          have K3 := hid h3'
          have KB := hid hB'
          clear h0 h1 h2 h3 hB h1' h0' h2' h3' hB' l1 l3
          go_wp2_with fail
          go_roundw
          case rel => exact ⟨k + 1, by omega, by go_num, K0.out, by rw [onI_succ, HFe.out, HG.out]; exact K1.out, K2.out, by rw [Hmu.out]; exact K3.out, KB.out⟩
          case measure => (simp [intOf]; try omega)
        · rw [hbit] at hand hmu
          simp only [if_true] at hand hmu
          have hxa := bx_nat (hiN O) (hiN F) (hiN_lt HOl.out) (hiN_lt HFl.out)
          have hxb := bx_nat (loN O) (loN F) (loN_lt O) (loN_lt F)
          rw [← hiN_xor] at hxa
          rw [← loN_xor] at hxb
          obtain ⟨X, hX⟩ : ∃ X, O ^^^ F = X := ⟨_, rfl⟩
          rw [hX] at hxa hxb hmu
          have Hmu := hid hmu
          have L3 := H3.out.lt
          have h3 := (H3.out.set 0 (U64 (hiN X))).set 1 (U64 (loN X))
          have h0 := (H0.out.setNe (a := ⟨w.heap.size + 1 + 1 + 1, 0, none⟩) (by simp only; omega) (U64 (hiN X))).setNe (a := ⟨w.heap.size + 1 + 1 + 1, 1, none⟩) (by simp only; omega) (U64 (loN X))
          have h1 := (H1.out.setNe (a := ⟨w.heap.size + 1 + 1 + 1, 0, none⟩) (by simp only; omega) (U64 (hiN X))).setNe (a := ⟨w.heap.size + 1 + 1 + 1, 1, none⟩) (by simp only; omega) (U64 (loN X))
          have h2 := (H2.out.setNe (a := ⟨w.heap.size + 1 + 1 + 1, 0, none⟩) (by simp only; omega) (U64 (hiN X))).setNe (a := ⟨w.heap.size + 1 + 1 + 1, 1, none⟩) (by simp only; omega) (U64 (loN X))
          have hB := HBB.out.trans ((((Chg.refl w.heap.size [] wr).setCell (p := ⟨w.heap.size + 1 + 1 + 1, 0, none⟩) (.inr (by simp only; omega)) (U64 (hiN X))).setCell (p := ⟨w.heap.size + 1 + 1 + 1, 1, none⟩) (.inr (by simp only; omega)) (U64 (loN X))).below (Nat.le_refl _) (by simp))
          clear H0 H1 H2 H3 HBB
          have H0 := hid h0
          have H1 := hid h1
          have H2 := hid h2
          have H3 := hid h3
          have HBB := hid hB
          clear h0 h1 h2 h3 hB hmu hbit hX
          go_wp2_with fail
          refine (on_any _ F HFl.out).mono ?_
          rintro e' w2 ⟨rfl, hB2⟩
          rw [HG.out]
          have l1 := H1.out.lt
          have l3 := H3.out.lt
          have h0 := H0.out.below hB2 H0.out.lt
          have h1 := H1.out.below hB2 H1.out.lt
          have h2 := H2.out.below hB2 H2.out.lt
          have h3 := H3.out.below hB2 H3.out.lt
          have hB := HBB.out.trans (hB2.mono HBB.out.size)
          have f0 := h1.frozen 0
          have f1 := h1.frozen 1
          have d0 := h1.cell 0
          have d1 := h1.cell 1
          simp only [List.getElem?_cons_zero, List.getElem?_cons_succ] at d0 d1
          have h1' := (h1.set 0 (U64 (hiN G))).set 1 (U64 (loN G))
          have h0' := (h0.setNe (a := ⟨w.heap.size + 1, 0, none⟩) (by simp) (U64 (hiN G))).setNe (a := ⟨w.heap.size + 1, 1, none⟩) (by simp) (U64 (loN G))
          have h2' := (h2.setNe (a := ⟨w.heap.size + 1, 0, none⟩) (by simp) (U64 (hiN G))).setNe (a := ⟨w.heap.size + 1, 1, none⟩) (by simp) (U64 (loN G))
          have h3' := (h3.setNe (a := ⟨w.heap.size + 1, 0, none⟩) (by simp only; omega) (U64 (hiN G))).setNe (a := ⟨w.heap.size + 1, 1, none⟩) (by simp only; omega) (U64 (loN G))
          have hB' := hB.trans ((((Chg.refl w.heap.size [] w2).setCell (p := ⟨w.heap.size + 1, 0, none⟩) (.inr (by simp)) (U64 (hiN G))).setCell (p := ⟨w.heap.size + 1, 1, none⟩) (.inr (by simp)) (U64 (loN G))).below (Nat.le_refl _) (by simp))
          have K1 := hid h1'
          have K0 := hid h0'
          have K2 := hid h2'
          have K3 := hid h3'
          have KB := hid hB'
          clear h0 h1 h2 h3 hB h1' h0' h2' h3' hB' l1 l3
          go_wp2_with fail
          go_roundw
          case rel => exact ⟨k + 1, by omega, by go_num, K0.out, by rw [onI_succ, HFe.out, HG.out]; exact K1.out, K2.out, by rw [Hmu.out]; exact K3.out, KB.out⟩
          case measure => (simp [intOf]; try omega)
    · have hke : k = 128 := by omega
      obtain ⟨O, hO⟩ : ∃ O, mulN e f = O := ⟨_, rfl⟩
      rw [hke, show mulTo e f 128 = mulN e f from rfl, hO] at h3
      have HO := hid hO
      have q1 : ¬ ((k : Int) < 128) := by omega
      clear hO hke hlt
      have g0 := h3.cell 0
      have g1 := h3.cell 1
      have r0 := h2.cell 0
      have r1 := h2.cell 1
      have f0 := h2.frozen 0
      have f1 := h2.frozen 1
      simp only [List.getElem?_cons_zero, List.getElem?_cons_succ] at g0 g1 r0 r1
      have L := h2.lt
      have h2' := (h2.set 0 (U64 (hiN O))).set 1 (U64 (loN O))
      have hB' := hB.trans ((((Chg.refl w.heap.size [] wr).setCell (p := ⟨w.heap.size + 1 + 1, 0, none⟩) (.inr (by simp only; omega)) (U64 (hiN O))).setCell (p := ⟨w.heap.size + 1 + 1, 1, none⟩) (.inr (by simp only; omega)) (U64 (loN O))).below (Nat.le_refl _) (by simp))
      have H2 := hid h2'
      have HBB := hid hB'
      clear h0 h1 h2 h3 hB h2' hB'
      go_wp2_with fail
      refine bodyPost_ret (v := .agg (elc O).toArray) (results_cell_row (P := Tryz.prog) (p := 4) (ty := 257) rfl _ _ (w.heap.size + 1 + 1) tEl _ (0, 0) _ rfl H2.out Tryz.underlying257 rfl sizeEl) rfl ⟨by rw [HO.out], HBB.out⟩
end Go.Proofs.YtnmmnlffobnbfaaGreatDoor

/- GCM's hash over blocks, and the reference's product of polynomials: plain lemmas -/
namespace Go.Proofs.YtnmmnlffobnbfaaGreatDoor
open Go.RowKit

/-- Block j of a row, noughts behind where it ends. -/
def blkZ (b : List UInt8) (j : Nat) : List UInt8 := ((b.drop (16 * j)).take 16) ++ List.replicate (16 - ((b.drop (16 * j)).take 16).length) 0
theorem blkZ_len (b : List UInt8) (j : Nat) : (blkZ b j).length = 16 := by simp only [blkZ, List.length_append, List.length_replicate, List.length_take, List.length_drop]; omega
theorem be16 {x : List UInt8} (h : x.length = 16) : be x < 2 ^ 128 := by
  have := be_lt x
  rw [h] at this
  exact this
/-- The hash behind j blocks. -/
def ghN (h : Nat) (b : List UInt8) : Nat → Nat
  | 0 => 0
  | j + 1 => mulN (ghN h b j ^^^ be (blkZ b j)) h
theorem ghN_lt {h : Nat} (hh : h < 2 ^ 128) (b : List UInt8) : ∀ j, ghN h b j < 2 ^ 128
  | 0 => by show 0 < 2 ^ 128; decide
  | j + 1 => mulN_lt _ hh
/-- Blocks of a row. -/
def nblk (n : Nat) : Nat := (n + 15) / 16
/-- The hash of a row. -/
def ghF (h : List UInt8) (b : List UInt8) : List UInt8 := toBe 16 (ghN (be h) b (nblk b.length))
theorem ghF_len (h b : List UInt8) : (ghF h b).length = 16 := toBe_len _ _
/-- Noughts up to whole blocks. -/
def padZ (b : List UInt8) : List UInt8 := b ++ List.replicate ((16 - b.length % 16) % 16) 0
theorem padZ_len (b : List UInt8) : (padZ b).length = 16 * nblk b.length := by simp only [padZ, List.length_append, List.length_replicate, nblk]; omega
/-- Rows that differ in one block alone have other hashes. -/
theorem ghN_apart {h : Nat} (hh : h < 2 ^ 128) (h0 : h ≠ 0) (a b : List UInt8) (i : Nat) (hd : blkZ a i ≠ blkZ b i) (he : ∀ j, j ≠ i → blkZ a j = blkZ b j) : ∀ k, (k ≤ i → ghN h a k = ghN h b k) ∧ (i < k → ghN h a k ≠ ghN h b k)
  | 0 => ⟨fun _ => rfl, fun h => absurd h (Nat.not_lt_zero _)⟩
  | k + 1 => by
    obtain ⟨h1, h2⟩ := ghN_apart hh h0 a b i hd he k
    have la := ghN_lt hh a k
    have lb := ghN_lt hh b k
    have ba := be16 (blkZ_len a k)
    have bb := be16 (blkZ_len b k)
    have xc : ∀ {x y z t : Nat}, x ^^^ y = z ^^^ t → x = z → y = t := fun {x y z t} e e2 => by
      subst e2
      have : x ^^^ (x ^^^ y) = x ^^^ (x ^^^ t) := by rw [e]
      rwa [← Nat.xor_assoc, ← Nat.xor_assoc, Nat.xor_self, Nat.zero_xor, Nat.zero_xor] at this
    refine ⟨fun hk => ?_, fun hk e => ?_⟩
    · rw [ghN, ghN, h1 (by omega), he k (by omega)]
    · rw [ghN, ghN] at e
      have e2 := mulN_inj hh h0 (Nat.xor_lt_two_pow la ba) (Nat.xor_lt_two_pow lb bb) e
      by_cases hki : k = i
      · subst hki
        exact hd (be_inj (by rw [blkZ_len, blkZ_len]) (xc e2 (h1 (Nat.le_refl _))))
      · rw [he k hki] at e2
        rw [Nat.xor_comm (ghN h a k), Nat.xor_comm (ghN h b k)] at e2
        exact h2 (by omega) (xc e2 rfl)

/-! ## The reference's product -/
/-- The i-th bit of a block, the highest first. -/
def atB (a : List UInt8) (i : Nat) : Nat := ((a.getD (i / 8) 0) >>> UInt8.ofNat (7 - i % 8)).toNat % 2
theorem be_get : ∀ (l : List UInt8) (q : Nat), q < l.length → be l / 256 ^ (l.length - 1 - q) % 256 = (l.getD q 0).toNat
  | [], _, h => by simp at h
  | c :: l, q, h => by
    have e : be (c :: l) = be [c] * 256 ^ l.length + be l := be_append [c] l
    have e1 : be [c] = c.toNat := by simp [be]
    have hl := be_lt l
    have hp : 0 < 256 ^ l.length := Nat.pow_pos (by decide)
    cases q with
    | zero =>
      have : (c :: l).length - 1 - 0 = l.length := by simp
      rw [this, e, e1, Nat.mul_comm, Nat.mul_add_div hp, Nat.div_eq_of_lt hl, Nat.add_zero, Nat.mod_eq_of_lt c.toNat_lt]
      simp
    | succ q =>
      have hq : q < l.length := by simpa using h
      have h2 : (c :: l).length - 1 - (q + 1) = l.length - 1 - q := by simp; omega
      have ih := be_get l q hq
      rw [h2, e]
      have e3 : 256 ^ l.length = 256 ^ (l.length - 1 - q) * (256 * 256 ^ q) := by
        rw [← Nat.mul_assoc, ← Nat.pow_succ, ← Nat.pow_add]; congr 1; omega
      rw [e3, ← Nat.mul_assoc, Nat.mul_comm (be [c]), Nat.mul_assoc, Nat.mul_add_div (Nat.pow_pos (by decide)), ← Nat.mul_assoc, Nat.mul_comm _ 256, Nat.mul_assoc, Nat.mul_add_mod, ih]
      simp
theorem testBit_be {a : List UInt8} (ha : a.length = 16) (i : Nat) (hi : i < 128) : (be a).testBit (127 - i) = decide (atB a i = 1) := by
  have h := be_get a (i / 8) (by omega)
  rw [ha] at h
  unfold atB
  rw [UInt8.toNat_shiftRight, Nat.testBit_eq_decide_div_mod_eq]
  have e2 : (UInt8.ofNat (7 - i % 8)).toNat % 8 = 7 - i % 8 := by simp; omega
  rw [e2, ← h, Nat.shiftRight_eq_div_pow]
  have e3 : 2 ^ (127 - i) = 256 ^ (16 - 1 - i / 8) * 2 ^ (7 - i % 8) := by
    rw [show (256 : Nat) = 2 ^ 8 from rfl, ← Nat.pow_mul, ← Nat.pow_add]; congr 1; omega
  rw [e3, ← Nat.div_div_eq_div_mul]
  generalize be a / 256 ^ (16 - 1 - i / 8) = x
  have : x % 256 / 2 ^ (7 - i % 8) % 2 = x / 2 ^ (7 - i % 8) % 2 := by
    have h8 : ∀ s, s < 8 → ∀ x, x % 256 / 2 ^ s % 2 = x / 2 ^ s % 2 := fun s hs x => by
      have : s = 0 ∨ s = 1 ∨ s = 2 ∨ s = 3 ∨ s = 4 ∨ s = 5 ∨ s = 6 ∨ s = 7 := by omega
      rcases this with rfl | rfl | rfl | rfl | rfl | rfl | rfl | rfl <;> omega
    exact h8 _ (by omega) x
  rw [this]
/-- What a row of numbers comes to: those that are odd. -/
def vP (p : List Nat) : Nat → Nat
  | 0 => 0
  | j + 1 => vP p j ^^^ (if p.getD j 0 % 2 = 1 then onI j ONE else 0)
theorem vP_lt (p : List Nat) : ∀ m, vP p m < 2 ^ 128
  | 0 => by show 0 < 2 ^ 128; decide
  | m + 1 => by
    rw [vP]
    refine Nat.xor_lt_two_pow (vP_lt p m) ?_
    split
    · exact onI_lt _ ONE_lt
    · decide
theorem vP_zero (m : Nat) (n : Nat) : vP (List.replicate n 0) m = 0 := by
  induction m with
  | zero => rfl
  | succ m ih =>
    rw [vP, ih]
    have : (List.replicate n 0).getD m 0 = 0 := by simp only [List.getD, List.getElem?_replicate]; split <;> rfl
    rw [this]; simp
/-- One more at place j. -/
def incP (p : List Nat) (j : Nat) : List Nat := p.set j (p.getD j 0 + 1)
theorem incP_len (p : List Nat) (j : Nat) : (incP p j).length = p.length := by simp [incP]
theorem incP_get (p : List Nat) (j i : Nat) (h : j < p.length) : (incP p j).getD i 0 = if i = j then p.getD i 0 + 1 else p.getD i 0 := by
  unfold incP
  by_cases e : i = j
  · subst e; simp [List.getD, h]
  · simp [List.getD, Ne.symm e, e]
theorem vP_inc (p : List Nat) (j : Nat) (h : j < p.length) : ∀ m, vP (incP p j) m = vP p m ^^^ (if j < m then onI j ONE else 0)
  | 0 => by simp [vP]
  | m + 1 => by
    rw [vP, vP_inc p j h m, vP, incP_get p j m h]
    by_cases e : m = j
    · subst e
      rw [if_pos rfl, if_neg (Nat.lt_irrefl _), Nat.xor_zero, if_pos (Nat.lt_succ_self _), Nat.xor_assoc]
      congr 1
      by_cases ho : p.getD m 0 % 2 = 1
      · rw [if_pos ho, if_neg (by omega), Nat.xor_self]
      · rw [if_neg ho, if_pos (by omega), Nat.zero_xor]
    · rw [if_neg e, Nat.xor_assoc, Nat.xor_assoc]
      congr 1
      rw [Nat.xor_comm]
      congr 1
      by_cases hl : j < m
      · rw [if_pos hl, if_pos (by omega)]
      · rw [if_neg hl, if_neg (by omega)]
/-- What stands above the 127th is taken in. -/
theorem onI_down (i : Nat) (h : 128 ≤ i) : onI i ONE = onI (i - 128) ONE ^^^ onI (i - 127) ONE ^^^ onI (i - 126) ONE ^^^ onI (i - 121) ONE := by
  obtain ⟨k, rfl⟩ : ∃ k, i = k + 128 := ⟨i - 128, by omega⟩
  rw [show k + 128 - 128 = k + 0 by omega, show k + 128 - 127 = k + 1 by omega, show k + 128 - 126 = k + 2 by omega, show k + 128 - 121 = k + 7 by omega]
  rw [onI_add k 128, onI_add k 0, onI_add k 1, onI_add k 2, onI_add k 7, ← onI_xor, ← onI_xor, ← onI_xor]
  exact congrArg (onI k) (by decide +kernel)
/-- Row i of the product: k of its bits are in. -/
def rowP (i : Nat) (b : List UInt8) (p : List Nat) : Nat → List Nat
  | 0 => p
  | k + 1 => if atB b k = 1 then incP (rowP i b p k) (i + k) else rowP i b p k
theorem rowP_len (i : Nat) (b : List UInt8) (p : List Nat) : ∀ k, (rowP i b p k).length = p.length
  | 0 => rfl
  | k + 1 => by rw [rowP]; split; rw [incP_len, rowP_len i b p k]; exact rowP_len i b p k
theorem rowP_le (i : Nat) (b : List UInt8) (p : List Nat) (B : Nat) (h : ∀ j, p.getD j 0 ≤ B) : ∀ k, k + i ≤ p.length → ∀ j, (rowP i b p k).getD j 0 ≤ B + k
  | 0, _, j => h j
  | k + 1, hk, j => by
    have ih := rowP_le i b p B h k (by omega) j
    rw [rowP]
    split
    · rw [incP_get _ _ _ (by rw [rowP_len]; omega)]
      split <;> omega
    · omega
theorem rowP_vP (i : Nat) (b : List UInt8) (hb : b.length = 16) (p : List Nat) (hp : p.length = 256) (hi : i < 128) : ∀ k, k ≤ 128 → vP (rowP i b p k) 255 = vP p 255 ^^^ onI i (mulTo (be b) ONE k)
  | 0, _ => by rw [mulTo, onI_zero, Nat.xor_zero]; rfl
  | k + 1, hk => by
    rw [rowP, mulTo, onI_xor, testBit_be hb k (by omega)]
    by_cases hb1 : atB b k = 1
    · rw [if_pos hb1, vP_inc _ _ (by rw [rowP_len]; omega), rowP_vP i b hb p hp hi k (by omega), if_pos (by omega), Nat.xor_assoc, onI_add]
      simp [hb1]
    · rw [if_neg hb1, rowP_vP i b hb p hp hi k (by omega)]
      simp [hb1, onI_zero]
/-- i rows of the product. -/
def prodP (a b : List UInt8) : Nat → List Nat
  | 0 => List.replicate 256 0
  | i + 1 => if atB a i = 1 then rowP i b (prodP a b i) 128 else prodP a b i
theorem prodP_len (a b : List UInt8) : ∀ i, (prodP a b i).length = 256
  | 0 => by rw [prodP, List.length_replicate]
  | i + 1 => by rw [prodP]; split; rw [rowP_len, prodP_len a b i]; exact prodP_len a b i
theorem prodP_le (a b : List UInt8) : ∀ i, i ≤ 128 → ∀ j, (prodP a b i).getD j 0 ≤ 128 * i
  | 0, _, j => by
    have : (List.replicate 256 0).getD j 0 = 0 := by simp only [List.getD, List.getElem?_replicate]; split <;> rfl
    rw [prodP, this]; exact Nat.zero_le _
  | i + 1, h, j => by
    rw [prodP]
    split
    · have := rowP_le i b (prodP a b i) (128 * i) (prodP_le a b i (by omega)) 128 (by rw [prodP_len]; omega) j
      omega
    · have := prodP_le a b i (by omega) j
      omega
theorem prodP_vP (a b : List UInt8) (ha : a.length = 16) (hb : b.length = 16) : ∀ i, i ≤ 128 → vP (prodP a b i) 255 = mulTo (be a) (be b) i
  | 0, _ => vP_zero _ _
  | i + 1, h => by
    rw [prodP, mulTo, testBit_be ha i (by omega)]
    by_cases h1 : atB a i = 1
    · rw [if_pos h1, rowP_vP i b hb _ (prodP_len a b i) (by omega) 128 (Nat.le_refl _), prodP_vP a b ha hb i (by omega), show mulTo (be b) ONE 128 = be b from mulN_ONE (be16 hb)]
      simp only [h1, decide_true, if_true]
    · rw [if_neg h1, prodP_vP a b ha hb i (by omega)]
      simp only [h1, decide_false, Bool.false_eq_true, if_false, Nat.xor_zero]
/-- What stands at i, taken in. -/
def downP (p : List Nat) (i : Nat) : List Nat := if p.getD i 0 % 2 = 1 then incP (incP (incP (incP p (i - 128)) (i - 127)) (i - 126)) (i - 121) else p
theorem downP_len (p : List Nat) (i : Nat) : (downP p i).length = p.length := by unfold downP; split <;> simp [incP_len]
theorem incP_le (p : List Nat) (j B : Nat) (hj : j < p.length) (h : ∀ i, p.getD i 0 ≤ B) : ∀ i, (incP p j).getD i 0 ≤ B + 1 := fun i => by
  have := h i
  rw [incP_get p j i hj]
  split <;> omega
theorem downP_le (p : List Nat) (i B : Nat) (hp : p.length = 256) (hi : i < 256) (h : ∀ j, p.getD j 0 ≤ B) : ∀ j, (downP p i).getD j 0 ≤ B + 4 := by
  intro j
  unfold downP
  split
  · exact incP_le _ _ _ (by simp only [incP_len]; omega) (incP_le _ _ _ (by simp only [incP_len]; omega) (incP_le _ _ _ (by simp only [incP_len]; omega) (incP_le _ _ _ (by omega) h))) j
  · have := h j; omega
theorem downP_vP (p : List Nat) (i : Nat) (hp : p.length = 256) (hi : i < 256) (h : 128 ≤ i) : vP (downP p i) i = vP p (i + 1) := by
  unfold downP
  rw [vP]
  by_cases ho : p.getD i 0 % 2 = 1
  · rw [if_pos ho, if_pos ho, vP_inc _ _ (by simp only [incP_len]; omega), vP_inc _ _ (by simp only [incP_len]; omega), vP_inc _ _ (by simp only [incP_len]; omega), vP_inc _ _ (by omega),
      if_pos (by omega), if_pos (by omega), if_pos (by omega), if_pos (by omega), onI_down i h]
    simp only [Nat.xor_assoc]
  · rw [if_neg ho, if_neg ho, Nat.xor_zero]
/-- d places from the 254th on, taken in. -/
def foldP (p : List Nat) : Nat → List Nat
  | 0 => p
  | d + 1 => downP (foldP p d) (254 - d)
theorem foldP_len (p : List Nat) : ∀ d, (foldP p d).length = p.length
  | 0 => rfl
  | d + 1 => by rw [foldP, downP_len, foldP_len p d]
theorem foldP_le (p : List Nat) (B : Nat) (hp : p.length = 256) (h : ∀ j, p.getD j 0 ≤ B) : ∀ d, ∀ j, (foldP p d).getD j 0 ≤ B + 4 * d
  | 0, j => h j
  | d + 1, j => by
    have := downP_le (foldP p d) (254 - d) (B + 4 * d) (by rw [foldP_len, hp]) (by omega) (foldP_le p B hp h d) j
    rw [foldP]; omega
theorem foldP_vP (p : List Nat) (hp : p.length = 256) : ∀ d, d ≤ 127 → vP (foldP p d) (255 - d) = vP p 255
  | 0, _ => rfl
  | d + 1, h => by
    have := downP_vP (foldP p d) (254 - d) (by rw [foldP_len, hp]) (by omega) (by omega)
    rw [foldP, show 255 - (d + 1) = 254 - d by omega, this, show 254 - d + 1 = 255 - d by omega, foldP_vP p hp d (by omega)]
/-- A bit of a block, set. -/
def setB (x : List UInt8) (i : Nat) : List UInt8 := x.set (i / 8) (x.getD (i / 8) 0 ||| ((1 : UInt8) <<< UInt8.ofNat (7 - i % 8)))
/-- The bits of a row of numbers, i of them. -/
def outP (p : List Nat) : Nat → List UInt8
  | 0 => List.replicate 16 0
  | i + 1 => if p.getD i 0 % 2 = 1 then setB (outP p i) i else outP p i
theorem outP_len (p : List Nat) : ∀ i, (outP p i).length = 16
  | 0 => by simp [outP]
  | i + 1 => by rw [outP]; split; unfold setB; rw [List.length_set, outP_len p i]; exact outP_len p i
def bitTest : Bool := (List.range 256).all fun x => (List.range 8).all fun s => (List.range 8).all fun t =>
  ((UInt8.ofNat x ||| ((1 : UInt8) <<< UInt8.ofNat (7 - s))) >>> UInt8.ofNat (7 - t)).toNat % 2 == if s = t then 1 else (UInt8.ofNat x >>> UInt8.ofNat (7 - t)).toNat % 2
set_option maxRecDepth 100000 in
theorem bitTest_ok : bitTest = true := by decide +kernel
theorem setB_at (x : List UInt8) (hx : x.length = 16) (i j : Nat) (hi : i < 128) : atB (setB x i) j = if i = j then 1 else atB x j := by
  have hb := bitTest_ok
  unfold bitTest at hb
  rw [List.all_eq_true] at hb
  have h1 := hb (x.getD (i / 8) 0).toNat (by have := (x.getD (i / 8) 0).toNat_lt; simpa using this)
  rw [List.all_eq_true] at h1
  have h2 := h1 (i % 8) (by simp; omega)
  rw [List.all_eq_true] at h2
  have h3 := h2 (j % 8) (by simp; omega)
  rw [beq_iff_eq, UInt8.ofNat_toNat] at h3
  unfold atB setB
  by_cases e : j / 8 = i / 8
  · have e1 : (x.set (i / 8) (x.getD (i / 8) 0 ||| ((1 : UInt8) <<< UInt8.ofNat (7 - i % 8)))).getD (j / 8) 0 = x.getD (i / 8) 0 ||| ((1 : UInt8) <<< UInt8.ofNat (7 - i % 8)) := by
      rw [e]; simp [List.getD, show i / 8 < x.length by omega]
    rw [e1, h3, e]
    by_cases e2 : i % 8 = j % 8
    · rw [if_pos e2, if_pos (by omega)]
    · rw [if_neg e2, if_neg (by omega)]
  · have e1 : (x.set (i / 8) (x.getD (i / 8) 0 ||| ((1 : UInt8) <<< UInt8.ofNat (7 - i % 8)))).getD (j / 8) 0 = x.getD (j / 8) 0 := by
      simp [List.getD, Ne.symm e]
    rw [e1, if_neg (by intro e3; subst e3; exact e rfl)]
theorem outP_at (p : List Nat) : ∀ i, i ≤ 128 → ∀ j, atB (outP p i) j = if j < i ∧ p.getD j 0 % 2 = 1 then 1 else 0
  | 0, _, j => by
    have : (List.replicate 16 (0 : UInt8)).getD (j / 8) 0 = 0 := by simp only [List.getD, List.getElem?_replicate]; split <;> rfl
    unfold atB outP
    rw [this, if_neg (by omega)]
    simp
  | i + 1, h, j => by
    have ih := outP_at p i (by omega) j
    rw [outP]
    split
    · rename_i ho
      rw [setB_at _ (outP_len p i) i j (by omega), ih]
      by_cases e : i = j
      · subst e; rw [if_pos rfl, if_pos ⟨by omega, ho⟩]
      · rw [if_neg e]
        by_cases hj : j < i ∧ p.getD j 0 % 2 = 1
        · rw [if_pos hj, if_pos ⟨by omega, hj.2⟩]
        · rw [if_neg hj, if_neg (fun hh => hj ⟨by omega, hh.2⟩)]
    · rename_i ho
      rw [ih]
      by_cases hj : j < i ∧ p.getD j 0 % 2 = 1
      · rw [if_pos hj, if_pos ⟨by omega, hj.2⟩]
      · rw [if_neg hj, if_neg (fun hh => hj ⟨by have : j ≠ i := fun e => ho (e ▸ hh.2); omega, hh.2⟩)]
theorem vP_bit (p : List Nat) : ∀ m, m ≤ 128 → ∀ j, j < 128 → (vP p m).testBit (127 - j) = decide (j < m ∧ p.getD j 0 % 2 = 1)
  | 0, _, j, _ => by simp [vP]
  | m + 1, h, j, hj => by
    rw [vP, Nat.testBit_xor, vP_bit p m (by omega) j hj]
    by_cases e : j = m
    · subst e
      by_cases ho : p.getD j 0 % 2 = 1
      · rw [if_pos ho, onI_ONE j hj, Nat.testBit_two_pow_self, decide_eq_false (fun hh => absurd hh.1 (Nat.lt_irrefl _)), decide_eq_true ⟨Nat.lt_succ_self _, ho⟩]; rfl
      · rw [if_neg ho, Nat.zero_testBit, Bool.xor_false, decide_eq_false (fun hh => ho hh.2), decide_eq_false (fun hh => ho hh.2)]
    · have h2 : (if p.getD m 0 % 2 = 1 then onI m ONE else 0).testBit (127 - j) = false := by
        split
        · rw [onI_ONE m (by omega)]; exact Nat.testBit_two_pow_of_ne (by omega)
        · simp
      rw [h2, Bool.xor_false]
      apply decide_eq_decide.2
      constructor
      · rintro ⟨a, b⟩; exact ⟨by omega, b⟩
      · rintro ⟨a, b⟩; exact ⟨by omega, b⟩
theorem outP_be (p : List Nat) : be (outP p 128) = vP p 128 := by
  apply Nat.eq_of_testBit_eq
  intro i
  by_cases hi : i < 128
  · have e : i = 127 - (127 - i) := by omega
    rw [e, testBit_be (outP_len p 128) _ (by omega), outP_at p 128 (Nat.le_refl _), vP_bit p 128 (Nat.le_refl _) _ (by omega)]
    by_cases h : 127 - i < 128 ∧ p.getD (127 - i) 0 % 2 = 1
    · rw [if_pos h, decide_eq_true h]; rfl
    · rw [if_neg h, decide_eq_false h]; rfl
  · rw [Nat.testBit_lt_two_pow (Nat.lt_of_lt_of_le (be16 (outP_len p 128)) (Nat.pow_le_pow_right (by decide) (by omega))), Nat.testBit_lt_two_pow (Nat.lt_of_lt_of_le (vP_lt p 128) (Nat.pow_le_pow_right (by decide) (by omega)))]
/-- What the reference's product comes to. -/
theorem ref_mul (a b : List UInt8) (ha : a.length = 16) (hb : b.length = 16) : outP (foldP (prodP a b 128) 127) 128 = toBe 16 (mulN (be a) (be b)) := by
  apply be_inj
  · rw [outP_len, toBe_len]
  · have h : vP (foldP (prodP a b 128) 127) 128 = vP (prodP a b 128) 255 := foldP_vP _ (prodP_len a b 128) 127 (Nat.le_refl _)
    rw [outP_be, be_toBe, h, prodP_vP a b ha hb 128 (Nat.le_refl _)]
    exact (Nat.mod_eq_of_lt (mulN_lt _ (be16 hb))).symm
end Go.Proofs.YtnmmnlffobnbfaaGreatDoor

/- ghash: of, block, Lengths, Pad, Sum -/
namespace Go.Proofs.YtnmmnlffobnbfaaGreatDoor
open Go.RowKit

theorem hiN_be (x : List UInt8) (h : x.length = 16) : hiN (be x) = be (x.take 8) := by
  have h1 := be_append (x.take 8) (x.drop 8)
  rw [List.take_append_drop, List.length_drop, h] at h1
  have h2 := be_lt (x.drop 8)
  rw [List.length_drop, h] at h2
  rw [h1]
  exact hiN_of h2
theorem loN_be (x : List UInt8) (h : x.length = 16) : loN (be x) = be (x.drop 8) := by
  have h1 := be_append (x.take 8) (x.drop 8)
  rw [List.take_append_drop, List.length_drop, h] at h1
  have h2 := be_lt (x.drop 8)
  rw [List.length_drop, h] at h2
  rw [h1]
  exact loN_of h2
theorem toBe16_hilo (n : Nat) : toBe 16 n = toBe 8 (hiN n) ++ toBe 8 (loN n) := by
  rw [show (16 : Nat) = 8 + 8 from rfl, toBe_add]
  congr 1
  exact (toBe_mod 8 n).symm

set_option maxRecDepth 100000 in
set_option maxHeartbeats 1000000 in
theorem of_any (w : World) (x : List UInt8) (hx : x.length = 16) :
    Calls Tryz.prog 219 #[.agg (bys x).toArray] w fun e w' => e = .returned (.agg (elc (be x)).toArray) ∧ Below w.heap.size w w' := by
  have h0 : Blk ((w.alloc (.cells (bys x).toArray tA16)).alloc (.cells #[U64 0, U64 0] tEl)) w.heap.size (bys x) tA16 := (Blk.new w (bys x) tA16).alloc _
  have h1 : Blk ((w.alloc (.cells (bys x).toArray tA16)).alloc (.cells #[U64 0, U64 0] tEl)) (w.heap.size + 1) [U64 0, U64 0] tEl := by
    have := Blk.new (w.alloc (.cells (bys x).toArray tA16)) [U64 0, U64 0] tEl
    simp only [World.size_alloc] at this; exact this
  have hB : Below w.heap.size w ((w.alloc (.cells (bys x).toArray tA16)).alloc (.cells #[U64 0, U64 0] tEl)) := ((Below.refl _ _).alloc (Nat.le_refl _) _).alloc (by simp) _
  have ha := hiN_be x hx
  have hb := loN_be x hx
  have hra := ((h0.rowAt 0 8).congr (show (x.drop 0).take 8 = x.take 8 by simp)).drew
  have hrb := ((h0.rowAt 8 8).congr (show (x.drop 8).take 8 = x.drop 8 by rw [List.take_of_length_le]; simp [hx])).drew
  have hla : (x.take 8).length = 8 := by rw [List.length_take, hx]; rfl
  have hlb : (x.drop 8).length = 8 := by rw [List.length_drop, hx]
  have HA := hid ha
  have HB := hid hb
  have Hla := hid hla
  have Hlb := hid hlb
  clear ha hb hx hla hlb
  go_enter Tryz.func219, Tryz.ntmps219
  go_wp2_with fail
  change Code.wp _ _ _ _ ((w.alloc (.cells (bys x).toArray tA16)).alloc (.cells #[U64 0, U64 0] tEl))
  generalize ((w.alloc (.cells (bys x).toArray tA16)).alloc (.cells #[U64 0, U64 0] tEl)) = W at *
  have f0 := h1.frozen 0
  have f1 := h1.frozen 1
  have r0 := h1.cell 0
  have r1 := h1.cell 1
  simp only [List.getElem?_cons_zero, List.getElem?_cons_succ] at r0 r1
  have h2 := (h1.drew.set 0 (U64 (be (x.take 8)))).set 1 (U64 (be (x.drop 8)))
  have hB2 := hB.drew.trans ((((Chg.refl w.heap.size [] W.drew).setCell (p := ⟨w.heap.size + 1, 0, none⟩) (.inr (by simp)) (U64 (be (x.take 8)))).setCell (p := ⟨w.heap.size + 1, 1, none⟩) (.inr (by simp)) (U64 (be (x.drop 8)))).below (Nat.le_refl _) (by simp))
  have H2 := hid h2
  have HB2 := hid hB2
  clear h0 h1 hB h2 hB2
  try simp only [Act.put]
  refine tkR (fun w' => True) [] (by kernel_rfl) (fun c a d v w h => by cases d <;> exact h) (trivial) (fun hPF hHeld => ?_)
  refine tkB 0 (.some 3) _ _ rfl rfl (by kernel_rfl) (by kernel_rfl) (by kernel_rfl) (by kernel_rfl) hPF rfl (fun w' => by (go_simp; try with_reducible rfl)) hHeld (fun hHeld => ?_)
  simp only [Act.put, List.setIfInBounds_toArray, List.set_cons_zero, List.set_cons_succ]
  refine tkB 2 (.some 5) _ _ rfl rfl (by kernel_rfl) (by kernel_rfl) (by kernel_rfl) (by kernel_rfl) hPF rfl (fun w' => by (go_simp; try with_reducible rfl)) hHeld (fun hHeld => ?_)
  simp only [Act.put, List.setIfInBounds_toArray, List.set_cons_zero, List.set_cons_succ]
  have hS := hHeld (by kernel_rfl)
  refine tkW (rs := [1]) (by kernel_rfl) (by simp) (AllK.cons (o := _) rfl (fun KC hKC => ?_) AllK.nil)
  go_simp
  refine (big_any _ _ 8 16 (x.take 8) hra Hla.out (by omega)).mono ?_
  rintro e w1 ⟨rfl, rfl⟩
  refine hKC.out _ _ (trivial) (fun hHeld => ?_)
  clear hKC KC
  try simp only [Act.put, List.setIfInBounds_toArray, List.set_cons_zero, List.set_cons_succ]
  have hS := hHeld (by kernel_rfl)
  refine tkW (rs := [3]) (by kernel_rfl) (by simp) (AllK.cons (o := _) rfl (fun KC hKC => ?_) AllK.nil)
  go_simp
  refine (big_any _ _ 8 8 (x.drop 8) hrb Hlb.out (by omega)).mono ?_
  rintro e w1 ⟨rfl, rfl⟩
  refine hKC.out _ _ (trivial) (fun hHeld => ?_)
  clear hKC KC
  try simp only [Act.put, List.setIfInBounds_toArray, List.set_cons_zero, List.set_cons_succ]
  refine tkB 4 (.some 7) _ _ rfl rfl (by kernel_rfl) (by kernel_rfl) (by kernel_rfl) (by kernel_rfl) hPF rfl (fun w' => by (go_simp; try with_reducible rfl)) hHeld (fun hHeld => ?_)
  simp only [Act.put, List.setIfInBounds_toArray, List.set_cons_zero, List.set_cons_succ]
  have hS := hHeld (by kernel_rfl)
  refine tkW (rs := [5]) (by kernel_rfl) (by simp) (AllK.cons (o := _) rfl (fun KC hKC => ?_) AllK.nil)
  go_simp
  refine hKC.out _ _ (trivial) (fun hHeld => ?_)
  clear hKC KC
  try simp only [Act.put]
  refine tkD (by kernel_rfl) ?_ _
  go_wp2_with fail
  refine bodyPost_ret (v := .agg (elc (be x)).toArray) (results_cell_row (P := Tryz.prog) (p := 2) (ty := 257) rfl _ _ (w.heap.size + 1) tEl _ (0, 0) _ rfl (by simp only [elc, HA.out, HB.out]; exact H2.out) Tryz.underlying257 rfl sizeEl) rfl ⟨rfl, HB2.out⟩

set_option maxRecDepth 100000 in
set_option maxHeartbeats 2000000 in
theorem block_any (w : World) (n : Nat) (hn : n < 2 ^ 128) :
    Calls Tryz.prog 218 #[.agg (elc n).toArray] w fun e w' => e = .returned (.agg (bys (toBe 16 n)).toArray) ∧ Below w.heap.size w w' := by
  have h0 : Blk (((w.alloc (.cells (elc n).toArray tEl)).alloc (.cells (bys z16).toArray tA16)).alloc (.cells (bys z16).toArray tA16)) w.heap.size (elc n) tEl := ((Blk.new w (elc n) tEl).alloc _).alloc _
  have h1 : Blk (((w.alloc (.cells (elc n).toArray tEl)).alloc (.cells (bys z16).toArray tA16)).alloc (.cells (bys z16).toArray tA16)) (w.heap.size + 1) (bys z16) tA16 := by
    have := (Blk.new (w.alloc (.cells (elc n).toArray tEl)) (bys z16) tA16).alloc (.cells (bys z16).toArray tA16)
    simp only [World.size_alloc] at this; exact this
  have h2 : Blk (((w.alloc (.cells (elc n).toArray tEl)).alloc (.cells (bys z16).toArray tA16)).alloc (.cells (bys z16).toArray tA16)) (w.heap.size + 1 + 1) (bys z16) tA16 := by
    have := Blk.new ((w.alloc (.cells (elc n).toArray tEl)).alloc (.cells (bys z16).toArray tA16)) (bys z16) tA16
    simp only [World.size_alloc] at this; exact this
  have hB : Below w.heap.size w (((w.alloc (.cells (elc n).toArray tEl)).alloc (.cells (bys z16).toArray tA16)).alloc (.cells (bys z16).toArray tA16)) := (((Below.refl _ _).alloc (Nat.le_refl _) _).alloc (by simp) _).alloc (by simp; omega) _
  have hz : (((w.alloc (.cells (elc n).toArray tEl)).alloc (.cells (bys z16).toArray tA16)).alloc (.cells (bys z16).toArray tA16)).heap.size = w.heap.size + 3 := by simp
  have hd := hid (toBe16_hilo n)
  have la := hiN_lt hn
  have lb := loN_lt n
  unfold elc at *
  obtain ⟨a, ha⟩ : ∃ a, hiN n = a := ⟨_, rfl⟩
  obtain ⟨b, hb⟩ : ∃ b, loN n = b := ⟨_, rfl⟩
  rw [ha, hb] at hd h0 h1 h2 hB hz
  rw [ha] at la
  rw [hb] at lb
  rw [ha, hb]
  clear ha hb hn
  go_enter Tryz.func218, Tryz.ntmps218
  go_wp2_with fail
  change Code.wp _ _ _ _ (((w.alloc (.cells [U64 a, U64 b].toArray tEl)).alloc (.cells (bys z16).toArray tA16)).alloc (.cells (bys z16).toArray tA16))
  generalize (((w.alloc (.cells [U64 a, U64 b].toArray tEl)).alloc (.cells (bys z16).toArray tA16)).alloc (.cells (bys z16).toArray tA16)) = w1 at *
  try simp only [Act.put]
  refine tkR (fun w' => Blk w' w.heap.size [U64 a, U64 b] tEl) [] (by kernel_rfl) (fun c a d v w h => by cases d <;> exact h) (h0.drew) (fun hPF hHeld => ?_)
  refine tkB 0 (.some 4) _ _ rfl rfl (by kernel_rfl) (by kernel_rfl) (by kernel_rfl) (by kernel_rfl) hPF rfl (fun w' => by (go_simp; try with_reducible rfl)) hHeld (fun hHeld => ?_)
  simp only [Act.put, List.setIfInBounds_toArray, List.set_cons_zero, List.set_cons_succ]
  refine tkB 1 (.some 5) _ _ rfl rfl (by kernel_rfl) (by kernel_rfl) (by kernel_rfl) (by kernel_rfl) hPF rfl (fun w' => by (go_simp; try with_reducible rfl)) hHeld (fun hHeld => ?_)
  simp only [Act.put, List.setIfInBounds_toArray, List.set_cons_zero, List.set_cons_succ]
  refine tkA 2 (.some 6) _ _ rfl rfl (by kernel_rfl) (by kernel_rfl) (by kernel_rfl) (by kernel_rfl) (by kernel_rfl) hPF rfl (fun w' hw' => by (have h1 := hw'.cell 0; simp only [List.getElem?_cons_zero] at h1; go_simp; try with_reducible rfl)) hHeld (fun hHeld => ?_)
  simp only [Act.put, List.setIfInBounds_toArray, List.set_cons_zero, List.set_cons_succ]
  have hS := hHeld (by kernel_rfl)
  refine tkW (rs := [3]) (by kernel_rfl) (by simp) (AllK.cons (o := _) rfl (fun KC hKC => ?_) AllK.nil)
  go_simp
  refine (putbig_any _ a 8 la (by omega)).mono ?_
  rintro e w3 ⟨rfl, hp3, hB3⟩
  have h2b := (h2.drew).below hB3 (by have := h2.lt; simpa using this)
  have h1b := (h1.drew).below hB3 (by have := h1.lt; simpa using this)
  have h0b := (h0.drew).below hB3 (by have := h0.lt; simpa using this)
  have hBb := (hB.drew).trans (hB3.mono hB.size)
  clear hB3 hB h1 h2 h0
  refine hKC.out _ _ (h0b) (fun hHeld => ?_)
  clear hKC KC
  try simp only [Act.put, List.setIfInBounds_toArray, List.set_cons_zero, List.set_cons_succ]
  have hS := hHeld (by kernel_rfl)
  refine tkW (rs := [4]) (by kernel_rfl) (by simp) (AllK.cons (o := _) rfl (fun KC hKC => ?_) AllK.nil)
  refine wantIt rfl (wp_copy_blk (.some 8) rfl (.tmp 4) (.tmp 7) 23 23 rfl 5 under33b (by kernel_rfl) (w.heap.size + 1 + 1) 0 16 16 (w1.drew.heap.size + 1) 0 8 8 rfl rfl (bys z16) (bys (toBe 8 a)) tA16 tU8 h2b hp3 8 rfl (by decide) (by rw [bys_length, toBe_len]; decide) (bys_one _) ?_)
  intro w4 h2c hC4 hs4
  have h1c := h1b.chg hC4 h1b.lt (by simp)
  have h0c := h0b.chg hC4 h0b.lt (by simp; omega)
  refine hKC.out _ _ (h0c) (fun hHeld => ?_)
  clear hKC KC
  try simp only [Act.put, List.setIfInBounds_toArray, List.set_cons_zero, List.set_cons_succ]
  refine tkD (by kernel_rfl) ?_ _
  have h2d : Blk w4 (w.heap.size + 1 + 1) (bys (toBe 8 a ++ List.replicate 8 0)) tA16 := by
    have e : splice (bys z16) 0 ((List.drop 0 (bys (toBe 8 a))).take 8) = bys (toBe 8 a ++ List.replicate 8 0) := by
      have hl := toBe_len 8 a
      simp only [splice, List.drop_zero]
      rw [show (bys (toBe 8 a)).take 8 = bys (toBe 8 a) from List.take_of_length_le (by rw [bys_length, hl]; exact Nat.le_refl _), bys_length, hl]
      simp [bys, z16]
    rw [← e]; exact h2c
  have hBc := hBb.trans (hC4.below (M := w.heap.size) hBb.size (fun k hk => by simp at hk; omega))
  clear h2c hC4 hs4 h1b hBb h2b hp3 h0b hHeld hPF
  go_wp2_with fail
  try simp only [Act.put]
  refine tkR (fun w' => Blk w' w.heap.size [U64 a, U64 b] tEl) [] (by kernel_rfl) (fun c a d v w h => by cases d <;> exact h) (h0c.drew) (fun hPF hHeld => ?_)
  refine tkB 0 (.some 9) _ _ rfl rfl (by kernel_rfl) (by kernel_rfl) (by kernel_rfl) (by kernel_rfl) hPF rfl (fun w' => by (go_simp; try with_reducible rfl)) hHeld (fun hHeld => ?_)
  simp only [Act.put, List.setIfInBounds_toArray, List.set_cons_zero, List.set_cons_succ]
  refine tkB 1 (.some 10) _ _ rfl rfl (by kernel_rfl) (by kernel_rfl) (by kernel_rfl) (by kernel_rfl) hPF rfl (fun w' => by (go_simp; try with_reducible rfl)) hHeld (fun hHeld => ?_)
  simp only [Act.put, List.setIfInBounds_toArray, List.set_cons_zero, List.set_cons_succ]
  refine tkA 2 (.some 11) _ _ rfl rfl (by kernel_rfl) (by kernel_rfl) (by kernel_rfl) (by kernel_rfl) (by kernel_rfl) hPF rfl (fun w' hw' => by (have h1 := hw'.cell 1; simp only [List.getElem?_cons_zero, List.getElem?_cons_succ] at h1; go_simp; try with_reducible rfl)) hHeld (fun hHeld => ?_)
  simp only [Act.put, List.setIfInBounds_toArray, List.set_cons_zero, List.set_cons_succ]
  have hS := hHeld (by kernel_rfl)
  refine tkW (rs := [3]) (by kernel_rfl) (by simp) (AllK.cons (o := _) rfl (fun KC hKC => ?_) AllK.nil)
  go_simp
  refine (putbig_any _ b 8 lb (by omega)).mono ?_
  rintro e w5 ⟨rfl, hp3, hB3⟩
  have h2b := (h2d.drew).below hB3 (by have := h2d.lt; simpa using this)
  have h1b := (h1c.drew).below hB3 (by have := h1c.lt; simpa using this)
  have h0b := (h0c.drew).below hB3 (by have := h0c.lt; simpa using this)
  have hBb := (hBc.drew).trans (hB3.mono hBc.size)
  clear hB3 h2d h1c hBc
  refine hKC.out _ _ (h0b) (fun hHeld => ?_)
  clear hKC KC
  try simp only [Act.put, List.setIfInBounds_toArray, List.set_cons_zero, List.set_cons_succ]
  have hS := hHeld (by kernel_rfl)
  refine tkW (rs := [4]) (by kernel_rfl) (by simp) (AllK.cons (o := _) rfl (fun KC hKC => ?_) AllK.nil)
  refine wantIt rfl (wp_copy_blk (.some 13) rfl (.tmp 9) (.tmp 12) 23 23 rfl 5 under33b (by kernel_rfl) (w.heap.size + 1 + 1) 8 8 8 (w4.drew.heap.size + 1) 0 8 8 rfl rfl (bys (toBe 8 a ++ List.replicate 8 0)) (bys (toBe 8 b)) tA16 tU8 h2b hp3 8 rfl (by rw [bys_length, List.length_append, toBe_len]; decide) (by rw [bys_length, toBe_len]; decide) (bys_one _) ?_)
  intro w6 h2c hC4 hs4
  have h1c := h1b.chg hC4 h1b.lt (by simp)
  have h0d := h0b.chg hC4 h0b.lt (by simp; omega)
  refine hKC.out _ _ (h0d) (fun hHeld => ?_)
  clear hKC KC
  try simp only [Act.put, List.setIfInBounds_toArray, List.set_cons_zero, List.set_cons_succ]
  refine tkD (by kernel_rfl) ?_ _
  have h2d : Blk w6 (w.heap.size + 1 + 1) (bys (toBe 16 n)) tA16 := by
    have e : splice (bys (toBe 8 a ++ List.replicate 8 0)) 8 ((List.drop 0 (bys (toBe 8 b))).take 8) = bys (toBe 16 n) := by
      have hl := toBe_len 8 b
      have hh := toBe_len 8 a
      rw [hd.out]
      simp only [splice, List.drop_zero]
      rw [show (bys (toBe 8 b)).take 8 = bys (toBe 8 b) from List.take_of_length_le (by rw [bys_length, hl]; exact Nat.le_refl _), bys_length, hl]
      simp [bys, hh]
    rw [← e]; exact h2c
  have hBd := hBb.trans (hC4.below (M := w.heap.size) hBb.size (fun k hk => by simp at hk; omega))
  clear h2c hC4 hs4 h1b hBb h2b hp3 h0b h0d hHeld hPF
  have hcl := toBe_len 16 n
  obtain ⟨q, hq⟩ : ∃ q, toBe 16 n = q := ⟨_, rfl⟩
  rw [hq] at hcl h2d
  have Hq := hid hq
  clear hd hq
  have hsz : (Tryz.prog.info? 100).map (·.size) = some (bys q).length := by rw [size54, bys_length, hcl]
  go_wp2_with (first | (refine wpList_load_mid rfl 100 (.tmp 3) rfl (w.heap.size + 1 + 1) 0 rfl (bys q) _ h2d.whole under54 rfl hsz ?_) | (refine wpList_store_mid rfl 100 (.tmp 2) (.tmp 14) rfl (w.heap.size + 1) 0 (bys q).toArray rfl rfl (h1c.there 0 _ (by rw [List.size_toArray, bys_length, bys_length, hcl]; decide)) (by rw [size54, List.size_toArray, bys_length, hcl]) (all_oneCell_toArray (bys_one _)) ?_))
  have h1d := h1c.setCells (bys q) 0 (by rw [bys_length, bys_length, hcl]; decide)
  rw [splice_whole _ _ (by rw [bys_length, bys_length, hcl]; rfl)] at h1d
  refine bodyPost_ret (v := .agg (bys q).toArray) (results_cell_row (P := Tryz.prog) (p := 2) (ty := 100) rfl _ _ (w.heap.size + 1) tA16 _ (0, 0) _ rfl h1d under54 rfl (by rw [size54, List.size_toArray, bys_length, hcl])) rfl ⟨by rw [Hq.out], ?_⟩
  exact hBd.trans (((Chg.refl (w.heap.size) [] w6).setCells (.inr (by omega)) _ _).below (Nat.le_refl _) (by simp))
end Go.Proofs.YtnmmnlffobnbfaaGreatDoor
