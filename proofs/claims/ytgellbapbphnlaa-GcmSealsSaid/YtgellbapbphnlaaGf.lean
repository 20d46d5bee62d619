/- the field of 2^128 elements that GCM's hash counts in, over numbers: a product, that it is commutative and associative, that it has no divisors of nought. Plain lemmas. -/
import Derived.Test.YtgellbapbphnlaaNames
namespace Go.Proofs.Ytgellbapbphnlaa

def W128 : Nat := 299076299051606071403356588563077529600
def onN (n : Nat) : Nat := (n >>> 1) ^^^ (if n.testBit 0 then W128 else 0)
/-- k times x. -/
def onI : Nat → Nat → Nat
  | 0, v => v
  | k + 1, v => onI k (onN v)
def mulTo (e f : Nat) : Nat → Nat
  | 0 => 0
  | i + 1 => mulTo e f i ^^^ (if e.testBit (127 - i) then onI i f else 0)
def mulN (e f : Nat) : Nat := mulTo e f 128
def sqN (a : Nat) : Nat := mulN a a
def sqI : Nat → Nat → Nat
  | 0, v => v
  | k + 1, v => sqI k (sqN v)
def ONE : Nat := 170141183460469231731687303715884105728

theorem xor_self_zero (a : Nat) : a ^^^ a = 0 := Nat.xor_self a
theorem xor4 (a b c d : Nat) : (a ^^^ b) ^^^ (c ^^^ d) = (a ^^^ c) ^^^ (b ^^^ d) := by
  rw [Nat.xor_assoc, Nat.xor_assoc, ← Nat.xor_assoc b, Nat.xor_comm b c, Nat.xor_assoc c]
theorem xor_eq_zero {a b : Nat} (h : a ^^^ b = 0) : a = b := by
  have : (a ^^^ b) ^^^ b = b := by rw [h, Nat.zero_xor]
  rwa [Nat.xor_assoc, Nat.xor_self, Nat.xor_zero] at this
theorem ite_xor (p q : Bool) (v : Nat) : (if (p != q) = true then v else 0) = (if p = true then v else 0) ^^^ (if q = true then v else 0) := by
  cases p <;> cases q <;> simp
theorem onN_xor (a b : Nat) : onN (a ^^^ b) = onN a ^^^ onN b := by
  unfold onN
  rw [Nat.shiftRight_xor_distrib, Nat.testBit_xor, ite_xor, xor4]
theorem onN_zero : onN 0 = 0 := rfl
theorem onI_xor : ∀ k a b, onI k (a ^^^ b) = onI k a ^^^ onI k b
  | 0, _, _ => rfl
  | k + 1, a, b => by rw [onI, onN_xor, onI_xor k]; rfl
theorem onI_zero : ∀ k, onI k 0 = 0
  | 0 => rfl
  | k + 1 => by rw [onI, onN_zero, onI_zero k]
theorem onI_onN : ∀ k v, onI k (onN v) = onN (onI k v)
  | 0, _ => rfl
  | k + 1, v => by rw [onI, onI_onN k]; rfl
theorem onI_succ (k v : Nat) : onI (k + 1) v = onN (onI k v) := onI_onN k v
theorem onI_add : ∀ a b v, onI (a + b) v = onI a (onI b v)
  | a, 0, _ => rfl
  | a, b + 1, v => by rw [← Nat.add_assoc, onI, onI_add a b]; rfl
theorem ite_on (c : Bool) (f : Nat → Nat) (h : f 0 = 0) (v : Nat) : f (if c = true then v else 0) = if c = true then f v else 0 := by cases c <;> simp [h]
theorem mulTo_right (e a b : Nat) : ∀ k, mulTo e (a ^^^ b) k = mulTo e a k ^^^ mulTo e b k
  | 0 => (Nat.xor_self 0).symm
  | k + 1 => by
    rw [mulTo, mulTo_right e a b k, onI_xor, mulTo, mulTo, xor4]
    congr 1
    cases e.testBit (127 - k) <;> simp
theorem mulTo_left (d e f : Nat) : ∀ k, mulTo (d ^^^ e) f k = mulTo d f k ^^^ mulTo e f k
  | 0 => (Nat.xor_self 0).symm
  | k + 1 => by rw [mulTo, mulTo_left d e f k, Nat.testBit_xor, ite_xor, mulTo, mulTo, xor4]
theorem mulTo_zero (e : Nat) : ∀ k, mulTo e 0 k = 0
  | 0 => rfl
  | k + 1 => by rw [mulTo, mulTo_zero e k, onI_zero]; simp
theorem zero_mulTo (f : Nat) : ∀ k, mulTo 0 f k = 0
  | 0 => rfl
  | k + 1 => by rw [mulTo, zero_mulTo f k]; simp
theorem mulTo_onN (e f : Nat) : ∀ k, mulTo e (onN f) k = onN (mulTo e f k)
  | 0 => onN_zero.symm
  | k + 1 => by rw [mulTo, mulTo_onN e f k, onI_onN, mulTo, onN_xor, ite_on _ onN onN_zero]
theorem mulTo_onI (e f k : Nat) : ∀ j, mulTo e (onI j f) k = onI j (mulTo e f k)
  | 0 => rfl
  | j + 1 => by rw [onI_succ, mulTo_onN, mulTo_onI e f k j, ← onI_succ]
theorem mulTo_swap (e f g m : Nat) : ∀ k, mulTo e (mulTo g f m) k = mulTo g (mulTo e f k) m
  | 0 => by rw [mulTo, mulTo, mulTo_zero]
  | k + 1 => by rw [mulTo, mulTo_swap e f g m k, mulTo, mulTo_right, ← mulTo_onI]; cases e.testBit (127 - k) <;> simp [mulTo_zero]
theorem onI_ONE : ∀ i, i < 128 → onI i ONE = 2 ^ (127 - i) := by
  intro i hi
  have h : (List.range 128).all (fun i => onI i ONE == 2 ^ (127 - i)) = true := by decide +kernel
  rw [List.all_eq_true] at h
  simpa using h i (by simpa using hi)
theorem mulTo_ONE (e : Nat) : ∀ k, k ≤ 128 → ∀ j, (mulTo e ONE k).testBit j = (e.testBit j && decide (127 - k < j ∨ k = 128) && decide (j ≤ 127))
  | 0, _, j => by simp [mulTo]
  | k + 1, h, j => by
    rw [mulTo, Nat.testBit_xor, mulTo_ONE e k (by omega) j, onI_ONE k (by omega)]
    by_cases hj : j = 127 - k
    · subst hj
      have h2 : (decide (127 - k < 127 - k ∨ k = 128)) = false := by simp; omega
      have h3 : (decide (127 - (k + 1) < 127 - k ∨ k + 1 = 128)) = true := by simp; omega
      rw [h2, h3]
      cases e.testBit (127 - k) <;> simp [Nat.testBit_two_pow_self]
    · have h2 : (2 ^ (127 - k)).testBit j = false := Nat.testBit_two_pow_of_ne (fun e => hj e.symm)
      have h3 : (if e.testBit (127 - k) = true then 2 ^ (127 - k) else 0).testBit j = false := by cases e.testBit (127 - k) <;> simp [h2]
      rw [h3, Bool.xor_false]
      by_cases h5 : j ≤ 127
      · have h4 : (decide (127 - k < j ∨ k = 128)) = decide (127 - (k + 1) < j ∨ k + 1 = 128) := by
          apply decide_eq_decide.2; omega
        rw [h4]
      · simp [h5]
theorem mulN_ONE {e : Nat} (h : e < 2 ^ 128) : mulN e ONE = e := by
  apply Nat.eq_of_testBit_eq
  intro j
  rw [mulN, mulTo_ONE e 128 (Nat.le_refl _)]
  by_cases hj : j ≤ 127
  · simp [hj]
  · rw [Nat.testBit_lt_two_pow (Nat.lt_of_lt_of_le h (Nat.pow_le_pow_right (by decide) (by omega)))]; rfl
theorem onN_lt {n : Nat} (h : n < 2 ^ 128) : onN n < 2 ^ 128 := by
  unfold onN
  refine Nat.xor_lt_two_pow ?_ ?_
  · rw [Nat.shiftRight_eq_div_pow]; omega
  · cases n.testBit 0 <;> decide
theorem onI_lt : ∀ k {n : Nat}, n < 2 ^ 128 → onI k n < 2 ^ 128
  | 0, _, h => h
  | k + 1, _, h => onI_lt k (onN_lt h)
theorem mulTo_lt (e : Nat) {f : Nat} (h : f < 2 ^ 128) : ∀ k, mulTo e f k < 2 ^ 128
  | 0 => by show 0 < 2 ^ 128; decide
  | k + 1 => by
    rw [mulTo]
    refine Nat.xor_lt_two_pow (mulTo_lt e h k) ?_
    cases e.testBit (127 - k)
    · simp
    · exact onI_lt k h
theorem mulN_lt (e : Nat) {f : Nat} (h : f < 2 ^ 128) : mulN e f < 2 ^ 128 := mulTo_lt e h 128
theorem ONE_lt : ONE < 2 ^ 128 := by decide
theorem mulN_swap (e f g : Nat) : mulN e (mulN g f) = mulN g (mulN e f) := mulTo_swap e f g 128 128
theorem mulN_comm {e f : Nat} (he : e < 2 ^ 128) (hf : f < 2 ^ 128) : mulN e f = mulN f e := by
  have h := mulN_swap e ONE f
  rwa [mulN_ONE he, mulN_ONE hf] at h
theorem mulN_assoc {e f g : Nat} (_ : e < 2 ^ 128) (hf : f < 2 ^ 128) (hg : g < 2 ^ 128) : mulN (mulN e f) g = mulN e (mulN f g) := by
  rw [mulN_comm (mulN_lt e hf) hg, mulN_swap, mulN_comm hf hg]
theorem mulN_right (e a b : Nat) : mulN e (a ^^^ b) = mulN e a ^^^ mulN e b := mulTo_right e a b 128
theorem mulN_left (d e f : Nat) : mulN (d ^^^ e) f = mulN d f ^^^ mulN e f := mulTo_left d e f 128
theorem mulN_zero (e : Nat) : mulN e 0 = 0 := mulTo_zero e 128
theorem zero_mulN (f : Nat) : mulN 0 f = 0 := zero_mulTo f 128
theorem ONE_mulN {f : Nat} (h : f < 2 ^ 128) : mulN ONE f = f := by rw [mulN_comm ONE_lt h, mulN_ONE h]
theorem sqN_lt {a : Nat} (h : a < 2 ^ 128) : sqN a < 2 ^ 128 := mulN_lt a h
theorem sqN_xor {a b : Nat} (ha : a < 2 ^ 128) (hb : b < 2 ^ 128) : sqN (a ^^^ b) = sqN a ^^^ sqN b := by
  unfold sqN
  rw [mulN_right, mulN_left, mulN_left, mulN_comm hb ha, xor4, Nat.xor_comm (mulN a b), ← xor4, Nat.xor_self, Nat.xor_zero]
theorem sqN_mul {a b : Nat} (ha : a < 2 ^ 128) (hb : b < 2 ^ 128) : sqN (mulN a b) = mulN (sqN a) (sqN b) := by
  unfold sqN
  rw [mulN_assoc ha hb (mulN_lt _ hb), mulN_assoc ha ha (mulN_lt _ hb), mulN_swap b b a]
theorem sqI_lt : ∀ k {a : Nat}, a < 2 ^ 128 → sqI k a < 2 ^ 128
  | 0, _, h => h
  | k + 1, _, h => sqI_lt k (sqN_lt h)
theorem sqI_xor : ∀ k {a b : Nat}, a < 2 ^ 128 → b < 2 ^ 128 → sqI k (a ^^^ b) = sqI k a ^^^ sqI k b
  | 0, _, _, _, _ => rfl
  | k + 1, _, _, ha, hb => by rw [sqI, sqN_xor ha hb, sqI_xor k (sqN_lt ha) (sqN_lt hb)]; rfl
theorem sqI_mul : ∀ k {a b : Nat}, a < 2 ^ 128 → b < 2 ^ 128 → sqI k (mulN a b) = mulN (sqI k a) (sqI k b)
  | 0, _, _, _, _ => rfl
  | k + 1, _, _, ha, hb => by rw [sqI, sqN_mul ha hb, sqI_mul k (sqN_lt ha) (sqN_lt hb)]; rfl
theorem sqI_zero : ∀ k, sqI k 0 = 0
  | 0 => rfl
  | k + 1 => by rw [sqI, show sqN 0 = 0 from mulN_zero 0, sqI_zero k]
theorem sqI_succ : ∀ k v, sqI (k + 1) v = sqN (sqI k v)
  | 0, _ => rfl
  | k + 1, v => by rw [sqI, sqI_succ k]; rfl
def XX : Nat := 85070591730234615865843651857942052864
theorem XX_lt : XX < 2 ^ 128 := by decide
theorem onN_XX {v : Nat} (h : v < 2 ^ 128) : onN v = mulN XX v := by
  have h1 : onN ONE = XX := by decide
  have h2 : mulN v (onN ONE) = onN (mulN v ONE) := mulTo_onN v ONE 128
  rw [mulN_ONE h, h1, mulN_comm h XX_lt] at h2
  exact h2.symm
theorem sqI_XX : sqI 128 XX = XX := by decide +kernel
theorem sqI_ONE : sqI 128 ONE = ONE := by decide +kernel
theorem sqI_on (k : Nat) : sqI 128 (onI k ONE) = onI k ONE := by
  induction k with
  | zero => exact sqI_ONE
  | succ k ih =>
    have hl := onI_lt k ONE_lt
    rw [onI_succ, onN_XX hl, sqI_mul 128 XX_lt hl, ih, sqI_XX]
/-- To the power of 2^128 each is what it was. -/
theorem sqI_id {a : Nat} (h : a < 2 ^ 128) : sqI 128 a = a := by
  have : ∀ k, sqI 128 (mulTo a ONE k) = mulTo a ONE k := by
    intro k
    induction k with
    | zero => exact sqI_zero 128
    | succ k ih =>
      rw [mulTo, sqI_xor 128 (mulTo_lt a ONE_lt k) (by cases a.testBit (127 - k); simp; exact onI_lt k ONE_lt), ih]
      cases a.testBit (127 - k)
      · simp [sqI_zero]
      · simp [sqI_on]
  have h2 := this 128
  rwa [show mulTo a ONE 128 = mulN a ONE from rfl, mulN_ONE h] at h2
/-- What is found by elimination: a way back from a square and itself. -/
def backL : List Nat := [0, 6161591008139076202154902373133594561, 71430717218983613641036104277415506289, 87518597585245962833849474628053070758, 72921817864677867521778898634038080609, 163309321578052146879237778733101511783, 126814247099887467207929949960147586332, 133487668004820722767044853458355047125, 108887185710678174598840578861931466132, 72978216601350599296199603180564021825, 126976600203468727039316187211004055892, 49689517519420395515082114066310337331, 12764899024296983899235621676887115841, 59792954277794326371429463258526948146, 275464514806027128612938827324864, 33882886127255646541338116557250298163, 133385434108064708788808215410435911893, 153238470225796905537047657204766862374, 127777348636302309636952298273557535380, 58594334107495617071392172125656399538, 5725366257701666555538562805218717057, 159324042485362592547018579093184240551, 149021274876537960721224429182834492454, 94333773739946854309780815578084996199, 161752945482599484730126084874801441767, 115575792119390728221592460023876181333, 133436244703473040169882794575366898389, 34751610155981195849944733847405496627, 100972845268357601278728964017462078439, 44935323831972008745566419208193456946, 132003651752985294974180122299820886164, 45594221442569777339127844318073854322, 100983558286137050684044238585428660711, 140308235276559149970208740923126577813, 92325303522414418149753570460923091879, 26944628100264108509229864938392397555, 81071795988965022717357904530596407232, 58275656592719279154056000246173111091, 51613027339492204128265575524803459891, 142140898696765075202304690604976981845, 53639910565545342273528145980335791795, 4726979706490419237355323591502507968, 161542955870533464563010084267448332775, 65334779303751560239471195525024588352, 122557457634345817322758110469731963540, 79569572988994598121356082874814992321, 9537274821874957483351388617584152641, 109427184872331881977228478262674814292, 96504253903287235160744645914913229863, 35809052500294759256374056413191545715, 63089105448741488643398279942380763954, 84108490886122099842324906724524496768, 161537358671016203777973217828391545831, 49921000058860506912943830473554996979, 113870918609522322281985099445019275925, 45994406431766860863727072382817147250, 6116654749483988959971426010360459777, 88394181539591460295416373139500891046, 93226277353508642900164249188457535015, 123506241354959402090274531190302866772, 72992884249465865451566362034747193217, 123492369307601207700488716387690115284, 67288019353279926038130604499846823936, 96617416833907240315124182200439430055, 6161591008139076220601646446843146177, 87518597585245962796955986480633967526, 163309321578052146805450802438263305319, 133487668004820722619470900868678634197, 72978216601350599591347508359916847681, 49689517519420396105377924425015989043, 59792954277794325190837842541115644722, 33882886127255648902521357992072905011, 153238470225796900814681174335121648678, 58594334107495626516125137864946826930, 159324042485362573657552647614603385767, 94333773739946892088712678535246705767, 115575792119390803779456185938199600469, 34751610155981346965672185676052334899, 44935323831971706514111515550899780402, 45594221442570381802037651632661207410, 140308235276560358896028355552301283989, 26944628100266526360869094196741809907, 58275656592714443450777541729474286387, 142140898696755403795747773571579332437, 4726979706471076424241489524707209152, 65334779303712874613243527391433990720, 79569572989071969373811419141996187585, 109427184872177139472317805728312423764, 35809052500604244266195401481916326771, 84108490886741069861967596861974058880, 49921000057622566873658450198655872755, 45994406429290980785156311833018898802, 88394181544543220452557894239097387942, 123506241345055881775991488991109872980, 123492369287794167071922631989304127700, 96617416873521321572256350997211405223, 87518597506017800282691648887090017190, 133487668163277047647999576055766534869, 49689517202507746048320574050840187699, 33882886761080949016636058740424507699, 58594332839845026287895736368243621554, 94333771204645691632253875541840295015, 34751615226583747878589791662865156403, 45594211301365579976202439659035564402, 26944648382676130012539518143993095923, 142140858131936196492406925677076760405, 65334698174074460006561831602428846656, 109427022612900310258954414150302135636, 84108166368187411435240813705953482624, 45993757392183663931702745520977746290, 123504943270841248069084356367027567956, 96614820725092054158442085749046795175, 133492860460135582475628106552095754965, 33893271354798018671893119733082947891, 94354540392079830942767997527157175399, 45552672926497301355174195688401803634, 142223934881672753734463413618344281941, 109593176112373424743067390032837178708, 46326064391129892899928697286047832434, 95950206727199596221990182218906622887, 32564043359013102798989312672802603315, 42894216934927469609366581567841114482, 114910088095513088234682618273958557012, 85316382760920269238759725736663866279, 64161864867486123575827494532326627698, 127851678626037577171681551665634892711, 42781086895802961305837899807692839847, 22349210433241643211303706255459310228]
def backTo (v : Nat) : Nat → Nat
  | 0 => 0
  | j + 1 => backTo v j ^^^ (if v.testBit j then backL.getD j 0 else 0)
theorem backTo_xor (a b : Nat) : ∀ k, backTo (a ^^^ b) k = backTo a k ^^^ backTo b k
  | 0 => (Nat.xor_self 0).symm
  | k + 1 => by rw [backTo, backTo_xor a b k, Nat.testBit_xor, ite_xor, backTo, backTo, xor4]
theorem backTo_zero : ∀ k, backTo 0 k = 0
  | 0 => rfl
  | k + 1 => by rw [backTo, backTo_zero k]; simp
theorem back_on : ∀ i, i < 128 → 0 < i → backTo (sqN (onI i ONE) ^^^ onI i ONE) 128 = onI i ONE := by
  intro i hi h0
  have h : (List.range 128).all (fun i => i == 0 || backTo (sqN (onI i ONE) ^^^ onI i ONE) 128 == onI i ONE) = true := by decide +kernel
  rw [List.all_eq_true] at h
  have := h i (by simpa using hi)
  simp only [Bool.or_eq_true, beq_iff_eq] at this
  exact this.resolve_left (by omega)
/-- Only nought and one are their own squares. -/
theorem idem {e : Nat} (h : e < 2 ^ 128) (he : sqN e = e) : e = 0 ∨ e = ONE := by
  have hone : sqN ONE ^^^ ONE = 0 := by decide +kernel
  have key : ∀ k, k ≤ 127 → backTo (sqN (mulTo e ONE (k + 1)) ^^^ mulTo e ONE (k + 1)) 128 = mulTo e ONE (k + 1) ^^^ (if e.testBit 127 then ONE else 0) := by
    intro k
    induction k with
    | zero =>
      intro _
      simp only [mulTo, Nat.zero_xor, onI, Nat.sub_zero]
      cases e.testBit 127
      · decide +kernel
      · simp [hone, backTo_zero]
    | succ k ih =>
      intro hk
      have hl := mulTo_lt e ONE_lt (k + 1)
      rw [mulTo]
      cases hb : e.testBit (127 - (k + 1))
      · simpa using ih (by omega)
      · simp only [if_true]
        rw [sqN_xor hl (onI_lt _ ONE_lt), xor4, backTo_xor, ih (by omega), back_on _ (by omega) (by omega), Nat.xor_assoc, Nat.xor_assoc, Nat.xor_comm (onI _ _)]
  have h2 := key 127 (by omega)
  rw [show mulTo e ONE (127 + 1) = e from mulN_ONE h, he, Nat.xor_self, backTo_zero] at h2
  have h3 := xor_eq_zero h2.symm
  cases hb : e.testBit 127
  · rw [hb] at h3; exact .inl (by simpa using h3)
  · rw [hb] at h3; exact .inr (by simpa using h3)
/-- To the power of 2^k - 1. -/
def powP (h : Nat) : Nat → Nat
  | 0 => ONE
  | k + 1 => mulN h (sqN (powP h k))
theorem powP_lt {h : Nat} (hh : h < 2 ^ 128) : ∀ k, powP h k < 2 ^ 128
  | 0 => ONE_lt
  | k + 1 => mulN_lt h (sqN_lt (powP_lt hh k))
theorem powP_mul {h : Nat} (hh : h < 2 ^ 128) : ∀ k, mulN h (powP h k) = sqI k h
  | 0 => mulN_ONE hh
  | k + 1 => by
    have hl := powP_lt hh k
    rw [powP, sqI_succ, ← powP_mul hh k, sqN_mul hh hl]
    exact (mulN_assoc hh hh (sqN_lt hl)).symm
/-- A product is nought only if one of the two is. -/
theorem no_zero {h d : Nat} (hh : h < 2 ^ 128) (hd : d < 2 ^ 128) (e : mulN h d = 0) : h = 0 ∨ d = 0 := by
  have hr := sqN_lt (powP_lt hh 127)
  have hE : mulN h (powP h 128) = h := by rw [powP_mul hh, sqI_id hh]
  have hP : powP h 128 = mulN h (sqN (powP h 127)) := rfl
  have hi : sqN (powP h 128) = powP h 128 := by
    unfold sqN
    conv => lhs; arg 1; rw [hP, mulN_comm hh hr]
    rw [mulN_assoc hr hh (powP_lt hh _), hE, mulN_comm hr hh, ← hP]
  rcases idem (powP_lt hh _) hi with h0 | h1
  · left; rw [h0, mulN_zero] at hE; exact hE.symm
  · right
    have h2 : mulN (powP h 128) d = 0 := by rw [hP, mulN_comm hh hr, mulN_assoc hr hh hd, e, mulN_zero]
    rw [h1, ONE_mulN hd] at h2
    exact h2
theorem mulN_inj {h a b : Nat} (hh : h < 2 ^ 128) (h0 : h ≠ 0) (ha : a < 2 ^ 128) (hb : b < 2 ^ 128) (e : mulN a h = mulN b h) : a = b := by
  have h1 : mulN h (a ^^^ b) = 0 := by rw [mulN_right, mulN_comm hh ha, mulN_comm hh hb, e, Nat.xor_self]
  exact xor_eq_zero ((no_zero hh (Nat.xor_lt_two_pow ha hb) h1).resolve_left h0)
end Go.Proofs.Ytgellbapbphnlaa
