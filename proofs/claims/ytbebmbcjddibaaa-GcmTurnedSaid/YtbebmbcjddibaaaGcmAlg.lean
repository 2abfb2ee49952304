/- What is said here: the field of long elements, 128 bits: products are added up bit by bit; they can be turned round and bracketed as one likes; no product of two that are not 0 is 0. It speaks of no program. -/
import Derived.Test.YtbebmbcjddibaaaPoly
namespace Go.Proofs.Ytbebmbcjddibaaa.Lng
set_option linter.unusedVariables false
set_option linter.unusedSimpArgs false
abbrev W := BitVec 128
def RR : W := 0xe1000000000000000000000000000000#128
/-- Times t. -/
def T (y : W) : W := (y >>> 1) ^^^ (if y.getLsbD 0 then RR else 0#128)
def pw (y : W) : Nat → W
  | 0 => y
  | i + 1 => T (pw y i)
/-- The product, as far as n bits of the first one go. -/
def acc (x y : W) : Nat → W
  | 0 => 0#128
  | i + 1 => acc x y i ^^^ (if x.getMsbD i then pw y i else 0#128)
def gm (x y : W) : W := acc x y 128
theorem ifx (p q : Bool) (a : W) : (if (p ^^ q) then a else 0#128) = (if p then a else 0#128) ^^^ (if q then a else 0#128) := by
  cases p <;> cases q <;> simp
theorem ifa (p : Bool) (a b : W) : (if p then a ^^^ b else 0#128) = (if p then a else 0#128) ^^^ (if p then b else 0#128) := by
  cases p <;> simp
theorem x4 (a b c d : W) : (a ^^^ b) ^^^ (c ^^^ d) = (a ^^^ c) ^^^ (b ^^^ d) := by
  rw [BitVec.xor_assoc, BitVec.xor_assoc, ← BitVec.xor_assoc b, BitVec.xor_comm b c, BitVec.xor_assoc c]
theorem T_xor (a b : W) : T (a ^^^ b) = T a ^^^ T b := by
  unfold T
  rw [BitVec.ushiftRight_xor_distrib, BitVec.getLsbD_xor, ifx, x4]
theorem T_zero : T 0#128 = 0#128 := by decide
theorem pw_xor (a b : W) (i : Nat) : pw (a ^^^ b) i = pw a i ^^^ pw b i := by
  induction i with
  | zero => rfl
  | succ i ih =>
    show T (pw (a ^^^ b) i) = T (pw a i) ^^^ T (pw b i)
    rw [ih, T_xor]
theorem pw_zero (i : Nat) : pw 0#128 i = 0#128 := by
  induction i with
  | zero => rfl
  | succ i ih => show T (pw 0#128 i) = _; rw [ih, T_zero]
theorem pw_T (y : W) (i : Nat) : pw (T y) i = T (pw y i) := by
  induction i with
  | zero => rfl
  | succ i ih => show T (pw (T y) i) = _; rw [ih]; rfl
theorem pw_add (y : W) (i j : Nat) : pw (pw y j) i = pw y (i + j) := by
  induction i with
  | zero => rw [Nat.zero_add]; rfl
  | succ i ih => show T (pw (pw y j) i) = _; rw [ih, Nat.add_right_comm]; rfl
theorem acc_right (x a b : W) (n : Nat) : acc x (a ^^^ b) n = acc x a n ^^^ acc x b n := by
  induction n with
  | zero => simp [acc]
  | succ n ih =>
    show acc x (a ^^^ b) n ^^^ (if x.getMsbD n then pw (a ^^^ b) n else 0#128) = _
    rw [ih, pw_xor, ifa, x4]; rfl
theorem acc_left (a b y : W) (n : Nat) : acc (a ^^^ b) y n = acc a y n ^^^ acc b y n := by
  induction n with
  | zero => simp [acc]
  | succ n ih =>
    show acc (a ^^^ b) y n ^^^ (if (a ^^^ b).getMsbD n then pw y n else 0#128) = _
    rw [ih, BitVec.getMsbD_xor, ifx, x4]; rfl
theorem acc_T (x y : W) (n : Nat) : acc x (T y) n = T (acc x y n) := by
  induction n with
  | zero => rw [acc, acc, T_zero]
  | succ n ih =>
    show acc x (T y) n ^^^ (if x.getMsbD n then pw (T y) n else 0#128) = T (acc x y n ^^^ (if x.getMsbD n then pw y n else 0#128))
    rw [ih, T_xor, pw_T]
    congr 1
    cases x.getMsbD n
    · exact T_zero.symm
    · rfl
theorem gm_right (x a b : W) : gm x (a ^^^ b) = gm x a ^^^ gm x b := acc_right x a b 128
theorem gm_left (a b y : W) : gm (a ^^^ b) y = gm a y ^^^ gm b y := acc_left a b y 128
theorem gm_T (x y : W) : gm x (T y) = T (gm x y) := acc_T x y 128
def one : W := 0x80000000000000000000000000000000#128
def el (i : Nat) : W := pw one i
theorem el_bits : ∀ i j : Fin 128, (el i.1).getMsbD j.1 = decide (i = j) := by decide +kernel
theorem el_bit (i j : Nat) (hi : i < 128) (hj : j < 128) : (el i).getMsbD j = decide (i = j) := by
  have := el_bits ⟨i, hi⟩ ⟨j, hj⟩
  rw [this]
  simp [Fin.ext_iff]
theorem acc_one (x : W) : ∀ n, n ≤ 128 → ∀ j, j < 128 → (acc x one n).getMsbD j = (decide (j < n) && x.getMsbD j) := by
  intro n
  induction n with
  | zero => intro _ j _; simp [acc]
  | succ n ih =>
    intro hn j hj
    show (acc x one n ^^^ (if x.getMsbD n then el n else 0#128)).getMsbD j = _
    rw [BitVec.getMsbD_xor, ih (by omega) j hj]
    by_cases e : n = j
    · subst e
      rw [decide_eq_false (Nat.lt_irrefl n), decide_eq_true (Nat.lt_succ_self n), Bool.false_and, Bool.true_and, Bool.false_xor]
      cases h : x.getMsbD n
      · simp
      · simp [el_bit n n (by omega) (by omega)]
    · have e2 : (if x.getMsbD n then el n else 0#128).getMsbD j = false := by
        cases h : x.getMsbD n
        · simp
        · simp [el_bit n j (by omega) hj, e]
      rw [e2, Bool.xor_false]
      congr 1
      rw [decide_eq_decide]
      omega
theorem gm_one (x : W) : gm x one = x := by
  apply BitVec.eq_of_getMsbD_eq
  intro j hj
  rw [gm, acc_one x 128 (Nat.le_refl _) j hj, decide_eq_true hj, Bool.true_and]
/-- Two sums that agree on the powers of t are the same. -/
theorem lin_ext (F G : W → W) (hF : ∀ a b, F (a ^^^ b) = F a ^^^ F b) (hG : ∀ a b, G (a ^^^ b) = G a ^^^ G b) (h : ∀ i, i < 128 → F (el i) = G (el i)) (x : W) : F x = G x := by
  have z : ∀ F : W → W, (∀ a b, F (a ^^^ b) = F a ^^^ F b) → F 0#128 = 0#128 := fun F hF => by
    have := hF 0#128 0#128
    rw [BitVec.xor_self, BitVec.xor_self] at this
    exact this
  have k : ∀ n, n ≤ 128 → F (acc x one n) = G (acc x one n) := by
    intro n
    induction n with
    | zero => intro _; show F 0#128 = G 0#128; rw [z F hF, z G hG]
    | succ n ih =>
      intro hn
      show F (acc x one n ^^^ (if x.getMsbD n then el n else 0#128)) = G (acc x one n ^^^ (if x.getMsbD n then el n else 0#128))
      rw [hF, hG, ih (by omega)]
      congr 1
      cases x.getMsbD n
      · show F 0#128 = G 0#128; rw [z F hF, z G hG]
      · exact h n (by omega)
  have := k 128 (Nat.le_refl _)
  rwa [show acc x one 128 = x from gm_one x] at this
theorem el_gm (y : W) (i : Nat) (hi : i < 128) : gm (el i) y = pw y i := by
  have k : ∀ n, n ≤ 128 → acc (el i) y n = if i < n then pw y i else 0#128 := by
    intro n
    induction n with
    | zero => intro _; rfl
    | succ n ih =>
      intro hn
      show acc (el i) y n ^^^ (if (el i).getMsbD n then pw y n else 0#128) = _
      rw [ih (by omega), el_bit i n hi (by omega)]
      by_cases e : i = n
      · subst e
        simp
      · rw [decide_eq_false e, if_neg (by decide : ¬ false = true), BitVec.xor_zero]
        by_cases e2 : i < n
        · rw [if_pos e2, if_pos (by omega)]
        · rw [if_neg e2, if_neg (by omega)]
  rw [gm, k 128 (Nat.le_refl _), if_pos hi]
theorem gm_comm (x y : W) : gm x y = gm y x := by
  refine lin_ext (fun x => gm x y) (fun x => gm y x) (fun a b => gm_left a b y) (fun a b => gm_right y a b) (fun i hi => ?_) x
  show gm (el i) y = gm y (el i)
  rw [el_gm y i hi]
  refine lin_ext (fun y => pw y i) (fun y => gm y (el i)) (fun a b => pw_xor a b i) (fun a b => gm_left a b _) (fun j hj => ?_) y
  show pw (el j) i = gm (el j) (el i)
  rw [el_gm (el i) j hj]
  unfold el
  rw [pw_add, pw_add, Nat.add_comm]
theorem gm_assoc (x y z : W) : gm (gm x y) z = gm x (gm y z) := by
  refine lin_ext (fun x => gm (gm x y) z) (fun x => gm x (gm y z)) (fun a b => by show gm (gm (a ^^^ b) y) z = _; rw [gm_left, gm_left]) (fun a b => gm_left a b _) (fun i hi => ?_) x
  show gm (gm (el i) y) z = gm (el i) (gm y z)
  rw [el_gm y i hi, el_gm _ i hi]
  have k : ∀ n, gm (pw y n) z = pw (gm y z) n := by
    intro n
    induction n with
    | zero => rfl
    | succ n ih =>
      show gm (T (pw y n)) z = T (pw (gm y z) n)
      rw [gm_comm, gm_T, gm_comm, ih]
  exact k i
theorem gm_zero (x : W) : gm x 0#128 = 0#128 := by
  have := gm_right x 0#128 0#128
  rw [BitVec.xor_self, BitVec.xor_self] at this
  exact this
theorem one_gm (x : W) : gm one x = x := by rw [gm_comm, gm_one]
-- squares
def sq (y : W) : W := gm y y
theorem sq_xor (a b : W) : sq (a ^^^ b) = sq a ^^^ sq b := by
  unfold sq
  rw [gm_left, gm_right, gm_right, gm_comm b a, BitVec.xor_assoc, ← BitVec.xor_assoc (gm a b), BitVec.xor_self, BitVec.zero_xor]
theorem sq_gm (a b : W) : sq (gm a b) = gm (sq a) (sq b) := by
  unfold sq
  rw [gm_assoc, ← gm_assoc b a b, gm_comm b a, gm_assoc a b b, ← gm_assoc a a]
/-- A map that is told by what it makes of the powers of t. -/
def lin : List W → Nat → W → W
  | [], _, _ => 0#128
  | m :: ms, i, v => (if v.getMsbD i then m else 0#128) ^^^ lin ms (i + 1) v
theorem lin_xor (M : List W) : ∀ i a b, lin M i (a ^^^ b) = lin M i a ^^^ lin M i b := by
  induction M with
  | nil => intro i a b; simp [lin]
  | cons m ms ih =>
    intro i a b
    show (if (a ^^^ b).getMsbD i then m else 0#128) ^^^ lin ms (i + 1) (a ^^^ b) = _
    rw [BitVec.getMsbD_xor, ifx, ih, x4]; rfl
def sqL : List W := [0x80000000000000000000000000000000#128, 0x20000000000000000000000000000000#128, 0x8000000000000000000000000000000#128, 0x2000000000000000000000000000000#128, 0x800000000000000000000000000000#128, 0x200000000000000000000000000000#128, 0x80000000000000000000000000000#128, 0x20000000000000000000000000000#128, 0x8000000000000000000000000000#128, 0x2000000000000000000000000000#128, 0x800000000000000000000000000#128, 0x200000000000000000000000000#128, 0x80000000000000000000000000#128, 0x20000000000000000000000000#128, 0x8000000000000000000000000#128, 0x2000000000000000000000000#128, 0x800000000000000000000000#128, 0x200000000000000000000000#128, 0x80000000000000000000000#128, 0x20000000000000000000000#128, 0x8000000000000000000000#128, 0x2000000000000000000000#128, 0x800000000000000000000#128, 0x200000000000000000000#128, 0x80000000000000000000#128, 0x20000000000000000000#128, 0x8000000000000000000#128, 0x2000000000000000000#128, 0x800000000000000000#128, 0x200000000000000000#128, 0x80000000000000000#128, 0x20000000000000000#128, 0x8000000000000000#128, 0x2000000000000000#128, 0x800000000000000#128, 0x200000000000000#128, 0x80000000000000#128, 0x20000000000000#128, 0x8000000000000#128, 0x2000000000000#128, 0x800000000000#128, 0x200000000000#128, 0x80000000000#128, 0x20000000000#128, 0x8000000000#128, 0x2000000000#128, 0x800000000#128, 0x200000000#128, 0x80000000#128, 0x20000000#128, 0x8000000#128, 0x2000000#128, 0x800000#128, 0x200000#128, 0x80000#128, 0x20000#128, 0x8000#128, 0x2000#128, 0x800#128, 0x200#128, 0x80#128, 0x20#128, 0x8#128, 0x2#128, 0xe1000000000000000000000000000000#128, 0x38400000000000000000000000000000#128, 0xe100000000000000000000000000000#128, 0x3840000000000000000000000000000#128, 0xe10000000000000000000000000000#128, 0x384000000000000000000000000000#128, 0xe1000000000000000000000000000#128, 0x38400000000000000000000000000#128, 0xe100000000000000000000000000#128, 0x3840000000000000000000000000#128, 0xe10000000000000000000000000#128, 0x384000000000000000000000000#128, 0xe1000000000000000000000000#128, 0x38400000000000000000000000#128, 0xe100000000000000000000000#128, 0x3840000000000000000000000#128, 0xe10000000000000000000000#128, 0x384000000000000000000000#128, 0xe1000000000000000000000#128, 0x38400000000000000000000#128, 0xe100000000000000000000#128, 0x3840000000000000000000#128, 0xe10000000000000000000#128, 0x384000000000000000000#128, 0xe1000000000000000000#128, 0x38400000000000000000#128, 0xe100000000000000000#128, 0x3840000000000000000#128, 0xe10000000000000000#128, 0x384000000000000000#128, 0xe1000000000000000#128, 0x38400000000000000#128, 0xe100000000000000#128, 0x3840000000000000#128, 0xe10000000000000#128, 0x384000000000000#128, 0xe1000000000000#128, 0x38400000000000#128, 0xe100000000000#128, 0x3840000000000#128, 0xe10000000000#128, 0x384000000000#128, 0xe1000000000#128, 0x38400000000#128, 0xe100000000#128, 0x3840000000#128, 0xe10000000#128, 0x384000000#128, 0xe1000000#128, 0x38400000#128, 0xe100000#128, 0x3840000#128, 0xe10000#128, 0x384000#128, 0xe1000#128, 0x38400#128, 0xe100#128, 0x3840#128, 0xe10#128, 0x384#128, 0xe1#128, 0x70800000000000000000000000000038#128, 0x1c20000000000000000000000000000e#128, 0xe6080000000000000000000000000003#128]
def invL : List W := [0x10d04d25f93556e69f58ce2f8d035a94#128, 0x202f566ef59a994991d0e977a9aa5ba7#128, 0x602f566ef59a994991d0e977a9aa5ba7#128, 0x3045202cccefc1ee67fd0ac2e3641972#128, 0x402f566ef59a994991d0e977a9aa5ba7#128, 0x5672e0c1d328e3be0d2c5beb59e57554#128, 0x2045202cccefc1ee67fd0ac2e3641972#128, 0x187f9b4b8cafcfaf8e88275824a90133#128, 0x482f566ef59a994991d0e977a9aa5ba7#128, 0x22da13517461d3ee69739a8be16c1972#128, 0x5272e0c1d328e3be0d2c5beb59e57554#128, 0x6aff55603cd3fceff55228f556d54755#128, 0x2245202cccefc1ee67fd0ac2e3641972#128, 0x46fc06025397fc91bb49eab33e4cf467#128, 0x197f9b4b8cafcfaf8e88275824a90133#128, 0x646dca2be3d6cc87d093e2fc4c0f4ad5#128, 0x48af566ef59a994991d0e977a9aa5ba7#128, 0x5cea2fd59105659e2d1ccaeb5d2c7d54#128, 0x229a13517461d3ee69739a8be16c1972#128, 0x3f46a4c41f7d395874f4e33b9d331780#128, 0x5252e0c1d328e3be0d2c5beb59e57554#128, 0x312701524d961730583bcf844c342240#128, 0x6aef55603cd3fceff55228f556d54755#128, 0x144559bb6c9ffcd7bc4c239cf48626f3#128, 0x224d202cccefc1ee67fd0ac2e3641972#128, 0x1a24eaea541cab0f9092b01169688933#128, 0x46f806025397fc91bb49eab33e4cf467#128, 0x2c14dba71e26fe964f314b9433eb3eb2#128, 0x197d9b4b8cafcfaf8e88275824a90133#128, 0x2561da58536a903fe562896ae4899333#128, 0x646cca2be3d6cc87d093e2fc4c0f4ad5#128, 0x41d77800d619af2838dab35b297373a6#128, 0x48afd66ef59a994991d0e977a9aa5ba7#128, 0x5ce7c3e3968e47f62e5390ab45fe70d4#128, 0x5cea6fd59105659e2d1ccaeb5d2c7d54#128, 0x428019a11caacb8824c8241264b2fba6#128, 0x229a33517461d3ee69739a8be16c1972#128, 0x258e6f54b84bf6f7ef54f70e70ef2ef3#128, 0x3f46b4c41f7d395874f4e33b9d331780#128, 0x1af0929921b9589f9fb368dce89d2373#128, 0x5252e8c1d328e3be0d2c5beb59e57554#128, 0x3bdc8ad604f36599e246fae899f68fc1#128, 0x312705524d961730583bcf844c342240#128, 0x38e6217d7e479d8109554569546afc0#128, 0x6aef57603cd3fceff55228f556d54755#128, 0x2bd77bb364ab6b3fc733d8875e039333#128, 0x144558bb6c9ffcd7bc4c239cf48626f3#128, 0x698e6217d7fb8627ef6aa903c013fa95#128, 0x224d20acccefc1ee67fd0ac2e3641972#128, 0x21ce3a83c07704de74dad50f0d583b32#128, 0x1a24eaaa541cab0f9092b01169688933#128, 0x56f3167fe31312df9eb885b869165d55#128, 0x46f806225397fc91bb49eab33e4cf467#128, 0x77dcb1c60e3ad1c9e2190477682adba7#128, 0x2c14dbb71e26fe964f314b9433eb3eb2#128, 0x7348a7e5645f92d076e747a9d181ec26#128, 0x197d9b438cafcfaf8e88275824a90133#128, 0x2cfbb4409945161e45d21862e0409b32#128, 0x2561da5c536a903fe562896ae4899333#128, 0x36e717e02724b8f1d1527df73b8e8241#128, 0x646cca29e3d6cc87d093e2fc4c0f4ad5#128, 0x7adc3b3404788e11d4cfd6f8f5447467#128, 0x41d77801d619af2838dab35b297373a6#128, 0x4a2ade42a1db559927495c4d4e62fc1#128, 0x48afd66e759a994991d0e977a9aa5ba7#128, 0x329f337db88e12004e8e904902080000#128, 0x5ce7c3e3d68e47f62e5390ab45fe70d4#128, 0x36e9eb0be64d6b99d3ec2e5e502bb781#128, 0x5cea6fd5b105659e2d1ccaeb5d2c7d54#128, 0x4622ba58b211bb21b69fb337b1785627#128, 0x428019a10caacb8824c8241264b2fba6#128, 0x49a065cd7758d5196f0e3578d383201#128, 0x229a33517c61d3ee69739a8be16c1972#128, 0x55aabdbeec28a2078079924a4cd2f295#128, 0x258e6f54bc4bf6f7ef54f70e70ef2ef3#128, 0x7986f6afcfc951e9cb9188c1a5beebe7#128, 0x3f46b4c41d7d395874f4e33b9d331780#128, 0x2f76850d57908a5e54a716d46cf0bb32#128, 0x1af0929920b9589f9fb368dce89d2373#128, 0x489a0b11781e0c1196cc4fdebc394c27#128, 0x5252e8c1d3a8e3be0d2c5beb59e57554#128, 0x72ccff3fd3d186182e1ce9a41041041#128, 0x3bdc8ad604b36599e246fae899f68fc1#128, 0x5c33b52f8947e9462158188b7248d294#128, 0x312705524db61730583bcf844c342240#128, 0x79880aa666d696d9c926622882fff1e7#128, 0x38e6217d7f479d8109554569546afc0#128, 0x285aabc679b16ad7d6c2852abfdb1eb3#128, 0x6aef57603cdbfceff55228f556d54755#128, 0x26d44eb77ddd535ff0b1c738de72bb33#128, 0x2bd77bb364af6b3fc733d8875e039333#128, 0x3cfddc25f2ae2df86391fd8d3387a7c0#128, 0x144558bb6c9dfcd7bc4c239cf48626f3#128, 0x457534e82f16f649aa2d862c91005ba7#128, 0x698e6217d7fa8627ef6aa903c013fa95#128, 0x4bf8b9d33b8f38198de17cdee54751e7#128, 0x224d20acccef41ee67fd0ac2e3641972#128, 0x634efa836deeebf650dae654442b4894#128, 0x21ce3a83c07744de74dad50f0d583b32#128, 0x4bf6a9a1f02e1f698fec4b1a74166be7#128, 0x1a24eaaa541c8b0f9092b01169688933#128, 0x6462e2cc93c28627d2d0526e0d66c2d5#128, 0x56f3167fe31302df9eb885b869165d55#128, 0x79b07befedd921e9cd751ec18ebeebe7#128, 0x46f806225397f491bb49eab33e4cf467#128, 0x701c741cbd9fc8b06b94eadf79b8c426#128, 0x77dcb1c60e3ad5c9e2190477682adba7#128, 0x44eaa59bd8819a999287fa5ed58ad81#128, 0x2c14dbb71e26fc964f314b9433eb3eb2#128, 0x602105ae977251e64834e0c2dd2d5a94#128, 0x7348a7e5645f93d076e747a9d181ec26#128, 0x645919a4b35879f7d7a68d71cb5770d5#128, 0x197d9b438cafcf2f8e88275824a90133#128, 0xd94d9da18080030c4db699e5dc0#128, 0x2cfbb4409945165e45d21862e0409b32#128, 0x99a6e1cca2f8641a0b0910804c90841#128, 0x2561da5c536a901fe562896ae4899333#128, 0x5f86cdbc744e28fe3430f49ddf071154#128, 0x36e717e02724b8e1d1527df73b8e8241#128, 0x51eae8be2fe60df61bf9191de1788d94#128, 0x646cca29e3d6cc8fd093e2fc4c0f4ad5#128, 0x5f67891c31b7edb03c86875f90384d1c#128, 0x7adc3b3404788e15d4cfd6f8f5447467#128, 0x36dc3b3404788e15d4cfd6f8f5447461#128, 0x41d77801d619af2a38dab35b297373a6#128, 0x35bd0e43ef6cf78dcef750ee63bd3171#128, 0x4a2ade42a1db558927495c4d4e62fc1#128, 0x0#128]
def frL : List W := [0x40000000000000000000000000000000#128, 0x20000000000000000000000000000000#128, 0x8000000000000000000000000000000#128, 0x800000000000000000000000000000#128, 0x8000000000000000000000000000#128, 0x800000000000000000000000#128, 0x8000000000000000#128, 0xe1000000000000000000000000000000#128, 0xa8020000000000000000000000000000#128, 0x88800008000000000000000000000000#128, 0x80808000000000800000000000000000#128, 0x80008000800000000000000000008000#128, 0x800000008000000080000000e1000000#128, 0x61000000000000005753840000000000#128, 0x13f3efc9753840000000000000000000#128, 0x20aaa0aa8aaa0822a220a8020000000#128, 0xef71e969867f1888690888888008008#128, 0xe19e18aee34963c96361282a4b028061#128, 0x785720fb8871865780a6b48cd90a96d1#128, 0x2d88cd0cb4ac0b531aa6aeed729aa8ed#128, 0x9d417fa61f65872a7bfa7acbff7bf580#128, 0xb79a60390f91418442aac91ac0c52d88#128, 0xb2647d77e1a28de9c9ea5b79eac8a5c1#128, 0xb5a27b9f018a8b1cfbbd41a96f89b5c1#128, 0xb812f046d6c9e958b286b56ae8251fe3#128, 0x9c32f33e16afd2976599aea96fd221dd#128, 0x22432c6ec1cdb55ab0ac8660bc1bdc34#128, 0x941ccfc3a9964ef84c4fe3cac43f6f24#128, 0xca397a34a3f7eda541facf68c22c70a8#128, 0x98cb5ab9e31ce8915144b4e3dd7667d3#128, 0x436f1cf28e241ddfe614f342cee58ccb#128, 0xd447b1696790646493f8f4b277b3b06#128, 0x54a0a9601f5eee84180dcbba9950b41e#128, 0x4de588da952e507bf0cc9d6c4404c373#128, 0xe5e71bb22de5001fa5a4890bb4d8b53#128, 0x2ebb098302a3680ee4700e3207ecafcb#128, 0x25e8ff5e0055dd90103d8b8387440d04#128, 0x7b26a5ce8f4657a57535ce5ae2784638#128, 0x1f65c18795b5cb8347f4051d1a5cd557#128, 0xb07728cee03947744549a13f3a757ffb#128, 0x4853d688639329e8717b2f6dd12a2a18#128, 0x1557933238ec620a36cd08f5167dbbe5#128, 0x9908abb046ebdee7cd32cdae007043e3#128, 0xa130c91a4110a1c770289d5e9ae5eb77#128, 0x377e04f142dcfd9b9269c56b9bbe01cb#128, 0x12880c1a5d5b58be5660dae3faa1df26#128, 0x555ae6d0da8bc5d56299dd997c90508e#128, 0x78dcd0eef63684661385220e9be643f5#128, 0xbf81d79b681eb87f1840494ee86d68c7#128, 0x367b8429a883e1daf3134227831f3df#128, 0x6566f1bd032c6e16a7bd8d175a714cb2#128, 0xdb2710668fd84d13ef212d779431aeb2#128, 0x692ed23988cad9c9b616ef174b65be90#128, 0xc4205b1a258cdd336c2c02e38ac11206#128, 0xfa0946c96284c5d57dcd49e325281a3c#128, 0xef061d18dc8af3dfb2234ad1a349bf6f#128, 0xce981e35ae0dc847c9bd2c2ac24a402e#128, 0x15aaeacec86144dd41e6280d88c02eed#128, 0xace9dbeef679a0728561f1422ee72528#128, 0x699b5ad1f25d14e6b4efade7522be0f9#128, 0x2226150e1942b16745c23c5e41707c1e#128, 0x5cd315661f6f7bbb6ac191dcbf0f6b79#128, 0xf2176b4964a57635aeeafc7ec8362bbc#128, 0x354f8595ec875581a181858074d4726f#128, 0x6f9945a9e519a7229d4c1ad657f8a686#128, 0xa6547e1b63494270c3d302b7670cb93e#128, 0x3dc56ce9bea6fe2bca6ff45b8c7ea343#128, 0x292586a6284cd3aaff71fd2b15b5a4c7#128, 0x562ae9f5d02642d49f3f080f892211fd#128, 0x56f0d1c87c63aaf697e28236338ff22e#128, 0xac39a95e530cbd2277395dde8852b4ef#128, 0x37e9d3f4379c3cbb93eb3b6a760e9f8c#128, 0x9823eb3e3b72089f2fc8d277b8f0bf53#128, 0x766c05ab72402f4932fffedcecc06d63#128, 0xdd9aeca000210297bd81b9403e20d2df#128, 0xc444a78bc0d634400d435612dac2483a#128, 0xbcdadc6d27d8d3006a2b6b6622812d7b#128, 0x4637bc74001c8ac45634538328c0f138#128, 0x1bda5786f1695f2d9af1dbe0545f2955#128, 0x7669665f7c02c37891fe5392f858b75d#128, 0x5e27788143e15420ee953b2d4cabc59e#128, 0x998fba95e3f81ac8dc9307fe6f5b2e53#128, 0xa2b722231ebd8221ce8e45a8984fcb49#128, 0xb7973bfd607323fbe0cdb2368da4a4a0#128, 0x5d7a5bb02210b70099da0122a722059a#128, 0xdce474a33289001ef72dd81e9a11266b#128, 0x8c6972ea34058b59b86393058a266414#128, 0x1c551edf5c813cb32fcf1e04e6e2613e#128, 0x60c42fb6d5fbf292b5c6075c2cf30349#128, 0x22a7bd56589f6535eceb3e533e052eaa#128, 0xc3a11f9613e149e1bbc3d291e2e5b5dd#128, 0xdafac54f4c6070af51546f69082db61c#128, 0xe9cf1574d6a6c218a44126ca02a2dbf7#128, 0xcd02d8e98804a38fb22677366a204261#128, 0xaa301e2ec7617120e63f1e30b044a6f9#128, 0xb9e65740d5fb553c4cbe107a85248c36#128, 0xdebb046b71ae153b531960a283fb4702#128, 0x85411decb270c794db0fc890ae57de84#128, 0x2a8ab4d60f034a2465cf41f1ae393318#128, 0x3ee39d1c6663f2ff6b6d5d7ca9119f45#128, 0xaa9c0a807dbcf3ad87daaf8dcc5846d1#128, 0x8fb58c8bff4cb5da373bf185927c0265#128, 0x1b83535ac077e5b18c2005adca2c84e3#128, 0x197bce1a22310942bdaf34e3091a1d5f#128, 0x6464014e790495d59cea8d6913dcdf18#128, 0xca7dbf9ff1d8d21aad0b4e3d18327547#128, 0xc5eaee4e263ddfe46d67af1a87e7fefd#128, 0x205aed936cf7c3f91d09c7a2a92c2e#128, 0xb8968f5ee66af5d7b914d75220e3eecd#128, 0xf07e05941a5bcd62b638ffd5e9a52bb0#128, 0x46a277ddd4228cdf113a49a16a5e509c#128, 0x532f01730288c9b1109f231beb6440f7#128, 0xab26eafada1fbd6243b422e8d8c25ee3#128, 0x4aef7084e6966d3978addbe4a1b1af55#128, 0x833547603428c348073beabf4366e57d#128, 0x16b7d35a6395d440e66daae62761d18e#128, 0xb9eeeca089f5e5ee762f6071fce745d7#128, 0x35c8f66c4af0bdd7d08f3d474459b659#128, 0x36ee41547366d4d5ccf0d126e200c90c#128, 0xa3313c7cfac5a806ad5438287b8226fb#128, 0x9de8f5fe47d524519fb0d52c96a68410#128, 0x60f2901470dd606182981d04b9186186#128, 0xa5ae586d815ec618867625c71e534d34#128, 0x1994ed4a7cab35d7575149610cb2cb2c#128, 0x49f36de7140092dbae792410c38e38e3#128, 0x356dcf3ca28aebaedb6d75d7df7d75d7#128, 0x5aa28a28514514518618618659659659#128, 0x25b6db6db6db6db64924924924924924#128, 0x40000000000000000000000000000000#128]
theorem sq_el : ∀ i : Fin 128, lin sqL 0 (el i.1) = el (i.1 + i.1) := by decide +kernel
theorem sq_lin (v : W) : sq v = lin sqL 0 v := by
  refine lin_ext sq (lin sqL 0) sq_xor (lin_xor sqL 0) (fun i hi => ?_) v
  rw [sq_el ⟨i, hi⟩]
  show gm (el i) (el i) = _
  rw [el_gm _ i hi]
  unfold el
  rw [pw_add]
def fr : Nat → W → W
  | 0, y => y
  | n + 1, y => sq (fr n y)
theorem fr_xor (n : Nat) (a b : W) : fr n (a ^^^ b) = fr n a ^^^ fr n b := by
  induction n with
  | zero => rfl
  | succ n ih => show sq (fr n (a ^^^ b)) = _; rw [ih, sq_xor]; rfl
theorem fr_gm (n : Nat) (a b : W) : fr n (gm a b) = gm (fr n a) (fr n b) := by
  induction n with
  | zero => rfl
  | succ n ih => show sq (fr n (gm a b)) = _; rw [ih, sq_gm]; rfl
theorem chain_ok : ∀ i : Fin 128, lin sqL 0 (frL.getD i.1 0#128) = frL.getD (i.1 + 1) 0#128 := by decide +kernel
theorem fr_t : ∀ n, n ≤ 128 → fr n (el 1) = frL.getD n 0#128 := by
  intro n
  induction n with
  | zero => intro _; show el 1 = frL.getD 0 0#128; decide +kernel
  | succ n ih =>
    intro hn
    show sq (fr n (el 1)) = _
    rw [ih (by omega), sq_lin]
    exact chain_ok ⟨n, by omega⟩
theorem fr_one (n : Nat) : fr n one = one := by
  induction n with
  | zero => rfl
  | succ n ih => show sq (fr n one) = one; rw [ih]; exact gm_one one
theorem fr_all (y : W) : fr 128 y = y := by
  have ht : fr 128 (el 1) = el 1 := by
    rw [fr_t 128 (Nat.le_refl _)]
    decide +kernel
  refine lin_ext (fr 128) (fun y => y) (fr_xor 128) (fun _ _ => rfl) (fun i hi => ?_) y
  show fr 128 (el i) = el i
  induction i with
  | zero => exact fr_one 128
  | succ i ih =>
    have e : el (i + 1) = gm (el 1) (el i) := by rw [el_gm _ 1 (by decide)]; rfl
    rw [e, fr_gm, ht, ih (by omega)]
-- what is its own square is 0 or 1
theorem inv_ok : ∀ i : Fin 128, lin invL 0 (lin sqL 0 (el i.1) ^^^ el i.1) ^^^ el i.1 = 0#128 ∨ lin invL 0 (lin sqL 0 (el i.1) ^^^ el i.1) ^^^ el i.1 = one := by decide +kernel
theorem own_square (y : W) (h : sq y = y) : y = 0#128 ∨ y = one := by
  have hadd : ∀ a b : W, lin invL 0 (sq (a ^^^ b) ^^^ (a ^^^ b)) ^^^ (a ^^^ b) = (lin invL 0 (sq a ^^^ a) ^^^ a) ^^^ (lin invL 0 (sq b ^^^ b) ^^^ b) := fun a b => by
    rw [sq_xor, x4 (sq a) (sq b) a b, lin_xor, x4]
  have hz : lin invL 0 (sq 0#128 ^^^ 0#128) ^^^ 0#128 = 0#128 := by
    have := hadd 0#128 0#128
    rw [BitVec.xor_self, BitVec.xor_self] at this
    exact this
  have k : ∀ n, n ≤ 128 → (lin invL 0 (sq (acc y one n) ^^^ acc y one n) ^^^ acc y one n = 0#128 ∨ lin invL 0 (sq (acc y one n) ^^^ acc y one n) ^^^ acc y one n = one) := by
    intro n
    induction n with
    | zero => intro _; exact Or.inl hz
    | succ n ih =>
      intro hn
      show lin invL 0 (sq (acc y one n ^^^ (if y.getMsbD n then el n else 0#128)) ^^^ (acc y one n ^^^ (if y.getMsbD n then el n else 0#128))) ^^^ (acc y one n ^^^ (if y.getMsbD n then el n else 0#128)) = 0#128 ∨ lin invL 0 (sq (acc y one n ^^^ (if y.getMsbD n then el n else 0#128)) ^^^ (acc y one n ^^^ (if y.getMsbD n then el n else 0#128))) ^^^ (acc y one n ^^^ (if y.getMsbD n then el n else 0#128)) = one
      rw [hadd]
      have hi : ∀ p : Bool, (lin invL 0 (sq (if p then el n else 0#128) ^^^ (if p then el n else 0#128)) ^^^ (if p then el n else 0#128) = 0#128 ∨ lin invL 0 (sq (if p then el n else 0#128) ^^^ (if p then el n else 0#128)) ^^^ (if p then el n else 0#128) = one) := fun p => by
        cases p
        · exact Or.inl hz
        · have := inv_ok ⟨n, by omega⟩
          rw [← sq_lin] at this
          exact this
      rcases ih (by omega) with e1 | e1 <;> rcases hi (y.getMsbD n) with e2 | e2 <;> rw [e1, e2]
      · exact Or.inl (by decide)
      · exact Or.inr (by decide)
      · exact Or.inr (by decide)
      · exact Or.inl (by decide)
  have := k 128 (Nat.le_refl _)
  rw [show acc y one 128 = y from gm_one y, h, BitVec.xor_self] at this
  have z : lin invL 0 0#128 = 0#128 := by
    have := lin_xor invL 0 0#128 0#128
    rw [BitVec.xor_self, BitVec.xor_self] at this
    exact this
  rw [z, BitVec.zero_xor] at this
  exact this
-- inverses
def qq (h : W) : Nat → W
  | 0 => one
  | n + 1 => gm (sq (qq h n)) h
theorem qq_fr (h : W) (n : Nat) : gm h (qq h n) = fr n h := by
  induction n with
  | zero => exact gm_one h
  | succ n ih =>
    show gm h (gm (sq (qq h n)) h) = sq (fr n h)
    rw [← ih, sq_gm, gm_comm (sq (qq h n)) h, ← gm_assoc]; rfl
theorem inverse (h : W) (hn : h ≠ 0#128) : ∃ s, gm s h = one := by
  have e1 : gm h (qq h 128) = h := by rw [qq_fr, fr_all]
  have e2 : qq h 128 = gm (sq (qq h 127)) h := rfl
  have e3 : sq (qq h 128) = qq h 128 := by
    show gm (qq h 128) (qq h 128) = _
    have e4 : gm (qq h 128) (qq h 128) = gm (sq (qq h 127)) (gm h (qq h 128)) := by rw [← gm_assoc, ← e2]
    rw [e4, e1, ← e2]
  refine ⟨sq (qq h 127), ?_⟩
  rw [← e2]
  rcases own_square _ e3 with e | e
  · rw [e, gm_zero] at e1
    exact absurd e1.symm hn
  · exact e
/-- Who is multiplied by what is not 0 can be told from the product. -/
theorem gm_inj {x y h : W} (hn : h ≠ 0#128) (e : gm x h = gm y h) : x = y := by
  obtain ⟨s, hs⟩ := inverse h hn
  have e2 : gm h s = one := by rw [gm_comm, hs]
  have := congrArg (fun z => gm z s) e
  simp only [gm_assoc, e2, gm_one] at this
  exact this
end Go.Proofs.Ytbebmbcjddibaaa.Lng
