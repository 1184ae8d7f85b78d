/- Bits of numbers, negative ones in two's complement.  Conditions: those that each theorem names. -/
import Derived.Test.YtjimnjkgpdoacaaPiH
set_option linter.unusedVariables false
set_option linter.unusedSimpArgs false
namespace Go.Pl
open Go Go.Ev Go.Sh
def b01 (b : Bool) : Nat := if b then 1 else 0
theorem b01_lt (b : Bool) : b01 b < 2 := by cases b <;> decide
def nb (g : Bool → Bool → Bool) : Nat → Nat → Nat → Nat
  | 0, _, _ => 0
  | n + 1, x, y => b01 (g (x % 2 == 1) (y % 2 == 1)) + 2 * nb g n (x / 2) (y / 2)
def bw (g : Bool → Bool → Bool) : Nat → Int → Int → Int
  | 0, v, w => if g (decide (v < 0)) (decide (w < 0)) then -1 else 0
  | n + 1, v, w => (b01 (g (v % 2 == 1) (w % 2 == 1)) : Nat) + 2 * bw g n (v / 2) (w / 2)
theorem nb_lt (g : Bool → Bool → Bool) : ∀ (n x y : Nat), nb g n x y < 2 ^ n := by
  intro n
  induction n with
  | zero => intro x y; exact Nat.one_pos
  | succ n ih =>
    intro x y
    have h1 := ih (x / 2) (y / 2)
    have h2 := b01_lt (g (x % 2 == 1) (y % 2 == 1))
    simp only [nb]
    rw [Nat.pow_succ]; omega
theorem bw_rng (g : Bool → Bool → Bool) : ∀ (n : Nat) (v w : Int), -(2 : Int) ^ n ≤ bw g n v w ∧ bw g n v w < (2 : Int) ^ n := by
  intro n
  induction n with
  | zero => intro v w; simp only [bw]; split <;> decide
  | succ n ih =>
    intro v w
    have h1 := ih (v / 2) (w / 2)
    have h2 := b01_lt (g (v % 2 == 1) (w % 2 == 1))
    simp only [bw]
    rw [Int.pow_succ]; omega
theorem half_rng {n : Nat} {v : Int} (h : -(2 : Int) ^ (n + 1) ≤ v ∧ v < (2 : Int) ^ (n + 1)) : -(2 : Int) ^ n ≤ v / 2 ∧ v / 2 < (2 : Int) ^ n := by
  rw [Int.pow_succ] at h; omega
theorem up_rng {n : Nat} {v : Int} (h : -(2 : Int) ^ n ≤ v ∧ v < (2 : Int) ^ n) : -(2 : Int) ^ (n + 1) ≤ v ∧ v < (2 : Int) ^ (n + 1) := by
  have : 0 < (2 : Int) ^ n := Int.pow_pos (by decide)
  rw [Int.pow_succ]; omega
theorem one_rng {v : Int} (h : -(2 : Int) ^ 0 ≤ v ∧ v < (2 : Int) ^ 0) : v = -1 ∨ v = 0 := by
  rw [Int.pow_zero] at h; omega
theorem bw_stable (g : Bool → Bool → Bool) : ∀ (n : Nat) (v w : Int), -(2 : Int) ^ n ≤ v ∧ v < (2 : Int) ^ n → -(2 : Int) ^ n ≤ w ∧ w < (2 : Int) ^ n → bw g (n + 1) v w = bw g n v w := by
  intro n
  induction n with
  | zero =>
    intro v w hv hw
    rcases one_rng hv with rfl | rfl <;> rcases one_rng hw with rfl | rfl
    · show ((b01 (g true true) : Nat) : Int) + 2 * (if g true true then -1 else 0) = if g true true then -1 else 0
      cases g true true <;> decide
    · show ((b01 (g true false) : Nat) : Int) + 2 * (if g true false then -1 else 0) = if g true false then -1 else 0
      cases g true false <;> decide
    · show ((b01 (g false true) : Nat) : Int) + 2 * (if g false true then -1 else 0) = if g false true then -1 else 0
      cases g false true <;> decide
    · show ((b01 (g false false) : Nat) : Int) + 2 * (if g false false then -1 else 0) = if g false false then -1 else 0
      cases g false false <;> decide
  | succ n ih =>
    intro v w hv hw
    have := ih (v / 2) (w / 2) (half_rng hv) (half_rng hw)
    show ((b01 (g (v % 2 == 1) (w % 2 == 1)) : Nat) : Int) + 2 * bw g (n + 1) (v / 2) (w / 2) = (b01 (g (v % 2 == 1) (w % 2 == 1)) : Nat) + 2 * bw g n (v / 2) (w / 2)
    rw [this]
theorem bw_more (g : Bool → Bool → Bool) {n : Nat} {v w : Int} (hv : -(2 : Int) ^ n ≤ v ∧ v < (2 : Int) ^ n) (hw : -(2 : Int) ^ n ≤ w ∧ w < (2 : Int) ^ n) : ∀ m : Nat, bw g (n + m) v w = bw g n v w ∧ (-(2 : Int) ^ (n + m) ≤ v ∧ v < (2 : Int) ^ (n + m)) ∧ (-(2 : Int) ^ (n + m) ≤ w ∧ w < (2 : Int) ^ (n + m)) := by
  intro m
  induction m with
  | zero => exact ⟨rfl, hv, hw⟩
  | succ m ih =>
    obtain ⟨h1, h2, h3⟩ := ih
    refine ⟨?_, up_rng h2, up_rng h3⟩
    rw [← Nat.add_assoc, bw_stable g (n + m) v w h2 h3, h1]
theorem abs_rng {v : Int} {n : Nat} (h : v.natAbs ≤ n) : -(2 : Int) ^ n ≤ v ∧ v < (2 : Int) ^ n := by
  have h1 : n < 2 ^ n := Nat.lt_two_pow_self
  have h2 : ((2 ^ n : Nat) : Int) = (2 : Int) ^ n := by rw [Int.natCast_pow]; rfl
  omega
def bwI (g : Bool → Bool → Bool) (v w : Int) : Int := bw g (v.natAbs + w.natAbs) v w
theorem bw_eq (g : Bool → Bool → Bool) {n : Nat} {v w : Int} (hv : -(2 : Int) ^ n ≤ v ∧ v < (2 : Int) ^ n) (hw : -(2 : Int) ^ n ≤ w ∧ w < (2 : Int) ^ n) : bw g n v w = bwI g v w := by
  have h1 := (bw_more g hv hw (v.natAbs + w.natAbs)).1
  have h2 := (bw_more g (n := v.natAbs + w.natAbs) (abs_rng (v := v) (by omega)) (abs_rng (v := w) (by omega)) n).1
  unfold bwI
  rw [← h1, ← h2, Nat.add_comm]
def tc (n : Nat) (v : Int) : Nat := (v % (2 : Int) ^ n).toNat
theorem pow2_pos (n : Nat) : 0 < (2 : Int) ^ n := Int.pow_pos (by decide)
theorem tc_cast (n : Nat) (v : Int) : ((tc n v : Nat) : Int) = v % (2 : Int) ^ n := Int.toNat_of_nonneg (Int.emod_nonneg _ (Int.ne_of_gt (pow2_pos n)))
theorem emod_two_mul (v : Int) {m : Int} (hm : 0 < m) : v % (m * 2) = 2 * ((v / 2) % m) + v % 2 := by
  have h1 := Int.mul_ediv_add_emod (v / 2) m
  have h2 := Int.emod_nonneg (v / 2) (Int.ne_of_gt hm)
  have h3 := Int.emod_lt_of_pos (v / 2) hm
  have h4 : v = (2 * ((v / 2) % m) + v % 2) + m * 2 * ((v / 2) / m) := by
    have e : m * 2 * ((v / 2) / m) = 2 * (m * ((v / 2) / m)) := by rw [Int.mul_comm m 2, Int.mul_assoc]
    rw [e]; omega
  have h5 : ((2 * ((v / 2) % m) + v % 2) + m * 2 * ((v / 2) / m)) % (m * 2) = 2 * ((v / 2) % m) + v % 2 := by
    rw [Int.add_mul_emod_self_left]
    exact Int.emod_eq_of_lt (by omega) (by omega)
  rw [← h4] at h5
  exact h5
theorem tc_succ (n : Nat) (v : Int) : tc (n + 1) v % 2 = (v % 2).toNat ∧ tc (n + 1) v / 2 = tc n (v / 2) := by
  have h1 := tc_cast (n + 1) v
  have h2 := tc_cast n (v / 2)
  rw [Int.pow_succ, emod_two_mul v (pow2_pos n)] at h1
  omega
theorem bw_tc (g : Bool → Bool → Bool) : ∀ (n : Nat) (v w : Int), bw g n v w = (nb g n (tc n v) (tc n w) : Nat) + (2 : Int) ^ n * bw g 0 (v / (2 : Int) ^ n) (w / (2 : Int) ^ n) := by
  intro n
  induction n with
  | zero => intro v w; simp only [nb, Int.pow_zero, Int.ediv_one, Int.one_mul]; simp
  | succ n ih =>
    intro v w
    obtain ⟨a1, a2⟩ := tc_succ n v
    obtain ⟨b1, b2⟩ := tc_succ n w
    have e : ∀ u : Int, u / (2 : Int) ^ (n + 1) = u / 2 / (2 : Int) ^ n := by
      intro u
      rw [Int.ediv_ediv_of_nonneg (by decide), Int.pow_succ, Int.mul_comm]
    have c1 : ∀ u : Int, ((u % 2).toNat == 1) = (u % 2 == 1) := by
      intro u
      rcases Int.emod_two_eq u with h | h <;> rw [h] <;> rfl
    have hi := ih (v / 2) (w / 2)
    rw [show bw g (n + 1) v w = (b01 (g (v % 2 == 1) (w % 2 == 1)) : Nat) + 2 * bw g n (v / 2) (w / 2) from rfl, hi, e, e, nb, a1, a2, b1, b2, c1, c1, Int.pow_succ]
    generalize bw g 0 _ _ = t
    generalize nb g n _ _ = u
    generalize b01 _ = c
    rw [Int.mul_add, ← Int.mul_assoc 2, Int.mul_comm 2 ((2 : Int) ^ n)]
    omega
def sv (n u : Nat) : Int := if 2 ^ (n - 1) ≤ u then (u : Int) - (2 : Int) ^ n else u
theorem bwI_nb (g : Bool → Bool → Bool) {n : Nat} {v w : Int} (hv : -(2 : Int) ^ n ≤ v ∧ v < (2 : Int) ^ n) (hw : -(2 : Int) ^ n ≤ w ∧ w < (2 : Int) ^ n) : bwI g v w = sv (n + 1) (nb g (n + 1) (tc (n + 1) v) (tc (n + 1) w)) := by
  have h1 := bw_eq g hv hw
  have h2 := bw_eq g (up_rng hv) (up_rng hw)
  have h3 := bw_rng g n v w
  have h4 := bw_tc g (n + 1) v w
  have h5 := nb_lt g (n + 1) (tc (n + 1) v) (tc (n + 1) w)
  have h6 : bw g 0 (v / (2 : Int) ^ (n + 1)) (w / (2 : Int) ^ (n + 1)) = -1 ∨ bw g 0 (v / (2 : Int) ^ (n + 1)) (w / (2 : Int) ^ (n + 1)) = 0 := by simp only [bw]; split <;> simp
  generalize nb g (n + 1) (tc (n + 1) v) (tc (n + 1) w) = u at *
  generalize bw g 0 (v / (2 : Int) ^ (n + 1)) (w / (2 : Int) ^ (n + 1)) = t at *
  rw [h2] at h4
  rw [h1] at h3
  have p1 : ((2 ^ n : Nat) : Int) = (2 : Int) ^ n := by rw [Int.natCast_pow]; rfl
  unfold sv
  rw [Nat.add_sub_cancel]
  rw [Int.pow_succ] at h4 ⊢
  rw [Nat.pow_succ] at h5
  have p0 := pow2_pos n
  rcases h6 with h6 | h6 <;> rw [h6] at h4 <;> split <;> omega
theorem nb_split (g : Bool → Bool → Bool) (n x y : Nat) : ∀ (m a b : Nat), a < 2 ^ m → b < 2 ^ m → nb g (m + n) (a + 2 ^ m * x) (b + 2 ^ m * y) = nb g m a b + 2 ^ m * nb g n x y := by
  intro m
  induction m with
  | zero =>
    intro a b ha hb
    have ha : a = 0 := by rw [Nat.pow_zero] at ha; omega
    have hb : b = 0 := by rw [Nat.pow_zero] at hb; omega
    subst ha; subst hb
    simp only [Nat.pow_zero, Nat.one_mul, Nat.zero_add, nb]
  | succ m ih =>
    intro a b ha hb
    rw [Nat.pow_succ] at ha hb
    have e : ∀ c z : Nat, (c + 2 ^ (m + 1) * z) % 2 = c % 2 ∧ (c + 2 ^ (m + 1) * z) / 2 = c / 2 + 2 ^ m * z := by
      intro c z
      have : 2 ^ (m + 1) * z = 2 * (2 ^ m * z) := by rw [Nat.pow_succ, Nat.mul_comm (2 ^ m) 2, Nat.mul_assoc]
      rw [this]; omega
    rw [show m + 1 + n = (m + n) + 1 by omega, nb, nb, (e a x).1, (e a x).2, (e b y).1, (e b y).2, ih (a / 2) (b / 2) (by omega) (by omega), Nat.pow_succ, Nat.mul_add, Nat.mul_comm (2 ^ m) 2, Nat.mul_assoc]
    omega
theorem nb_testBit (g : Bool → Bool → Bool) : ∀ (n x y i : Nat), (nb g n x y).testBit i = (decide (i < n) && g (x.testBit i) (y.testBit i)) := by
  intro n
  induction n with
  | zero => intro x y i; simp [nb]
  | succ n ih =>
    intro x y i
    have hb := b01_lt (g (x % 2 == 1) (y % 2 == 1))
    cases i with
    | zero =>
      have t : ∀ z : Nat, z.testBit 0 = (z % 2 == 1) := by
        intro z
        rw [Nat.testBit_zero]
        rcases Nat.mod_two_eq_zero_or_one z with h | h <;> rw [h] <;> rfl
      rw [t, t, t, nb]
      have : (b01 (g (x % 2 == 1) (y % 2 == 1)) + 2 * nb g n (x / 2) (y / 2)) % 2 = b01 (g (x % 2 == 1) (y % 2 == 1)) := by omega
      rw [this]
      simp only [Nat.zero_lt_succ, decide_true, Bool.true_and]
      cases g (x % 2 == 1) (y % 2 == 1) <;> rfl
    | succ i =>
      rw [Nat.testBit_succ, Nat.testBit_succ, Nat.testBit_succ, nb]
      have : (b01 (g (x % 2 == 1) (y % 2 == 1)) + 2 * nb g n (x / 2) (y / 2)) / 2 = nb g n (x / 2) (y / 2) := by omega
      rw [this, ih]
      by_cases h : i < n
      · rw [decide_eq_true h, decide_eq_true (by omega)]
      · rw [decide_eq_false h, decide_eq_false (by omega)]
abbrev gAnd (p q : Bool) : Bool := p && q
abbrev gOr (p q : Bool) : Bool := p || q
abbrev gXor (p q : Bool) : Bool := p ^^ q
abbrev gNot (p q : Bool) : Bool := !p
theorem bv_nb (g : Bool → Bool → Bool) (v w u : BitVec 32) (h : ∀ i, i < 32 → u.getLsbD i = g (v.getLsbD i) (w.getLsbD i)) : u.toNat = nb g 32 v.toNat w.toNat := by
  apply Nat.eq_of_testBit_eq
  intro i
  rw [nb_testBit]
  by_cases hi : i < 32
  · rw [decide_eq_true hi, Bool.true_and]
    exact h i hi
  · rw [decide_eq_false hi, Bool.false_and]
    exact BitVec.getLsbD_of_ge u i (by omega)
theorem toNat_ofInt32 {x : Int} (h : 0 ≤ x) (h' : x < 4294967296) : (BitVec.ofInt 32 x).toNat = x.toNat := by
  rw [BitVec.toNat_ofInt, Int.emod_eq_of_lt h (by omega)]
theorem and_nb {x y : Int} (hx : 0 ≤ x) (hx' : x < 4294967296) (hy : 0 ≤ y) (hy' : y < 4294967296) : bitsOp .and .u32 x y = (nb gAnd 32 x.toNat y.toNat : Nat) := by
  rw [and32, bv_nb gAnd (BitVec.ofInt 32 x) (BitVec.ofInt 32 y) _ (fun i hi => by simp), toNat_ofInt32 hx hx', toNat_ofInt32 hy hy']
theorem or_nb {x y : Int} (hx : 0 ≤ x) (hx' : x < 4294967296) (hy : 0 ≤ y) (hy' : y < 4294967296) : bitsOp .or .u32 x y = (nb gOr 32 x.toNat y.toNat : Nat) := by
  rw [or32, bv_nb gOr (BitVec.ofInt 32 x) (BitVec.ofInt 32 y) _ (fun i hi => by simp), toNat_ofInt32 hx hx', toNat_ofInt32 hy hy']
theorem xor_nb {x y : Int} (hx : 0 ≤ x) (hx' : x < 4294967296) (hy : 0 ≤ y) (hy' : y < 4294967296) : bitsOp .xor .u32 x y = (nb gXor 32 x.toNat y.toNat : Nat) := by
  rw [xor32, bv_nb gXor (BitVec.ofInt 32 x) (BitVec.ofInt 32 y) _ (fun i hi => by simp), toNat_ofInt32 hx hx', toNat_ofInt32 hy hy']
theorem hmax32 : BitVec.ofInt 32 (IntKind.max .u32) = BitVec.allOnes 32 := by decide
theorem not_nb {x y : Int} (hx : 0 ≤ x) (hx' : x < 4294967296) (hy : 0 ≤ y) (hy' : y < 4294967296) : bitsOp .xor .u32 (IntKind.max .u32) x = (nb gNot 32 x.toNat y.toNat : Nat) := by
  rw [xor32, hmax32, BitVec.allOnes_xor, bv_nb gNot (BitVec.ofInt 32 x) (BitVec.ofInt 32 y) _ (fun i hi => by rw [BitVec.getLsbD_not, decide_eq_true hi, Bool.true_and]), toNat_ofInt32 hx hx', toNat_ofInt32 hy hy']
theorem notx {x : Int} (hx : 0 ≤ x) (hx' : x < 4294967296) : bitsOp .xor .u32 (IntKind.max .u32) x = 4294967295 - x := by
  rw [xor32, hmax32, BitVec.allOnes_xor, BitVec.toNat_not, toNat_ofInt32 hx hx']
  omega
theorem bwI_not (v : Int) : bwI gNot v 0 = -v - 1 := by
  have key : ∀ (n : Nat) (v w : Int), -(2 : Int) ^ n ≤ v ∧ v < (2 : Int) ^ n → bw gNot n v w = -v - 1 := by
    intro n
    induction n with
    | zero => intro v w hv; rcases one_rng hv with rfl | rfl <;> rfl
    | succ n ih =>
      intro v w hv
      rw [bw, ih (v / 2) (w / 2) (half_rng hv)]
      rcases Int.emod_two_eq v with h | h
      · rw [h]
        show ((1 : Nat) : Int) + 2 * (-(v / 2) - 1) = _
        omega
      · rw [h]
        show ((0 : Nat) : Int) + 2 * (-(v / 2) - 1) = _
        omega
  exact key _ v 0 (abs_rng (by omega))
theorem bwI_sum (v w : Int) : bwI gXor v w + 2 * bwI gAnd v w = v + w := by
  have key : ∀ (n : Nat) (v w : Int), -(2 : Int) ^ n ≤ v ∧ v < (2 : Int) ^ n → -(2 : Int) ^ n ≤ w ∧ w < (2 : Int) ^ n → bw gXor n v w + 2 * bw gAnd n v w = v + w := by
    intro n
    induction n with
    | zero => intro v w hv hw; rcases one_rng hv with rfl | rfl <;> rcases one_rng hw with rfl | rfl <;> rfl
    | succ n ih =>
      intro v w hv hw
      have h1 := ih (v / 2) (w / 2) (half_rng hv) (half_rng hw)
      rw [bw, bw]
      generalize bw gXor n (v / 2) (w / 2) = p at *
      generalize bw gAnd n (v / 2) (w / 2) = q at *
      rcases Int.emod_two_eq v with h | h <;> rcases Int.emod_two_eq w with h' | h' <;> rw [h, h']
      · show ((0 : Nat) : Int) + 2 * p + 2 * (((0 : Nat) : Int) + 2 * q) = _; omega
      · show ((1 : Nat) : Int) + 2 * p + 2 * (((0 : Nat) : Int) + 2 * q) = _; omega
      · show ((1 : Nat) : Int) + 2 * p + 2 * (((0 : Nat) : Int) + 2 * q) = _; omega
      · show ((0 : Nat) : Int) + 2 * p + 2 * (((1 : Nat) : Int) + 2 * q) = _; omega
  exact key _ v w (abs_rng (by omega)) (abs_rng (by omega))
theorem bwI_or (v w : Int) : bwI gOr v w = -(bwI gAnd (-v - 1) (-w - 1)) - 1 := by
  have key : ∀ (n : Nat) (v w : Int), -(2 : Int) ^ n ≤ v ∧ v < (2 : Int) ^ n → -(2 : Int) ^ n ≤ w ∧ w < (2 : Int) ^ n → bw gOr n v w = -(bw gAnd n (-v - 1) (-w - 1)) - 1 := by
    intro n
    induction n with
    | zero => intro v w hv hw; rcases one_rng hv with rfl | rfl <;> rcases one_rng hw with rfl | rfl <;> rfl
    | succ n ih =>
      intro v w hv hw
      have h1 := ih (v / 2) (w / 2) (half_rng hv) (half_rng hw)
      rw [bw, bw, show (-v - 1) / 2 = -(v / 2) - 1 by omega, show (-w - 1) / 2 = -(w / 2) - 1 by omega, h1, show (-v - 1) % 2 = 1 - v % 2 by omega, show (-w - 1) % 2 = 1 - w % 2 by omega]
      generalize bw gAnd n _ _ = q at *
      rcases Int.emod_two_eq v with h | h <;> rcases Int.emod_two_eq w with h' | h' <;> rw [h, h']
      · show ((0 : Nat) : Int) + 2 * (-q - 1) = -(((1 : Nat) : Int) + 2 * q) - 1; omega
      · show ((1 : Nat) : Int) + 2 * (-q - 1) = -(((0 : Nat) : Int) + 2 * q) - 1; omega
      · show ((1 : Nat) : Int) + 2 * (-q - 1) = -(((0 : Nat) : Int) + 2 * q) - 1; omega
      · show ((1 : Nat) : Int) + 2 * (-q - 1) = -(((0 : Nat) : Int) + 2 * q) - 1; omega
  have h1 := bw_eq gAnd (n := v.natAbs + w.natAbs) (v := -v - 1) (w := -w - 1) (by have := abs_rng (v := v) (n := v.natAbs + w.natAbs) (by omega); omega) (by have := abs_rng (v := w) (n := v.natAbs + w.natAbs) (by omega); omega)
  rw [← h1]
  exact key _ v w (abs_rng (by omega)) (abs_rng (by omega))
theorem bwI_rng (g : Bool → Bool → Bool) {n : Nat} {v w : Int} (hv : -(2 : Int) ^ n ≤ v ∧ v < (2 : Int) ^ n) (hw : -(2 : Int) ^ n ≤ w ∧ w < (2 : Int) ^ n) : -(2 : Int) ^ n ≤ bwI g v w ∧ bwI g v w < (2 : Int) ^ n := by
  rw [← bw_eq g hv hw]; exact bw_rng g n v w
end Go.Pl
