/- Shifts and lengths of package natural.  Conditions: those that each theorem names. -/
import Derived.Test.YtnopjcpoeffoiaaGreatDoorPlF
set_option linter.unusedVariables false
set_option linter.unusedSimpArgs false
namespace Go.Pl
open Go Go.Ev Go.Sh
def lens : List Int := bytesOf (⟨#[0, 1, 2, 2, 3, 3, 3, 3, 4, 4, 4, 4, 4, 4, 4, 4, 5, 5, 5, 5, 5, 5, 5, 5, 5, 5, 5, 5, 5, 5, 5, 5, 6, 6, 6, 6, 6, 6, 6, 6, 6, 6, 6, 6, 6, 6, 6, 6, 6, 6, 6, 6, 6, 6, 6, 6, 6, 6, 6, 6, 6, 6, 6, 6, 7, 7, 7, 7, 7, 7, 7, 7, 7, 7, 7, 7, 7, 7, 7, 7, 7, 7, 7, 7, 7, 7, 7, 7, 7, 7, 7, 7, 7, 7, 7, 7, 7, 7, 7, 7, 7, 7, 7, 7, 7, 7, 7, 7, 7, 7, 7, 7, 7, 7, 7, 7, 7, 7, 7, 7, 7, 7, 7, 7, 7, 7, 7, 7, 8, 8, 8, 8, 8, 8, 8, 8, 8, 8, 8, 8, 8, 8, 8, 8, 8, 8, 8, 8, 8, 8, 8, 8, 8, 8, 8, 8, 8, 8, 8, 8, 8, 8, 8, 8, 8, 8, 8, 8, 8, 8, 8, 8, 8, 8, 8, 8, 8, 8, 8, 8, 8, 8, 8, 8, 8, 8, 8, 8, 8, 8, 8, 8, 8, 8, 8, 8, 8, 8, 8, 8, 8, 8, 8, 8, 8, 8, 8, 8, 8, 8, 8, 8, 8, 8, 8, 8, 8, 8, 8, 8, 8, 8, 8, 8, 8, 8, 8, 8, 8, 8, 8, 8, 8, 8, 8, 8, 8, 8, 8, 8, 8, 8, 8, 8, 8, 8, 8, 8, 8, 8, 8, 8, 8, 8, 8, 8]⟩ : ByteArray)
def lenOk (v : Nat) : Bool := match rd lens v with
  | .ofNat n => Nat.ble n 8 && Nat.blt v (2 ^ n) && (Nat.beq v 0 || (Nat.blt 0 n && Nat.ble (2 ^ (n - 1)) v))
  | _ => false
set_option maxRecDepth 100000 in
theorem lens_tab : (List.range 256).all lenOk = true := by kernel_rfl
theorem lens_ok {v : Nat} (h : v < 256) : ∃ n : Nat, rd lens v = n ∧ n ≤ 8 ∧ v < 2 ^ n ∧ (0 < v → 0 < n ∧ 2 ^ (n - 1) ≤ v) := by
  have h1 := List.all_eq_true.1 lens_tab v (by simpa using h)
  unfold lenOk at h1
  split at h1
  · rename_i n e
    simp only [Bool.and_eq_true, Bool.or_eq_true, Nat.blt_eq] at h1
    refine ⟨n, e, Nat.le_of_ble_eq_true h1.1.1, h1.1.2, fun h0 => ?_⟩
    rcases h1.2 with h2 | h2
    · have := Nat.eq_of_beq_eq_true h2; omega
    · exact ⟨h2.1, Nat.le_of_ble_eq_true h2.2⟩
  · cases h1
theorem shr32 {x : Int} (n : Nat) (hn : n ≤ 32) : shrI .u32 x n = x / 2 ^ n := by
  show x.fdiv (2 ^ (min (n : Int).toNat IntKind.u32.bits)) = _
  rw [show min (n : Int).toNat IntKind.u32.bits = n by rw [natCast_toNat]; exact Nat.min_eq_left hn, Int.fdiv_eq_ediv_of_nonneg _ (Int.le_of_lt (Int.pow_pos (by decide)))]
theorem len8 {y : Int} (h0 : 0 ≤ y) (h : y < 256) (c : Int) (hc : 0 ≤ c) (hc' : c ≤ 100) : ∃ n : Nat, (bif inR (wu8 y) 256 then (some (w64 (c + (w64 (rd lens (wu8 y)))))) else none) = some (c + n) ∧ n ≤ 8 ∧ y < 2 ^ n ∧ (0 < y → 0 < n ∧ 2 ^ (n - 1) ≤ y) := by
  obtain ⟨v, rfl⟩ := Int.eq_ofNat_of_zero_le h0
  obtain ⟨n, e, h1, h2, h3⟩ := lens_ok (v := v) (by omega)
  rw [wu8_id h0 (by omega), inR_t h0 h, e, w64_id (n := (n : Int)) (by omega) (by omega), w64_id (by omega) (by omega)]
  refine ⟨n, rfl, h1, ?_, fun h => ?_⟩
  · have : ((2 ^ n : Nat) : Int) = 2 ^ n := by simp
    omega
  · obtain ⟨h4, h5⟩ := h3 (by omega)
    refine ⟨h4, ?_⟩
    have : ((2 ^ (n - 1) : Nat) : Int) = 2 ^ (n - 1) := by simp
    omega
theorem Len32_eq (x : Int) : bits_Len32 x = joinB (α := Int × Int) (bif decide (65536 ≤ x) then (some (.inl (shrI .u32 x 16, 16))) else (some (.inl (x, 0)))) (fun z1 => bif decide (256 ≤ z1.1) then (bif inR (wu8 (shrI .u32 z1.1 8)) 256 then (some (w64 ((w64 (z1.2 + 8)) + (w64 (rd lens (wu8 (shrI .u32 z1.1 8))))))) else none) else (bif inR (wu8 (z1.1)) 256 then (some (w64 (z1.2 + (w64 (rd lens (wu8 (z1.1))))))) else none)) some := by kernel_rfl
theorem Len32_ok {x : Int} (h0 : 0 < x) (h : x < 4294967296) : ∃ n : Nat, bits_Len32 x = some (n : Int) ∧ 0 < n ∧ n ≤ 32 ∧ (2 : Int) ^ (n - 1) ≤ x ∧ x < 2 ^ n := by
  have hs16 := shr32 (x := x) 16 (by decide)
  have main : ∀ (y : Int) (m : Nat), 0 < y → y < 65536 → m ≤ 16 → ∃ n : Nat, (bif decide (256 ≤ y) then (bif inR (wu8 (shrI .u32 y 8)) 256 then (some (w64 ((w64 ((m : Int) + 8)) + (w64 (rd lens (wu8 (shrI .u32 y 8))))))) else none) else (bif inR (wu8 y) 256 then (some (w64 ((m : Int) + (w64 (rd lens (wu8 y)))))) else none)) = some ((m + n : Nat) : Int) ∧ 0 < n ∧ n ≤ 16 ∧ (2 : Int) ^ (n - 1) ≤ y ∧ y < 2 ^ n := by
    intro y m y0 y1 hm
    by_cases h256 : 256 ≤ y
    · have hs8 := shr32 (x := y) 8 (by decide)
      rw [show ((8 : Nat) : Int) = 8 by rfl, show (2 : Int) ^ 8 = 256 by decide] at hs8
      rw [dle_t h256, hs8, w64_id (n := (m : Int) + 8) (by omega) (by omega)]
      obtain ⟨n, e, n1, n2, n3⟩ := len8 (y := y / 256) (by omega) (by omega) ((m : Int) + 8) (by omega) (by omega)
      obtain ⟨n4, n5⟩ := n3 (by omega)
      refine ⟨n + 8, ?_, by omega, by omega, ?_, ?_⟩
      · simp only [cond_true]
        rw [e]; congr 1; omega
      · have : (2 : Int) ^ (n + 8 - 1) = 2 ^ (n - 1) * 256 := by
          rw [show n + 8 - 1 = (n - 1) + 8 by omega, Int.pow_add]; rfl
        rw [this]; omega
      · rw [Int.pow_add, show (2 : Int) ^ 8 = 256 by decide]; omega
    · rw [dle_f (by omega)]
      obtain ⟨n, e, n1, n2, n3⟩ := len8 (y := y) (by omega) (by omega) (m : Int) (by omega) (by omega)
      obtain ⟨n4, n5⟩ := n3 y0
      refine ⟨n, ?_, n4, by omega, n5, n2⟩
      simp only [cond_false]
      rw [e]; congr 1
  rw [Len32_eq]
  by_cases h16 : 65536 ≤ x
  · rw [show ((16 : Nat) : Int) = 16 by rfl, show (2 : Int) ^ 16 = 65536 by decide] at hs16
    rw [dle_t h16, hs16]
    simp only [cond_true, joinB_inl]
    obtain ⟨n, e, n1, n2, n3, n4⟩ := main (x / 65536) 16 (by omega) (by omega) (by omega)
    refine ⟨16 + n, e, by omega, by omega, ?_, ?_⟩
    · have : (2 : Int) ^ (16 + n - 1) = 2 ^ (n - 1) * 65536 := by
        rw [show 16 + n - 1 = (n - 1) + 16 by omega, Int.pow_add]; rfl
      rw [this]; omega
    · rw [show 16 + n = n + 16 by omega, Int.pow_add, show (2 : Int) ^ 16 = 65536 by decide]; omega
  · rw [dle_f (by omega)]
    simp only [cond_false, joinB_inl]
    obtain ⟨n, e, n1, n2, n3, n4⟩ := main x 0 (by omega) (by omega) (by omega)
    refine ⟨0 + n, e, by omega, by omega, by rw [Nat.zero_add]; exact n3, by rw [Nat.zero_add]; exact n4⟩
theorem two_mul_pow {s : Nat} (hs : s ≤ 32) : ((4294967296 : Nat) : Nat) = 2 ^ s * 2 ^ (32 - s) := by
  rw [← Nat.pow_add, show s + (32 - s) = 32 by omega]
theorem or32_add {m b s : Nat} (hs : s ≤ 32) (hb : b < 2 ^ s) (h : m * 2 ^ s + b < 4294967296) : bitsOp .or .u32 ((m * 2 ^ s : Nat) : Int) b = ((m * 2 ^ s + b : Nat) : Int) := by
  rw [or32, BitVec.ofInt_natCast, BitVec.ofInt_natCast, BitVec.toNat_or, BitVec.toNat_ofNat, BitVec.toNat_ofNat, Nat.mod_eq_of_lt (by omega), Nat.mod_eq_of_lt (by omega)]
  have := Nat.shiftLeft_add_eq_or_of_lt hb m
  rw [Nat.shiftLeft_eq] at this
  rw [this]
theorem shl64 {x s : Nat} (hx : x < 4294967296) (hs : s < 32) : shlI .u64 (x : Int) (s : Int) = ((x * 2 ^ s : Nat) : Int) := by
  show wu64 ((x : Int) * 2 ^ (min (s : Int).toNat IntKind.u64.bits)) = _
  rw [show min (s : Int).toNat IntKind.u64.bits = s by rw [natCast_toNat]; exact Nat.min_eq_left (by show s ≤ 64; omega)]
  have h1 : 2 ^ s ≤ 2 ^ 32 := Nat.pow_le_pow_right (by decide) (by omega)
  have h2 : x * 2 ^ s < 4294967296 * 2 ^ 32 := Nat.mul_lt_mul_of_lt_of_le hx h1 (by decide)
  rw [show (x : Int) * 2 ^ s = ((x * 2 ^ s : Nat) : Int) by simp]
  exact wu64_id (by omega) (by omega)
theorem left_step {x c s : Nat} (hx : x < 4294967296) (hs : s < 32) (hc : c < 2 ^ s) : (x * 2 ^ s) % 4294967296 + c < 4294967296 ∧ ∃ m, (x * 2 ^ s) % 4294967296 = m * 2 ^ s ∧ (x * 2 ^ s) / 4294967296 < 2 ^ s := by
  have hB := two_mul_pow (s := s) (by omega)
  have hp : 0 < 2 ^ s := Nat.pow_pos (by decide)
  have hm : (x * 2 ^ s) % 4294967296 = (x % 2 ^ (32 - s)) * 2 ^ s := by
    rw [hB, Nat.mul_comm (2 ^ s) (2 ^ (32 - s)), Nat.mul_mod_mul_right]
  have h1 : x % 2 ^ (32 - s) < 2 ^ (32 - s) := Nat.mod_lt _ (Nat.pow_pos (by decide))
  refine ⟨?_, _, hm, ?_⟩
  · rw [hm]
    have h2 : (x % 2 ^ (32 - s) + 1) * 2 ^ s ≤ 2 ^ (32 - s) * 2 ^ s := Nat.mul_le_mul_right _ h1
    rw [Nat.add_mul, Nat.mul_comm (2 ^ (32 - s)) (2 ^ s), ← hB] at h2
    omega
  · rw [Nat.div_lt_iff_lt_mul (by decide), Nat.mul_comm (2 ^ s)]
    exact Nat.mul_lt_mul_of_pos_right hx hp
theorem left_l0 (k : Nat) {a : List Int} (ha : Dig 4294967296 a) (t : Int) (s : Nat) (hs : s < 32) (ht : Int.tmod t 32 = s) (hbig : (a.length : Int) ≤ 1000000000) : ∀ (n i : Nat) (out : List Int) (c : Nat), i ≤ a.length → a.length - i < n → Dig 4294967296 out → c < 2 ^ s → ((out.length + a.length : Nat) : Int) ≤ 2000000000 + i →
    ∃ (out' : List Int) (c' : Nat), natural_left.l0 k n t out c a a.length i = some (.inl (out', (c' : Int))) ∧ out'.length = out.length + (a.length - i) ∧ Dig 4294967296 out' ∧ c' < 2 ^ s ∧
      ev 4294967296 out' + (4294967296 : Int) ^ out'.length * c' = ev 4294967296 out + (4294967296 : Int) ^ out.length * (c + 2 ^ s * ev 4294967296 (a.drop i)) := by
  intro n
  induction n with
  | zero => intro i out c _ h; omega
  | succ n ih =>
    intro i out c h1 h2 hd hc hl
    simp only [natural_left.l0, natural_left.b0]
    by_cases hi : i < a.length
    · have e1 : w64 ((i : Int) + 1) = ((i + 1 : Nat) : Int) := by rw [w64_id (by omega) (by omega)]; omega
      have hx := ha.getD hi
      obtain ⟨x, hxe⟩ := Int.eq_ofNat_of_zero_le hx.1
      have hx32 : x < 4294967296 := by omega
      have e2 : wu64 (rd a (i : Int)) = (x : Int) := by rw [rd_nat, hxe, wu64_id (by omega) (by omega)]
      rw [ht, e2, shl64 hx32 hs, e1]
      obtain ⟨g1, m, g2, g3⟩ := left_step hx32 hs hc
      have hx2 : x * 2 ^ s < 4294967296 * 4294967296 := Nat.mul_lt_mul_of_lt_of_le hx32 (by
        have := Nat.pow_le_pow_right (n := 2) (by decide) (show s ≤ 32 by omega)
        have e : (2 : Nat) ^ 32 = 4294967296 := by decide
        omega) (by decide)
      have e3 : wu32 ((x * 2 ^ s : Nat) : Int) = ((m * 2 ^ s : Nat) : Int) := by rw [wu32_mod]; omega
      have e4 : wu32 (shrI .u64 ((x * 2 ^ s : Nat) : Int) 32) = (((x * 2 ^ s) / 4294967296 : Nat) : Int) := by
        rw [shr_u64_32, wu32_id (by omega) (by omega)]; omega
      rw [g2] at g1
      rw [e3, e4, or32_add (by omega) hc g1]
      simp only [List.length_singleton]
      rw [dlt_t (by omega), inR_t (by omega) (by omega), dle_t (by omega), fits_t (by omega)]
      simp only [cond_true]
      obtain ⟨out', c', k1, k2, k3, k4, k5⟩ := ih (i + 1) (out ++ [((m * 2 ^ s + c : Nat) : Int)]) ((x * 2 ^ s) / 4294967296) (by omega) (by omega) (hd.app (Dig.one (by omega) (by omega))) g3 (by simp only [List.length_append, List.length_singleton]; omega)
      refine ⟨out', c', k1, by rw [k2]; simp only [List.length_append, List.length_singleton]; omega, k3, k4, ?_⟩
      rw [k5, ev_snoc, drop_getD hi, ev_cons, hxe]
      simp only [List.length_append, List.length_singleton, Int.pow_succ]
      have hdm : (x * 2 ^ s) % 4294967296 + 4294967296 * ((x * 2 ^ s) / 4294967296) = x * 2 ^ s := Nat.mod_add_div _ _
      rw [g2] at hdm
      have hdm' : ((m * 2 ^ s : Nat) : Int) + 4294967296 * (((x * 2 ^ s) / 4294967296 : Nat) : Int) = (x : Int) * 2 ^ s := by
        have h := congrArg (Nat.cast (R := Int)) hdm
        simp only [Int.natCast_add, Int.natCast_mul, Int.natCast_pow] at h ⊢
        exact h
      rw [show ((m * 2 ^ s + c : Nat) : Int) = ((m * 2 ^ s : Nat) : Int) + c by simp]
      generalize ((m * 2 ^ s : Nat) : Int) = w at *
      generalize (((x * 2 ^ s) / 4294967296 : Nat) : Int) = q at *
      generalize (2 : Int) ^ s = P at *
      generalize (4294967296 : Int) ^ out.length = p
      generalize ev 4294967296 (a.drop (i + 1)) = u
      grind
    · have e1 : i = a.length := by omega
      subst e1
      rw [dlt_f (by omega)]
      simp only [cond_false]
      exact ⟨out, c, rfl, by omega, hd, hc, by simp [ev]⟩
theorem left_ok {k x n : Nat} (hx : ((dg 4294967296 x).length : Int) ≤ 1000000) (hn : (n : Int) ≤ 1000000) (hk : 10000000 < k) : natural_left k (dg 4294967296 x) n = some (dg 4294967296 (x * 2 ^ n)) := by
  unfold natural_left
  have e1 : w64 (Int.tdiv (n : Int) 32) = ((n / 32 : Nat) : Int) := by rw [tdiv_nn (by omega), w64_id (by omega) (by omega)]; omega
  have e2 : Int.tmod (n : Int) 32 = ((n % 32 : Nat) : Int) := by rw [tmod_nn (by omega)]; omega
  rw [e1, w64_id (n := ((n / 32 : Nat) : Int) + _) (by omega) (by omega), w64_id (by omega) (by omega)]
  rw [dle_t (by omega), dle_t (by omega), fits_t (by omega), natCast_toNat]
  simp only [Bool.and_self, cond_true]
  obtain ⟨out, c, g1, g2, g3, g4, g5⟩ := left_l0 k (dd32 x) (n : Int) (n % 32) (by omega) e2 (by omega) k 0 (List.replicate (n / 32) 0) 0 (by omega) (by omega) (fun x hx => by have := List.eq_of_mem_replicate hx; omega) (Nat.pow_pos (by decide)) (by simp; omega)
  have g1' : natural_left.l0 k k n (List.replicate (n / 32) 0) 0 (dg 4294967296 x) (dg 4294967296 x).length 0 = some (.inl (out, (c : Int))) := g1
  rw [g1', joinB_inl]
  simp only [List.length_replicate, Nat.sub_zero] at g2
  simp only [List.length_singleton]
  rw [fits_t (by omega), trim_v (by simp; omega) (by simp; omega)]
  simp only [cond_true, Option.bind_some]
  have h32 : 2 ^ (n % 32) ≤ 2 ^ 32 := Nat.pow_le_pow_right (by decide) (by omega)
  have e32 : (2 : Nat) ^ 32 = 4294967296 := by decide
  have hd : Dig 4294967296 (out ++ [(c : Int)]) := g3.app (Dig.one (by omega) (by omega))
  have he : ev 4294967296 (out ++ [(c : Int)]) = ((x * 2 ^ n : Nat) : Int) := by
    rw [ev_snoc, g5, ev_zeros, List.drop_zero, de32]
    simp only [List.length_replicate]
    have hpow : (2 : Int) ^ n = (4294967296 : Int) ^ (n / 32) * 2 ^ (n % 32) := by
      rw [show (4294967296 : Int) = 2 ^ 32 by decide, ← Int.pow_mul, ← Int.pow_add, Nat.div_add_mod]
    simp only [Int.natCast_mul, Int.natCast_pow, Int.cast_ofNat_Int]
    rw [hpow]
    generalize (4294967296 : Int) ^ (n / 32) = p
    generalize (2 : Int) ^ (n % 32) = q
    grind
  rw [sub_nrm, nd32 hd he]
theorem right_step {p m x y E : Nat} (hp : 0 < p) (hB : 4294967296 = p * m) (hx : x < 4294967296) : (x + 4294967296 * (y + 4294967296 * E)) / p = ((x + 4294967296 * y) / p) % 4294967296 + 4294967296 * ((y + 4294967296 * E) / p) := by
  have hm : 0 < m := by
    rcases Nat.eq_zero_or_pos m with h | h
    · subst h; omega
    · exact h
  have key : ∀ a b : Nat, (a + 4294967296 * b) / p = a / p + m * b := by
    intro a b
    rw [hB, Nat.mul_assoc, Nat.add_mul_div_left _ _ hp]
  rw [key, key, key]
  have hy := Nat.mod_add_div y p
  have h1 : x / p + m * y = (x / p + m * (y % p)) + 4294967296 * (y / p) := by
    have : m * y = m * (y % p) + m * (p * (y / p)) := by rw [← Nat.mul_add, hy]
    rw [this, hB, Nat.mul_comm p m, Nat.mul_assoc]; omega
  have h2 : x / p + m * (y % p) < 4294967296 := by
    have hxp : x / p < m := by rw [Nat.div_lt_iff_lt_mul hp, Nat.mul_comm, ← hB]; exact hx
    have hyp : y % p + 1 ≤ p := Nat.mod_lt _ hp
    have := Nat.mul_le_mul_left m hyp
    rw [Nat.mul_add, Nat.mul_comm m p, ← hB] at this
    omega
  rw [h1, Nat.add_mul_mod_self_left, Nat.mod_eq_of_lt h2, Nat.mul_add, Nat.mul_add]
  have h3 : m * (4294967296 * E) = 4294967296 * (m * E) := Nat.mul_left_comm ..
  have h4 : m * y = m * (y % p) + 4294967296 * (y / p) := by
    have h5 := h1
    omega
  rw [h3, h4]; omega
theorem shr64 {x : Int} (n : Nat) (hn : n ≤ 64) : shrI .u64 x n = x / 2 ^ n := by
  show x.fdiv (2 ^ (min (n : Int).toNat IntKind.u64.bits)) = _
  rw [show min (n : Int).toNat IntKind.u64.bits = n by rw [natCast_toNat]; exact Nat.min_eq_left hn, Int.fdiv_eq_ediv_of_nonneg _ (Int.le_of_lt (Int.pow_pos (by decide)))]
theorem right_l0 (k : Nat) {a : List Int} (ha : Dig 4294967296 a) (t : Int) (s : Nat) (hs : s < 32) (ht : Int.tmod t 32 = s) (hbig : (a.length : Int) ≤ 1000000000) : ∀ (n i : Nat) (out : List Int), a.length - i < n → Dig 4294967296 out → ((out.length + (a.length - i) : Nat) : Int) ≤ 2000000000 →
    ∃ (out' : List Int) (E : Nat), natural_right.l0 k n a t out i = some (.inl out') ∧ out'.length = out.length + (a.length - i) ∧ Dig 4294967296 out' ∧ ev 4294967296 (a.drop i) = E ∧ ev 4294967296 out' = ev 4294967296 out + (4294967296 : Int) ^ out.length * ((E / 2 ^ s : Nat) : Int) := by
  intro n
  induction n with
  | zero => intro i out h; omega
  | succ n ih =>
    intro i out h2 hd hl
    simp only [natural_right.l0, natural_right.b0]
    by_cases hi : i < a.length
    · have e1 : w64 ((i : Int) + 1) = ((i + 1 : Nat) : Int) := by rw [w64_id (by omega) (by omega)]; omega
      have hx := ha.getD hi
      obtain ⟨x, hxe⟩ := Int.eq_ofNat_of_zero_le hx.1
      have hx32 : x < 4294967296 := by omega
      have hB := two_mul_pow (s := s) (by omega)
      have hp : 0 < 2 ^ s := Nat.pow_pos (by decide)
      -- the next limb, or none
      have step : ∀ (y : Nat) (E2 : Nat), y < 4294967296 → ev 4294967296 (a.drop (i + 1)) = ((y + 4294967296 * E2 : Nat) : Int) → ∃ (out' : List Int) (E : Nat), natural_right.l0 k n a t (out ++ [((((x + 4294967296 * y) / 2 ^ s) % 4294967296 : Nat) : Int)]) ((i + 1 : Nat) : Int) = some (.inl out') ∧
          out'.length = out.length + (a.length - i) ∧ Dig 4294967296 out' ∧ ev 4294967296 (a.drop i) = E ∧ ev 4294967296 out' = ev 4294967296 out + (4294967296 : Int) ^ out.length * ((E / 2 ^ s : Nat) : Int) := by
        intro y E2 hy hE
        obtain ⟨out', E, k1, k2, k3, k4, k5⟩ := ih (i + 1) (out ++ [((((x + 4294967296 * y) / 2 ^ s) % 4294967296 : Nat) : Int)]) (by omega) (hd.app (Dig.one (by omega) (by
          have := Nat.mod_lt ((x + 4294967296 * y) / 2 ^ s) (show 0 < 4294967296 by decide)
          omega))) (by simp only [List.length_append, List.length_singleton]; omega)
        have hEE : E = y + 4294967296 * E2 := by rw [hE] at k4; omega
        subst hEE
        refine ⟨out', x + 4294967296 * (y + 4294967296 * E2), k1, by rw [k2]; simp only [List.length_append, List.length_singleton]; omega, k3, ?_, ?_⟩
        · rw [drop_getD hi, ev_cons, hE, hxe]; simp
        · rw [k5, ev_snoc, right_step hp hB hx32]
          simp only [List.length_append, List.length_singleton, Int.pow_succ]
          generalize ((x + 4294967296 * y) / 2 ^ s) % 4294967296 = q
          generalize (y + 4294967296 * E2) / 2 ^ s = r
          rw [show ((q + 4294967296 * r : Nat) : Int) = (q : Int) + 4294967296 * r by simp]
          generalize (4294967296 : Int) ^ out.length = P
          grind
      have hval : ∀ y : Nat, y < 4294967296 → wu32 (shrI .u64 (((x + 4294967296 * y : Nat)) : Int) (s : Int)) = ((((x + 4294967296 * y) / 2 ^ s) % 4294967296 : Nat) : Int) := by
        intro y hy
        rw [shr64 s (by omega), wu32_mod, show (2 : Int) ^ s = ((2 ^ s : Nat) : Int) by simp, ← Int.natCast_ediv]; omega
      rw [ht, e1, dlt_t (by omega), inR_t (by omega) (by omega), dle_t (by omega)]
      simp only [cond_true]
      by_cases hi1 : i + 1 < a.length
      · have hy := ha.getD hi1
        obtain ⟨y, hye⟩ := Int.eq_ofNat_of_zero_le hy.1
        have hy32 : y < 4294967296 := by omega
        obtain ⟨E2, hE2⟩ := Int.eq_ofNat_of_zero_le (ev_nonneg (b := 4294967296) (by decide) (ha.drop (i + 1 + 1)))
        have e4 : bitsOp .or .u64 (wu64 (rd a (i : Int))) (shlI .u64 (wu64 (rd a ((i + 1 : Nat) : Int))) 32) = ((x + 4294967296 * y : Nat) : Int) := by
          rw [rd_nat, rd_nat, hxe, hye, wu64_id (n := (x : Int)) (by omega) (by omega), wu64_id (n := (y : Int)) (by omega) (by omega), shl_u64_32 (by omega) (by omega)]
          have := or_add (x := (y : Int)) (y := (x : Int)) (by omega) (by omega) (by omega) (by omega)
          have hcomm : bitsOp .or .u64 (x : Int) ((y : Int) * 4294967296) = bitsOp .or .u64 ((y : Int) * 4294967296) (x : Int) := by
            rw [or64, or64, BitVec.or_comm]
          rw [hcomm, this]; simp only [Int.natCast_add, Int.natCast_mul]; omega
        rw [e4, hval y hy32, dlt_t (by omega), inR_t (by omega) (by omega)]
        simp only [cond_true, List.length_singleton]
        rw [fits_t (by omega)]
        simp only [cond_true]
        exact step y E2 hy32 (by rw [drop_getD hi1, ev_cons, hye, hE2]; simp)
      · have e4 : wu64 (rd a (i : Int)) = ((x + 4294967296 * 0 : Nat) : Int) := by rw [rd_nat, hxe, wu64_id (by omega) (by omega)]; simp
        rw [e4, hval 0 (by decide), dlt_f (by omega)]
        simp only [cond_true, cond_false, List.length_singleton]
        rw [fits_t (by omega)]
        simp only [cond_true]
        exact step 0 0 (by decide) (by rw [List.drop_eq_nil_of_le (by omega)]; rfl)
    · rw [dlt_f (by omega)]
      simp only [cond_false]
      refine ⟨out, 0, rfl, by omega, hd, by rw [List.drop_eq_nil_of_le (by omega)]; rfl, by simp⟩
theorem ev_drop {b : Nat} (hb : 2 ≤ b) {l : List Int} (h : Dig b l) {x : Nat} (hx : ev b l = x) : ∀ i : Nat, ev b (l.drop i) = ((x / b ^ i : Nat) : Int) := by
  intro i
  induction i generalizing l x with
  | zero => simp [hx]
  | succ i ih =>
    cases l with
    | nil => have : x = 0 := by simp [ev] at hx; omega
             subst this; simp [ev]
    | cons y l =>
      obtain ⟨m, hm⟩ := Int.eq_ofNat_of_zero_le (ev_nonneg (b := b) (by omega) h.tl)
      obtain ⟨z, hz⟩ := Int.eq_ofNat_of_zero_le h.hd.1
      have hzb := h.hd.2
      rw [List.drop_succ_cons, ih h.tl hm]
      rw [ev, hm, hz] at hx
      have hxx : x = z + b * m := by
        have : ((z + b * m : Nat) : Int) = x := by rw [← hx]; simp
        omega
      congr 1
      have h1 : (z + b * m) / b = m := by rw [Nat.add_mul_div_left _ _ (by omega), Nat.div_eq_of_lt (by omega), Nat.zero_add]
      rw [hxx, Nat.pow_succ, Nat.mul_comm (b ^ i) b, ← Nat.div_div_eq_div_mul, h1]
theorem right_ok {k x n : Nat} {a : List Int} (ha : Dig 4294967296 a) (hx : ev 4294967296 a = x) (hl : (a.length : Int) ≤ 1000000) (hn : (n : Int) ≤ 1000000000) (hk : 10000000 < k) : natural_right k a n = some (dg 4294967296 (x / 2 ^ n)) := by
  unfold natural_right
  have e1 : w64 (Int.tdiv (n : Int) 32) = ((n / 32 : Nat) : Int) := by rw [tdiv_nn (by omega), w64_id (by omega) (by omega)]; omega
  have e2 : Int.tmod (n : Int) 32 = ((n % 32 : Nat) : Int) := by rw [tmod_nn (by omega)]; omega
  rw [e1]
  obtain ⟨out, E, g1, g2, g3, g4, g5⟩ := right_l0 k ha (n : Int) (n % 32) (by omega) e2 (by omega) k (n / 32) [] (by omega) Dig.nil (by simp only [List.length_nil]; omega)
  rw [g1, joinB_inl, trim_v (by simp only [List.length_nil] at g2; omega) (by simp only [List.length_nil] at g2; omega)]
  simp only [Option.bind_some]
  have h5 : ev (4294967296 : Int) (a.drop (n / 32)) = ((x / 4294967296 ^ (n / 32) : Nat) : Int) := ev_drop hB32 ha hx (n / 32)
  rw [h5] at g4
  have hE : E = x / 4294967296 ^ (n / 32) := by omega
  have hp : 2 ^ n = 4294967296 ^ (n / 32) * 2 ^ (n % 32) := by
    rw [show 4294967296 = 2 ^ 32 by decide, ← Nat.pow_mul, ← Nat.pow_add, Nat.div_add_mod]
  rw [sub_nrm, nd32 g3 (n := x / 2 ^ n) (by
    rw [g5, hE, Nat.div_div_eq_div_mul, ← hp]; simp [ev])]
end Go.Pl
