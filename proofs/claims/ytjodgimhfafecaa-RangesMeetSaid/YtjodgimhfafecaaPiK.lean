/- Rests of powers.  Conditions: those that each theorem names. -/
import Derived.Test.YtjodgimhfafecaaPiJ
set_option linter.unusedVariables false
set_option linter.unusedSimpArgs false
namespace Go.Pl
open Go Go.Ev Go.Sh
theorem ir_emod {x m : Int} (hm : 0 < m) : ir x m = x % m := by
  have h := floor_eq (x := x) (y := m) (by omega)
  have h2 := irm_lt (x := x) (y := m) (by omega)
  have h3 : ir x m = (irm x m : Nat) := by unfold ir; rw [if_neg (by omega)]
  have h4 : x % m = ir x m % m := by
    generalize ir x m = r at *
    generalize iq x m = q at *
    rw [h, Int.add_comm, Int.add_mul_emod_self_left]
  rw [h4, Int.emod_eq_of_lt (by omega) (by omega)]
theorem pow_emod (x m : Int) (e : Nat) : x ^ e % m = (x % m) ^ e % m := by
  induction e with
  | zero => rw [Int.pow_zero, Int.pow_zero]
  | succ e ih => rw [Int.pow_succ, Int.pow_succ, Int.mul_emod, ih, Int.mul_emod ((x % m) ^ e), Int.emod_emod_of_dvd x (Int.dvd_refl m)]
theorem bit_at (B q s : Nat) (hs : s < 32) : B / 4294967296 ^ q % 4294967296 / 2 ^ s % 2 = B / 2 ^ (32 * q + s) % 2 := by
  have e : 4294967296 = 2 ^ 32 := by decide
  have h1 : (B / 4294967296 ^ q % 4294967296).testBit s = B.testBit (32 * q + s) := by
    rw [e, ← Nat.pow_mul, Nat.testBit_mod_two_pow, Nat.testBit_div_two_pow, decide_eq_true hs, Bool.true_and, Nat.add_comm]
  rw [Nat.testBit_eq_decide_div_mod_eq, Nat.testBit_eq_decide_div_mod_eq] at h1
  have h2 := decide_eq_decide.1 h1
  generalize B / 4294967296 ^ q % 4294967296 / 2 ^ s = u at *
  generalize B / 2 ^ (32 * q + s) = v at *
  omega
theorem and_one {d : Nat} (hd : d < 4294967296) : bitsOp .and .u32 (d : Int) 1 = ((d % 2 : Nat) : Int) := by
  rw [and32]
  have h1 : BitVec.ofInt 32 (d : Int) = BitVec.ofNat 32 d := BitVec.ofInt_natCast 32 d
  have h2 : BitVec.ofInt 32 (1 : Int) = BitVec.ofNat 32 1 := rfl
  rw [h1, h2, BitVec.toNat_and, BitVec.toNat_ofNat, BitVec.toNat_ofNat, Nat.mod_eq_of_lt (by omega), Nat.mod_eq_of_lt (by omega), Nat.and_one_is_mod]
theorem bit_test {B p : Nat} : ((bitsOp .and .u32 (shrI .u32 (rd (dg 4294967296 B) ((p / 32 : Nat) : Int)) ((p % 32 : Nat) : Int)) 1) == 1) = decide (B / 2 ^ p % 2 = 1) := by
  rw [rd_nat, dg_getD hB32, shr32 (p % 32) (by omega)]
  have h1 : ((B / 4294967296 ^ (p / 32) % 4294967296 : Nat) : Int) / 2 ^ (p % 32) = ((B / 4294967296 ^ (p / 32) % 4294967296 / 2 ^ (p % 32) : Nat) : Int) := by simp
  have h2 : B / 4294967296 ^ (p / 32) % 4294967296 / 2 ^ (p % 32) ≤ B / 4294967296 ^ (p / 32) % 4294967296 := Nat.div_le_self _ _
  have h3 : B / 4294967296 ^ (p / 32) % 4294967296 < 4294967296 := Nat.mod_lt _ (by decide)
  rw [h1, and_one (by omega), bit_at _ _ _ (by omega)]
  have h4 : 32 * (p / 32) + p % 32 = p := by omega
  rw [h4]
  rcases Nat.mod_two_eq_zero_or_one (B / 2 ^ p) with h | h
  · rw [h]; rfl
  · rw [h]; rfl
theorem half_step (B p : Nat) : B / 2 ^ p = 2 * (B / 2 ^ (p + 1)) + B / 2 ^ p % 2 := by
  rw [Nat.pow_succ, ← Nat.div_div_eq_div_mul]
  generalize B / 2 ^ p = z
  omega
theorem PowMod_l0 (k : Nat) (hk : 20000000000 < k) {B m r : Nat} (hB : B < lim) (hm : m < ilim) (hm0 : 0 < m) (hr : r < m) (sb sm sr : Bool) (c0 : Bool × List Int) (f0 : Int × Int) : ∀ (n j : Nat), j < n → j ≤ (dg 2 B).length →
    integer_PowMod.l0 k n (sb, dg 4294967296 B) (sm, dg 4294967296 m) c0 f0 (sr, dg 4294967296 r) (dg 4294967296 (r ^ (B / 2 ^ j) % m)) ((j : Int) - 1) = some (.inl (c0, f0, dg 4294967296 (r ^ B % m))) := by
  intro n
  induction n with
  | zero => intro j h; omega
  | succ n ih =>
    intro j h1 h2
    simp only [integer_PowMod.l0, integer_PowMod.b0]
    have hmod : ∀ z : Nat, z % m < m := fun z => Nat.mod_lt _ hm0
    rcases Nat.eq_zero_or_pos j with h0 | h0
    · subst h0
      rw [dle_f (by omega), Nat.pow_zero, Nat.div_one]
      rfl
    · obtain ⟨p, rfl⟩ : ∃ p, j = p + 1 := ⟨j - 1, by omega⟩
      have hlen2 := len2_le B
      have hlb : (dg 4294967296 B).length ≤ 600 := lim_iff.2 hB
      have e1 : (((p + 1 : Nat) : Int) - 1) = (p : Int) := by omega
      have e2 : w64 ((p : Int) - 1) = (p : Int) - 1 := w64_id (by omega) (by omega)
      have e3 : w64 (Int.tdiv (p : Int) 32) = ((p / 32 : Nat) : Int) := by rw [tdiv_nn (by omega), w64_id (by omega) (by omega)]; omega
      have e4 : Int.tmod (p : Int) 32 = ((p % 32 : Nat) : Int) := by rw [tmod_nn (by omega)]; omega
      obtain ⟨a, ha⟩ : ∃ a, a = r ^ (B / 2 ^ (p + 1)) % m := ⟨_, rfl⟩
      have hal : a < m := by rw [ha]; exact hmod _
      rw [← ha]
      have hsq := Nat.lt_of_lt_of_le (Nat.mul_lt_mul'' (Nat.lt_trans hal hm) (Nat.lt_trans hal hm)) ilim_sq
      have ham : a < lim := ilim_lim (Nat.lt_trans hal hm)
      rw [e1, dle_t (by omega), Mul_ok ham ham (by omega), if_pos hsq, e2, e3, e4, inR_t (by omega) (by omega), dle_t (by omega), bit_test]
      simp only [cond_true, Option.bind_some]
      rw [DivMod_ok hsq (ilim_lim hm) hk, if_neg (by omega)]
      simp only [Option.bind_some]
      have hh := half_step B p
      have hsqm : a * a % m = r ^ (2 * (B / 2 ^ (p + 1))) % m := by rw [ha, ← Nat.mul_mod, ← Nat.pow_add, Nat.two_mul]
      by_cases hb : B / 2 ^ p % 2 = 1
      · rw [decide_eq_true hb]
        simp only [cond_true]
        have hal2 := hmod (a * a)
        have hpr := Nat.lt_of_lt_of_le (Nat.mul_lt_mul'' (Nat.lt_trans hal2 hm) (Nat.lt_trans hr hm)) ilim_sq
        rw [Mul_ok (ilim_lim (Nat.lt_trans hal2 hm)) (ilim_lim (Nat.lt_trans hr hm)) (by omega), if_pos hpr]
        simp only [Option.bind_some]
        rw [DivMod_ok hpr (ilim_lim hm) hk, if_neg (by omega)]
        simp only [Option.bind_some]
        have hfin : a * a % m * r % m = r ^ (B / 2 ^ p) % m := by
          rw [hh, hb, hsqm]
          generalize B / 2 ^ (p + 1) = h
          rw [Nat.pow_succ, Nat.mul_mod (r ^ (2 * h)), Nat.mul_mod (r ^ (2 * h) % m), Nat.mod_mod]
        rw [hfin]
        exact ih p (by omega) (by omega)
      · have hb0 : B / 2 ^ p % 2 = 0 := by omega
        rw [decide_eq_false hb]
        simp only [cond_false]
        have hfin : a * a % m = r ^ (B / 2 ^ p) % m := by rw [hsqm, hh, hb0]; simp only [Nat.add_zero]
        rw [hfin]
        exact ih p (by omega) (by omega)
theorem iPowMod_ok {k : Nat} (hk : 20000000000 < k) {x b m : Int} (hx : x.natAbs < ilim) (hb : b.natAbs < ilim) (hm : m.natAbs < ilim) : integer_PowMod k (iz x) (iz b) (iz m) = some (if b < 0 then ((false, []), 4, -2) else if m < 0 then ((false, []), 4, -3) else if m = 0 then ((false, []), 22, -3) else (iz (x ^ b.toNat % m), 0, 0)) := by
  unfold integer_PowMod
  rw [(faults_none (by omega) (by simp) (l := [iz x, iz b, iz m]) (by
    intro w hw
    simp only [List.mem_cons, List.not_mem_nil, or_false] at hw
    rcases hw with rfl | rfl | rfl
    · exact iz_valid hx
    · exact iz_valid hb
    · exact iz_valid hm)).1]
  simp only [Option.bind_some, bne_self_eq_false, cond_false]
  by_cases h1 : b < 0
  · have : (iz b).1 = true := decide_eq_true h1
    rw [this, if_pos h1]; rfl
  have hb1 : (iz b).1 = false := decide_eq_false h1
  rw [hb1, if_neg h1]
  simp only [cond_false]
  by_cases h2 : m < 0
  · have : (iz m).1 = true := decide_eq_true h2
    rw [this, if_pos h2]; rfl
  have hm1 : (iz m).1 = false := decide_eq_false h2
  rw [hm1, if_neg h2]
  simp only [cond_false]
  by_cases h3 : m = 0
  · subst h3; rfl
  have hp := (dg_len_pos (n := m.natAbs) hB32).2 (by omega)
  have hl : (((iz m).2.length : Int) == 0) = false := beq_f (by show ((dg 4294967296 m.natAbs).length : Int) ≠ 0; omega)
  rw [hl, if_neg h3, iDivMod_ok hk hx hm, if_neg h3]
  simp only [cond_false, Option.bind_some]
  have e1 : [(1 : Int)] = dg 4294967296 1 := by rw [dg_pos hB32 (by decide)]; rfl
  have h1lim : 1 < lim := lim_iff.1 (by rw [← e1]; decide)
  have hD := DivMod_ok (k := k) h1lim (ilim_lim hm) hk
  rw [if_neg (by omega)] at hD
  have hB := Bits_ok (ilim_lim hb)
  have e2 : w64 (((dg 2 b.natAbs).length : Int) - 1) = ((dg 2 b.natAbs).length : Int) - 1 := by
    have := len2_le b.natAbs
    have := ilim_iff.2 hb
    exact w64_id (by omega) (by omega)
  rw [e1]
  simp only [iz, hD, hB, Option.bind_some, e2]
  have hlen2 := len2_le b.natAbs
  have hlb := ilim_iff.2 hb
  have hir := ir_emod (x := x) (m := m) (by omega)
  have hirl : (ir x m).natAbs < m.natAbs := by rw [ir_abs]; exact irm_lt h3
  have hL := PowMod_l0 k hk (B := b.natAbs) (m := m.natAbs) (r := (ir x m).natAbs) (ilim_lim hb) hm (by omega) hirl (decide (b < 0)) (decide (m < 0)) (decide (ir x m < 0)) (false, []) (0, 0) k (dg 2 b.natAbs).length (by omega) (by omega)
  have hz : b.natAbs / 2 ^ (dg 2 b.natAbs).length = 0 := div_big (Nat.le_refl _)
  rw [hz, Nat.pow_zero] at hL
  rw [hL]
  simp only [joinB_inl]
  have hv : x ^ b.toNat % m = (((ir x m).natAbs ^ b.natAbs % m.natAbs : Nat) : Int) := by
    have hnn : 0 ≤ x % m := Int.emod_nonneg x h3
    have hmm : (m.natAbs : Int) = m := by omega
    have hbb : b.toNat = b.natAbs := by omega
    rw [pow_emod, ← hir, hbb, Int.natCast_emod, Int.natCast_pow, hmm, Int.natAbs_of_nonneg (by rw [hir]; exact hnn)]
  have hpos : x ^ b.toNat % m = (((x ^ b.toNat % m).natAbs : Nat) : Int) := by rw [hv, Int.natAbs_natCast]
  have hlt : (x ^ b.toNat % m).natAbs < ilim := by
    rw [hv, Int.natAbs_natCast]
    exact Nat.lt_trans (Nat.mod_lt _ (by omega)) hm
  have hs := signed_ok (s := false) (v := x ^ b.toNat % m) (fun _ => by rw [hpos]; simp)
  have hab : (x ^ b.toNat % m).natAbs = (ir x m).natAbs ^ b.natAbs % m.natAbs := by rw [hv, Int.natAbs_natCast]
  rw [hab] at hs
  rw [hs, ires_ok hlt]
  rfl
theorem iPowMod_no {k : Nat} {a b m : Bool × List Int} {f : Int × Int} (h : integer_check k [a, b, m] = some f) (hf : f.1 ≠ 0) : integer_PowMod k a b m = some ((false, []), f) := by
  unfold integer_PowMod
  rw [h]
  simp only [Option.bind_some, bne_t hf, cond_true]
end Go.Pl
