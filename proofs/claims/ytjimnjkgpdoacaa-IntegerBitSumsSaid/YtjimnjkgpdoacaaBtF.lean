/- IntegerBitSums: its plain function answers true.  Conditions: limbs within their kind, lists no longer than memory. -/
import Derived.Test.YtjimnjkgpdoacaaBtE
set_option linter.unusedVariables false
set_option linter.unusedSimpArgs false
set_option maxHeartbeats 0
namespace Go.Pl
open Go Go.Ev Go.Sh
theorem ish_one (v : Int) : ish v 1 = 2 * v := by
  have e : ∀ x : Nat, moved x 1 = x * 2 := by
    intro x
    unfold moved
    rw [if_neg (by decide)]; rfl
  unfold ish
  rw [e, e]
  split
  · rw [if_neg (by decide)]; omega
  · omega
theorem e120_ex : ∃ e : Nat, e = 32 * 120 := ⟨_, rfl⟩
noncomputable def e120 : Nat := Classical.choose e120_ex
theorem e120_eq : e120 = 32 * 120 := Classical.choose_spec e120_ex
theorem small120 {x : Int} (h : ¬ (120 : Int) < ((iz x).2.length : Int)) : -(2 : Int) ^ e120 ≤ x ∧ x < (2 : Int) ^ e120 := by
  have h0 : ((iz x).2.length : Int) = ((dg 4294967296 x.natAbs).length : Int) := rfl
  have h1 := (dg_len_iff (n := x.natAbs) (m := 120) hB32).1 (by omega)
  rw [pow32n, ← e120_eq] at h1
  have h3 : ((2 ^ e120 : Nat) : Int) = (2 : Int) ^ e120 := by rw [Int.natCast_pow]; rfl
  omega
theorem lim120 {x : Int} (h : -(16 * (2 : Int) ^ e120) ≤ x ∧ x ≤ 16 * (2 : Int) ^ e120) : x.natAbs < ilim := by
  have h1 : 2 ^ (e120 + 5) ≤ ilim := by
    rw [ilim_e]
    exact Nat.pow_le_pow_right (by decide) (by rw [e120_eq, e128_eq]; decide)
  rw [Nat.pow_add, show (2 : Nat) ^ 5 = 32 from rfl] at h1
  have h3 : ((2 ^ e120 : Nat) : Int) = (2 : Int) ^ e120 := by rw [Int.natCast_pow]; rfl
  have h4 := Nat.two_pow_pos e120
  omega
theorem iBS_ok {k : Nat} (hk : 100000000000000 < k) {x y : Int} (hx : x.natAbs < ilim) (hy : y.natAbs < ilim) (hcounts : brindlewoodlaw3_counts k = some true) : brindlewoodlaw3_IntegerBitSums k (iz x) (iz y) = some true := by
  have hF := (faults_none (k := k) (by omega) (by simp) (l := [iz x, iz y]) (by
    intro w hw
    simp only [List.mem_cons, List.not_mem_nil, or_false] at hw
    rcases hw with rfl | rfl
    · exact iz_valid hx
    · exact iz_valid hy)).2
  unfold brindlewoodlaw3_IntegerBitSums
  rw [hcounts, hF]
  simp only [Option.bind_some, Bool.not_true, cond_false, bne_self_eq_false]
  by_cases g1 : (120 : Int) < ((iz x).2.length : Int)
  · rw [dlt_t g1]; rfl
  by_cases g2 : (120 : Int) < ((iz y).2.length : Int)
  · rw [dlt_f (Int.not_lt.1 g1), dlt_t g2]; rfl
  rw [dlt_f (Int.not_lt.1 g1), dlt_f (Int.not_lt.1 g2)]
  simp only [cond_false, joinB_inl]
  have sx := small120 g1
  have sy := small120 g2
  have p0 := pow2_pos e120
  have b1 := bwI_rng gXor sx sy
  have b2 := bwI_rng gAnd sx sy
  have nx : -(2 : Int) ^ e120 ≤ -x - 1 ∧ -x - 1 < (2 : Int) ^ e120 := by omega
  have ny : -(2 : Int) ^ e120 ≤ -y - 1 ∧ -y - 1 < (2 : Int) ^ e120 := by omega
  have b3 := bwI_rng gAnd nx ny
  have b4 := bwI_rng gOr sx sy
  have hs := bwI_sum x y
  have ho := bwI_or x y
  have hN : ∀ z : Int, -(2 : Int) ^ e120 ≤ z ∧ z < (2 : Int) ^ e120 → z.natAbs < ilim := fun z hz => lim120 (by omega)
  have k1 := hN _ b1
  have k2 := hN _ b2
  have k3 := hN _ b3
  have k4 := hN _ b4
  have k5 := hN _ nx
  have k6 := hN _ ny
  have k7 : (2 * bwI gAnd x y).natAbs < ilim := lim120 (by omega)
  have k8 : (x + y).natAbs < ilim := lim120 (by omega)
  have k9 : (-(bwI gAnd (-x - 1) (-y - 1)) - 1).natAbs < ilim := by rw [← ho]; exact k4
  rw [iXor_ok (by omega) hx hy, iAnd_ok (by omega) hx hy, ires_ok k1, ires_ok k2]
  simp only [Option.bind_some]
  rw [iShift_ok (by omega) k2 (by decide) (by decide), if_neg (fun h => absurd h.2 (by decide)), ish_one, ires_ok k7]
  simp only [Option.bind_some]
  rw [iAdd_ok (by omega) k1 k7, hs, iAdd_ok (by omega) hx hy, ires_ok k8, iNot_ok (by omega) hx, iNot_ok (by omega) hy, ires_ok k5, ires_ok k6]
  simp only [Option.bind_some]
  rw [iAnd_ok (by omega) k5 k6, ires_ok k3]
  simp only [Option.bind_some]
  rw [iNot_ok (by omega) k3, ires_ok k9, iOr_ok (by omega) hx hy, ires_ok k4, ← ho]
  simp only [Option.bind_some, beq_self_eq_true, cond_true]
  rw [SameInts_ok (by omega) k8 k8, SameInts_ok (by omega) k4 k4]
  simp only [Option.bind_some, decide_true, cond_true]
theorem integerBitSums_plain {a b : Bool × List Int} (ha : Wf IT a) (hb : Wf IT b) : brindlewoodlaw3_IntegerBitSums 1000000000000000000 a b = some true := by
  have err : (∃ x ∈ [a, b], integer_Valid x = some false) → brindlewoodlaw3_IntegerBitSums 1000000000000000000 a b = some true := by
    intro he
    obtain ⟨f, h1, h2, h3⟩ := faults_err (k := 1000000000000000000) (by decide) (two_valid (int_valid ha) (int_valid hb)) (by simp) he
    unfold brindlewoodlaw3_IntegerBitSums
    rw [counts_ok, h2]
    simp only [Option.bind_some, Bool.not_true, cond_false, bne_t h3, cond_true]
    rfl
  rcases int_vals ha with ⟨x, hx, rfl, va⟩ | va
  · rcases int_vals hb with ⟨y, hy, rfl, vb⟩ | vb
    · exact iBS_ok (by decide) hx hy counts_ok
    · exact err ⟨_, by simp, vb⟩
  · exact err ⟨_, by simp, va⟩
end Go.Pl
