/- IntegerArithmetic: its plain function answers true.  Conditions: limbs within their kind, lists no longer than memory. -/
import Derived.Test.YtpomnejenhgpkaaPiA
set_option linter.unusedVariables false
set_option linter.unusedSimpArgs false
namespace Go.Pl
open Go Go.Ev Go.Sh
theorem counts_ok : brindlewoodlaw3_counts 1000000000000000000 = some true := by kernel_rfl
theorem int_wf {a : Bool × List Int} (h : Wf IT a) : Dig 4294967296 a.2 ∧ (a.2.length : Int) ≤ 1000000000000000000 := u32_dig h.2
theorem iA_ok {k : Nat} (hk : 100000000000000 < k) (hc : brindlewoodlaw3_counts k = some true) {x y : Int} (hx : x.natAbs < ilim) (hy : y.natAbs < ilim) : brindlewoodlaw3_IntegerArithmetic k (iz x) (iz y) = some true := by
  unfold brindlewoodlaw3_IntegerArithmetic
  have l1 := ilim16_iff.2 hx
  have l2 := ilim16_iff.2 hy
  obtain ⟨p, p1, p2⟩ := rPlus_ok hk (rz_RI x) (rz_RI y) (by omega) (by omega)
  obtain ⟨m, m1, m2⟩ := rMinus_ok (rz_RI y)
  obtain ⟨s, s1, s2⟩ := rPlus_ok hk (rz_RI x) m2 (by omega) (by rw [Int.natAbs_neg]; omega)
  obtain ⟨t, t1, t2⟩ := rTimes_ok hk (rz_RI x) (rz_RI y) (by omega) (by omega)
  rw [← Int.sub_eq_add_neg] at s2
  rw [faults_eq, check2 (by omega) hx hy, iAdd_ok (by omega) hx hy, iSub_ok (by omega) hx hy, iMul_ok (by omega) hx hy, hc, IntOf_ok (by omega) hx, IntOf_ok (by omega) hy]
  simp only [Option.bind_some, Bool.not_true, cond_false, bne_self_eq_false]
  rw [p1, m1, t1]
  simp only [Option.bind_some]
  rw [s1, yields_ok (by omega) p2]
  simp only [Option.bind_some, cond_true]
  rw [yields_ok (by omega) s2]
  simp only [Option.bind_some, cond_true]
  rw [yields_ok (by omega) t2]
  rfl
theorem iA_err {k : Nat} (hc : brindlewoodlaw3_counts k = some true) {a b : Bool × List Int} {f : Int × Int} (h : integer_check k [a, b] = some f) (hf : f.1 ≠ 0) : brindlewoodlaw3_IntegerArithmetic k a b = some true := by
  unfold brindlewoodlaw3_IntegerArithmetic
  obtain ⟨h1, h2, h3⟩ := iop_no h hf
  rw [faults_eq, h, h1, h2, h3, hc]
  simp only [Option.bind_some, Bool.not_true, cond_false, bne_t hf, cond_true, beq_self_eq_true, Bool.and_self, NoInt_nil]
theorem integerArithmetic_plain {a b : Bool × List Int} (ha : Wf IT a) (hb : Wf IT b) : brindlewoodlaw3_IntegerArithmetic 1000000000000000000 a b = some true := by
  obtain ⟨da, la⟩ := int_wf ha
  obtain ⟨db, lb⟩ := int_wf hb
  have err : integer_Valid a = some false ∨ integer_Valid b = some false → (integer_Valid a = some true ∨ integer_Valid a = some false) → (integer_Valid b = some true ∨ integer_Valid b = some false) → brindlewoodlaw3_IntegerArithmetic 1000000000000000000 a b = some true := by
    intro hor va vb
    refine iA_err counts_ok (check_ok' (by decide) (two_valid va vb) (by simp)) (badI_code _ _ ?_)
    rcases hor with h | h
    · exact ⟨a, by simp, h⟩
    · exact ⟨b, by simp, h⟩
  rcases int_cases da la with ⟨x, hx, rfl, va⟩ | va
  · rcases int_cases db lb with ⟨y, hy, rfl, vb⟩ | vb
    · exact iA_ok (by decide) counts_ok hx hy
    · exact err (.inr vb) (.inl va) (.inr vb)
  · rcases int_cases db lb with ⟨y, hy, rfl, vb⟩ | vb
    · exact err (.inl va) (.inr va) (.inl vb)
    · exact err (.inl va) (.inr va) (.inr vb)
end Go.Pl
