/- IntegerDivisors: its plain function answers true.  Conditions: limbs within their kind, lists no longer than memory. -/
import Derived.Test.YtpjcoihlcklncaaPiD
set_option linter.unusedVariables false
set_option linter.unusedSimpArgs false
namespace Go.Pl
open Go Go.Ev Go.Sh

theorem rNumber1_ok : brindlewoodref3_Number 1000000000000000000 1 = some (false, [1]) := by kernel_rfl
theorem RI_one : RI (false, [1]) 1 := ⟨by rw [show (1 : Int).natAbs = 1 from rfl, dg_pos hB16 (by decide)]; rfl, fun _ => rfl⟩

/-- dividing by a divisor -/
theorem iq_dvd {x : Int} {g : Nat} (h : g ∣ x.natAbs) : (iq x (g : Int)).natAbs = x.natAbs / g ∧ ir x (g : Int) = 0 := by
  have hm := Nat.mod_eq_zero_of_dvd h
  constructor
  · rcases Nat.eq_zero_or_pos g with h0 | h0
    · subst h0
      have : x.natAbs = 0 := Nat.eq_zero_of_zero_dvd h
      have hx : x = 0 := by omega
      subst hx; rfl
    · rw [iq_abs (by omega), Int.natAbs_natCast, hm]; simp
  · unfold ir irm
    rw [Int.natAbs_natCast, hm]
    simp only [if_true]
    rw [if_neg (by omega)]
    split <;> rfl

theorem iD_ok {k : Nat} (hk : 20000000000 < k) (hc : brindlewoodlaw3_counts k = some true) (h1 : brindlewoodref3_Number k 1 = some (false, [1])) {x y : Int} (hx : x.natAbs < ilim) (hy : y.natAbs < ilim) : brindlewoodlaw3_IntegerDivisors k (iz x) (iz y) = some true := by
  unfold brindlewoodlaw3_IntegerDivisors
  rw [hc, (faults_none (by omega) (by simp) (l := [iz x, iz y]) (by
    intro w hw
    simp only [List.mem_cons, List.not_mem_nil, or_false] at hw
    rcases hw with rfl | rfl
    · exact iz_valid hx
    · exact iz_valid hy)).2]
  simp only [Option.bind_some, Bool.not_true, cond_false, bne_self_eq_false]
  by_cases g1 : (60 : Int) < ((iz x).2.length : Int)
  · rw [dlt_t g1]; rfl
  by_cases g2 : (60 : Int) < ((iz y).2.length : Int)
  · rw [dlt_f (Int.not_lt.1 g1), dlt_t g2]; rfl
  rw [dlt_f (Int.not_lt.1 g1), dlt_f (Int.not_lt.1 g2)]
  simp only [cond_false, joinB_inl]
  have sx := small_iz g1
  have sy := small_iz g2
  obtain ⟨p, hp⟩ : ∃ p, p = 4294967296 ^ 60 := ⟨_, rfl⟩
  rw [← hp] at sx sy
  obtain ⟨p1, p2, p3⟩ := small_lim hp
  clear hp
  have c1 : (x - y).natAbs < ilim := by omega
  have hg : (x - y).natAbs.gcd y.natAbs = x.natAbs.gcd y.natAbs := Int.gcd_sub_self_left y x
  have c2 := gcd_lt hx hy
  have c2' : (((x.natAbs.gcd y.natAbs : Nat)) : Int).natAbs < ilim := by rw [Int.natAbs_natCast]; exact c2
  rw [iGcd_ok hk hx hy, iSub_ok (by omega) hx hy, ires_ok c1]
  simp only [Option.bind_some]
  rw [iGcd_ok hk c1 hy, hg]
  obtain ⟨g, hgg⟩ : ∃ g, g = x.natAbs.gcd y.natAbs := ⟨_, rfl⟩
  have d1 : g ∣ x.natAbs := hgg ▸ Nat.gcd_dvd_left _ _
  have d2 : g ∣ y.natAbs := hgg ▸ Nat.gcd_dvd_right _ _
  have g0 : g = 0 ↔ x = 0 ∧ y = 0 := by rw [hgg, Nat.gcd_eq_zero_iff]; omega
  rw [← hgg] at c2 c2' ⊢
  simp only [Option.bind_some, bne_self_eq_false, cond_false]
  have e1 : (iz (g : Int)).1 = false := by simp [iz]
  rw [e1]
  simp only [cond_false]
  rw [SameInts_ok (by omega) c2' c2']
  simp only [Option.bind_some, decide_true, Bool.not_true, cond_false, joinB_inl]
  rw [NoInt_ok]
  simp only [Option.bind_some]
  by_cases hz : g = 0
  · obtain ⟨rfl, rfl⟩ := g0.1 hz
    subst hz
    rfl
  have hz' : (g : Int) ≠ 0 := by omega
  rw [decide_eq_false hz']
  simp only [cond_false]
  rw [iDivMod_ok hk hx c2', if_neg hz', iDivMod_ok hk hy c2', if_neg hz']
  obtain ⟨q1, r1⟩ := iq_dvd d1
  obtain ⟨q2, r2⟩ := iq_dvd d2
  have l1 := iq_lt hz' hx
  have l2 := iq_lt hz' hy
  simp only [Option.bind_some]
  rw [iGcd_ok hk l1 l2, q1, q2, Nat.gcd_div d1 d2, ← hgg, Nat.div_self (by omega), r1, r2, h1]
  simp only [Option.bind_some, beq_self_eq_true, cond_true]
  rw [NoInt_ok]
  simp only [Option.bind_some, decide_true, cond_true]
  rw [SameInt_ok (v := ((1 : Nat) : Int)) (by omega) RI_one (ilim_iff.1 (by decide))]
  rfl

theorem iD_err {k : Nat} (hc : brindlewoodlaw3_counts k = some true) {a b : Bool × List Int} {f : Int × Int} (h : brindlewoodref3_Faults k [a, b] = some f) (hf : f.1 ≠ 0) : brindlewoodlaw3_IntegerDivisors k a b = some true := by
  unfold brindlewoodlaw3_IntegerDivisors
  rw [h, hc]
  simp only [Option.bind_some, Bool.not_true, cond_false, bne_t hf, cond_true]
  rfl

theorem integerDivisors_plain {a b : Bool × List Int} (ha : Wf IT a) (hb : Wf IT b) : brindlewoodlaw3_IntegerDivisors 1000000000000000000 a b = some true := by
  have err : (∃ x ∈ [a, b], integer_Valid x = some false) → brindlewoodlaw3_IntegerDivisors 1000000000000000000 a b = some true := by
    intro he
    obtain ⟨f, h1, h2, h3⟩ := faults_err (k := 1000000000000000000) (by decide) (two_valid (int_valid ha) (int_valid hb)) (by simp) he
    exact iD_err counts_ok h2 h3
  rcases int_vals ha with ⟨x, hx, rfl, va⟩ | va
  · rcases int_vals hb with ⟨y, hy, rfl, vb⟩ | vb
    · exact iD_ok (by decide) counts_ok rNumber1_ok hx hy
    · exact err ⟨_, by simp, vb⟩
  · exact err ⟨_, by simp, va⟩
end Go.Pl
