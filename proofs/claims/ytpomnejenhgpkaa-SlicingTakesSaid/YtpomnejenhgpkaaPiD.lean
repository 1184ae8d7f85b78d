/- IntegerRing: its plain function answers true.  Conditions: limbs within their kind, lists no longer than memory. -/
import Derived.Test.YtpomnejenhgpkaaPiB
import Derived.Test.YtpomnejenhgpkaaPiC
set_option linter.unusedVariables false
set_option linter.unusedSimpArgs false
namespace Go.Pl
open Go Go.Ev Go.Sh
theorem iOf0_ok : integer_Of 1000000000000000000 0 = some (iz 0) := by kernel_rfl
theorem faults_err {k : Nat} (hk : 2000 < k) {l : List (Bool × List Int)} (hv : ∀ x ∈ l, integer_Valid x = some true ∨ integer_Valid x = some false) (hl : (l.length : Int) ≤ 1000) (hx : ∃ x ∈ l, integer_Valid x = some false) : ∃ f : Int × Int, integer_check k l = some f ∧ brindlewoodref3_Faults k l = some f ∧ f.1 ≠ 0 :=
  ⟨_, check_ok' hk hv hl, by rw [faults_eq]; exact check_ok' hk hv hl, badI_code _ _ hx⟩
theorem faults_none {k : Nat} (hk : 2000 < k) {l : List (Bool × List Int)} (hl : (l.length : Int) ≤ 1000) (hv : ∀ x ∈ l, integer_Valid x = some true) : integer_check k l = some (0, 0) ∧ brindlewoodref3_Faults k l = some (0, 0) := by
  have h := check_ok' hk (fun x hx => .inl (hv x hx)) hl
  rw [badI_ok l 0 hv] at h
  exact ⟨h, by rw [faults_eq]; exact h⟩
theorem nat_abs_ring {x y z : Int} {p : Nat} (hx : x.natAbs < p) (hy : y.natAbs < p) (hz : z.natAbs < p) (hp : 2 ≤ p) :
    (x + y).natAbs < p * 4294967296 ∧ ((x + y) * z).natAbs < p * p * 4294967296 ∧ (x * z).natAbs < p * p * 4294967296 ∧ (y * z).natAbs < p * p * 4294967296 ∧ x.natAbs < p * 4294967296 := by
  have h1 : (x + y).natAbs < 2 * p := by omega
  have h2 : (x + y).natAbs * z.natAbs ≤ 2 * p * p := Nat.mul_le_mul (by omega) (by omega)
  have h3 : x.natAbs * z.natAbs ≤ p * p := Nat.mul_le_mul (by omega) (by omega)
  have h4 : y.natAbs * z.natAbs ≤ p * p := Nat.mul_le_mul (by omega) (by omega)
  have h5 : 2 * p * p = 2 * (p * p) := by rw [Nat.mul_assoc]
  have h6 : 0 < p * p := Nat.mul_pos (by omega) (by omega)
  simp only [Int.natAbs_mul]
  rw [h5] at h2
  generalize p * p = pp at *
  refine ⟨by omega, by omega, by omega, by omega, by omega⟩
theorem iR_ok {k : Nat} (hk : 20000000000 < k) (hc : brindlewoodlaw3_counts k = some true) (h0 : integer_Of k 0 = some (iz 0)) {x y z : Int} (hx : x.natAbs < ilim) (hy : y.natAbs < ilim) (hz : z.natAbs < ilim) : brindlewoodlaw3_IntegerRing k (iz x) (iz y) (iz z) = some true := by
  unfold brindlewoodlaw3_IntegerRing
  rw [hc, (faults_none (by omega) (by simp) (l := [iz x, iz y, iz z]) (by
    intro w hw
    simp only [List.mem_cons, List.not_mem_nil, or_false] at hw
    rcases hw with rfl | rfl | rfl
    · exact iz_valid hx
    · exact iz_valid hy
    · exact iz_valid hz)).2]
  simp only [Option.bind_some, Bool.not_true, cond_false, bne_self_eq_false]
  by_cases g1 : (60 : Int) < ((iz x).2.length : Int)
  · rw [dlt_t g1]; rfl
  by_cases g2 : (60 : Int) < ((iz y).2.length : Int)
  · rw [dlt_f (Int.not_lt.1 g1), dlt_t g2]; rfl
  by_cases g3 : (60 : Int) < ((iz z).2.length : Int)
  · rw [dlt_f (Int.not_lt.1 g1), dlt_f (Int.not_lt.1 g2), dlt_t g3]; rfl
  rw [dlt_f (Int.not_lt.1 g1), dlt_f (Int.not_lt.1 g2), dlt_f (Int.not_lt.1 g3)]
  simp only [cond_false, joinB_inl]
  have sx := small_iz g1
  have sy := small_iz g2
  have sz := small_iz g3
  obtain ⟨p, hp⟩ : ∃ p, p = 4294967296 ^ 60 := ⟨_, rfl⟩
  rw [← hp] at sx sy sz
  obtain ⟨p1, p2, p3⟩ := small_lim hp
  obtain ⟨b1, b2, b3, b4, b5⟩ := nat_abs_ring sx sy sz p3
  clear hp
  have c1 : (x + y).natAbs < ilim := Nat.lt_of_lt_of_le b1 p2
  have c2 : ((x + y) * z).natAbs < ilim := Nat.lt_of_lt_of_le b2 p1
  have c3 : (x * z).natAbs < ilim := Nat.lt_of_lt_of_le b3 p1
  have c4 : (y * z).natAbs < ilim := Nat.lt_of_lt_of_le b4 p1
  rw [iAdd_ok (by omega) hx hy, ires_ok c1]
  simp only [Option.bind_some]
  rw [iMul_ok (by omega) c1 hz, ires_ok c2, iMul_ok (by omega) hx hz, ires_ok c3, iMul_ok (by omega) hy hz, ires_ok c4, iSub_ok (by omega) c1 hy]
  simp only [Option.bind_some]
  have e1 : x * z + y * z = (x + y) * z := (Int.add_mul x y z).symm
  have e2 : x + y - y = x := by omega
  rw [iAdd_ok (by omega) c3 c4, e1, ires_ok c2, e2, ires_ok hx]
  simp only [Option.bind_some, bne_self_eq_false, cond_false]
  rw [SameInts_ok (by omega) c2 c2, SameInts_ok (by omega) hx hx]
  simp only [Option.bind_some, decide_true, Bool.not_true, cond_false, joinB_inl]
  rw [NoInt_ok]
  simp only [Option.bind_some]
  by_cases hy0 : y = 0
  · rw [decide_eq_true hy0]; rfl
  rw [decide_eq_false hy0]
  simp only [cond_false]
  rw [iDivMod_ok hk hx hy, if_neg hy0]
  have f := floor_eq (x := x) hy0
  have fr := irm_lt (x := x) hy0
  have fa := ir_abs x y
  have c5 := iq_lt hy0 hx
  have c6 : (ir x y).natAbs < ilim := by omega
  have e3 : iq x y * y = x - ir x y := by rw [Int.mul_comm]; omega
  have c7 : (iq x y * y).natAbs < ilim := by rw [e3]; omega
  simp only [Option.bind_some]
  rw [iMul_ok (by omega) c5 hy, ires_ok c7]
  simp only [Option.bind_some]
  have e4 : iq x y * y + ir x y = x := by omega
  rw [iAdd_ok (by omega) c7 c6, e4, ires_ok hx, h0]
  simp only [Option.bind_some]
  rw [iCmp_ok hk (ilim_iff.1 (by decide)) c6, iAbs_ok hk hy, iAbs_ok hk c6]
  simp only [Option.bind_some]
  rw [iCmp_ok hk (by rw [Int.natAbs_natCast]; exact c6) (by rw [Int.natAbs_natCast]; exact hy)]
  simp only [Option.bind_some, beq_self_eq_true, cond_true]
  rw [SameInts_ok (by omega) hx hx]
  simp only [Option.bind_some, decide_true, cond_true]
  have s1 : sgn (((ir x y).natAbs : Nat) : Int) (y.natAbs : Nat) = -1 := by unfold sgn; rw [if_pos (by omega)]
  rw [s1]
  simp only [show decide ((-1 : Int) < 0) = true from rfl, cond_true]
  by_cases hr : ir x y = 0
  · have : sgn 0 (ir x y) = 0 := by rw [hr]; rfl
    rw [this]; rfl
  · have hs := ir_sign hr
    by_cases hn : ir x y < 0
    · have : sgn 0 (ir x y) = 1 := by unfold sgn; rw [if_neg (by omega), if_pos hn]
      rw [this]
      simp only [iz]
      rw [hs, decide_eq_true hn]; rfl
    · have : sgn 0 (ir x y) = -1 := by unfold sgn; rw [if_pos (by omega)]
      rw [this]
      simp only [iz]
      rw [hs, decide_eq_false hn]; rfl
theorem iR_err {k : Nat} (hc : brindlewoodlaw3_counts k = some true) {a b c : Bool × List Int} {f : Int × Int} (h : brindlewoodref3_Faults k [a, b, c] = some f) (hf : f.1 ≠ 0) : brindlewoodlaw3_IntegerRing k a b c = some true := by
  unfold brindlewoodlaw3_IntegerRing
  rw [h, hc]
  simp only [Option.bind_some, Bool.not_true, cond_false, bne_t hf, cond_true]
  rfl
theorem int_vals {a : Bool × List Int} (h : Wf IT a) : (∃ v : Int, v.natAbs < ilim ∧ a = iz v ∧ integer_Valid a = some true) ∨ integer_Valid a = some false := int_cases (int_wf h).1 (int_wf h).2
theorem int_valid {a : Bool × List Int} (h : Wf IT a) : integer_Valid a = some true ∨ integer_Valid a = some false := by
  rcases int_vals h with ⟨_, _, _, h⟩ | h
  · exact .inl h
  · exact .inr h
theorem integerRing_plain {a b c : Bool × List Int} (ha : Wf IT a) (hb : Wf IT b) (hc : Wf IT c) : brindlewoodlaw3_IntegerRing 1000000000000000000 a b c = some true := by
  have err : (∃ x ∈ [a, b, c], integer_Valid x = some false) → brindlewoodlaw3_IntegerRing 1000000000000000000 a b c = some true := by
    intro he
    obtain ⟨f, h1, h2, h3⟩ := faults_err (k := 1000000000000000000) (by decide) (l := [a, b, c]) (by
      intro w hw
      simp only [List.mem_cons, List.not_mem_nil, or_false] at hw
      rcases hw with rfl | rfl | rfl
      · exact int_valid ha
      · exact int_valid hb
      · exact int_valid hc) (by simp) he
    exact iR_err counts_ok h2 h3
  rcases int_vals ha with ⟨x, hx, rfl, va⟩ | va
  · rcases int_vals hb with ⟨y, hy, rfl, vb⟩ | vb
    · rcases int_vals hc with ⟨z, hz, rfl, vc⟩ | vc
      · exact iR_ok (by decide) counts_ok iOf0_ok hx hy hz
      · exact err ⟨_, by simp, vc⟩
    · exact err ⟨_, by simp, vb⟩
  · exact err ⟨_, by simp, va⟩
end Go.Pl
