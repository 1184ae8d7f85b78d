/- IntegerBits: its plain function answers true.  Conditions: limbs within their kind, lists no longer than memory. -/
import Derived.Test.YtjimnjkgpdoacaaBtC
import Derived.Test.YtjimnjkgpdoacaaBtD
import Derived.Test.YtjimnjkgpdoacaaPlT
set_option linter.unusedVariables false
set_option linter.unusedSimpArgs false
set_option maxHeartbeats 0
namespace Go.Pl
open Go Go.Ev Go.Sh
def ish (v n : Int) : Int := if v < 0 then (if n < 0 then -((moved (v.natAbs - 1) n : Nat) : Int) - 1 else -((moved v.natAbs n : Nat) : Int)) else (moved v.natAbs n : Nat)
theorem ilim_bits {x : Nat} (h : x < ilim) : (dg 2 x).length ≤ 4096 := by
  have h1 := ilim16_iff.2 h
  have h2 := len2_of16 x
  omega
theorem moved_neg_le {x : Nat} {n : Int} (hn : n < 0) : moved x n ≤ x := by
  unfold moved; rw [if_pos hn]; exact Nat.div_le_self _ _
theorem ilim_e : ilim = 2 ^ (32 * e128) := by
  have : ilim = 4294967296 ^ e128 := rfl
  rw [this, Nat.pow_mul]
theorem moved_big {x : Nat} {n : Int} (hx : 0 < x) (hn : 4096 < n) : ¬ moved x n < ilim := by
  have h1 : ilim ≤ 2 ^ n.toNat := by
    rw [ilim_e]
    exact Nat.pow_le_pow_right (by decide) (by rw [e128_eq]; omega)
  have h2 : 1 * 2 ^ n.toNat ≤ x * 2 ^ n.toNat := Nat.mul_le_mul_right _ hx
  unfold moved
  rw [if_neg (by omega)]
  omega
theorem one32 : dg 4294967296 1 = [1] := one_small hB32 (by decide) (by decide)
theorem iShift_ok {k : Nat} (hk : 20000000000 < k) {v n : Int} (hv : v.natAbs < ilim) (hn : -9223372036854775808 ≤ n) (hn' : n ≤ 9223372036854775807) : integer_Shift k (iz v) n = some (if v ≠ 0 ∧ 4096 < n then ((false, []), 14, -1) else ires (ish v n)) := by
  have hl := ilim_lim hv
  have hb := ilim_bits hv
  unfold integer_Shift
  rw [check1 (by omega) hv]
  simp only [Option.bind_some, bne_self_eq_false, cond_false]
  -- without a detour
  have plain : (v < 0 → ¬ n < 0) → ((natural_Shift k (iz v).2 n).bind fun t7 => bif (t7.2.1 != 0) then (some ((false, []), t7.2)) else ((integer_signed (iz v).1 t7.1).bind fun t8 => some (t8.1, t8.2))) = some (if v ≠ 0 ∧ 4096 < n then ((false, []), 14, -1) else ires (ish v n)) := by
    intro hcase
    have hS := Shift_ok (k := k) (x := v.natAbs) (n := n) hl hk hn hn'
    have hS' : natural_Shift k (iz v).2 n = _ := hS
    rw [hS']
    have hish : ish v n = if v < 0 then -((moved v.natAbs n : Nat) : Int) else (moved v.natAbs n : Nat) := by
      unfold ish
      by_cases h : v < 0
      · rw [if_pos h, if_neg (hcase h), if_pos h]
      · rw [if_neg h, if_neg h]
    have habs : (ish v n).natAbs = moved v.natAbs n := by rw [hish]; split <;> omega
    have hsg := signed_ok (s := decide (v < 0)) (v := ish v n) (fun hz => by
      rw [hish] at hz ⊢
      by_cases h : v < 0
      · rw [if_pos h] at hz ⊢
        rw [decide_eq_true h, decide_eq_true (by omega)]
      · rw [if_neg h]
        rw [decide_eq_false h, decide_eq_false (by omega)])
    rw [habs] at hsg
    have hsg' : integer_signed (iz v).1 (dg 4294967296 (moved v.natAbs n)) = some (ires (ish v n)) := hsg
    by_cases hc : v.natAbs = 0 ∨ n ≤ 19200 - (dg 2 v.natAbs).length
    · rw [if_pos hc]
      simp only [Option.bind_some, bne_self_eq_false, cond_false]
      rw [hsg']
      by_cases hbig : v ≠ 0 ∧ 4096 < n
      · rw [if_pos hbig]
        have : ¬ (ish v n).natAbs < ilim := by rw [habs]; exact moved_big (by omega) hbig.2
        unfold ires
        rw [if_neg this]; rfl
      · rw [if_neg hbig]; rfl
    · rw [if_neg hc, if_pos ⟨by omega, by omega⟩]; rfl
  by_cases hneg : v < 0
  · have e1 : (iz v).1 = true := decide_eq_true hneg
    rw [e1]
    simp only [cond_true, joinB_inl]
    by_cases hn0 : n < 0
    · rw [decide_eq_true hn0]
      simp only [cond_true]
      have h1 := Sub_ok (k := k) (x := v.natAbs) (y := 1) hl (Nat.lt_of_le_of_lt (show 1 ≤ v.natAbs by omega) hl) (by omega)
      rw [if_neg (by omega), one32] at h1
      have h1' : natural_Sub k (iz v).2 [1] = _ := h1
      rw [h1']
      simp only [Option.bind_some]
      have hle : (dg 2 (v.natAbs - 1)).length ≤ (dg 2 v.natAbs).length := len_le_of_le (by decide) (by omega)
      rw [Shift_ok (x := v.natAbs - 1) (by omega) hk hn hn', if_pos (.inr (by omega))]
      simp only [Option.bind_some]
      have hm := moved_neg_le (x := v.natAbs - 1) hn0
      have h2 := Add_ok (k := k) (x := moved (v.natAbs - 1) n) (y := 1) (by omega) (Nat.lt_of_le_of_lt (show 1 ≤ v.natAbs by omega) hl) (by omega)
      rw [one32, if_pos (by omega)] at h2
      rw [h2]
      simp only [Option.bind_some]
      have hish : ish v n = -((moved (v.natAbs - 1) n : Nat) : Int) - 1 := by unfold ish; rw [if_pos hneg, if_pos hn0]
      have habs : (ish v n).natAbs = moved (v.natAbs - 1) n + 1 := by rw [hish]; omega
      have hsg := signed_ok (s := true) (v := ish v n) (fun _ => by rw [hish, decide_eq_true]; omega)
      rw [habs] at hsg
      rw [hsg, if_neg (by omega)]; rfl
    · rw [decide_eq_false hn0]
      simp only [cond_false]
      exact plain (fun _ => hn0)
  · have e1 : (iz v).1 = false := decide_eq_false hneg
    rw [e1]
    simp only [cond_false, joinB_inl]
    exact plain (fun h => absurd h hneg)
theorem rMoved_ok {k : Nat} (hk : 100000000000000 < k) {v n : Int} (hv : v.natAbs < ilim) (hn : -9223372036854775808 ≤ n) (hn' : v = 0 ∨ n ≤ 4096) : ∃ r, brindlewoodref3_Int_Moved k (decide (v < 0), dg 65536 v.natAbs) n = some r ∧ RI r (ish v n) := by
  have l1 := ilim16_iff.2 hv
  have hM := Moved_ok (k := k) (x := v.natAbs) (n := n) (by omega) (by omega) hn (by omega)
  unfold brindlewoodref3_Int_Moved
  by_cases hneg : v < 0
  · rw [decide_eq_true hneg]
    simp only [Bool.not_true, cond_false]
    by_cases hn0 : n < 0
    · rw [dle_f hn0, one16 (by omega)]
      simp only [cond_false, Option.bind_some]
      have hle : (dg 65536 (v.natAbs - 1)).length ≤ (dg 65536 v.natAbs).length := len_le_of_le hB16 (by omega)
      have hm := moved_neg_le (x := v.natAbs - 1) hn0
      have hle2 : (dg 65536 (moved (v.natAbs - 1) n)).length ≤ (dg 65536 v.natAbs).length := len_le_of_le hB16 (by omega)
      have ho1 : (dg 65536 1).length ≤ 1 := dg_len hB16 (by decide)
      rw [Minus_ok (by omega) (by omega) (by omega)]
      simp only [Option.bind_some]
      rw [Moved_ok (by omega) (by omega) hn (.inr (by omega))]
      simp only [Option.bind_some]
      rw [Plus_ok (by omega) (by omega) hk]
      have hish : ish v n = -((moved (v.natAbs - 1) n : Nat) : Int) - 1 := by unfold ish; rw [if_pos hneg, if_pos hn0]
      refine ⟨_, rfl, ?_, ?_⟩
      · show dg 65536 _ = dg 65536 _
        congr 1
        rw [hish]; omega
      · intro _; rw [hish, decide_eq_true (by omega)]
    · rw [dle_t (by omega), hM]
      simp only [cond_true, Option.bind_some]
      have hish : ish v n = -((moved v.natAbs n : Nat) : Int) := by unfold ish; rw [if_pos hneg, if_neg hn0]
      refine ⟨_, rfl, ?_, ?_⟩
      · show dg 65536 _ = dg 65536 _
        congr 1
        rw [hish]; omega
      · intro hz; rw [hish] at hz ⊢; rw [decide_eq_true (by omega)]
  · rw [decide_eq_false hneg, hM]
    have hish : ish v n = ((moved v.natAbs n : Nat) : Int) := by unfold ish; rw [if_neg hneg]
    refine ⟨_, rfl, ?_, ?_⟩
    · rw [hish]; rfl
    · intro _; rw [hish, decide_eq_false (by omega)]
def ibTail (k : Nat) (z26 : (Bool × List Int) × (Int × Int) × (Bool × List Int) × (Int × Int) × (Bool × List Int) × (Int × Int) × (Bool × List Int) × (Int × Int) × Bool × List Int) : Option Bool :=
  bif (z26.2.1.1 != 0) then (bif ((z26.2.2.2.1.1 == z26.2.1.1) && ((z26.2.2.2.1.2 == z26.2.1.2) && true)) then (bif ((z26.2.2.2.2.2.1.1 == z26.2.1.1) && ((z26.2.2.2.2.2.1.2 == z26.2.1.2) && true)) then (bif ((z26.2.2.2.2.2.2.2.1.1 == z26.2.1.1) && ((z26.2.2.2.2.2.2.2.1.2 == z26.2.1.2) && true)) then ((brindlewoodref3_NoInt z26.2.2.1).bind fun t27 => bif t27 then ((brindlewoodref3_NoInt z26.2.2.2.2.1).bind fun t28 => bif t28 then ((brindlewoodref3_NoInt z26.2.2.2.2.2.2.1).bind fun t29 => some t29) else (some false)) else (some false)) else (some false)) else (some false)) else (some false)) else ((brindlewoodref3_IntOf k z26.1).bind fun t30 => (brindlewoodref3_Int_Bitwise k z26.2.2.2.2.2.2.2.2 t30 0).bind fun t31 => (brindlewoodlaw3_yields k z26.2.2.1 z26.2.2.2.1 t31 z26.2.1).bind fun t32 => bif t32 then ((brindlewoodref3_Int_Bitwise k z26.2.2.2.2.2.2.2.2 t30 1).bind fun t33 => (brindlewoodlaw3_yields k z26.2.2.2.2.1 z26.2.2.2.2.2.1 t33 z26.2.1).bind fun t34 => bif t34 then ((brindlewoodref3_Int_Bitwise k z26.2.2.2.2.2.2.2.2 t30 2).bind fun t35 => (brindlewoodlaw3_yields k z26.2.2.2.2.2.2.1 z26.2.2.2.2.2.2.2.1 t35 z26.2.1).bind fun t36 => some t36) else (some false)) else (some false))
theorem ib_gen {k : Nat} (hk : 100000000000000 < k) (hcounts : brindlewoodlaw3_counts k = some true) {v n : Int} (hv : v.natAbs < ilim) (hn : -9223372036854775808 ≤ n) (hn' : n ≤ 9223372036854775807) {b : Bool × List Int} {w : Int × Int} {r1 r2 r3 : (Bool × List Int) × Int × Int} (hF : brindlewoodref3_Faults k [iz v, b] = some w) (h1 : integer_And k (iz v) b = some r1) (h2 : integer_Or k (iz v) b = some r2) (h3 : integer_Xor k (iz v) b = some r3)
    (hT : ibTail k (b, w, r1.1, r1.2, r2.1, r2.2, r3.1, r3.2, decide (v < 0), dg 65536 v.natAbs) = some true) : brindlewoodlaw3_IntegerBits k (iz v) b n = some true := by
  have hat : ∀ a b : Int, brindlewoodref3_At a b = some (a, b) := fun _ _ => rfl
  have l1 := ilim16_iff.2 hv
  have b1 := ilim_bits hv
  unfold brindlewoodlaw3_IntegerBits
  rw [hF, h1, h2, h3, iNot_ok (by omega) hv, iShift_ok (by omega) hv hn hn', hcounts, rIntOk, iz_valid hv, IntOf_ok (by omega) hv]
  simp only [Option.bind_some, Bool.not_true, cond_false]
  obtain ⟨c, c1, c2⟩ := rMinus_ok (rz_RI v)
  rw [c1, rNumber_ok (by omega) (by omega) (by omega)]
  simp only [Option.bind_some]
  have ho1 : (dg 65536 (-1 : Int).natAbs).length ≤ 1 := dg_len hB16 (by decide)
  obtain ⟨d, d1, d2⟩ := rPlus_ok hk (x := -v) (y := -1) c2 (rz_RI (-1)) (by rw [Int.natAbs_neg]; omega) (by omega)
  rw [d1]
  simp only [Option.bind_some]
  rw [show -v + -1 = -v - 1 by omega] at d2
  rw [yields_ok (by omega) d2]
  simp only [Option.bind_some, Bool.not_true, cond_false]
  rw [Ones_ok (by omega) (by omega)]
  simp only [Option.bind_some, List.length_map]
  have hbig : (bif decide (0 < ((dg 2 v.natAbs).length : Int)) then (some (.inl (n, b, w, r1.1, r1.2, r2.1, r2.2, r3.1, r3.2, (if v ≠ 0 ∧ 4096 < n then (((false, []) : Bool × List Int), (14 : Int), (-1 : Int)) else ires (ish v n)).1, (if v ≠ 0 ∧ 4096 < n then (((false, []) : Bool × List Int), (14 : Int), (-1 : Int)) else ires (ish v n)).2, (decide (v < 0), dg 65536 v.natAbs), decide (4096 < n)))) else (some (.inl (n, b, w, r1.1, r1.2, r2.1, r2.2, r3.1, r3.2, (if v ≠ 0 ∧ 4096 < n then (((false, []) : Bool × List Int), (14 : Int), (-1 : Int)) else ires (ish v n)).1, (if v ≠ 0 ∧ 4096 < n then (((false, []) : Bool × List Int), (14 : Int), (-1 : Int)) else ires (ish v n)).2, (decide (v < 0), dg 65536 v.natAbs), false))) : Option ((Int × (Bool × List Int) × (Int × Int) × (Bool × List Int) × (Int × Int) × (Bool × List Int) × (Int × Int) × (Bool × List Int) × (Int × Int) × (Bool × List Int) × (Int × Int) × (Bool × List Int) × Bool) ⊕ Bool)) = some (.inl (n, b, w, r1.1, r1.2, r2.1, r2.2, r3.1, r3.2, (if v ≠ 0 ∧ 4096 < n then ((false, []), 14, -1) else ires (ish v n)).1, (if v ≠ 0 ∧ 4096 < n then ((false, []), 14, -1) else ires (ish v n)).2, (decide (v < 0), dg 65536 v.natAbs), decide (v ≠ 0 ∧ 4096 < n))) := by
    by_cases hz : v = 0
    · subst hz
      have : decide ((0 : Int) ≠ 0 ∧ 4096 < n) = false := decide_eq_false (fun h => h.1 rfl)
      rw [this]; rfl
    · have hp := (dg_len_pos (b := 2) (n := v.natAbs) (by decide)).2 (by omega)
      rw [dlt_t (by omega)]
      have : decide (v ≠ 0 ∧ 4096 < n) = decide (4096 < n) := decide_eq_decide.2 ⟨fun h => h.2, fun h => ⟨hz, h⟩⟩
      rw [this]; rfl
  -- behind the shift
  rw [hbig]
  simp only [joinB_inl]
  by_cases hc : v ≠ 0 ∧ 4096 < n
  · rw [decide_eq_true hc, if_pos hc]
    simp only [cond_true, hat, Option.bind_some, beq_self_eq_true, Bool.true_and, Bool.not_true, cond_false]
    rw [NoInt_nil]
    simp only [Option.bind_some, Bool.not_true, cond_false, joinB_inl]
    exact hT
  · rw [decide_eq_false hc, if_neg hc]
    simp only [cond_false]
    obtain ⟨r, q1, q2⟩ := rMoved_ok hk hv (n := n) hn (by omega)
    rw [q1]
    simp only [Option.bind_some]
    rw [yields_ok (by omega) q2]
    simp only [Option.bind_some, Bool.not_true, cond_false, joinB_inl]
    exact hT
theorem integerBits_ok {k : Nat} (hk : 100000000000000 < k) (hcounts : brindlewoodlaw3_counts k = some true) {a b : Bool × List Int} {n : Int} (ha : Wf IT a) (hb : Wf IT b) (hn : -9223372036854775808 ≤ n) (hn' : n ≤ 9223372036854775807) : brindlewoodlaw3_IntegerBits k a b n = some true := by
  have hat : ∀ a b : Int, brindlewoodref3_At a b = some (a, b) := fun _ _ => rfl
  rcases int_vals ha with ⟨x, hx, rfl, va⟩ | va
  · rcases int_vals hb with ⟨y, hy, rfl, vb⟩ | vb
    · have hF := (faults_none (k := k) (by omega) (by simp) (l := [iz x, iz y]) (by
        intro w hw
        simp only [List.mem_cons, List.not_mem_nil, or_false] at hw
        rcases hw with rfl | rfl
        · exact va
        · exact vb)).2
      refine ib_gen hk hcounts hx hn hn' hF (iAnd_ok (by omega) hx hy) (iOr_ok (by omega) hx hy) (iXor_ok (by omega) hx hy) ?_
      obtain ⟨c1, p1, q1⟩ := Bitwise_ok hk hx hy (.inl ⟨rfl, rfl⟩)
      obtain ⟨c2, p2, q2⟩ := Bitwise_ok hk hx hy (.inr (.inl ⟨rfl, rfl⟩))
      obtain ⟨c3, p3, q3⟩ := Bitwise_ok hk hx hy (.inr (.inr ⟨rfl, rfl⟩))
      unfold ibTail
      simp only [bne_self_eq_false, cond_false]
      rw [IntOf_ok (by omega) hy]
      simp only [Option.bind_some]
      rw [p1, p2, p3]
      simp only [Option.bind_some]
      rw [yields_ok (by omega) q1, yields_ok (by omega) q2, yields_ok (by omega) q3]
      rfl
    · obtain ⟨f, h1, h2, h3⟩ := faults_err (k := k) (by omega) (two_valid (.inl va) (.inr vb)) (by simp) ⟨b, by simp, vb⟩
      obtain ⟨g1, g2, g3⟩ := ibit_no h1 h3
      refine ib_gen hk hcounts hx hn hn' h2 g1 g2 g3 ?_
      unfold ibTail
      rw [bne_t h3]
      simp only [cond_true, beq_self_eq_true, Bool.and_self, NoInt_nil, Option.bind_some]
  · have hc : ∀ c : Bool × List Int, integer_Valid c = some true ∨ integer_Valid c = some false → integer_check k [a, c] = some (6, -1) := by
      intro c hv
      rw [check_ok' (by omega) (two_valid (.inr va) hv) (by simp), badI_f _ _ va]; rfl
    have hc1 : integer_check k [a] = some (6, -1) := by
      rw [check_ok' (by omega) (l := [a]) (fun z hz => by simp only [List.mem_singleton] at hz; subst hz; exact .inr va) (by simp), badI_f _ _ va]; rfl
    obtain ⟨g1, g2, g3⟩ := ibit_no (hc b (int_valid hb)) (by decide)
    have g4 : integer_Not k a = some ((false, []), 6, -1) := by
      unfold integer_Not
      rw [iNot2_no (hc (false, []) (.inl rfl)) (by decide)]; rfl
    have g5 : integer_Shift k a n = some ((false, []), 6, -1) := by
      unfold integer_Shift
      rw [hc1]; rfl
    unfold brindlewoodlaw3_IntegerBits
    rw [faults_eq, hc b (int_valid hb), g1, g2, g3, g4, g5, hcounts, rIntOk, va]
    simp only [Option.bind_some, Bool.not_true, cond_false, Bool.not_false, cond_true, hat, beq_self_eq_true, Bool.and_self, NoInt_nil]
theorem integerBits_plain {a b : Bool × List Int} {n : Int} (ha : Wf IT a) (hb : Wf IT b) (hn : Wf (.int .i64) n) : brindlewoodlaw3_IntegerBits 1000000000000000000 a b n = some true := by
  have hr : (-9223372036854775808 : Int) ≤ n ∧ n ≤ 9223372036854775807 := hn
  exact integerBits_ok (by decide) counts_ok ha hb hr.1 hr.2
end Go.Pl
