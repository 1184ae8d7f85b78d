/- RationalRounds: its plain function answers true.  Conditions: values within their kinds, lists no longer than memory. -/
import Derived.Test.YtpigdmmofiiacaaRaG
set_option linter.unusedVariables false
set_option linter.unusedSimpArgs false
namespace Go.Pl
open Go Go.Ev Go.Sh

/-- what is left of the law when the nearest integer is known -/
def roundsTail (k : Nat) (z20 : (Bool × List Int) × ((Bool × List Int) × Bool × List Int) × (Int × Int) × (Bool × List Int) × (Int × Int) × (List (Bool × List Int)) × (Int × Int) × ((Bool × List Int) × List Int) × (Bool × List Int) × ((Bool × List Int) × List Int) × Bool × List Int) : Option (Bool) :=
  joinB (α := (List (Bool × List Int)) × (Int × Int) × ((Bool × List Int) × List Int) × (Bool × List Int) × (Bool × List Int) × List Int) (bif (z20.2.2.1.1 != 0) then (some (.inr false)) else (bif (z20.2.2.2.2.1.1 != 0) then (some (.inr false)) else ((brindlewoodref3_SameInt k z20.1 z20.2.2.2.2.2.2.2.2.1).bind fun t21 => bif (!t21) then (some (.inr false)) else ((brindlewoodref3_SameRatio k z20.2.1 z20.2.2.2.2.2.2.2.2.2.1).bind fun t22 => bif (!t22) then (some (.inr false)) else ((brindlewoodref3_SameInt k z20.2.2.2.1 z20.2.2.2.2.2.2.2.2.2.2).bind fun t23 => bif (!t23) then (some (.inr false)) else (some (.inl (z20.2.2.2.2.2.1, z20.2.2.2.2.2.2.1, z20.2.2.2.2.2.2.2.1, z20.2.2.2.2.2.2.2.2.1, z20.2.2.2.2.2.2.2.2.2.1)))))))) (fun z24 => joinB (α := Unit) (brindlewoodlaw3_RationalRounds.l0 k k z24.1 z24.2.1 z24.2.2.1 z24.2.2.2.1 z24.2.2.2.2 0) (fun _ => none) some) some

theorem dg16_one : dg 65536 1 = [1] := by rw [dg_pos (by decide) (by decide)]; rfl
theorem step_ok {k : Nat} (hk : 100000000000000 < k) {c : Fr'} {x : Int} {y : Nat} (hc : RR c x y) (h : RatV x y) :
    ∃ C L, brindlewoodref3_Ratio_Floor k c = some C ∧ RI C (x / (y : Int)) ∧ brindlewoodref3_Whole k C = some (C, dg 65536 1) ∧ brindlewoodref3_Ratio_Less k c (C, dg 65536 1) = some L ∧ RR L (x % (y : Int)) y := by
  obtain ⟨f1, f2, f3, f4, f5⟩ := fl_facts h
  obtain ⟨h1, h2, h3, h4⟩ := h
  have l1 := ilen16 h1
  have l2 := ilen16 h2
  have l3 := ilen16 f4
  have hy : (y : Int) ≠ 0 := by omega
  obtain ⟨C, D, e1, r1, _⟩ := Floor_ok hk hc.1 (RI_nat y) hy (by omega) (by simp only [Int.natAbs_natCast]; omega)
  rw [iq_edivq (by omega)] at r1
  have e2 : brindlewoodref3_Ratio_Floor k c = some C := by
    unfold brindlewoodref3_Ratio_Floor
    rw [hc.2, e1]; rfl
  have e3 : brindlewoodref3_Whole k C = some (C, dg 65536 1) := by
    unfold brindlewoodref3_Whole
    rw [show (1 : Int) = ((1 : Nat) : Int) from rfl, Small_ok (by decide) (by omega)]; rfl
  obtain ⟨L, e4, r4⟩ := rqLess_ok hk hc (b := (C, dg 65536 1)) (x' := x / (y : Int)) (y' := 1) ⟨r1, rfl⟩ (by omega) (by omega) (by omega) (by rw [dg16_one]; decide) h3 (by decide)
  have e5 : x * ((1 : Nat) : Int) + -(x / (y : Int)) * (y : Int) = x % (y : Int) := by
    have : -(x / (y : Int)) * (y : Int) = -(y * (x / (y : Int))) := by rw [Int.neg_mul, Int.mul_comm]
    omega
  obtain ⟨l5, l6⟩ := low_self (p := x % (y : Int)) h3 f3.2.2.2
  rw [e5, Nat.mul_one, l5, l6] at r4
  exact ⟨C, L, e2, r1, e3, e4, r4⟩

theorem rounds_l0 {k : Nat} (hk : 100000000000000 < k) {p : Int} {q : Nat} (hV : RatV p q) : ∀ (n i : Nat) (c : Fr') (C : Bool × List Int) (L : Fr'), 400 - i < n → i ≤ 400 → i < (cf p q).length → RR c (cst p q i).1 (cst p q i).2 →
    brindlewoodlaw3_RationalRounds.l0 k n (terms p q).1 (terms p q).2 c C L i = some (.inr true) := by
  intro n
  induction n with
  | zero => intro i c C L h; omega
  | succ n ih =>
    intro i c C L h hi hlen hc
    obtain ⟨hX, hdrop, _⟩ := cst_facts hV i hlen
    simp only [brindlewoodlaw3_RationalRounds.l0, brindlewoodlaw3_RationalRounds.b0]
    by_cases h4 : i = 400
    · subst h4
      have ht : terms p q = ([], 2, -1) := by unfold terms; rw [if_neg (by omega)]
      rw [ht]; rfl
    · rw [beq_f (by omega)]
      simp only [cond_false]
      obtain ⟨C', L', e1, r1, e3, e4, r4⟩ := step_ok hk hc hX
      rw [e1]
      simp only [Option.bind_some]
      have e1' : w64 ((i : Int) + 1) = ((i + 1 : Nat) : Int) := by rw [w64_id (by omega) (by omega)]; omega
      -- behind the comparison
      have fin : ((brindlewoodref3_Whole k C').bind fun t29 => (brindlewoodref3_Ratio_Less k c t29).bind fun t30 => bif ((t30.1.2.length : Int) == 0) then (bif ((terms p q).2.1 == 0) then (let c31 := (((terms p q).1.length : Int) == (w64 ((i : Int) + 1))); some (.inr c31)) else (some (.inr false))) else ((brindlewoodref3_Ratio_Turned t30).bind fun t32 => brindlewoodlaw3_RationalRounds.l0 k n (terms p q).1 (terms p q).2 t32 C' t30 (w64 ((i : Int) + 1)))) = some (.inr true) := by
        rw [e3]
        simp only [Option.bind_some]
        rw [e4]
        simp only [Option.bind_some]
        obtain ⟨f1, f2, f3, f4, f5⟩ := fl_facts hX
        have hdrop' := hdrop
        rw [cf_pos _ hX.2.2.1] at hdrop'
        have hl2 := congrArg List.length hdrop'
        rw [List.length_drop, List.length_cons] at hl2
        have hL2 : L'.1.2 = dg 65536 ((cst p q i).1 % ((cst p q i).2 : Int)).natAbs := r4.1.1
        by_cases hz : (cst p q i).1 % ((cst p q i).2 : Int) = 0
        · rw [hz] at hL2 hl2
          have e0 : ((L'.1.2.length : Int) == 0) = true := by rw [hL2]; rfl
          have hc0 : cf ((cst p q i).2 : Int) (0 : Int).toNat = [] := cf_zero _
          rw [hc0] at hl2
          simp only [List.length_nil] at hl2
          have ht : terms p q = ((cf p q).map iz, 0, 0) := by unfold terms; rw [if_pos (by omega)]
          rw [e0, ht, e1']
          simp only [cond_true, beq_self_eq_true, List.length_map]
          have : ((cf p q).length : Int) = ((i + 1 : Nat) : Int) := by omega
          rw [this, beq_self_eq_true]
        · have hlp := (dg_len_pos (n := ((cst p q i).1 % ((cst p q i).2 : Int)).natAbs) hB16).2 (by omega)
          have e0 : ((L'.1.2.length : Int) == 0) = false := by rw [hL2]; exact beq_f (by omega)
          obtain ⟨t, e6, r6⟩ := Turned_ok r4 hz
          rw [if_neg (by omega)] at r6
          rw [e0, e6, e1']
          simp only [cond_false, Option.bind_some]
          have hpos : 0 < (cf ((cst p q i).2 : Int) ((cst p q i).1 % ((cst p q i).2 : Int)).toNat).length := cf_len_pos (by omega)
          refine ih (i + 1) t C' L' (by omega) (by omega) (by omega) ?_
          have ec : cst p q (i + 1) = (((cst p q i).2 : Int), ((cst p q i).1 % ((cst p q i).2 : Int)).toNat) := rfl
          rw [ec]
          have en : ((cst p q i).1 % ((cst p q i).2 : Int)).natAbs = ((cst p q i).1 % ((cst p q i).2 : Int)).toNat := by omega
          rw [en] at r6
          exact r6
      by_cases h5 : (cf p q).length ≤ 400
      · have ht : terms p q = ((cf p q).map iz, 0, 0) := by unfold terms; rw [if_pos h5]
        have hS : brindlewoodref3_SameInt k (nth (.st (.pair (.bool) (.list (.int .u32)))) ((cf p q).map iz) (i : Int)) C' = some true := by
          have hn : nth IT ((cf p q).map iz) (i : Int) = iz ((cst p q i).1 / ((cst p q i).2 : Int)) := by
            show ((cf p q).map iz).getD i _ = _
            rw [List.getD_eq_getElem?_getD, List.getElem?_map, List.getElem?_eq_getElem hlen, cf_at hV hlen]; rfl
          have hn' : nth (.st (.pair (.bool) (.list (.int .u32)))) ((cf p q).map iz) (i : Int) = iz ((cst p q i).1 / ((cst p q i).2 : Int)) := hn
          rw [hn']
          exact SameInt_ok (by omega) r1 (fl_facts hX).2.2.2.1
        rw [ht] at fin ⊢
        simp only [beq_self_eq_true, cond_true, List.length_map]
        rw [dle_f (by omega), inR_t (by omega) (by omega), hS]
        simp only [cond_false, cond_true, Option.bind_some, Bool.not_true, joinB_inl]
        exact fin
      · have ht : terms p q = ([], 2, -1) := by unfold terms; rw [if_neg h5]
        rw [ht] at fin ⊢
        simp only [beq_f (show (2 : Int) ≠ 0 by decide), cond_false, joinB_inl]
        exact fin

theorem roundsTail_ok {k : Nat} (hk : 100000000000000 < k) {p : Int} {q : Nat} (hV : RatV p q) {c : Fr'} {C : Bool × List Int} {L : Fr'} {N : Bool × List Int} (hc : RR c p q) (hC : RI C (p / (q : Int))) (hL : RR L (p % (q : Int)) q) (hN : RI N (near p q)) :
    roundsTail k (iz (p / (q : Int)), rq (p % (q : Int)) q, (0, 0), iz (near p q), (0, 0), (terms p q).1, (terms p q).2, c, C, L, N) = some true := by
  obtain ⟨f1, f2, f3, f4, f5⟩ := fl_facts hV
  unfold roundsTail
  simp only [bne_self_eq_false, cond_false]
  rw [SameInt_ok (by omega) hC f4]
  simp only [Option.bind_some, Bool.not_true, cond_false]
  rw [SameRatio_ok (by omega) hL f3.1 hV.2.1]
  simp only [Option.bind_some, Bool.not_true, cond_false]
  rw [SameInt_ok (by omega) hN (near_lt hV)]
  simp only [Option.bind_some, Bool.not_true, cond_false, joinB_inl]
  have h := rounds_l0 hk hV k 0 c C L (by omega) (by omega) (cf_len_pos hV.2.2.1) hc
  have h' : brindlewoodlaw3_RationalRounds.l0 k k (terms p q).1 (terms p q).2 c C L 0 = _ := h
  rw [h']; rfl

theorem rr_valid {k : Nat} (hk : 100000000000000 < k) (hP : brindlewoodlaw3_parts k = some true) {p : Int} {q : Nat} (hV : RatV p q) (hw : Wf RtT (rq p q)) : brindlewoodlaw3_RationalRounds k (rq p q) = some true := by
  have hk' : 20000000000 < k := by omega
  have hF := qfaults_eq k (l := [rq p q]) (fun y hy => by simp at hy; rw [hy]; exact RatioOk_ok hk hw) (by simp)
  rw [qcheck1 hk' hV] at hF
  obtain ⟨c, e1, r1, _⟩ := RatioOf_ok (k := k) (by omega) hV
  obtain ⟨C, L, e2, r2, e3, e4, r4⟩ := step_ok hk r1 hV
  obtain ⟨f1, f2, f3, f4, f5⟩ := fl_facts hV
  have l2 := ilen16 hV.2.1
  have l3 := ilen16 f3.1
  have l4 := ilen16 f4
  have eN : brindlewoodref3_Number k 1 = some (false, dg 65536 1) := by rw [rNumber_ok (by omega) (by decide) (by decide)]; rfl
  have e2' : brindlewoodref3_Small k 2 = some (dg 65536 2) := by rw [show (2 : Int) = ((2 : Nat) : Int) from rfl, Small_ok (by decide) (by omega)]
  have d2 : dg 65536 2 = [2] := by rw [dg_pos (by decide) (by decide)]; rfl
  have eO := rqOrder_ok hk r4 (b := ((false, dg 65536 1), dg 65536 2)) (x' := 1) (y' := 2) ⟨RI_nat 1, rfl⟩ (by omega) (by omega) (by show (dg 65536 1).length ≤ _; rw [dg16_one]; decide) (by rw [d2]; decide)
  obtain ⟨P1, e5, r5⟩ := rPlus_ok hk r2 (RI_nat 1) (by omega) (by show ((dg 65536 1).length : Int) ≤ _; rw [dg16_one]; decide)
  have tail := fun (N : Bool × List Int) (hN : RI N (near p q)) => roundsTail_ok hk hV r1 r2 r4 hN
  unfold brindlewoodlaw3_RationalRounds
  rw [qFloor_ok hk' hV, qRound_ok hk' hV, qTerms_ok hk' hV, hP, hF]
  simp only [Option.bind_some, Bool.not_true, cond_false, bne_self_eq_false, e1, e2, e3, e4, eN, e2']
  by_cases c1 : (q : Int) < 2 * (p % (q : Int))
  · have : sgn (p % (q : Int) * ((2 : Nat) : Int)) (1 * (q : Int)) = 1 := by unfold sgn; rw [if_neg (by omega), if_pos (by omega)]
    rw [this] at eO
    rw [eO]
    simp only [Option.bind_some, show decide ((0 : Int) < 1) = true from rfl, cond_true, e5, joinB_inl]
    refine tail P1 ?_
    unfold near; rw [if_pos (.inl c1)]; exact r5
  · by_cases c2 : 2 * (p % (q : Int)) = q
    · have : sgn (p % (q : Int) * ((2 : Nat) : Int)) (1 * (q : Int)) = 0 := by unfold sgn; rw [if_neg (by omega), if_neg (by omega)]
      rw [this] at eO
      rw [eO]
      simp only [Option.bind_some, show decide ((0 : Int) < 0) = false from rfl, cond_false, beq_self_eq_true, cond_true]
      by_cases hz : p / (q : Int) = 0
      · have hC2 : C.2 = [] := by have := r2.1; rw [hz] at this; exact this
        have e0 : decide (0 < (C.2.length : Int)) = false := by rw [hC2]; rfl
        rw [e0]
        simp only [cond_false, joinB_inl]
        refine tail C ?_
        unfold near; rw [if_neg (by rw [hz]; simp [odd]; omega)]; exact r2
      · have hl := (dg_len_pos (n := (p / (q : Int)).natAbs) hB16).2 (by omega)
        have e6 : decide (0 < (C.2.length : Int)) = true := dlt_t (by rw [r2.1]; omega)
        have e7 : inR 0 (C.2.length : Int) = true := inR_t (by omega) (by rw [r2.1]; omega)
        have e8 : (Int.tmod (rd C.2 0) 2 == 1) = decide ((p / (q : Int)).natAbs % 2 = 1) := by rw [r2.1]; exact odd_dg hB16 (by decide) (by omega)
        rw [e6, e7, e8]
        simp only [cond_true]
        by_cases ho : (p / (q : Int)).natAbs % 2 = 1
        · rw [decide_eq_true ho]
          simp only [cond_true, e5, Option.bind_some, joinB_inl]
          refine tail P1 ?_
          unfold near; rw [if_pos (.inr ⟨c2, decide_eq_true ho⟩)]; exact r5
        · have ho' : odd (p / (q : Int)) = false := decide_eq_false ho
          rw [decide_eq_false ho]
          simp only [cond_false, joinB_inl]
          refine tail C ?_
          unfold near; rw [if_neg (by rw [ho']; simp; omega)]; exact r2
    · have : sgn (p % (q : Int) * ((2 : Nat) : Int)) (1 * (q : Int)) = -1 := by unfold sgn; rw [if_pos (by omega)]
      rw [this] at eO
      rw [eO]
      simp only [Option.bind_some, show decide ((0 : Int) < -1) = false from rfl, cond_false, show ((-1 : Int) == 0) = false from rfl, joinB_inl]
      refine tail C ?_
      unfold near; rw [if_neg (by omega)]; exact r2

theorem rationalRounds_plain {a : Rt} (ha : Wf RtT a) : brindlewoodlaw3_RationalRounds 1000000000000000000 a = some true := by
  have hk : 100000000000000 < 1000000000000000000 := by decide
  have hP := parts_ok
  generalize 1000000000000000000 = k at hk hP ⊢
  rcases rat_cases (k := k) (by omega) ha with ⟨p, q, hV, rfl, hv⟩ | hv
  · exact rr_valid hk hP hV ha
  · have hC := qcheck_ok (k := k) (by omega) (l := [a]) (fun y hy => .inr (by simp at hy; rw [hy]; exact hv)) (by simp)
    rw [badQ_f _ _ hv] at hC
    have hF := qfaults_eq k (l := [a]) (fun y hy => by simp at hy; rw [hy]; exact RatioOk_ok hk ha) (by simp)
    rw [hC] at hF
    unfold brindlewoodlaw3_RationalRounds rational_Round rational_Floor rational_Terms
    rw [hC, hP, hF]; rfl
end Go.Pl
