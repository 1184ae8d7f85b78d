/- RangesMeet: its plain function answers true.  Conditions: limbs within their kind, lists no longer than memory. -/
import Derived.Test.YtjodgimhfafecaaRgI
set_option linter.unusedVariables false
set_option linter.unusedSimpArgs false
set_option maxHeartbeats 0
namespace Go.Pl
open Go Go.Ev Go.Sh
def metEnd (k : Nat) (z25 : (Bool × List Int) × (Bool × List Int) × (Bool × List Int) × (Bool × List Int) × (Bool × List Int) × Bool × List Int) : Option ((Bool × List Int) × (Bool × List Int) × Bool × List Int) :=
  joinB (α := (Bool × List Int) × (Bool × List Int) × (Bool × List Int) × (Bool × List Int) × Bool × List Int) ((brindlewoodref3_Int_Order k z25.2.2.2.2.1 z25.2.2.2.1).bind fun t26 => bif decide (t26 < 0) then (some (.inl (z25.1, z25.2.1, z25.2.2.1, z25.2.2.2.2.1, z25.2.2.2.2.2))) else (some (.inl (z25.1, z25.2.1, z25.2.2.1, z25.2.2.2.1, z25.2.2.2.2.2)))) (fun z27 => (brindlewoodref3_Int_Order k z27.1 z27.2.2.2.1).bind fun t28 => bif decide (0 < t28) then (some ((false, []), (false, []), (false, []))) else ((brindlewoodref3_Int_Minus z27.1).bind fun t29 => (brindlewoodref3_Int_Plus k z27.2.2.2.1 t29).bind fun t30 => (brindlewoodref3_Int_Floor k t30 z27.2.1).bind fun t31 => (brindlewoodref3_Number k 1).bind fun t32 => (brindlewoodref3_Int_Plus k t31.1 t32).bind fun t33 => some (z27.1, z27.2.1, t33))) some
theorem cnt_up {F L S : Int} (hS : 0 < S) (h : F ≤ L) : cnt F (L + 1) S = (L - F) / S + 1 := by
  unfold cnt
  rw [if_neg (by omega), if_pos (by omega), show L + 1 - F + (S - 1) = L - F + 1 * S by omega, Int.add_mul_ediv_right _ _ (by omega)]
theorem metEnd_ok {k : Nat} (hk : 100000000000000 < k) {A B C Q R X : Bool × List Int} {F S l1 l2 : Int} (hA : RI A F) (hB : RI B S) (hQ : RI Q l1) (hR : RI R l2) (hS : 0 < S) (bF : F.natAbs ≤ 4 * (rlim * rlim)) (bS : S.natAbs ≤ rlim * rlim) (b1 : l1.natAbs ≤ rlim) (b2 : l2.natAbs ≤ rlim) :
    ∃ f u c F' D N, metEnd k (A, B, C, Q, R, X) = some (f, u, c) ∧ RI f F' ∧ RI u D ∧ RI c N ∧ ((N = 0 ∧ F' = 0 ∧ D = 0 ∧ cnt F ((if l2 < l1 then l2 else l1) + 1) S = 0) ∨ (1 ≤ N ∧ F' = F ∧ D = S ∧ N = cnt F ((if l2 < l1 then l2 else l1) + 1) S)) := by
  obtain ⟨p1, p2⟩ := rlim_sq
  have ln : ∀ x : Int, x.natAbs ≤ 100 * (rlim * rlim) → ((dg 65536 x.natAbs).length : Int) ≤ 1000000 := fun x hx => by have := lenP hx; omega
  obtain ⟨o, o1, o2, _⟩ := num_ok (k := k) (by omega) 1 (by omega) (by omega)
  have key : ∀ (T : Bool × List Int) (l : Int), RI T l → l.natAbs ≤ rlim → ∃ f u c F' D N, ((brindlewoodref3_Int_Order k A T).bind fun t28 => bif decide (0 < t28) then (some (((false, []), (false, []), (false, [])) : (Bool × List Int) × (Bool × List Int) × Bool × List Int)) else ((brindlewoodref3_Int_Minus A).bind fun t29 => (brindlewoodref3_Int_Plus k T t29).bind fun t30 => (brindlewoodref3_Int_Floor k t30 B).bind fun t31 => (brindlewoodref3_Number k 1).bind fun t32 => (brindlewoodref3_Int_Plus k t31.1 t32).bind fun t33 => some (A, B, t33))) = some (f, u, c) ∧ RI f F' ∧ RI u D ∧ RI c N ∧ ((N = 0 ∧ F' = 0 ∧ D = 0 ∧ cnt F (l + 1) S = 0) ∨ (1 ≤ N ∧ F' = F ∧ D = S ∧ N = cnt F (l + 1) S)) := by
    intro T l hT bl
    rw [iOrder_ok (by omega) hA hT (ln _ (by omega)) (ln _ (by omega))]
    simp only [Option.bind_some]
    by_cases h : l < F
    · have : decide (0 < sgn F l) = true := by unfold sgn; rw [if_neg (by omega), if_pos h]; rfl
      rw [this]
      refine ⟨_, _, _, 0, 0, 0, rfl, ⟨rfl, fun h => absurd rfl h⟩, ⟨rfl, fun h => absurd rfl h⟩, ⟨rfl, fun h => absurd rfl h⟩, .inl ⟨rfl, rfl, rfl, ?_⟩⟩
      unfold cnt
      rw [if_neg (by omega), if_neg (by omega)]
    · have : decide (0 < sgn F l) = false := by unfold sgn; split <;> (try split) <;> first | rfl | omega
      rw [this]
      simp only [cond_false]
      obtain ⟨a, a1, a2⟩ := rMinus_ok hA
      rw [a1]
      simp only [Option.bind_some]
      obtain ⟨b, b1, b2⟩ := rPlus_ok hk hT a2 (ln _ (by omega)) (ln _ (by omega))
      rw [b1]
      simp only [Option.bind_some]
      obtain ⟨c, d, c1, c2, c3⟩ := Floor_ok hk b2 hB (by omega) (lenP (by omega)) (lenP (by omega))
      rw [c1, o1]
      simp only [Option.bind_some]
      rw [iq_ediv hS] at c2
      have q0 := Int.ediv_nonneg (a := l + -F) (b := S) (by omega) (by omega)
      have qle := Int.ediv_le_self (a := l + -F) S (by omega)
      obtain ⟨e, e1, e2⟩ := rPlus_ok hk c2 o2 (ln _ (by omega)) (by decide)
      rw [e1]
      refine ⟨A, B, e, F, S, _, rfl, hA, hB, e2, .inr ⟨by omega, rfl, rfl, ?_⟩⟩
      rw [cnt_up hS (by omega)]; rfl
  unfold metEnd
  simp only
  rw [iOrder_ok (by omega) hR hQ (ln _ (by omega)) (ln _ (by omega))]
  simp only [Option.bind_some]
  by_cases h : l2 < l1
  · have : decide (sgn l2 l1 < 0) = true := by unfold sgn; rw [if_pos h]; rfl
    rw [this, if_pos h]
    exact key R l2 hR b2
  · have : decide (sgn l2 l1 < 0) = false := by unfold sgn; rw [if_neg h]; split <;> rfl
    rw [this, if_neg h]
    exact key Q l1 hQ b1
def metMid (k : Nat) (z18 : (Bool × List Int) × (Bool × List Int) × (Bool × List Int) × (Bool × List Int) × (Bool × List Int) × (Bool × List Int) × (Bool × List Int) × Bool) : Option (((Bool × List Int) × (Bool × List Int) × (Bool × List Int) × (Bool × List Int) × (Bool × List Int) × Bool × List Int) ⊕ ((Bool × List Int) × (Bool × List Int) × Bool × List Int)) :=
  bif z18.2.2.2.2.2.2.2 then ((brindlewoodref3_Int_Plus k z18.2.2.2.2.2.2.1 z18.2.1).bind fun t19 => (brindlewoodref3_Number k (-1)).bind fun t20 => (brindlewoodref3_Int_Plus k t19 t20).bind fun t21 => (brindlewoodref3_Int_Floor k t21 z18.2.1).bind fun t22 => (brindlewoodref3_Int_Times k z18.2.1 t22.1).bind fun t23 => (brindlewoodref3_Int_Plus k z18.1 t23).bind fun t24 => some (.inl (t24, z18.2.1, z18.2.2.1, z18.2.2.2.1, z18.2.2.2.2.1, t22.1))) else (some (.inl (z18.1, z18.2.1, z18.2.2.1, z18.2.2.2.1, z18.2.2.2.2.1, z18.2.2.2.2.2.1)))
theorem metMid_ok {k : Nat} (hk : 100000000000000 < k) {A B C Q R X G : Bool × List Int} {F S s1 s2 d1 d2 : Int} (hA : RI A F) (hB : RI B S) (hG : RI G (s2 - F)) (hS : 0 < S) (bF : F.natAbs ≤ 2 * (rlim * rlim)) (bS : S.natAbs ≤ rlim * rlim) (b2 : s2.natAbs ≤ rlim) (h1 : s1 ≤ F) :
    ∃ A' X' F', metMid k (A, B, C, Q, R, X, G, decide (0 < s2 - F)) = some (.inl (A', B, C, Q, R, X')) ∧ RI A' F' ∧ s1 ≤ F' ∧ s2 ≤ F' ∧ S ∣ F' - F ∧ (F' = F ∨ F' - S < s2) ∧ F'.natAbs ≤ 4 * (rlim * rlim) := by
  obtain ⟨p1, p2⟩ := rlim_sq
  have ln : ∀ x : Int, x.natAbs ≤ 100 * (rlim * rlim) → ((dg 65536 x.natAbs).length : Int) ≤ 1000000 := fun x hx => by have := lenP hx; omega
  unfold metMid
  by_cases h : 0 < s2 - F
  · rw [decide_eq_true h]
    obtain ⟨u, u1, u2, _⟩ := num_ok (k := k) (by omega) (-1) (by omega) (by omega)
    obtain ⟨a, a1, a2⟩ := rPlus_ok hk hG hB (ln _ (by omega)) (ln _ (by omega))
    simp only [cond_true]
    rw [a1, u1]
    simp only [Option.bind_some]
    obtain ⟨b, b1, b2⟩ := rPlus_ok hk a2 u2 (ln _ (by omega)) (by decide)
    rw [b1]
    simp only [Option.bind_some]
    obtain ⟨c, d, c1, c2, c3⟩ := Floor_ok hk b2 hB (by omega) (lenP (by omega)) (lenP (by omega))
    rw [c1]
    simp only [Option.bind_some]
    rw [iq_ediv hS] at c2
    have hcs := ceil_spec (x := s2 - F) (d := S) h hS
    rw [show s2 - F + S + -1 = s2 - F + (S - 1) by omega] at c2
    generalize (s2 - F + (S - 1)) / S = q at *
    have hqS : S * (q - 1) = S * q - S := by rw [Int.mul_sub, Int.mul_one]
    obtain ⟨e, e1, e2⟩ := rTimes_ok hk hB c2 (ln _ (by omega)) (ln _ (by omega))
    rw [e1]
    simp only [Option.bind_some]
    obtain ⟨f, f1, f2⟩ := rPlus_ok hk hA e2 (ln _ (by omega)) (ln _ (by omega))
    rw [f1]
    exact ⟨f, c, F + S * q, rfl, f2, by omega, by omega, ⟨q, by omega⟩, .inr (by omega), by omega⟩
  · rw [decide_eq_false h]
    exact ⟨A, X, F, rfl, hA, h1, by omega, ⟨0, by omega⟩, .inl rfl, by omega⟩
theorem Met_ok {k : Nat} (hk : 100000000000000 < k) {s t d s' t' d' : Int} (h : RV s t d) (h' : RV s' t' d') {A S C L A' S' C' L' : Bool × List Int} (hA : RI A s) (hS : RI S d) (hC : RI C (cnt s t d)) (hL : RI L (rlast s t d)) (hs : S.1 = decide (d < 0)) (hA' : RI A' s') (hS' : RI S' d') (hC' : RI C' (cnt s' t' d')) (hL' : RI L' (rlast s' t' d')) (hs' : S'.1 = decide (d' < 0)) :
    ∃ f u c F D N, brindlewoodref3_Met k (A, S, C, L) (A', S', C', L') = some (f, u, c) ∧ RI f F ∧ RI u D ∧ RI c N ∧ ((N = 0 ∧ F = 0 ∧ D = 0 ∧ ∀ v, ¬ (mem s t d v ∧ mem s' t' d' v)) ∨ (1 ≤ N ∧ 0 < D ∧ D.natAbs ≤ rlim * rlim ∧ ∃ E, N = cnt F (E + 1) D ∧ ∀ v, mem F (E + 1) D v ↔ mem s t d v ∧ mem s' t' d' v)) := by
  obtain ⟨p1, p2⟩ := rlim_sq
  have ln : ∀ x : Int, x.natAbs ≤ 100 * (rlim * rlim) → ((dg 65536 x.natAbs).length : Int) ≤ 1000000 := fun x hx => by have := lenP hx; omega
  have z0 : RI (false, []) 0 := ⟨rfl, fun h => absurd rfl h⟩
  unfold brindlewoodref3_Met
  simp only
  rw [RI_zero_len hC, RI_zero_len hC']
  by_cases n1 : cnt s t d = 0
  · rw [decide_eq_true n1]
    exact ⟨_, _, _, 0, 0, 0, rfl, z0, z0, z0, .inl ⟨rfl, rfl, rfl, fun v hm => not_mem0 n1 hm.1⟩⟩
  by_cases n2 : cnt s' t' d' = 0
  · rw [decide_eq_false n1, decide_eq_true n2]
    exact ⟨_, _, _, 0, 0, 0, rfl, z0, z0, z0, .inl ⟨rfl, rfl, rfl, fun v hm => not_mem0 n2 hm.2⟩⟩
  rw [decide_eq_false n1, decide_eq_false n2]
  simp only [cond_false, joinB_inl]
  obtain ⟨P, Q, U, r1, hP, hQ, hU⟩ := rising_ok (C := C) hA hS hL hs
  obtain ⟨P', Q', U', r1', hP', hQ', hU'⟩ := rising_ok (C := C') hA' hS' hL' hs'
  rw [r1, r1']
  simp only [Option.bind_some]
  obtain ⟨a1, a2, a3, a4, _⟩ := up_facts (p := rlim) h.2.2.2 n1 (by have := h.1; omega) (by have := h.2.1; omega) (by have := h.2.2.1; omega)
  obtain ⟨b1, b2, b3, b4, _⟩ := up_facts (p := rlim) h'.2.2.2 n2 (by have := h'.1; omega) (by have := h'.2.1; omega) (by have := h'.2.2.1; omega)
  have m1 := fun v => mem_rng (v := v) h.2.2.2 n1
  have m2 := fun v => mem_rng (v := v) h'.2.2.2 n2
  generalize upS s t d = s1 at *
  generalize upL s t d = l1 at *
  generalize upD d = d1 at *
  generalize upS s' t' d' = s2 at *
  generalize upL s' t' d' = l2 at *
  generalize upD d' = d2 at *
  obtain ⟨D1, rfl⟩ : ∃ n : Nat, d1 = n := ⟨d1.toNat, by omega⟩
  obtain ⟨D2, rfl⟩ : ∃ n : Nat, d2 = n := ⟨d2.toNat, by omega⟩
  have hG := Common_ok (k := k) (x := D1) (y := D2) (by have := lenP (x := (D1 : Int)) (by omega); rw [Int.natAbs_natCast] at this; omega) (by have := lenP (x := (D2 : Int)) (by omega); rw [Int.natAbs_natCast] at this; omega) hk
  have e1 : U.2 = dg 65536 D1 := hU.1
  have e2 : U'.2 = dg 65536 D2 := hU'.1
  rw [e1, e2, hG]
  simp only [Option.bind_some]
  have g1 := Nat.gcd_dvd_left D1 D2
  have g2 := Nat.gcd_dvd_right D1 D2
  have g0 : 0 < Nat.gcd D1 D2 := Nat.gcd_pos_of_pos_left _ (by omega)
  have hcop : Nat.gcd (D1 / Nat.gcd D1 D2) (D2 / Nat.gcd D1 D2) = 1 := by
    rw [Nat.gcd_div g1 g2, Nat.div_self g0]
  generalize Nat.gcd D1 D2 = g at *
  obtain ⟨p, rfl⟩ := g1
  obtain ⟨q, rfl⟩ := g2
  rw [Nat.mul_div_cancel_left _ g0, Nat.mul_div_cancel_left _ g0] at hcop
  have p0 : 0 < p := Nat.pos_of_ne_zero fun e => by subst e; simp at a4
  have q0 : 0 < q := Nat.pos_of_ne_zero fun e => by subst e; simp at b4
  have hpg : p ≤ g * p := Nat.le_mul_of_pos_left _ g0
  have hqg : q ≤ g * q := Nat.le_mul_of_pos_left _ g0
  have hgp : g ≤ g * p := Nat.le_mul_of_pos_right _ p0
  have hgp' : ((g * p : Nat) : Int) = (g : Int) * p := Int.natCast_mul _ _
  have hgq' : ((g * q : Nat) : Int) = (g : Int) * q := Int.natCast_mul _ _
  have hgi : (0 : Int) < g := by omega
  have hGg : RI (false, dg 65536 g) (g : Int) := nat_RI fun _ => rfl
  -- the distance of the least elements
  obtain ⟨w, w1, w2⟩ := rMinus_ok hP
  rw [w1]
  simp only [Option.bind_some]
  obtain ⟨x, x1, x2⟩ := rPlus_ok hk hP' w2 (ln _ (by omega)) (ln _ (by omega))
  rw [x1]
  simp only [Option.bind_some]
  obtain ⟨K, rest, y1, y2, y3⟩ := Floor_ok hk x2 hGg (by omega) (lenP (by omega)) (lenP (by omega))
  rw [iq_ediv hgi] at y2
  rw [ir_emod hgi] at y3
  rw [y1]
  simp only [Option.bind_some]
  rw [RI_pos_len y3]
  have hKe := Int.mul_ediv_add_emod (s2 + -s1) (g : Int)
  by_cases hr : ¬ (s2 + -s1) % (g : Int) = 0
  · rw [decide_eq_true hr]
    refine ⟨_, _, _, 0, 0, 0, rfl, z0, z0, z0, .inl ⟨rfl, rfl, rfl, fun v hm => ?_⟩⟩
    obtain ⟨⟨u1, hu1⟩, _⟩ := (m1 v).1 hm.1
    obtain ⟨⟨u2, hu2⟩, _⟩ := (m2 v).1 hm.2
    apply hr
    apply Int.emod_eq_zero_of_dvd
    exact ⟨p * u1 - q * u2, by rw [hgp'] at hu1; rw [hgq'] at hu2; grind⟩
  have hr := Decidable.not_not.1 hr
  rw [decide_eq_false (fun h => h hr)]
  simp only [cond_false]
  rw [hr] at hKe
  have hKb : ((s2 + -s1) / (g : Int)).natAbs ≤ 2 * rlim := by
    have h1 : ((s2 + -s1) / (g : Int)).natAbs * 1 ≤ ((s2 + -s1) / (g : Int)).natAbs * g := Nat.mul_le_mul_left _ g0
    have h2 : ((s2 + -s1) / (g : Int)).natAbs * g = ((g : Int) * ((s2 + -s1) / (g : Int))).natAbs := by rw [Int.natAbs_mul, Int.natAbs_natCast, Nat.mul_comm]
    omega
  generalize (s2 + -s1) / (g : Int) = κ0 at *
  -- the quotients of the steps
  have dv : ∀ n : Nat, ((g : Int) * n) / g = n := fun n => Int.mul_ediv_cancel_left _ (by omega)
  obtain ⟨M, M', i1, i2, _⟩ := Floor_ok hk hU' hGg (by omega) (lenP (by omega)) (lenP (by omega))
  obtain ⟨H, H', j1, j2, _⟩ := Floor_ok hk hU hGg (by omega) (lenP (by omega)) (lenP (by omega))
  rw [iq_ediv hgi, hgq', dv] at i2
  rw [iq_ediv hgi, hgp', dv] at j2
  rw [i1]
  simp only [Option.bind_some]
  rw [j1]
  simp only [Option.bind_some]
  obtain ⟨X, ix, v1, v2, v3, v4, v5⟩ := rinv_ok hk j2 i2 q0 (by omega) (by omega) hcop
  rw [v1]
  simp only [Option.bind_some]
  have hKx := mulP (x := κ0) (y := ix) (a := 2) (b := 1) hKb (by omega)
  obtain ⟨T, t1, t2⟩ := rTimes_ok hk y2 v2 (ln _ (by omega)) (ln _ (by omega))
  rw [t1]
  simp only [Option.bind_some]
  obtain ⟨T2, κR, f1, _, f3⟩ := Floor_ok hk t2 i2 (by omega) (lenP (by omega)) (lenP (by omega))
  rw [f1]
  simp only [Option.bind_some]
  have hqi : (0 : Int) < q := by omega
  rw [ir_emod hqi] at f3
  have κ1 := Int.emod_nonneg (κ0 * ix) (show (q : Int) ≠ 0 by omega)
  have κ2 := Int.emod_lt_of_pos (κ0 * ix) hqi
  have κe := Int.mul_ediv_add_emod (κ0 * ix) (q : Int)
  generalize (κ0 * ix) % (q : Int) = κ at *
  generalize (κ0 * ix) / (q : Int) = κq at *
  have hSb := mulP (x := ((g * p : Nat) : Int)) (y := (q : Int)) (a := 1) (b := 1) (by omega) (by omega)
  have hFb := mulP (x := ((g * p : Nat) : Int)) (y := κ) (a := 1) (b := 1) (by omega) (by omega)
  obtain ⟨B, B1, B2⟩ := rTimes_ok hk hU i2 (ln _ (by omega)) (ln _ (by omega))
  rw [B1]
  simp only [Option.bind_some]
  obtain ⟨E, E1, E2⟩ := rTimes_ok hk hU f3 (ln _ (by omega)) (ln _ (by omega))
  rw [E1]
  simp only [Option.bind_some]
  obtain ⟨F1, F11, F12⟩ := rPlus_ok hk hP E2 (ln _ (by omega)) (ln _ (by omega))
  rw [F11]
  simp only [Option.bind_some]
  obtain ⟨N1, N11, N12⟩ := rMinus_ok F12
  rw [N11]
  simp only [Option.bind_some]
  obtain ⟨G1, G11, G12⟩ := rPlus_ok hk hP' N12 (ln _ (by omega)) (ln _ (by omega))
  rw [G11]
  simp only [Option.bind_some]
  have hS0 : 0 < ((g * p : Nat) : Int) * q := Int.mul_pos (by omega) hqi
  -- the facts
  have r3 : s1 ≤ s1 + ((g * p : Nat) : Int) * κ := by
    have : 0 ≤ ((g * p : Nat) : Int) * κ := Int.mul_nonneg (by omega) κ1
    omega
  have r4 : s1 + ((g * p : Nat) : Int) * κ < s1 + ((g * p : Nat) : Int) * q := by
    have : ((g * p : Nat) : Int) * κ < ((g * p : Nat) : Int) * q := Int.mul_lt_mul_of_pos_left κ2 (by omega)
    omega
  have r5 : ((g * p : Nat) : Int) ∣ s1 + ((g * p : Nat) : Int) * κ - s1 := ⟨κ, by omega⟩
  obtain ⟨β, hβ⟩ := v5
  have r6 : ((g * q : Nat) : Int) ∣ s1 + ((g * p : Nat) : Int) * κ - s2 := by
    refine ⟨κ0 * β - κq * p, ?_⟩
    rw [hgq', hgp']
    have c1 : s2 = s1 + g * κ0 := by omega
    have c2 : κ = κ0 * ix - q * κq := by omega
    have c3 : ix * p = q * β + 1 := by omega
    rw [c1, c2]
    have c4 : (g : Int) * p * (κ0 * ix - q * κq) = g * (κ0 * (ix * p)) - g * q * (κq * p) := by grind
    rw [Int.add_sub_add_left, c4, c3]
    grind
  have r7 : ((g * p : Nat) : Int) ∣ ((g * p : Nat) : Int) * q := Int.dvd_mul_right _ _
  have r8 : ((g * q : Nat) : Int) ∣ ((g * p : Nat) : Int) * q := ⟨p, by rw [hgp', hgq']; grind⟩
  have r9 : ∀ v, ((g * p : Nat) : Int) ∣ v - s1 → ((g * q : Nat) : Int) ∣ v - s2 → ((g * p : Nat) : Int) * q ∣ v - (s1 + ((g * p : Nat) : Int) * κ) := by
    intro v h1 h2
    obtain ⟨α, hα⟩ := Int.dvd_sub h1 r5
    obtain ⟨γ, hγ⟩ := Int.dvd_sub h2 r6
    rw [hgp'] at hα ⊢
    rw [hgp', hgq'] at hγ
    have hα' : v - (s1 + (g : Int) * p * κ) = g * p * α := by omega
    have hγ' : v - (s1 + (g : Int) * p * κ) = g * q * γ := by omega
    rw [hα'] at hγ' ⊢
    have c5 : (p : Int) * α = q * γ := by
      refine Int.eq_of_mul_eq_mul_left (a := (g : Int)) (by omega) ?_
      rw [← Int.mul_assoc, ← Int.mul_assoc]; exact hγ'
    refine ⟨ix * γ - β * α, ?_⟩
    have c3 : ix * p = q * β + 1 := by omega
    have c6 : α = q * (ix * γ - β * α) := by
      have : (q * β + 1) * α = ix * (q * γ) := by rw [← c3, Int.mul_assoc, c5]
      grind
    have : (g : Int) * p * α = g * p * (q * (ix * γ - β * α)) := by rw [← c6]
    rw [this]
    simp only [Int.mul_assoc]
  generalize ((g * p : Nat) : Int) * κ = κF at *
  generalize hSS : ((g * p : Nat) : Int) * (q : Int) = SS at *
  have hgap : (bif !G1.1 then (some (.inl (F1, B, ((false, []) : Bool × List Int), Q, Q', κR, G1, decide (0 < (G1.2.length : Int))))) else (some (.inl (F1, B, (false, []), Q, Q', κR, G1, false))) : Option (((Bool × List Int) × (Bool × List Int) × (Bool × List Int) × (Bool × List Int) × (Bool × List Int) × (Bool × List Int) × (Bool × List Int) × Bool) ⊕ (((Bool × List Int) × (Bool × List Int) × Bool × List Int)))) = some (.inl (F1, B, (false, []), Q, Q', κR, G1, decide (0 < s2 - (s1 + κF)))) := by
    rw [show s2 + -(s1 + κF) = s2 - (s1 + κF) by omega] at G12
    rw [RI_pos_len G12]
    by_cases hz : s2 - (s1 + κF) = 0
    · rw [hz]; cases G1.1 <;> rfl
    · rw [G12.2 hz]
      by_cases hn : s2 - (s1 + κF) < 0
      · rw [decide_eq_true hn, decide_eq_false (show ¬ 0 < s2 - (s1 + κF) by omega)]; rfl
      · rw [decide_eq_false hn, decide_eq_true hz, decide_eq_true (show 0 < s2 - (s1 + κF) by omega)]; rfl
  rw [show s2 + -(s1 + κF) = s2 - (s1 + κF) by omega] at G12
  obtain ⟨A9, X9, F9, q1, q2, q3, q4, q5, q6, q7⟩ := metMid_ok hk (C := (false, [])) (Q := Q) (R := Q') (X := κR) (s1 := s1) (d1 := 0) (d2 := 0) F12 B2 G12 hS0 (by omega) (by omega) b1 r3
  obtain ⟨f, u, c, F', D, N, w1, w2, w3, w4, w5⟩ := metEnd_ok hk (C := (false, [])) (X := X9) q2 B2 hQ hQ' hS0 q7 (by omega) a2 b2
  have hfin := fun v => (meet_fin (l1 := l1) (l2 := l2) (F' := F9) (v := v) hS0 r5 r6 r7 r8 r9 r4 q3 q4 q5 q6).trans (and_congr (m1 v).symm (m2 v).symm)
  refine ⟨f, u, c, F', D, N, ?_, w2, w3, w4, ?_⟩
  · have q1' := q1
    rw [hgap]
    simp only [joinB_inl]
    unfold metMid at q1'
    simp only at q1'
    rw [q1']
    simp only [joinB_inl]
    exact w1
  · rcases w5 with ⟨rfl, rfl, rfl, hc⟩ | ⟨hN, rfl, rfl, hc⟩
    · exact .inl ⟨rfl, rfl, rfl, fun v hm => not_mem0 hc ((hfin v).2 hm)⟩
    · exact .inr ⟨hN, hS0, by omega, _, hc, hfin⟩
end Go.Pl
