/- RangesBoth: its plain function answers true.  Conditions: values within their kinds, lists no longer than memory. -/
import Derived.Test.YtjodgimhfafecaaRgG
set_option linter.unusedVariables false
set_option linter.unusedSimpArgs false
namespace Go.Pl
open Go Go.Ev Go.Sh
theorem rlengthP {k : Nat} (hk : 20000000000 < k) {P : Nat} (hP : 100 * P ≤ ilim) (hP1 : 1 ≤ P) {s t d : Int} (hs : s.natAbs ≤ 2 * P) (ht : t.natAbs ≤ 2 * P) (hd : d.natAbs ≤ 2 * P) (hd0 : 0 < d) : ranges_length k (iz s, iz t, iz d) = some (iz (cnt s t d)) := by
  have hp := rlim_big.1
  unfold ranges_length
  rw [rsign_ok hk]
  simp only [Option.bind_some]
  have hO1 : integer_Of k 1 = some (iz 1) := iOf_ok (by omega) (by decide) (by decide)
  have hsg : sg d = 1 := by unfold sg; rw [if_neg (by omega)]
  have e1 : (iz d).1 = false := decide_eq_false (by omega)
  rw [hsg]
  have hm := rmul_ok hk (x := d) (y := 1) (by omega) (by omega) (by omega)
  rw [hm]
  simp only [Option.bind_some, Int.mul_one, e1, cond_false, joinB_inl]
  unfold cnt
  rw [if_neg (by omega)]
  rw [rless_ok hk (by omega) (by omega)]
  simp only [Option.bind_some]
  by_cases h : s < t
  · rw [decide_eq_true h, if_pos h]
    simp only [Bool.not_true, cond_false, hO1, Option.bind_some]
    rw [rsub_ok hk (by omega) (by omega) (by omega)]
    simp only [Option.bind_some]
    rw [rsub_ok hk (by omega) (by omega) (by omega)]
    simp only [Option.bind_some]
    rw [radd_ok hk (by omega) (by omega) (by omega)]
    simp only [Option.bind_some]
    rw [rdiv_ok hk (by omega) (by omega) (by omega), iq_ediv hd0]
    rfl
  · rw [decide_eq_false h, if_neg h]; rfl
theorem relementP {k : Nat} (hk : 20000000000 < k) {P : Nat} (hP : 100 * P ≤ ilim) (hP1 : 1 ≤ P) {s t d i : Int} (hs : s.natAbs ≤ 2 * P) (ht : t.natAbs ≤ 2 * P) (hd : d.natAbs ≤ 2 * P) (hd0 : 0 < d) (h0 : 0 ≤ i) (h1 : i < cnt s t d) : ranges_element k (iz s, iz t, iz d) (iz i) = some (iz (s + d * i)) := by
  have hc := cnt_rng s t d (by omega)
  obtain ⟨e1, e2⟩ := elem_abs (by omega) h0 h1 hs ht
  unfold ranges_element
  simp only
  rw [rmul_ok hk (by omega) (by omega) (by omega)]
  simp only [Option.bind_some]
  rw [radd_ok hk (by omega) (by omega) (by omega)]
  rfl
theorem rplainP {k : Nat} (hk : 20000000000 < k) {P : Nat} (hP : 100 * P ≤ ilim) (hP1 : 1 ≤ P) {s t d : Int} (hs : s.natAbs ≤ 2 * P) (ht : t.natAbs ≤ 2 * P) (hd : d.natAbs ≤ 2 * P) (hd0 : 0 < d) : ranges_plain k (iz s, iz t, iz d) = some (rz (plainS s t d) (plainT s t d) (plainD s t d)) := by
  have hp := rlim_big.1
  have hc := cnt_rng s t d (by omega)
  have hO1 : integer_Of k 1 = some (iz 1) := iOf_ok (by omega) (by decide) (by decide)
  unfold ranges_plain plainS plainT plainD
  rw [rlengthP hk hP hP1 hs ht hd hd0]
  simp only [Option.bind_some]
  rw [rzero_ok]
  simp only [Option.bind_some, hO1]
  by_cases h : cnt s t d = 0
  · rw [decide_eq_true h, if_pos h, if_pos h, if_pos h]; rfl
  · have h0 : 0 ≤ cnt s t d - 1 := by omega
    have h1 : cnt s t d - 1 < cnt s t d := by omega
    obtain ⟨e1, e2⟩ := elem_abs (by omega) h0 h1 hs ht
    have hsg : (sg d).natAbs ≤ 1 := by unfold sg; split <;> omega
    rw [decide_eq_false h, if_neg h, if_neg h, if_neg h]
    simp only [cond_false]
    rw [rsub_ok hk (by omega) (by omega) (by omega)]
    simp only [Option.bind_some]
    rw [relementP hk hP hP1 hs ht hd hd0 h0 h1]
    simp only [Option.bind_some]
    have z1 := radd_ok hk (x := s) (y := 0) (by omega) (by omega) (by omega)
    have z2 := radd_ok hk (x := d) (y := 0) (by omega) (by omega) (by omega)
    rw [Int.add_zero] at z1 z2
    have z1' : ranges_add k (iz s) (false, []) = _ := z1
    have z2' : ranges_add k (iz d) (false, []) = _ := z2
    rw [z1', rsign_ok hk]
    simp only [Option.bind_some]
    rw [radd_ok hk (by omega) (by omega) (by omega), z2', rless_ok hk (by omega) (by omega)]
    simp only [Option.bind_some]
    unfold pstep rlast
    by_cases h2 : 1 < cnt s t d
    · rw [decide_eq_true h2, if_pos h2]; rfl
    · rw [decide_eq_false h2, if_neg h2]; rfl
def mem (s t d v : Int) : Prop := ∃ q, rpos s t d v q
theorem mem_up {F L S v : Int} (hS : 0 < S) : mem F (L + 1) S v ↔ S ∣ v - F ∧ F ≤ v ∧ v ≤ L := by
  constructor
  · rintro ⟨q, h1, h2, h3⟩
    have h4 := (elem_rng h2 h3).1 hS
    exact ⟨⟨q, by omega⟩, by omega, by omega⟩
  · rintro ⟨⟨q, hq⟩, h1, h2⟩
    have q0 : 0 ≤ q := by
      refine Int.le_of_mul_le_mul_left (a := S) ?_ hS
      rw [Int.mul_zero]; omega
    refine ⟨q, by omega, q0, ?_⟩
    refine Int.not_le.1 fun h => ?_
    have h3 := cnt_pos (s := F) (t := L + 1) hS (by omega)
    have h4 : S * cnt F (L + 1) S ≤ S * q := Int.mul_le_mul_of_nonneg_left h (by omega)
    omega
def upS (s t d : Int) : Int := if d < 0 then rlast s t d else s
def upL (s t d : Int) : Int := if d < 0 then s else rlast s t d
def upD (d : Int) : Int := if d < 0 then -d else d
theorem mem_rng {s t d v : Int} (hd : d ≠ 0) (hn : cnt s t d ≠ 0) : mem s t d v ↔ upD d ∣ v - upS s t d ∧ upS s t d ≤ v ∧ v ≤ upL s t d := by
  have hc := cnt_rng s t d hd
  have key : ∀ (a e : Int), 0 < e → ((∃ q, v = a + e * q ∧ 0 ≤ q ∧ q < cnt s t d) ↔ e ∣ v - a ∧ a ≤ v ∧ v ≤ a + e * (cnt s t d - 1)) := by
    intro a e he
    constructor
    · rintro ⟨q, h1, h2, h3⟩
      have h4 : e * 0 ≤ e * q := Int.mul_le_mul_of_nonneg_left h2 (by omega)
      have h5 : e * q ≤ e * (cnt s t d - 1) := Int.mul_le_mul_of_nonneg_left (by omega) (by omega)
      exact ⟨⟨q, by omega⟩, by omega, by omega⟩
    · rintro ⟨⟨q, hq⟩, h1, h2⟩
      have q0 : 0 ≤ q := by
        refine Int.le_of_mul_le_mul_left (a := e) ?_ he
        rw [Int.mul_zero]; omega
      have q1 : q ≤ cnt s t d - 1 := by
        refine Int.le_of_mul_le_mul_left (a := e) ?_ he
        omega
      exact ⟨q, by omega, q0, by omega⟩
  unfold mem rpos upS upL upD
  by_cases h : d < 0
  · rw [if_pos h, if_pos h, if_pos h]
    have k1 := key (rlast s t d) (-d) (by omega)
    have e : rlast s t d + -d * (cnt s t d - 1) = s := by unfold rlast; rw [Int.neg_mul]; omega
    rw [e] at k1
    rw [← k1]
    unfold rlast
    constructor
    · rintro ⟨q, h1, h2, h3⟩
      refine ⟨cnt s t d - 1 - q, ?_, by omega, by omega⟩
      rw [h1]; grind
    · rintro ⟨q, h1, h2, h3⟩
      refine ⟨cnt s t d - 1 - q, ?_, by omega, by omega⟩
      rw [h1]; grind
  · rw [if_neg h, if_neg h, if_neg h]
    exact key s d (by omega)
theorem not_mem0 {s t d v : Int} (h : cnt s t d = 0) : ¬ mem s t d v := by
  rintro ⟨q, h1, h2, h3⟩
  omega
theorem up_facts {s t d : Int} {p : Nat} (hd : d ≠ 0) (hn : cnt s t d ≠ 0) (hs : s.natAbs ≤ p) (ht : t.natAbs ≤ p) (hdp : d.natAbs ≤ p) : (upS s t d).natAbs ≤ p ∧ (upL s t d).natAbs ≤ p ∧ (upD d).natAbs ≤ p ∧ 0 < upD d ∧ (rlast s t d).natAbs ≤ p := by
  have hc := cnt_rng s t d hd
  have h0 : 0 ≤ cnt s t d - 1 := by omega
  obtain ⟨e1, e2⟩ := elem_abs hd h0 (by omega) hs ht
  have e1' : (rlast s t d).natAbs ≤ p := e1
  unfold upS upL upD
  refine ⟨?_, ?_, ?_, ?_, e1'⟩ <;> (split <;> omega)
theorem rupward_ok {k : Nat} (hk : 20000000000 < k) {s t d : Int} (h : RV s t d) (hn : cnt s t d ≠ 0) : ranges_upward k (rz s t d) = some (rz (upS s t d) (upL s t d) (upD d)) := by
  obtain ⟨h1, h2, h3, h4⟩ := RV_le h
  have hp := rlim_big.1
  have hc := cnt_rlim h
  have hO1 : integer_Of k 1 = some (iz 1) := iOf_ok (by omega) (by decide) (by decide)
  unfold ranges_upward
  rw [rlen hk h]
  simp only [Option.bind_some, hO1]
  rw [rsub_ok hk (small_ilim (by omega)) (small_ilim (by omega)) (small_ilim (by omega))]
  simp only [Option.bind_some]
  have he := relement_ok hk h1 h2 h3 h4 (i := cnt s t d - 1) (by omega) (by omega)
  have he' : ranges_element k (rz s t d) (iz (cnt s t d - 1)) = _ := he
  rw [he']
  simp only [Option.bind_some, rz]
  unfold upS upL upD
  by_cases hd : d < 0
  · have e1 : (iz d).1 = true := decide_eq_true hd
    rw [e1, if_pos hd, if_pos hd, if_pos hd]
    simp only [cond_true]
    have hz := rsub_ok hk (x := 0) (y := d) (small_ilim (by omega)) (small_ilim (by omega)) (small_ilim (by omega))
    have hz' : ranges_sub k (false, []) (iz d) = _ := hz
    rw [hz', Int.zero_sub]; rfl
  · have e1 : (iz d).1 = false := decide_eq_false hd
    rw [e1, if_neg hd, if_neg hd, if_neg hd]; rfl
def meetTail (k : Nat) (z19 : ((Bool × List Int) × (Bool × List Int) × Bool × List Int) × (Int × Int) × ((Bool × List Int) × (Bool × List Int) × Bool × List Int) × ((Bool × List Int) × (Bool × List Int) × Bool × List Int) × (Bool × List Int) × Bool × List Int) : Option (((Bool × List Int) × (Bool × List Int) × Bool × List Int) × Int × Int) :=
  joinB (α := ((Bool × List Int) × (Bool × List Int) × Bool × List Int) × (Int × Int) × (Bool × List Int) × (Bool × List Int) × Bool × List Int) ((ranges_less k z19.2.2.2.1.2.1 z19.2.2.1.2.1).bind fun t20 => bif t20 then (some (.inl (z19.1, z19.2.1, z19.2.2.2.2.1, z19.2.2.2.2.2, z19.2.2.2.1.2.1))) else (some (.inl (z19.1, z19.2.1, z19.2.2.2.2.1, z19.2.2.2.2.2, z19.2.2.1.2.1)))) (fun z21 => (integer_Of k 1).bind fun t22 => (ranges_add k z21.2.2.2.2 t22).bind fun t23 => (ranges_plain k (z21.2.2.1, t23, z21.2.2.2.1)).bind fun t24 => (ranges_whole t24).bind fun t25 => some (t25.1, t25.2)) some
theorem meetTail_ok {k : Nat} (hk : 20000000000 < k) {P : Nat} (hP : 100 * P ≤ ilim) (hP1 : rlim ≤ P) {N : Rg} {f0 : Int × Int} {s1 l1 d1 s2 l2 d2 F S : Int} (h1 : l1.natAbs ≤ rlim) (h2 : l2.natAbs ≤ rlim) (hF : F.natAbs ≤ 2 * P) (hS : S.natAbs ≤ 2 * P) (hS0 : 0 < S) :
    meetTail k (N, f0, rz s1 l1 d1, rz s2 l2 d2, iz F, iz S) = some (if RV (plainS F ((if l2 < l1 then l2 else l1) + 1) S) (plainT F ((if l2 < l1 then l2 else l1) + 1) S) (plainD F ((if l2 < l1 then l2 else l1) + 1) S) then (rz (plainS F ((if l2 < l1 then l2 else l1) + 1) S) (plainT F ((if l2 < l1 then l2 else l1) + 1) S) (plainD F ((if l2 < l1 then l2 else l1) + 1) S), 0, 0) else (((false, []), (false, []), false, []), 14, -1)) := by
  have hp := rlim_big.1
  have hO1 : integer_Of k 1 = some (iz 1) := iOf_ok (by omega) (by decide) (by decide)
  have fin : ∀ L : Int, L.natAbs ≤ rlim → ((ranges_add k (iz L) (iz 1)).bind fun t23 => (ranges_plain k (iz F, t23, iz S)).bind fun t24 => (ranges_whole t24).bind fun t25 => some (t25.1, t25.2)) = some (if RV (plainS F (L + 1) S) (plainT F (L + 1) S) (plainD F (L + 1) S) then (rz (plainS F (L + 1) S) (plainT F (L + 1) S) (plainD F (L + 1) S), 0, 0) else (((false, []), (false, []), false, []), 14, -1)) := by
    intro L hL
    rw [radd_ok hk (by omega) (by omega) (by omega)]
    simp only [Option.bind_some]
    rw [rplainP hk hP (by omega) hF (by omega) hS hS0]
    simp only [Option.bind_some]
    obtain ⟨g1, g2, g3⟩ : (plainS F (L + 1) S).natAbs < ilim ∧ (plainT F (L + 1) S).natAbs < ilim ∧ (plainD F (L + 1) S).natAbs < ilim := by
      unfold plainS plainT plainD
      by_cases h : cnt F (L + 1) S = 0
      · rw [if_pos h, if_pos h, if_pos h]; simp only [Int.natAbs_zero, Int.natAbs_one]; omega
      · rw [if_neg h, if_neg h, if_neg h]
        obtain ⟨q1, q2, q3, _⟩ := plain_facts (p := 2 * P) (by omega) hF (by omega : (L + 1).natAbs ≤ 2 * P) hS (by omega) h
        omega
    rw [rwhole_ok g1 g2 g3]
    rfl
  unfold meetTail
  simp only [rz]
  rw [rless_ok hk (by omega) (by omega)]
  simp only [Option.bind_some]
  by_cases hlt : l2 < l1
  · rw [decide_eq_true hlt, if_pos hlt]
    simp only [cond_true, joinB_inl, hO1, Option.bind_some]
    exact fin l2 h2
  · rw [decide_eq_false hlt, if_neg hlt]
    simp only [cond_false, joinB_inl, hO1, Option.bind_some]
    exact fin l1 h1
theorem P_four {r b : Nat} (h1 : 4294967296 ≤ r) (h2 : r * r * r ≤ b) : 100 * (4 * (r * r)) ≤ b := by
  have h5 : r * r * 400 ≤ r * r * r := Nat.mul_le_mul_left _ (by omega)
  have h6 := Nat.le_trans h5 h2
  omega
theorem rlim_P : 100 * (4 * (rlim * rlim)) ≤ ilim := P_four rlim_big.1 rlim_big.2
theorem Meet_ok {k : Nat} (hk : 20000000000 < k) {s t d s' t' d' : Int} (h : RV s t d) (h' : RV s' t' d') : ∃ F L S : Int, 0 < S ∧
    ranges_Meet k (rz s t d) (rz s' t' d') = some (if RV (plainS F (L + 1) S) (plainT F (L + 1) S) (plainD F (L + 1) S) then (rz (plainS F (L + 1) S) (plainT F (L + 1) S) (plainD F (L + 1) S), 0, 0) else (((false, []), (false, []), false, []), 14, -1)) ∧
    ∀ v, mem F (L + 1) S v ↔ mem s t d v ∧ mem s' t' d' v := by
  have hp := rlim_big.1
  have hO1 : integer_Of k 1 = some (iz 1) := iOf_ok (by omega) (by decide) (by decide)
  have c0 : cnt 0 (-1 + 1) 1 = 0 := by rfl
  have hV : RV 0 0 1 := ⟨by simpa using (by omega : 0 < rlim), by simpa using (by omega : 0 < rlim), by simpa using (by omega : 1 < rlim), by decide⟩
  have none_ok : some (((iz 0, iz 0, iz 1) : Rg), ((0, 0) : Int × Int)) = some (if RV (plainS 0 (-1 + 1) 1) (plainT 0 (-1 + 1) 1) (plainD 0 (-1 + 1) 1) then (rz (plainS 0 (-1 + 1) 1) (plainT 0 (-1 + 1) 1) (plainD 0 (-1 + 1) 1), 0, 0) else (((false, []), (false, []), false, []), 14, -1)) := by
    have e1 : plainS 0 (-1 + 1) 1 = 0 := by unfold plainS; rw [if_pos c0]
    have e2 : plainT 0 (-1 + 1) 1 = 0 := by unfold plainT; rw [if_pos c0]
    have e3 : plainD 0 (-1 + 1) 1 = 1 := by unfold plainD; rw [if_pos c0]
    rw [e1, e2, e3, if_pos hV]; rfl
  unfold ranges_Meet
  rw [rcheck2 (by omega) h h']
  simp only [Option.bind_some, bne_self_eq_false, cond_false, hO1]
  rw [rlen hk h, rlen hk h']
  simp only [Option.bind_some]
  rw [rzero_ok, rzero_ok]
  simp only [Option.bind_some]
  by_cases n1 : cnt s t d = 0
  · refine ⟨0, -1, 1, by decide, ?_, fun v => ⟨fun hm => absurd hm (not_mem0 c0), fun hm => absurd hm.1 (not_mem0 n1)⟩⟩
    rw [decide_eq_true n1]
    exact none_ok
  by_cases n2 : cnt s' t' d' = 0
  · refine ⟨0, -1, 1, by decide, ?_, fun v => ⟨fun hm => absurd hm (not_mem0 c0), fun hm => absurd hm.2 (not_mem0 n2)⟩⟩
    rw [decide_eq_false n1, decide_eq_true n2]
    exact none_ok
  rw [decide_eq_false n1, decide_eq_false n2]
  simp only [cond_false, joinB_inl]
  rw [rupward_ok hk h n1]
  simp only [Option.bind_some]
  rw [rupward_ok hk h' n2]
  simp only [Option.bind_some]
  obtain ⟨a1, a2, a3, a4, _⟩ := up_facts (p := rlim) h.2.2.2 n1 (by have := h.1; omega) (by have := h.2.1; omega) (by have := h.2.2.1; omega)
  obtain ⟨b1, b2, b3, b4, _⟩ := up_facts (p := rlim) h'.2.2.2 n2 (by have := h'.1; omega) (by have := h'.2.1; omega) (by have := h'.2.2.1; omega)
  have m1 := fun v => mem_rng (v := v) h.2.2.2 n1
  have m2 := fun v => mem_rng (v := v) h'.2.2.2 n2
  generalize upS s t d = s1 at *
  generalize upL s t d = l1 at *
  generalize upD d = d1 at *
  generalize upS s' t' d' = s2 at *
  generalize upL s' t' d' = l2 at *
  generalize upD d' = d2 at *
  have hb := rlim_mul.1
  have hr1 : rlim ≤ rlim * rlim := by have h1 : 1 * rlim ≤ rlim * rlim := Nat.mul_le_mul_right _ (by omega); omega
  have hP : 100 * (4 * (rlim * rlim)) ≤ ilim := rlim_P
  rcases common_ok hk (l1 := l1) (l2 := l2) a1 b1 a3 b3 a4 b4 with ⟨F, S, r0, r1, r2, r3, r4, r5, r6, r7, r8, r9⟩ | ⟨r0, r1⟩
  · rw [r0]
    simp only [Option.bind_some, Bool.not_true, cond_false, rz]
    -- what is common, from the least element on
    have fin : ∀ F' : Int, s1 ≤ F' → s2 ≤ F' → S ∣ F' - F → (F' = F ∨ F' - S < s2) → ∀ v, mem F' ((if l2 < l1 then l2 else l1) + 1) S v ↔ mem s t d v ∧ mem s' t' d' v := by
      intro F' g1 g2 g3 g4 v
      have hd0 : F - s1 + (s1 - F) = 0 := by omega
      rw [mem_up r1, m1, m2]
      have hL : (v ≤ if l2 < l1 then l2 else l1) ↔ v ≤ l1 ∧ v ≤ l2 := by split <;> omega
      rw [hL]
      obtain ⟨c, hc⟩ := g3
      constructor
      · rintro ⟨⟨q, hq⟩, u1, u2, u3⟩
        have e : v - F = S * (q + c) := by rw [Int.mul_add]; omega
        have e1 : d1 ∣ v - F := by rw [e]; exact Int.dvd_trans r7 (Int.dvd_mul_right _ _)
        have e2 : d2 ∣ v - F := by rw [e]; exact Int.dvd_trans r8 (Int.dvd_mul_right _ _)
        have e3 := Int.dvd_add e1 r5
        have e4 := Int.dvd_add e2 r6
        rw [show v - F + (F - s1) = v - s1 by omega] at e3
        rw [show v - F + (F - s2) = v - s2 by omega] at e4
        exact ⟨⟨e3, by omega, u2⟩, e4, by omega, u3⟩
      · rintro ⟨⟨e3, v1, v2⟩, e4, v3, v4⟩
        obtain ⟨q, hq⟩ := r9 v e3 e4
        have e : v - F' = S * (q - c) := by rw [Int.mul_sub]; omega
        refine ⟨⟨_, e⟩, ?_, v2, v4⟩
        have h0 : -1 < q - c := by
          refine Int.lt_of_mul_lt_mul_left (a := S) ?_ (by omega)
          rw [← e]
          have : S * -1 = -S := by omega
          omega
        have h1 : 0 ≤ S * (q - c) := Int.mul_nonneg (by omega) (by omega)
        omega
    have go : ∀ F' : Int, s1 ≤ F' → s2 ≤ F' → F'.natAbs ≤ 2 * (4 * (rlim * rlim)) → S ∣ F' - F → (F' = F ∨ F' - S < s2) → ∀ X, X = meetTail k ((((false, []), (false, []), false, []) : Rg), (0, 0), rz s1 l1 d1, rz s2 l2 d2, iz F', iz S) → ∃ F L S : Int, 0 < S ∧ X = some (if RV (plainS F (L + 1) S) (plainT F (L + 1) S) (plainD F (L + 1) S) then (rz (plainS F (L + 1) S) (plainT F (L + 1) S) (plainD F (L + 1) S), 0, 0) else (((false, []), (false, []), false, []), 14, -1)) ∧ ∀ v, mem F (L + 1) S v ↔ mem s t d v ∧ mem s' t' d' v := by
      intro F' g1 g2 g3 g4 g5 X hX
      exact ⟨F', _, S, r1, by rw [hX]; exact meetTail_ok hk hP (by omega) a2 b2 g3 (by omega) r1, fin F' g1 g2 g4 g5⟩
    rw [rless_ok hk (by omega) (by omega)]
    simp only [Option.bind_some]
    by_cases hlt : F < s2
    · have hcs := ceil_spec (x := s2 - F) (d := S) (by omega) r1
      rw [decide_eq_true hlt]
      simp only [cond_true, hO1, Option.bind_some]
      rw [rsub_ok hk (by omega) (by omega) (by omega)]
      simp only [Option.bind_some]
      rw [rsub_ok hk (by omega) (by omega) (by omega)]
      simp only [Option.bind_some]
      rw [radd_ok hk (by omega) (by omega) (by omega)]
      simp only [Option.bind_some]
      rw [rdiv_ok hk (by omega) (by omega) (by omega), iq_ediv r1]
      simp only [Option.bind_some]
      generalize (s2 - F + (S - 1)) / S = q at *
      have hqS : S * (q - 1) = S * q - S := by rw [Int.mul_sub, Int.mul_one]
      rw [rmul_ok hk (by omega) (by omega) (by omega)]
      simp only [Option.bind_some]
      rw [radd_ok hk (by omega) (by omega) (by omega)]
      simp only [Option.bind_some, joinB_inl]
      exact go (F + S * q) (by omega) (by omega) (by omega) ⟨q, by omega⟩ (.inr (by omega)) _ (by unfold meetTail; simp only [hO1, Option.bind_some, rz])
    · rw [decide_eq_false hlt]
      simp only [cond_false, joinB_inl]
      exact go F r3 (by omega) (by omega) ⟨0, by omega⟩ (.inl rfl) _ (by unfold meetTail; simp only [hO1, Option.bind_some, rz])
  · refine ⟨0, -1, 1, by decide, ?_, fun v => ⟨fun hm => absurd hm (not_mem0 c0), fun hm => absurd ((m2 v).1 hm.2).1 (r1 v ((m1 v).1 hm.1).1)⟩⟩
    rw [r0]
    exact none_ok
theorem plain_mem {s t d v : Int} (hd : d ≠ 0) : mem (plainS s t d) (plainT s t d) (plainD s t d) v ↔ mem s t d v := by
  unfold plainS plainT plainD
  by_cases h : cnt s t d = 0
  · rw [if_pos h, if_pos h, if_pos h]
    exact ⟨fun hm => absurd hm (not_mem0 rfl), fun hm => absurd hm (not_mem0 h)⟩
  · rw [if_neg h, if_neg h, if_neg h]
    have hc := cnt_rng s t d hd
    obtain ⟨f1, f2, f3, f4, f5, f6, f7⟩ := plain_facts (p := s.natAbs + t.natAbs + d.natAbs + 1) hd (by omega) (by omega) (by omega) (by omega) h
    have hcnt : cnt s (rlast s t d + sg d) (pstep s t d) = cnt s t d := by
      have := cnt_of (s := s) (d := pstep s t d) (e := sg d) (n := cnt s t d) f4 (by omega) f5.symm
      rw [f7] at this
      exact this
    unfold mem rpos
    rw [hcnt]
    by_cases h1 : 1 < cnt s t d
    · unfold pstep; rw [if_pos h1]
    · constructor
      · rintro ⟨q, e1, e2, e3⟩
        have : q = 0 := by omega
        subst this
        exact ⟨0, by rw [e1, Int.mul_zero, Int.mul_zero], e2, e3⟩
      · rintro ⟨q, e1, e2, e3⟩
        have : q = 0 := by omega
        subst this
        exact ⟨0, by rw [e1, Int.mul_zero, Int.mul_zero], e2, e3⟩
theorem plain_half {s t d s' t' d' : Int} (hd : 0 < d) (hd' : 0 < d') (h : ∀ v, mem s t d v → mem s' t' d' v) (hn : cnt s t d ≠ 0) : cnt s' t' d' ≠ 0 ∧ s' ≤ s ∧ rlast s t d ≤ rlast s' t' d' ∧ (s = s' → 1 < cnt s t d → 1 < cnt s' t' d' ∧ d' ≤ d) := by
  have hc := cnt_rng s t d (by omega)
  obtain ⟨q, e1, e2, e3⟩ := h s ⟨0, by omega, by omega, by omega⟩
  have p1 : 0 ≤ d' * q := Int.mul_nonneg (by omega) e2
  obtain ⟨r, g1, g2, g3⟩ := h (rlast s t d) ⟨cnt s t d - 1, rfl, by omega, by omega⟩
  have p2 : d' * r ≤ d' * (cnt s' t' d' - 1) := Int.mul_le_mul_of_nonneg_left (by omega) (by omega)
  refine ⟨by omega, by omega, ?_, fun hs hn1 => ?_⟩
  · rw [g1]; unfold rlast; omega
  · obtain ⟨u, k1, k2, k3⟩ := h (s + d) ⟨1, by omega, by omega, by omega⟩
    have u1 : 1 ≤ u := by
      refine Int.not_lt.1 fun hu => ?_
      have : u = 0 := by omega
      subst this
      omega
    have : d' * 1 ≤ d' * u := Int.mul_le_mul_of_nonneg_left u1 (by omega)
    omega
theorem plain_uniq {s t d s' t' d' : Int} (hd : 0 < d) (hd' : 0 < d') (h : ∀ v, mem s t d v ↔ mem s' t' d' v) : plainS s t d = plainS s' t' d' ∧ plainT s t d = plainT s' t' d' ∧ plainD s t d = plainD s' t' d' := by
  by_cases hn : cnt s t d = 0
  · have hn' : cnt s' t' d' = 0 := Decidable.byContradiction fun hn' => (plain_half hd' hd (fun v => (h v).2) hn').1 hn
    unfold plainS plainT plainD
    simp only [if_pos hn, if_pos hn', and_self]
  · obtain ⟨a1, a2, a3, a4⟩ := plain_half hd hd' (fun v => (h v).1) hn
    obtain ⟨b1, b2, b3, b4⟩ := plain_half hd' hd (fun v => (h v).2) a1
    have es : s = s' := by omega
    have el : rlast s t d = rlast s' t' d' := by omega
    have g1 : sg d = 1 := by unfold sg; rw [if_neg (by omega)]
    have g2 : sg d' = 1 := by unfold sg; rw [if_neg (by omega)]
    unfold plainS plainT plainD
    rw [if_neg hn, if_neg hn, if_neg hn, if_neg a1, if_neg a1, if_neg a1, el, g1, g2]
    refine ⟨es, rfl, ?_⟩
    unfold pstep
    rw [g1, g2]
    by_cases h1 : 1 < cnt s t d
    · obtain ⟨c1, c2⟩ := a4 es h1
      obtain ⟨c3, c4⟩ := b4 es.symm c1
      rw [if_pos h1, if_pos c1]; omega
    · by_cases h2 : 1 < cnt s' t' d'
      · exact absurd (b4 es.symm h2).1 h1
      · rw [if_neg h1, if_neg h2]
theorem Meet_no {k : Nat} (hk : 2000 < k) {r o : Rg} (hr : ranges_Valid r = some true ∨ ranges_Valid r = some false) (ho : ranges_Valid o = some true ∨ ranges_Valid o = some false) (h : ranges_Valid r = some false ∨ ranges_Valid o = some false) : ∃ j, ranges_Meet k r o = some (((false, []), (false, []), false, []), 6, j) := by
  unfold ranges_Meet
  rcases hr with hr | hr
  · rcases ho with ho | ho
    · rw [hr, ho] at h; simp at h
    · rw [rcheck2_no2 hk hr ho]; exact ⟨_, rfl⟩
  · rw [rcheck2_no1 hk hr ho]; exact ⟨_, rfl⟩
theorem rangesBoth_plain {r o : Rg} {v : Bool × List Int} (hr : Wf RT r) (ho : Wf RT o) (hv : Wf IT v) : brindlewoodlaw3_RangesBoth 1000000000000000000 r o v = some true := by
  have hk : 20000000000 < 1000000000000000000 := by decide
  have cr := range_cases hr
  have co := range_cases ho
  have br : ranges_Valid r = some true ∨ ranges_Valid r = some false := cr.elim (fun ⟨_, _, _, _, _, h⟩ => .inl h) .inr
  have bo : ranges_Valid o = some true ∨ ranges_Valid o = some false := co.elim (fun ⟨_, _, _, _, _, h⟩ => .inl h) .inr
  unfold brindlewoodlaw3_RangesBoth
  rw [spans_ok]
  simp only [Option.bind_some, Bool.not_true, cond_false]
  generalize hK : 1000000000000000000 = K at hk ⊢
  by_cases hno : ranges_Valid r = some false ∨ ranges_Valid o = some false
  · obtain ⟨j, e1⟩ := Meet_no (k := K) (by omega) br bo hno
    obtain ⟨j', e2⟩ := Meet_no (k := K) (by omega) bo br hno.symm
    rw [e1, e2]; rfl
  · obtain ⟨s, t, d, hV, rfl, v1⟩ := cr.resolve_right fun h => hno (.inl h)
    obtain ⟨s', t', d', hV', rfl, v2⟩ := co.resolve_right fun h => hno (.inr h)
    obtain ⟨F, L, S, x1, x2, x3⟩ := Meet_ok hk hV hV'
    obtain ⟨F', L', S', y1, y2, y3⟩ := Meet_ok hk hV' hV
    obtain ⟨u1, u2, u3⟩ := plain_uniq y1 x1 fun w => (y3 w).trans (and_comm.trans (x3 w).symm)
    rw [u1, u2, u3] at y2
    rw [x2, y2]
    simp only [Option.bind_some]
    have hm := fun w => (plain_mem (s := F) (t := L + 1) (d := S) (v := w) (by omega)).trans (x3 w)
    generalize plainS F (L + 1) S = A at *
    generalize plainT F (L + 1) S = B at *
    generalize plainD F (L + 1) S = C at *
    by_cases hR : RV A B C
    · rw [if_pos hR]
      rcases int_vals hv with ⟨w, hw, rfl, hW⟩ | hW
      · have hW' : brindlewoodref3_IntOk (iz w) = some true := hW
        simp only [hW', bne_self_eq_false, cond_false, Option.bind_some, Bool.not_true, joinB_inl]
        have i1 := rIndex_ok hk hV hw
        have i2 := rIndex_ok hk hV' hw
        have i3 := rIndex_ok hk hR hw
        have q1 := SameInts_ok (k := K) (by omega) (rlim_ilim hR.1) (rlim_ilim hR.1)
        have q2 := SameInts_ok (k := K) (by omega) (rlim_ilim hR.2.1) (rlim_ilim hR.2.1)
        have q3 := SameInts_ok (k := K) (by omega) (rlim_ilim hR.2.2.1) (rlim_ilim hR.2.2.1)
        simp only [rz] at i1 i2 i3 ⊢
        have hw' := hm w
        rcases i1 with ⟨p1, p2, p3⟩ | ⟨p2, p3⟩ <;> rcases i2 with ⟨p4, p5, p6⟩ | ⟨p5, p6⟩ <;> rcases i3 with ⟨p7, p8, p9⟩ | ⟨p8, p9⟩ <;>
          rw [p3, p6, p9] <;> simp only [Option.bind_some, q1, q2, q3, beq_self_eq_true, cond_true, decide_true]
        all_goals first
          | rfl
          | exact absurd (hw'.2 ⟨⟨_, p2⟩, ⟨_, p5⟩⟩) (fun ⟨q, hq⟩ => p8 q hq)
          | exact absurd (hw'.1 ⟨_, p8⟩).1 (fun ⟨q, hq⟩ => p2 q hq)
          | exact absurd (hw'.1 ⟨_, p8⟩).2 (fun ⟨q, hq⟩ => p5 q hq)
      · have hW' : brindlewoodref3_IntOk v = some false := hW
        simp only [hW']; rfl
    · rw [if_neg hR]; rfl
end Go.Pl
