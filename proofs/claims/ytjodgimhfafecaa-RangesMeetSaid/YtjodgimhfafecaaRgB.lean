/- Ranges: the exported functions.  Conditions: those that each theorem names. -/
import Derived.Test.YtjodgimhfafecaaRgA
set_option linter.unusedVariables false
set_option linter.unusedSimpArgs false
namespace Go.Pl
open Go Go.Ev Go.Sh
abbrev RT : Ty := .st (.pair (.st (.pair .bool (.list (.int .u32)))) (.pair (.st (.pair .bool (.list (.int .u32)))) (.st (.pair .bool (.list (.int .u32))))))
abbrev Rg := (Bool × List Int) × (Bool × List Int) × (Bool × List Int)
def rz (s t d : Int) : Rg := (iz s, iz t, iz d)
def RV (s t d : Int) : Prop := s.natAbs < rlim ∧ t.natAbs < rlim ∧ d.natAbs < rlim ∧ d ≠ 0
noncomputable instance (s t d : Int) : Decidable (RV s t d) := by unfold RV; infer_instance
theorem fits_iz {v : Int} (h : v.natAbs < ilim) : ranges_fits (iz v) = some (decide (v.natAbs < rlim)) := by
  unfold ranges_fits
  rw [iz_valid h]
  show some (decide _) = _
  congr 1
  apply decide_eq_decide.2
  rw [← rlim_iff]
  show ((dg 4294967296 v.natAbs).length : Int) ≤ 40 ↔ _
  omega
theorem fits_no {a : Bool × List Int} (h : integer_Valid a = some false) : ranges_fits a = some false := by
  unfold ranges_fits
  rw [h]; rfl
theorem rlim_ilim {v : Int} (h : v.natAbs < rlim) : v.natAbs < ilim := small_ilim (by omega)
theorem rlim_ilim' {v : Int} (h : v.natAbs ≤ rlim) : v.natAbs < ilim := small_ilim (by omega)
theorem fits_cases {a : Bool × List Int} (h : Wf IT a) : (∃ v : Int, v.natAbs < rlim ∧ a = iz v ∧ ranges_fits a = some true) ∨ ranges_fits a = some false := by
  rcases int_vals h with ⟨v, hv, rfl, _⟩ | h
  · by_cases h2 : v.natAbs < rlim
    · exact .inl ⟨v, h2, rfl, by rw [fits_iz hv, decide_eq_true h2]⟩
    · exact .inr (by rw [fits_iz hv, decide_eq_false h2])
  · exact .inr (fits_no h)
theorem zlen (v : Int) : (decide (0 < ((iz v).2.length : Int))) = decide (v ≠ 0) := by
  by_cases h : v = 0
  · subst h; rfl
  · have hp := (dg_len_pos (n := v.natAbs) hB32).2 (by omega)
    have : decide (0 < ((iz v).2.length : Int)) = true := dlt_t (by show (0 : Int) < ((dg 4294967296 v.natAbs).length : Int); omega)
    rw [this, decide_eq_true h]
theorem rvalid_ok {s t d : Int} (hs : s.natAbs < ilim) (ht : t.natAbs < ilim) (hd : d.natAbs < ilim) : ranges_Valid (rz s t d) = some (decide (RV s t d)) := by
  unfold ranges_Valid rz RV
  simp only [fits_iz hs, fits_iz ht, fits_iz hd, Option.bind_some, zlen]
  by_cases h1 : s.natAbs < rlim <;> by_cases h2 : t.natAbs < rlim <;> by_cases h3 : d.natAbs < rlim <;> by_cases h4 : d = 0 <;> simp [h1, h2, h3, h4]
theorem rvalid_t {s t d : Int} (h : RV s t d) : ranges_Valid (rz s t d) = some true := by
  rw [rvalid_ok (rlim_ilim h.1) (rlim_ilim h.2.1) (rlim_ilim h.2.2.1), decide_eq_true h]
theorem range_cases {r : Rg} (h : Wf RT r) : (∃ s t d, RV s t d ∧ r = rz s t d ∧ ranges_Valid r = some true) ∨ ranges_Valid r = some false := by
  obtain ⟨a, b, c⟩ := r
  obtain ⟨h1, h2, h3⟩ := h
  have h1 : Wf IT a := h1
  have h2 : Wf IT b := h2
  have h3 : Wf IT c := h3
  rcases fits_cases h1 with ⟨s, hs, rfl, f1⟩ | f1
  · rcases fits_cases h2 with ⟨t, ht, rfl, f2⟩ | f2
    · rcases fits_cases h3 with ⟨d, hd, rfl, f3⟩ | f3
      · by_cases hd0 : d = 0
        · right
          unfold ranges_Valid
          rw [f1, f2, f3]
          subst hd0; rfl
        · have hv : RV s t d := ⟨hs, ht, hd, hd0⟩
          exact .inl ⟨s, t, d, hv, rfl, rvalid_t hv⟩
      · right; unfold ranges_Valid; rw [f1, f2, f3]; rfl
    · right; unfold ranges_Valid; rw [f1, f2]; rfl
  · right; unfold ranges_Valid; rw [f1]; rfl
def badR : List Rg → Nat → Int × Int
  | [], _ => (0, 0)
  | x :: l, i => if ranges_Valid x = some true then badR l (i + 1) else (6, -1 - (i : Int))
theorem badR_t {x : Rg} (l : List Rg) (i : Nat) (h : ranges_Valid x = some true) : badR (x :: l) i = badR l (i + 1) := by
  simp only [badR]; rw [if_pos h]
theorem badR_f {x : Rg} (l : List Rg) (i : Nat) (h : ranges_Valid x = some false) : badR (x :: l) i = (6, -1 - (i : Int)) := by
  simp only [badR]; rw [if_neg (by rw [h]; simp)]
theorem rcheck_l0 (k : Nat) (l : List Rg) (hv : ∀ x ∈ l, ranges_Valid x = some true ∨ ranges_Valid x = some false) (hl : (l.length : Int) ≤ 1000) : ∀ (n i : Nat), l.length - i < n → i ≤ l.length →
    ranges_check.l0 k n (0, 0) l l.length i = some (if badR (l.drop i) i = (0, 0) then .inl (0, 0) else .inr (badR (l.drop i) i)) := by
  intro n
  induction n with
  | zero => intro i h; omega
  | succ n ih =>
    intro i h1 h2
    simp only [ranges_check.l0, ranges_check.b0]
    by_cases hi : i < l.length
    · have e1 : w64 ((i : Int) + 1) = ((i + 1 : Nat) : Int) := by rw [w64_id (by omega) (by omega)]; omega
      have e2 : w64 (-1 - (i : Int)) = -1 - (i : Int) := w64_id (by omega) (by omega)
      have hd : l.drop i = l[i] :: l.drop (i + 1) := List.drop_eq_getElem_cons hi
      have hn : nth RT l (i : Int) = l[i] := by
        show l.getD i _ = _
        rw [List.getD_eq_getElem?_getD, List.getElem?_eq_getElem hi]; rfl
      have hn' : nth (.st (.pair (.st (.pair (.bool) (.list (.int .u32)))) (.pair (.st (.pair (.bool) (.list (.int .u32)))) (.st (.pair (.bool) (.list (.int .u32))))))) l (i : Int) = l[i] := hn
      rw [dlt_t (by omega), inR_t (by omega) (by omega), hn', e1, e2, hd]
      simp only [cond_true]
      rcases hv l[i] (List.getElem_mem hi) with h | h
      · rw [h, badR_t _ _ h]
        simp only [Option.bind_some, Bool.not_true, cond_false]
        exact ih (i + 1) (by omega) (by omega)
      · rw [h, badR_f _ _ h]
        simp only [Option.bind_some, Bool.not_false, cond_true]
        rw [if_neg (by simp)]
        rfl
    · have e1 : i = l.length := by omega
      subst e1
      rw [dlt_f (by omega), List.drop_length]
      rfl
theorem rcheck_ok' {k : Nat} (hk : 2000 < k) {l : List Rg} (hv : ∀ x ∈ l, ranges_Valid x = some true ∨ ranges_Valid x = some false) (hl : (l.length : Int) ≤ 1000) : ranges_check k l = some (badR l 0) := by
  unfold ranges_check
  have h := rcheck_l0 k l hv hl k 0 (by omega) (by omega)
  have h' : ranges_check.l0 k k (0, 0) l l.length 0 = _ := h
  rw [h', List.drop_zero]
  by_cases hb : badR l 0 = (0, 0)
  · rw [if_pos hb, hb]; rfl
  · rw [if_neg hb]; rfl
theorem rcheck1 {k : Nat} (hk : 2000 < k) {s t d : Int} (h : RV s t d) : ranges_check k [rz s t d] = some (0, 0) := by
  rw [rcheck_ok' hk (fun z hz => by simp only [List.mem_singleton] at hz; subst hz; exact .inl (rvalid_t h)) (by simp), badR_t _ _ (rvalid_t h)]; rfl
theorem rcheck1_no {k : Nat} (hk : 2000 < k) {r : Rg} (h : ranges_Valid r = some false) : ranges_check k [r] = some (6, -1) := by
  rw [rcheck_ok' hk (fun z hz => by simp only [List.mem_singleton] at hz; subst hz; exact .inr h) (by simp), badR_f _ _ h]; rfl
theorem rcheck2 {k : Nat} (hk : 2000 < k) {s t d s' t' d' : Int} (h : RV s t d) (h' : RV s' t' d') : ranges_check k [rz s t d, rz s' t' d'] = some (0, 0) := by
  rw [rcheck_ok' hk (fun z hz => by
    simp only [List.mem_cons, List.not_mem_nil, or_false] at hz
    rcases hz with rfl | rfl
    · exact .inl (rvalid_t h)
    · exact .inl (rvalid_t h')) (by simp), badR_t _ _ (rvalid_t h), badR_t _ _ (rvalid_t h')]; rfl
theorem rcheck2_no1 {k : Nat} (hk : 2000 < k) {r o : Rg} (h : ranges_Valid r = some false) (h' : ranges_Valid o = some true ∨ ranges_Valid o = some false) : ranges_check k [r, o] = some (6, -1) := by
  rw [rcheck_ok' hk (fun z hz => by
    simp only [List.mem_cons, List.not_mem_nil, or_false] at hz
    rcases hz with rfl | rfl
    · exact .inr h
    · exact h') (by simp), badR_f _ _ h]; rfl
theorem rcheck2_no2 {k : Nat} (hk : 2000 < k) {r o : Rg} (h : ranges_Valid r = some true) (h' : ranges_Valid o = some false) : ranges_check k [r, o] = some (6, -2) := by
  rw [rcheck_ok' hk (fun z hz => by
    simp only [List.mem_cons, List.not_mem_nil, or_false] at hz
    rcases hz with rfl | rfl
    · exact .inl h
    · exact .inr h') (by simp), badR_t _ _ h, badR_f _ _ h']; rfl
theorem RV_le {s t d : Int} (h : RV s t d) : s.natAbs ≤ 2 * rlim ∧ t.natAbs ≤ 2 * rlim ∧ d.natAbs ≤ 2 * rlim ∧ d ≠ 0 := by
  obtain ⟨h1, h2, h3, h4⟩ := h
  exact ⟨by omega, by omega, by omega, h4⟩
theorem rlen {k : Nat} (hk : 20000000000 < k) {s t d : Int} (h : RV s t d) : ranges_length k (rz s t d) = some (iz (cnt s t d)) := by
  obtain ⟨h1, h2, h3, h4⟩ := RV_le h
  exact rlength_ok hk h1 h2 h3 h4
theorem rLength_ok {k : Nat} (hk : 20000000000 < k) {s t d : Int} (h : RV s t d) : ranges_Length k (rz s t d) = some (iz (cnt s t d), 0, 0) := by
  unfold ranges_Length
  rw [rcheck1 (by omega) h, rlen hk h]; rfl
theorem rPlain_ok {k : Nat} (hk : 20000000000 < k) {s t d : Int} (h : RV s t d) : ranges_Plain k (rz s t d) = some (rz (plainS s t d) (plainT s t d) (plainD s t d), 0, 0) := by
  obtain ⟨h1, h2, h3, h4⟩ := RV_le h
  unfold ranges_Plain
  have := rplain_ok hk h1 h2 h3 h4
  have h' : ranges_plain k (rz s t d) = _ := this
  rw [rcheck1 (by omega) h, h']; rfl
theorem rwhole_ok {s t d : Int} (hs : s.natAbs < ilim) (ht : t.natAbs < ilim) (hd : d.natAbs < ilim) : ranges_whole (rz s t d) = some (if RV s t d then (rz s t d, 0, 0) else (((false, []), (false, []), false, []), 14, -1)) := by
  unfold ranges_whole
  rw [rvalid_ok hs ht hd]
  by_cases h : RV s t d
  · rw [decide_eq_true h, if_pos h]; rfl
  · rw [decide_eq_false h, if_neg h]; rfl
theorem cnt_rlim {s t d : Int} (h : RV s t d) : 0 ≤ cnt s t d ∧ (cnt s t d).natAbs ≤ 2 * rlim := by
  have := cnt_rng s t d h.2.2.2
  obtain ⟨h1, h2, h3, h4⟩ := h
  omega
theorem rAt_ok {k : Nat} (hk : 20000000000 < k) {s t d i : Int} (h : RV s t d) (hi : i.natAbs < ilim) : ranges_At k (rz s t d) (iz i) = some (if 0 ≤ (if i < 0 then i + cnt s t d else i) ∧ (if i < 0 then i + cnt s t d else i) < cnt s t d then (iz (s + d * (if i < 0 then i + cnt s t d else i)), 0, 0) else ((false, []), 4, -2)) := by
  obtain ⟨h1, h2, h3, h4⟩ := RV_le h
  have hc := cnt_rlim h
  unfold ranges_At
  rw [rvalid_t h, iz_valid hi, rlen hk h]
  simp only [Option.bind_some, Bool.not_true, cond_false]
  have hcl : (cnt s t d).natAbs < ilim := small_ilim (by omega)
  have key : ∀ j : Int, j.natAbs < ilim → (bif (iz j).1 then ((ranges_at 4 (-2)).bind fun t8 => some ((false, []), t8)) else ((ranges_less k (iz j) (iz (cnt s t d))).bind fun t9 => bif (!t9) then ((ranges_at 4 (-2)).bind fun t10 => some ((false, []), t10)) else ((ranges_element k (rz s t d) (iz j)).bind fun t11 => some (t11, ((0, 0) : Int × Int))))) = some (if 0 ≤ j ∧ j < cnt s t d then (iz (s + d * j), 0, 0) else ((false, []), 4, -2)) := by
    intro j hj
    by_cases hn : j < 0
    · have e1 : (iz j).1 = true := decide_eq_true hn
      rw [e1, if_neg (by omega)]; rfl
    · have e1 : (iz j).1 = false := decide_eq_false hn
      rw [e1, rless_ok hk hj hcl]
      simp only [cond_false, Option.bind_some]
      by_cases hl : j < cnt s t d
      · have he := relement_ok hk h1 h2 h3 h4 (i := j) (by omega) hl
        have he' : ranges_element k (rz s t d) (iz j) = _ := he
        rw [decide_eq_true hl, if_pos ⟨by omega, hl⟩, he']; rfl
      · rw [decide_eq_false hl, if_neg (by omega)]; rfl
  by_cases hn : i < 0
  · have e1 : (iz i).1 = true := decide_eq_true hn
    rw [e1]
    simp only [hn, if_true, cond_true]
    rw [radd_ok hk hi hcl (by omega)]
    simp only [Option.bind_some, joinB_inl]
    exact key (i + cnt s t d) (by omega)
  · have e1 : (iz i).1 = false := decide_eq_false hn
    rw [e1]
    simp only [hn, if_false, cond_false, joinB_inl]
    exact key i hi
theorem rAt_no1 {k : Nat} {r : Rg} {i : Bool × List Int} (h : ranges_Valid r = some false) : ranges_At k r i = some ((false, []), 6, -1) := by
  unfold ranges_At; rw [h]; rfl
theorem rAt_no2 {k : Nat} {r : Rg} {i : Bool × List Int} (h : ranges_Valid r = some true) (hi : integer_Valid i = some false) : ranges_At k r i = some ((false, []), 6, -2) := by
  unfold ranges_At; rw [h, hi]; rfl
def rpos (s t d v : Int) (q : Int) : Prop := v = s + d * q ∧ 0 ≤ q ∧ q < cnt s t d
theorem ir_zero_iff {x d : Int} (hd : d ≠ 0) (q : Int) : x = d * q ↔ (ir x d = 0 ∧ iq x d = q) := by
  have h1 := floor_eq (x := x) hd
  have h2 := irm_lt (x := x) hd
  have h3 := ir_abs x d
  have h4 : ir x d ≠ 0 → decide (d < 0) = decide (ir x d < 0) := ir_sign
  constructor
  · intro h
    have h5 : d * (q - iq x d) = ir x d := by rw [Int.mul_sub]; omega
    have h6 : q - iq x d = 0 := by
      by_cases h7 : q - iq x d = 0
      · exact h7
      · exfalso
        have h8 : (d * (q - iq x d)).natAbs = d.natAbs * (q - iq x d).natAbs := Int.natAbs_mul _ _
        have h9 : d.natAbs * 1 ≤ d.natAbs * (q - iq x d).natAbs := Nat.mul_le_mul_left _ (by omega)
        rw [h5] at h8
        omega
    rw [h6, Int.mul_zero] at h5
    exact ⟨h5.symm, by omega⟩
  · rintro ⟨h5, h6⟩
    rw [h5, h6] at h1; omega
theorem rIndex_ok {k : Nat} (hk : 20000000000 < k) {s t d v : Int} (h : RV s t d) (hv : v.natAbs < ilim) : (∃ q, rpos s t d v q ∧ ranges_Index k (rz s t d) (iz v) = some (iz q, 0, 0)) ∨ ((∀ q, ¬ rpos s t d v q) ∧ ranges_Index k (rz s t d) (iz v) = some ((false, []), 12, -2)) := by
  obtain ⟨h1, h2, h3, h4⟩ := RV_le h
  have hc := cnt_rlim h
  have hcl : (cnt s t d).natAbs < ilim := small_ilim (by omega)
  unfold ranges_Index
  rw [rvalid_t h, iz_valid hv, fits_iz hv]
  simp only [Option.bind_some, Bool.not_true, cond_false]
  by_cases hf : v.natAbs < rlim
  · rw [decide_eq_true hf]
    simp only [Bool.not_true, cond_false, rz]
    have hsub : (v - s).natAbs < ilim := small_ilim (by have := h.1; omega)
    rw [rsub_ok hk hv (rlim_ilim h.1) hsub]
    simp only [Option.bind_some]
    rw [rdiv_ok hk hsub (rlim_ilim h.2.2.1) h4]
    simp only [Option.bind_some]
    rw [rzero_ok]
    have hql := iq_lt h4 hsub
    have hno : (¬ ir (v - s) d = 0 ∨ iq (v - s) d < 0 ∨ ¬ iq (v - s) d < cnt s t d) → ∀ q, ¬ rpos s t d v q := by
      intro hor q ⟨a, b, c⟩
      have := (ir_zero_iff h4 q).1 (show v - s = d * q by omega)
      omega
    simp only [Option.bind_some]
    by_cases hr : ir (v - s) d = 0
    · rw [decide_eq_true hr]
      simp only [Bool.not_true, cond_false]
      by_cases hn : iq (v - s) d < 0
      · have e1 : (iz (iq (v - s) d)).1 = true := decide_eq_true hn
        right
        rw [e1]
        exact ⟨hno (.inr (.inl hn)), rfl⟩
      · have e1 : (iz (iq (v - s) d)).1 = false := decide_eq_false hn
        have hl' : ranges_length k (iz s, iz t, iz d) = _ := rlen hk h
        rw [e1, hl']
        simp only [cond_false, Option.bind_some]
        rw [rless_ok hk hql hcl]
        simp only [Option.bind_some]
        by_cases hl : iq (v - s) d < cnt s t d
        · left
          rw [decide_eq_true hl]
          refine ⟨_, ⟨?_, by omega, hl⟩, rfl⟩
          have := (ir_zero_iff h4 (iq (v - s) d)).2 ⟨hr, rfl⟩
          omega
        · right
          rw [decide_eq_false hl]
          exact ⟨hno (.inr (.inr hl)), rfl⟩
    · right
      rw [decide_eq_false hr]
      exact ⟨hno (.inl hr), rfl⟩
  · right
    rw [decide_eq_false hf]
    refine ⟨fun q ⟨a, b, c⟩ => hf ?_, rfl⟩
    obtain ⟨e1, e2⟩ := elem_rng b c
    have r1 := h.1
    have r2 := h.2.1
    by_cases hd : 0 < d
    · have := e1 hd; omega
    · have := e2 (by omega); omega
theorem rIndex_no1 {k : Nat} {r : Rg} {i : Bool × List Int} (h : ranges_Valid r = some false) : ranges_Index k r i = some ((false, []), 6, -1) := by
  unfold ranges_Index; rw [h]; rfl
theorem rIndex_no2 {k : Nat} {r : Rg} {i : Bool × List Int} (h : ranges_Valid r = some true) (hi : integer_Valid i = some false) : ranges_Index k r i = some ((false, []), 6, -2) := by
  unfold ranges_Index; rw [h, hi]; rfl
theorem rpos_uniq {s t d v q q' : Int} (hd : d ≠ 0) (h : rpos s t d v q) (h' : rpos s t d v q') : q = q' := by
  have h1 : d * q = d * q' := by have := h.1; have := h'.1; omega
  exact Int.eq_of_mul_eq_mul_left hd h1
theorem rTurn_ok {k : Nat} (hk : 20000000000 < k) {s t d : Int} (h : RV s t d) : ranges_Turn k (rz s t d) = some (if cnt s t d = 0 then (rz 0 0 1, 0, 0) else if (s - sg d).natAbs < rlim then (rz (rlast s t d) (s - sg d) (-pstep s t d), 0, 0) else (((false, []), (false, []), false, []), 14, -1)) := by
  obtain ⟨h1, h2, h3, h4⟩ := RV_le h
  have hp := rlim_big.1
  have hpl := rplain_ok hk h1 h2 h3 h4
  have hpl' : ranges_plain k (rz s t d) = _ := hpl
  unfold ranges_Turn
  rw [rcheck1 (by omega) h, hpl']
  simp only [Option.bind_some, bne_self_eq_false, cond_false]
  unfold plainS plainT plainD
  by_cases h0 : cnt s t d = 0
  · simp only [h0, if_true]
    rw [rlength_ok hk (by omega) (by omega) (by omega) (by decide)]
    have : cnt 0 0 1 = 0 := by decide
    rw [this]
    rfl
  · simp only [h0, if_false]
    obtain ⟨f1, f2, f3, f4, f5, f6, f7⟩ := plain_facts (p := rlim) h4 (by have := h.1; omega) (by have := h.2.1; omega) (by have := h.2.2.1; omega) (by omega) h0
    have hn := cnt_rng s t d h4
    have hcnt : cnt s (rlast s t d + sg d) (pstep s t d) = cnt s t d := by
      have := cnt_of (s := s) (d := pstep s t d) (e := sg d) (n := cnt s t d) f4 (by omega) f5.symm
      rw [f7] at this
      exact this
    have hsgb : (sg d).natAbs ≤ 1 := by unfold sg; split <;> omega
    rw [rlength_ok hk (by omega) (by omega) (by omega) f4, hcnt]
    simp only [Option.bind_some]
    rw [rzero_ok]
    simp only [Option.bind_some, decide_eq_false h0, cond_false]
    rw [rsign_ok hk, f5]
    simp only [Option.bind_some]
    have q0 : ∀ x : Int, x.natAbs ≤ 4 * rlim → x.natAbs < ilim := fun x hx => small_ilim (by omega)
    have e1 : rlast s t d + sg d - sg d = rlast s t d := by omega
    rw [rsub_ok hk (q0 _ (by omega)) (q0 _ (by omega)) (q0 _ (by omega)), rsub_ok hk (q0 _ (by omega)) (q0 _ (by omega)) (q0 _ (by omega)), e1]
    simp only [Option.bind_some]
    have z := rsub_ok hk (x := 0) (y := pstep s t d) (q0 _ (by omega)) (q0 _ (by omega)) (q0 _ (by omega))
    rw [Int.zero_sub] at z
    have z' : ranges_sub k (false, []) (iz (pstep s t d)) = _ := z
    rw [z']
    simp only [Option.bind_some]
    have hw := rwhole_ok (s := rlast s t d) (t := s - sg d) (d := -pstep s t d) (q0 _ (by omega)) (q0 _ (by omega)) (q0 _ (by omega))
    have hw' : ranges_whole (iz (rlast s t d), iz (s - sg d), iz (-pstep s t d)) = _ := hw
    rw [hw']
    have hlast : (rlast s t d).natAbs < rlim := by
      obtain ⟨g1, g2⟩ := elem_rng (s := s) (t := t) (d := d) (i := cnt s t d - 1) (by omega) (by omega)
      unfold rlast
      have r1 := h.1
      have r2 := h.2.1
      by_cases hd : 0 < d
      · have := g1 hd; omega
      · have := g2 (by omega); omega
    have hst : (pstep s t d).natAbs < rlim := by
      have := h.2.2.1
      unfold pstep
      split <;> omega
    by_cases hb : (s - sg d).natAbs < rlim
    · rw [if_pos hb, if_pos ⟨hlast, hb, by omega, by omega⟩]; rfl
    · rw [if_neg hb, if_neg (fun hr => hb hr.2.1)]; rfl
theorem rTurn_no {k : Nat} (hk : 2000 < k) {r : Rg} (h : ranges_Valid r = some false) : ranges_Turn k r = some (((false, []), (false, []), false, []), 6, -1) ∧ ranges_Plain k r = some (((false, []), (false, []), false, []), 6, -1) ∧ ranges_Length k r = some ((false, []), 6, -1) := by
  unfold ranges_Turn ranges_Plain ranges_Length
  rw [rcheck1_no hk h]
  exact ⟨rfl, rfl, rfl⟩
theorem rSame_ok {k : Nat} (hk : 20000000000 < k) {s t d s' t' d' : Int} (h : RV s t d) (h' : RV s' t' d') : ranges_Same k (rz s t d) (rz s' t' d') = some (decide (cnt s t d = cnt s' t' d' ∧ (cnt s t d = 0 ∨ (s = s' ∧ rlast s t d = rlast s' t' d'))), 0, 0) := by
  obtain ⟨h1, h2, h3, h4⟩ := RV_le h
  obtain ⟨h1', h2', h3', h4'⟩ := RV_le h'
  have hc := cnt_rlim h
  have hc' := cnt_rlim h'
  have q0 : ∀ x : Int, x.natAbs ≤ 4 * rlim → x.natAbs < ilim := fun x hx => small_ilim (by omega)
  have hO1 : integer_Of k 1 = some (iz 1) := iOf_ok (by omega) (by decide) (by decide)
  have hp := rlim_big.1
  obtain ⟨B, hB⟩ : ∃ B, B = decide (cnt s t d = cnt s' t' d' ∧ (cnt s t d = 0 ∨ (s = s' ∧ rlast s t d = rlast s' t' d'))) := ⟨_, rfl⟩
  rw [← hB]
  unfold ranges_Same
  rw [rcheck2 (by omega) h h', rlen hk h, rlen hk h']
  simp only [Option.bind_some, bne_self_eq_false, cond_false]
  rw [rless_ok hk (q0 _ (by omega)) (q0 _ (by omega)), rless_ok hk (q0 _ (by omega)) (q0 _ (by omega))]
  simp only [Option.bind_some]
  by_cases hne : cnt s t d = cnt s' t' d'
  · rw [← hne, decide_eq_false (show ¬ cnt s t d < cnt s t d by omega)]
    simp only [cond_false, joinB_inl]
    rw [rzero_ok]
    simp only [Option.bind_some]
    by_cases h0 : cnt s t d = 0
    · rw [decide_eq_true h0, hB, decide_eq_true ⟨hne, .inl h0⟩]; rfl
    · rw [decide_eq_false h0]
      simp only [cond_false, hO1, Option.bind_some]
      have e1 := relement_ok hk h1 h2 h3 h4 (i := cnt s t d - 1) (by omega) (by omega)
      have e2 := relement_ok hk h1' h2' h3' h4' (i := cnt s t d - 1) (by omega) (by omega)
      have e1' : ranges_element k (rz s t d) (iz (cnt s t d - 1)) = _ := e1
      have e2' : ranges_element k (rz s' t' d') (iz (cnt s t d - 1)) = _ := e2
      have b1 := (elem_abs h4 (i := cnt s t d - 1) (by omega) (by omega) h1 h2).1
      have b2 := (elem_abs h4' (i := cnt s t d - 1) (by omega) (by omega) h1' h2').1
      rw [rsub_ok hk (q0 _ (by omega)) (q0 _ (by omega)) (q0 _ (by omega))]
      simp only [Option.bind_some]
      have r1 := rsub_ok hk (x := s) (y := s') (q0 _ (by omega)) (q0 _ (by omega)) (q0 _ (by omega))
      have r1' : ranges_sub k (rz s t d).1 (rz s' t' d').1 = _ := r1
      rw [r1']
      simp only [Option.bind_some]
      rw [rzero_ok]
      simp only [Option.bind_some]
      by_cases hs : s = s'
      · rw [decide_eq_true (show s - s' = 0 by omega)]
        simp only [cond_true]
        rw [e1', e2']
        simp only [Option.bind_some]
        rw [rsub_ok hk (q0 _ (by omega)) (q0 _ (by omega)) (q0 _ (by omega))]
        simp only [Option.bind_some]
        rw [rzero_ok]
        simp only [Option.bind_some]
        rw [hB]
        congr 2
        apply decide_eq_decide.2
        unfold rlast
        rw [← hne]
        constructor
        · intro hz; exact ⟨rfl, .inr ⟨hs, by omega⟩⟩
        · rintro ⟨_, hz | hz⟩
          · exact absurd hz h0
          · omega
      · rw [decide_eq_false (show ¬ s - s' = 0 by omega), hB, decide_eq_false (fun hz => by
          rcases hz.2 with hz | hz
          · exact h0 hz
          · exact hs hz.1)]
        rfl
  · have hBf : B = false := by rw [hB]; exact decide_eq_false (fun hz => hne hz.1)
    rw [hBf]
    by_cases hlt : cnt s t d < cnt s' t' d'
    · rw [decide_eq_true hlt]; rfl
    · rw [decide_eq_false hlt, decide_eq_true (show cnt s' t' d' < cnt s t d by omega)]; rfl
end Go.Pl
