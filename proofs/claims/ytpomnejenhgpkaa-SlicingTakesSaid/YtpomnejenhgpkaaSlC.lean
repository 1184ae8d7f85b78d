/- Slices: faults and what they resolve to.  Conditions: those that each theorem names. -/
import Derived.Test.YtpomnejenhgpkaaSlB
set_option linter.unusedVariables false
set_option linter.unusedSimpArgs false
set_option maxHeartbeats 0
namespace Go.Pl
open Go Go.Ev Go.Sh
abbrev SlT : Ty := .st (.pair (.st (.pair .bool (.list (.int .u32)))) (.pair (.st (.pair .bool (.list (.int .u32)))) (.pair (.st (.pair .bool (.list (.int .u32)))) (.pair .bool (.pair .bool .bool)))))
abbrev Sl := (Bool × List Int) × (Bool × List Int) × (Bool × List Int) × Bool × Bool × Bool
def pB (a : Bool × List Int) (h : Bool) : Bool := (integer_Valid a).getD false && (h || ((a.2.length : Int) == 0))
theorem slpart_ok {a : Bool × List Int} (h : Bool) (ha : integer_Valid a = some true ∨ integer_Valid a = some false) : slicing_part a h = some (pB a h) := by
  unfold slicing_part pB
  rcases ha with ha | ha <;> rw [ha]
  · cases h <;> rfl
  · rfl
def sfault (s : Sl) : Int × Int := bif pB s.1 s.2.2.2.1 && (pB s.2.1 s.2.2.2.2.1 && pB s.2.2.1 s.2.2.2.2.2) then (bif s.2.2.2.2.2 && ((s.2.2.1.2.length : Int) == 0) then (22, -1) else (0, 0)) else (6, -1)
theorem slCheck_ok {s : Sl} (ha : integer_Valid s.1 = some true ∨ integer_Valid s.1 = some false) (hb : integer_Valid s.2.1 = some true ∨ integer_Valid s.2.1 = some false) (hc : integer_Valid s.2.2.1 = some true ∨ integer_Valid s.2.2.1 = some false) : slicing_Check s = some (sfault s) := by
  have hat : ∀ a b : Int, slicing_at a b = some (a, b) := fun _ _ => rfl
  unfold slicing_Check sfault
  rw [slpart_ok _ ha, slpart_ok _ hb, slpart_ok _ hc]
  simp only [Option.bind_some, hat]
  cases h1 : pB s.1 s.2.2.2.1
  · rfl
  · cases h2 : pB s.2.1 s.2.2.2.2.1
    · rfl
    · cases h3 : pB s.2.2.1 s.2.2.2.2.2
      · rfl
      · simp only [Bool.not_true, cond_false, joinB_inl, Bool.and_true, cond_true]
        cases h4 : s.2.2.2.2.2
        · rfl
        · simp only [cond_true, Bool.true_and]
          cases h5 : ((s.2.2.1.2.length : Int) == 0) <;> rfl
theorem sf_step (k : Nat) (rec : Sl → (Int × Int) → (List (Bool × List Int)) → List Bool → Int → Option ((Sl × Int × Int) ⊕ (Int × Int))) (s : Sl) (f : Int × Int) (l : List (Bool × List Int)) (hs : List Bool) (i : Int) {a : Bool × List Int} {h : Bool} (hi : 0 ≤ i) (hi3 : i < 3) (hl : (l.length : Int) = 3) (hh : (hs.length : Int) = 3)
    (ea : nth (.st (.pair (.bool) (.list (.int .u32)))) l i = a) (eh : rdB hs i = h) (ha : integer_Valid a = some true ∨ integer_Valid a = some false) :
    brindlewoodref3_SliceFault.b0 k rec s f l hs i = bif pB a h then rec s f l hs (w64 (i + 1)) else some (.inr (6, -1)) := by
  have hat : ∀ a b : Int, brindlewoodref3_At a b = some (a, b) := fun _ _ => rfl
  unfold brindlewoodref3_SliceFault.b0 pB
  rw [dlt_t hi3, inR_t hi (by omega), inR_t hi (by omega), ea, eh, rIntOk]
  simp only [cond_true, hat, Option.bind_some]
  rcases ha with ha | ha <;> rw [ha]
  · simp only [Option.bind_some, Bool.not_true, cond_false, Option.getD_some, Bool.true_and]
    cases h
    · simp only [Bool.not_false, cond_true, Bool.false_or]
      unfold brindlewoodref3_NoInt
      have hz : ∀ b l', integer_Valid (b, l') = some true → ((l'.length : Int) == 0) = true → b = false := by
        intro b l' h1 h2
        have : l' = [] := List.eq_nil_of_length_eq_zero (by have := beq_iff_eq.1 h2; omega)
        subst this
        rw [iValid_nil] at h1
        cases b
        · rfl
        · exact absurd h1 (by simp)
      obtain ⟨b, l'⟩ := a
      cases h2 : ((l'.length : Int) == 0)
      · cases b <;> rfl
      · have := hz b l' ha h2
        subst this
        rfl
    · rfl
  · rfl
theorem SliceFault_ok {k : Nat} (hk : 4 ≤ k) {s : Sl} (ha : integer_Valid s.1 = some true ∨ integer_Valid s.1 = some false) (hb : integer_Valid s.2.1 = some true ∨ integer_Valid s.2.1 = some false) (hc : integer_Valid s.2.2.1 = some true ∨ integer_Valid s.2.2.1 = some false) : brindlewoodref3_SliceFault k s = some (sfault s) := by
  have hat : ∀ a b : Int, brindlewoodref3_At a b = some (a, b) := fun _ _ => rfl
  have hl : brindlewoodref3_SliceFault.l0 k k s (0, 0) [s.1, s.2.1, s.2.2.1] [s.2.2.2.1, s.2.2.2.2.1, s.2.2.2.2.2] 0 = bif pB s.1 s.2.2.2.1 && (pB s.2.1 s.2.2.2.2.1 && pB s.2.2.1 s.2.2.2.2.2) then some (.inl (s, 0, 0)) else some (.inr (6, -1)) := by
    obtain ⟨n, hn⟩ : ∃ n, k = n + 1 + 1 + 1 + 1 := ⟨k - 4, by omega⟩
    have : ∀ m, m = n + 1 + 1 + 1 + 1 → brindlewoodref3_SliceFault.l0 k m s (0, 0) [s.1, s.2.1, s.2.2.1] [s.2.2.2.1, s.2.2.2.2.1, s.2.2.2.2.2] 0 = bif pB s.1 s.2.2.2.1 && (pB s.2.1 s.2.2.2.2.1 && pB s.2.2.1 s.2.2.2.2.2) then some (.inl (s, 0, 0)) else some (.inr (6, -1)) := by
      intro m hm
      subst hm
      rw [brindlewoodref3_SliceFault.l0, sf_step k _ s (0, 0) _ _ 0 (a := s.1) (h := s.2.2.2.1) (by decide) (by decide) rfl rfl rfl rfl ha]
      cases pB s.1 s.2.2.2.1
      · rfl
      · simp only [cond_true, Bool.true_and]
        rw [show w64 (0 + 1) = 1 from rfl, brindlewoodref3_SliceFault.l0, sf_step k _ s (0, 0) _ _ 1 (a := s.2.1) (h := s.2.2.2.2.1) (by decide) (by decide) rfl rfl rfl rfl hb]
        cases pB s.2.1 s.2.2.2.2.1
        · rfl
        · simp only [cond_true, Bool.true_and]
          rw [show w64 (1 + 1) = 2 from rfl, brindlewoodref3_SliceFault.l0, sf_step k _ s (0, 0) _ _ 2 (a := s.2.2.1) (h := s.2.2.2.2.2) (by decide) (by decide) rfl rfl rfl rfl hc]
          cases pB s.2.2.1 s.2.2.2.2.2
          · rfl
          · rfl
    exact this k hn
  unfold brindlewoodref3_SliceFault sfault
  rw [hl]
  cases h0 : (pB s.1 s.2.2.2.1 && (pB s.2.1 s.2.2.2.2.1 && pB s.2.2.1 s.2.2.2.2.2))
  · rfl
  · simp only [cond_true, joinB_inl]
    cases h4 : s.2.2.2.2.2
    · rfl
    · simp only [cond_true, Bool.true_and]
      have h3 : pB s.2.2.1 true = true := by
        rw [← h4]
        cases h5 : pB s.2.2.1 s.2.2.2.2.2
        · rw [h5, Bool.and_false, Bool.and_false] at h0; exact absurd h0 (by simp)
        · exact h4.symm
      have hv : integer_Valid s.2.2.1 = some true := by
        rcases hc with hc | hc
        · exact hc
        · unfold pB at h3; rw [hc] at h3; exact absurd h3 (by simp)
      unfold brindlewoodref3_NoInt
      cases h5 : ((s.2.2.1.2.length : Int) == 0)
      · cases s.2.2.1.1 <;> rfl
      · have : s.2.2.1.2 = [] := List.eq_nil_of_length_eq_zero (by have := beq_iff_eq.1 h5; omega)
        have e : s.2.2.1 = (s.2.2.1.1, []) := by rw [← this]
        rw [e, iValid_nil] at hv
        cases h6 : s.2.2.1.1
        · rfl
        · rw [h6] at hv; exact absurd hv (by simp)
def sz (a b d : Int) (ha hb hd : Bool) : Sl := (iz a, iz b, iz d, ha, hb, hd)
theorem slice_cases {s : Sl} (h : Wf SlT s) : (integer_Valid s.1 = some true ∨ integer_Valid s.1 = some false) ∧ (integer_Valid s.2.1 = some true ∨ integer_Valid s.2.1 = some false) ∧ (integer_Valid s.2.2.1 = some true ∨ integer_Valid s.2.2.1 = some false) ∧
    ((∃ a b d ha hb hd, a.natAbs < ilim ∧ b.natAbs < ilim ∧ d.natAbs < ilim ∧ s = sz a b d ha hb hd ∧ sfault s = (0, 0) ∧ (hd = true → d ≠ 0)) ∨ (sfault s).1 ≠ 0) := by
  obtain ⟨a, b, c, ha, hb, hc⟩ := s
  obtain ⟨w1, w2, w3, w4⟩ := h
  have w1 : Wf IT a := w1
  have w2 : Wf IT b := w2
  have w3 : Wf IT c := w3
  refine ⟨int_valid w1, int_valid w2, int_valid w3, ?_⟩
  by_cases hf : (sfault (a, b, c, ha, hb, hc)).1 = 0
  · left
    have hp : (pB a ha && (pB b hb && pB c hc)) = true := by
      cases h0 : (pB a ha && (pB b hb && pB c hc))
      · unfold sfault at hf
        simp only [h0, cond_false] at hf
        exact absurd hf (by decide)
      · rfl
    have hq : (hc && ((c.2.length : Int) == 0)) = false := by
      cases h0 : (hc && ((c.2.length : Int) == 0))
      · rfl
      · unfold sfault at hf
        simp only [hp, h0, cond_true] at hf
        exact absurd hf (by decide)
    have h00 : sfault (a, b, c, ha, hb, hc) = (0, 0) := by
      unfold sfault
      simp only [hp, hq, cond_true, cond_false]
    rw [Bool.and_eq_true, Bool.and_eq_true] at hp
    have val : ∀ {x : Bool × List Int} {g : Bool}, Wf IT x → pB x g = true → ∃ v : Int, v.natAbs < ilim ∧ x = iz v := by
      intro x g wx hx
      rcases int_vals wx with ⟨v, hv, e, _⟩ | h
      · exact ⟨v, hv, e⟩
      · unfold pB at hx; rw [h] at hx; exact absurd hx (by simp)
    obtain ⟨x, hx, rfl⟩ := val w1 hp.1
    obtain ⟨y, hy, rfl⟩ := val w2 hp.2.1
    obtain ⟨z, hz, rfl⟩ := val w3 hp.2.2
    refine ⟨x, y, z, ha, hb, hc, hx, hy, hz, rfl, h00, ?_⟩
    intro e hz0
    subst e; subst hz0
    exact absurd hq (by decide)
  · exact .inr hf
def sStep (d : Int) (hd : Bool) : Int := bif hd then clamp d (-10000) 10000 else 1
def sLo (st : Int) : Int := if st < 0 then -1 else 0
def sHi (st n : Int) : Int := if st < 0 then n - 1 else n
def sStart (st a n : Int) (ha : Bool) : Int := bif ha then clamp (fromEnd a n) (sLo st) (sHi st n) else (if st < 0 then sHi st n else sLo st)
def sStop (st b n : Int) (hb : Bool) : Int := bif hb then clamp (fromEnd b n) (sLo st) (sHi st n) else (if st < 0 then sLo st else sHi st n)
def sCount (st f t : Int) : Int := if st < 0 then steps (f - t) (-st) else steps (t - f) st
theorem sStep_rng {d : Int} {hd : Bool} (h : hd = true → d ≠ 0) : -10000 ≤ sStep d hd ∧ sStep d hd ≤ 10000 ∧ sStep d hd ≠ 0 := by
  unfold sStep
  cases hd
  · show (-10000 : Int) ≤ 1 ∧ (1 : Int) ≤ 10000 ∧ (1 : Int) ≠ 0
    decide
  · have h1 := h rfl
    have h2 := clamp_rng (v := d) (lo := -10000) (hi := 10000) (by omega)
    refine ⟨h2.1, h2.2, ?_⟩
    unfold clamp
    simp only [cond_true]
    (repeat' split) <;> omega
theorem sLo_hi {st n : Int} (h0 : 0 ≤ n) : -1 ≤ sLo st ∧ sLo st ≤ 0 ∧ sHi st n ≤ n ∧ sLo st ≤ sHi st n := by
  unfold sLo sHi; (repeat' split) <;> omega
theorem sStart_rng {st a n : Int} {ha : Bool} (h0 : 0 ≤ n) : sLo st ≤ sStart st a n ha ∧ sStart st a n ha ≤ sHi st n := by
  obtain ⟨h1, h2, h3, h4⟩ := sLo_hi (st := st) h0
  unfold sStart
  cases ha
  · simp only [cond_false]; split <;> omega
  · exact clamp_rng h4
theorem sStop_rng {st a n : Int} {ha : Bool} (h0 : 0 ≤ n) : sLo st ≤ sStop st a n ha ∧ sStop st a n ha ≤ sHi st n := by
  obtain ⟨h1, h2, h3, h4⟩ := sLo_hi (st := st) h0
  unfold sStop
  cases ha
  · simp only [cond_false]; split <;> omega
  · exact clamp_rng h4
theorem Resolve_tail {st f t : Int} (h1 : -10000 ≤ st) (h2 : st ≤ 10000) (h3 : st ≠ 0) (f1 : -1 ≤ f) (f2 : f ≤ 4000) (t1 : -1 ≤ t) (t2 : t ≤ 4000) :
    (bif decide (st < 0) then (bif !decide (w64 (0 - st) = 0) then (let c13 := mxI 0 (w64 (Int.tdiv (w64 ((w64 ((w64 (f - t)) - st)) - 1)) (w64 (0 - st)))); some (f, st, c13, ((0 : Int), (0 : Int)))) else none) else (bif !decide (st = 0) then (let c14 := mxI 0 (w64 (Int.tdiv (w64 ((w64 ((w64 (t - f)) + st)) - 1)) st)); some (f, st, c14, (0, 0))) else none)) = some (f, st, sCount st f t, 0, 0) := by
  unfold sCount
  by_cases hs : st < 0
  · have e1 : w64 (0 - st) = -st := by rw [w64_id (by omega) (by omega)]; omega
    have e2 : w64 (w64 (w64 (f - t) - st) - 1) = (f - t) + -st - 1 := by rw [w64_id (n := f - t) (by omega) (by omega), w64_id (n := f - t - st) (by omega) (by omega), w64_id (by omega) (by omega)]; omega
    have hb : Int.natAbs (Int.tdiv (f - t + -st - 1) (-st)) ≤ (f - t + -st - 1).natAbs := Int.natAbs_tdiv_le_natAbs _ _
    rw [decide_eq_true hs, e1, e2, decide_eq_false (show ¬ (-st = 0) by omega), if_pos hs, w64_id (n := Int.tdiv (f - t + -st - 1) (-st)) (by omega) (by omega), steps_tdiv (by omega)]
    rfl
  · have e2 : w64 (w64 (w64 (t - f) + st) - 1) = (t - f) + st - 1 := by rw [w64_id (n := t - f) (by omega) (by omega), w64_id (n := t - f + st) (by omega) (by omega), w64_id (by omega) (by omega)]
    have hb : Int.natAbs (Int.tdiv (t - f + st - 1) st) ≤ (t - f + st - 1).natAbs := Int.natAbs_tdiv_le_natAbs _ _
    rw [decide_eq_false hs, e2, decide_eq_false h3, if_neg hs, w64_id (n := Int.tdiv (t - f + st - 1) st) (by omega) (by omega), steps_tdiv (by omega)]
    rfl
theorem Resolve_no {k : Nat} {s : Sl} {n : Int} {f : Int × Int} (h : slicing_Check s = some f) (hf : f.1 ≠ 0) : slicing_Resolve k s n = some (0, 0, 0, f) := by
  unfold slicing_Resolve
  rw [h, Option.bind_some, bne_t hf]; rfl
theorem Resolve_range {k : Nat} {s : Sl} {n : Int} (h : slicing_Check s = some (0, 0)) (hn : n < 0 ∨ 4000 < n) : slicing_Resolve k s n = some (0, 0, 0, 4, -2) := by
  unfold slicing_Resolve
  rw [h, Option.bind_some]
  by_cases h1 : n < 0
  · rw [decide_eq_true h1]; rfl
  · rw [decide_eq_false h1, decide_eq_true (show 4000 < n by omega)]; rfl
theorem Resolve_ok {k : Nat} (hk : 2000 < k) {a b d n : Int} {ha hb hd : Bool} (va : a.natAbs < ilim) (vb : b.natAbs < ilim) (vd : d.natAbs < ilim) (h0 : 0 ≤ n) (hn : n ≤ 4000) (hc : slicing_Check (sz a b d ha hb hd) = some (0, 0)) (hd0 : hd = true → d ≠ 0) :
    slicing_Resolve k (sz a b d ha hb hd) n = some (sStart (sStep d hd) a n ha, sStep d hd, sCount (sStep d hd) (sStart (sStep d hd) a n ha) (sStop (sStep d hd) b n hb), 0, 0) := by
  obtain ⟨r1, r2, r3⟩ := sStep_rng hd0
  obtain ⟨l1, l2, l3, l4⟩ := sLo_hi (st := sStep d hd) h0
  have rs := sStart_rng (st := sStep d hd) (a := a) (ha := ha) h0
  have rt := sStop_rng (st := sStep d hd) (a := b) (ha := hb) h0
  have hT := Resolve_tail r1 r2 r3 (f := sStart (sStep d hd) a n ha) (t := sStop (sStep d hd) b n hb) (by omega) (by omega) (by omega) (by omega)
  have e1 : w64 (n - 1) = n - 1 := w64_id (by omega) (by omega)
  unfold slicing_Resolve
  rw [hc]
  simp only [Option.bind_some, bne_self_eq_false, cond_false]
  rw [decide_eq_false (show ¬ n < 0 by omega), decide_eq_false (show ¬ 4000 < n by omega)]
  simp only [cond_false, joinB_inl, sz]
  -- the step
  have key : ∀ st : Int, st = sStep d hd → (joinB (α := Int × Sl × Int × (Int × Int) × Int × Int) (bif decide (st < 0) then (some (.inl (n, sz a b d ha hb hd, st, ((0 : Int), (0 : Int)), (-1), w64 (n - 1)))) else (some (.inl (n, sz a b d ha hb hd, st, (0, 0), 0, n)))) (fun z7 => joinB (α := Int × ((Bool × List Int) × (Bool × List Int) × (Bool × List Int) × Bool × Bool × Bool) × Int × Int × (Int × Int) × Int × Int × Int) (bif decide (z7.2.2.1 < 0) then (some (.inl (z7.1, z7.2.1, z7.2.2.2.2.2, z7.2.2.1, z7.2.2.2.1, z7.2.2.2.2.1, z7.2.2.2.2.2, z7.2.2.2.2.1))) else (some (.inl (z7.1, z7.2.1, z7.2.2.2.2.1, z7.2.2.1, z7.2.2.2.1, z7.2.2.2.2.1, z7.2.2.2.2.2, z7.2.2.2.2.2)))) (fun z8 => joinB (α := Int × ((Bool × List Int) × (Bool × List Int) × (Bool × List Int) × Bool × Bool × Bool) × Int × Int × (Int × Int) × Int × Int × Int) (bif z8.2.1.2.2.2.1 then ((slicing_end k z8.2.1.1 z8.1 z8.2.2.2.2.2.1 z8.2.2.2.2.2.2.1).bind fun t9 => some (.inl (z8.1, z8.2.1, t9, z8.2.2.2.1, z8.2.2.2.2.1, z8.2.2.2.2.2.1, z8.2.2.2.2.2.2.1, z8.2.2.2.2.2.2.2))) else (some (.inl (z8.1, z8.2.1, z8.2.2.1, z8.2.2.2.1, z8.2.2.2.2.1, z8.2.2.2.2.2.1, z8.2.2.2.2.2.2.1, z8.2.2.2.2.2.2.2)))) (fun z10 => joinB (α := Int × Int × (Int × Int) × Int) (bif z10.2.1.2.2.2.2.1 then ((slicing_end k z10.2.1.2.1 z10.1 z10.2.2.2.2.2.1 z10.2.2.2.2.2.2.1).bind fun t11 => some (.inl (z10.2.2.1, z10.2.2.2.1, z10.2.2.2.2.1, t11))) else (some (.inl (z10.2.2.1, z10.2.2.2.1, z10.2.2.2.2.1, z10.2.2.2.2.2.2.2)))) (fun z12 => bif decide (z12.2.1 < 0) then (bif !decide (w64 (0 - z12.2.1) = 0) then (let c13 := mxI 0 (w64 (Int.tdiv (w64 ((w64 ((w64 (z12.1 - z12.2.2.2)) - z12.2.1)) - 1)) (w64 (0 - z12.2.1)))); some (z12.1, z12.2.1, c13, ((0 : Int), (0 : Int)))) else none) else (bif !decide (z12.2.1 = 0) then (let c14 := mxI 0 (w64 (Int.tdiv (w64 ((w64 ((w64 (z12.2.2.2 - z12.1)) + z12.2.1)) - 1)) z12.2.1)); some (z12.1, z12.2.1, c14, (0, 0))) else none)) some) some) some) some) = some (sStart (sStep d hd) a n ha, sStep d hd, sCount (sStep d hd) (sStart (sStep d hd) a n ha) (sStop (sStep d hd) b n hb), 0, 0) := by
    intro st hst
    rw [← hst] at hT l1 l2 l3 l4 rs rt ⊢
    rw [e1]
    have m1 : (bif decide (st < 0) then (some (.inl (n, sz a b d ha hb hd, st, ((0 : Int), (0 : Int)), (-1), n - 1))) else (some (.inl (n, sz a b d ha hb hd, st, (0, 0), 0, n))) : Option ((Int × Sl × Int × (Int × Int) × Int × Int) ⊕ (Int × Int × Int × Int × Int))) = some (.inl (n, sz a b d ha hb hd, st, (0, 0), sLo st, sHi st n)) := by
      unfold sLo sHi
      by_cases h : st < 0
      · rw [decide_eq_true h, if_pos h, if_pos h]; rfl
      · rw [decide_eq_false h, if_neg h, if_neg h]; rfl
    rw [m1]
    simp only [joinB_inl]
    have m2 : ∀ (s' : Sl) (f' : Int × Int), (bif decide (st < 0) then (some (.inl (n, s', sHi st n, st, f', sLo st, sHi st n, sLo st))) else (some (.inl (n, s', sLo st, st, f', sLo st, sHi st n, sHi st n))) : Option ((Int × Sl × Int × Int × (Int × Int) × Int × Int × Int) ⊕ (Int × Int × Int × Int × Int))) = some (.inl (n, s', (if st < 0 then sHi st n else sLo st), st, f', sLo st, sHi st n, (if st < 0 then sLo st else sHi st n))) := by
      intro s' f'
      by_cases h : st < 0
      · rw [decide_eq_true h, if_pos h, if_pos h]; rfl
      · rw [decide_eq_false h, if_neg h, if_neg h]; rfl
    rw [m2]
    simp only [joinB_inl, sz]
    have eA := end_ok hk va h0 hn l1 l3 l4
    have eB := end_ok hk vb h0 hn l1 l3 l4
    unfold sStart sStop at hT
    unfold sStart sStop
    cases ha <;> cases hb <;> simp only [cond_true, cond_false, Option.bind_some, joinB_inl, eA, eB] at hT ⊢ <;> exact hT
  cases hd
  · exact key 1 rfl
  · rw [bounded_ok hk vd (by omega) (by omega) (by omega)]
    exact key _ rfl
def places (f st : Int) (c : Nat) : List Int := (List.range c).map fun i : Nat => f + (i : Int) * st
theorem places_length (f st : Int) (c : Nat) : (places f st c).length = c := by unfold places; simp
theorem places_cons (f st : Int) (c : Nat) : f :: places (f + st) st c = places f st (c + 1) := by
  unfold places
  rw [List.range_succ_eq_map, List.map_cons, List.map_map]
  congr 1
  · simp
  · apply List.map_congr_left
    intro i _
    show f + st + (i : Int) * st = f + ((i + 1 : Nat) : Int) * st
    rw [Int.natCast_add, Int.add_mul]; omega
theorem Places_up (k : Nat) {st stop : Int} (hst : 0 < st) (h10 : st ≤ 10000) (hs : stop ≤ 4000) (a : Int) : ∀ (m : Nat) (acc : List Int) (at' : Int), -1 ≤ at' → at' ≤ 20000 → (acc.length : Int) + steps (stop - at') st ≤ 10000 → (steps (stop - at') st).toNat < m →
    ∃ l : List Int, brindlewoodref3_Places.l0 k m a st acc stop at' = some (.inl (a, st, l)) ∧ (l.length : Int) = acc.length + steps (stop - at') st ∧ ∃ c, l = acc ++ places at' st c := by
  intro m
  induction m with
  | zero => intro acc at' _ _ _ h; omega
  | succ m ih =>
    intro acc at' h1 h2 h3 h4
    simp only [brindlewoodref3_Places.l0, brindlewoodref3_Places.b0]
    rw [dlt_t hst, dlt_f (show 0 ≤ st by omega)]
    simp only [cond_true, cond_false]
    by_cases h : at' < stop
    · have e := steps_step (x := stop - at') (d := st) (by omega) hst
      have n1 := (steps_nn (x := stop - at' - st) hst).1
      have ew : w64 (at' + st) = at' + st := w64_id (by omega) (by omega)
      have e2 : stop - (at' + st) = stop - at' - st := by omega
      rw [dlt_t h, fits_t (by simp only [List.length_singleton]; omega), ew]
      simp only [cond_true]
      obtain ⟨l, g1, g2, c, g3⟩ := ih (acc ++ [at']) (at' + st) (by omega) (by omega) (by rw [e2, List.length_append, List.length_singleton]; omega) (by rw [e2]; omega)
      refine ⟨l, g1, ?_, c + 1, by rw [g3, List.append_assoc, ← places_cons]; rfl⟩
      rw [g2, e2, List.length_append, List.length_singleton]; omega
    · rw [dlt_f (by omega)]
      refine ⟨acc, rfl, ?_, 0, by simp [places]⟩
      have : steps (stop - at') st = 0 := by unfold steps; rw [if_pos (by omega)]
      omega
theorem Places_down (k : Nat) {st stop : Int} (hst : st < 0) (h10 : -10000 ≤ st) (hs : -1 ≤ stop) (a : Int) : ∀ (m : Nat) (acc : List Int) (at' : Int), -20000 ≤ at' → at' ≤ 20000 → (acc.length : Int) + steps (at' - stop) (-st) ≤ 10000 → (steps (at' - stop) (-st)).toNat < m →
    ∃ l : List Int, brindlewoodref3_Places.l0 k m a st acc stop at' = some (.inl (a, st, l)) ∧ (l.length : Int) = acc.length + steps (at' - stop) (-st) ∧ ∃ c, l = acc ++ places at' st c := by
  intro m
  induction m with
  | zero => intro acc at' _ _ _ h; omega
  | succ m ih =>
    intro acc at' h1 h2 h3 h4
    simp only [brindlewoodref3_Places.l0, brindlewoodref3_Places.b0]
    rw [dlt_f (show st ≤ 0 by omega), dlt_t hst]
    simp only [cond_true, cond_false]
    by_cases h : stop < at'
    · have e := steps_step (x := at' - stop) (d := -st) (by omega) (by omega)
      have n1 := (steps_nn (x := at' - stop - -st) (d := -st) (by omega)).1
      have ew : w64 (at' + st) = at' + st := w64_id (by omega) (by omega)
      have e2 : at' + st - stop = at' - stop - -st := by omega
      rw [dlt_t h, fits_t (by simp only [List.length_singleton]; omega), ew]
      simp only [cond_true]
      obtain ⟨l, g1, g2, c, g3⟩ := ih (acc ++ [at']) (at' + st) (by omega) (by omega) (by rw [e2, List.length_append, List.length_singleton]; omega) (by rw [e2]; omega)
      refine ⟨l, g1, ?_, c + 1, by rw [g3, List.append_assoc, ← places_cons]; rfl⟩
      rw [g2, e2, List.length_append, List.length_singleton]; omega
    · rw [dlt_f (by omega)]
      refine ⟨acc, rfl, ?_, 0, by simp [places]⟩
      have : steps (at' - stop) (-st) = 0 := by unfold steps; rw [if_pos (by omega)]
      omega
theorem Places_l0_ok {k : Nat} (hk : 20000 < k) {st f t a : Int} (h1 : -10000 ≤ st) (h2 : st ≤ 10000) (h3 : st ≠ 0) (f1 : -1 ≤ f) (f2 : f ≤ 4000) (t1 : -1 ≤ t) (t2 : t ≤ 4000) : ∃ l : List Int, brindlewoodref3_Places.l0 k k a st [] t f = some (.inl (a, st, l)) ∧ (l.length : Int) = sCount st f t ∧ ∃ c, l = places f st c := by
  unfold sCount
  by_cases hs : st < 0
  · rw [if_pos hs]
    have n1 := steps_nn (x := f - t) (d := -st) (by omega)
    have n2 : steps (f - t) (-st) ≤ 4001 := by
      by_cases h : 0 ≤ f - t
      · have := n1.2 h; omega
      · unfold steps; rw [if_pos (by omega)]; omega
    obtain ⟨l, g1, g2, c, g3⟩ := Places_down k hs h1 t1 a k [] f (by omega) (by omega) (by simp only [List.length_nil]; omega) (by omega)
    exact ⟨l, g1, by rw [g2]; simp, c, g3⟩
  · rw [if_neg hs]
    have n1 := steps_nn (x := t - f) (d := st) (by omega)
    have n2 : steps (t - f) st ≤ 4001 := by
      by_cases h : 0 ≤ t - f
      · have := n1.2 h; omega
      · unfold steps; rw [if_pos (by omega)]; omega
    obtain ⟨l, g1, g2, c, g3⟩ := Places_up k (show 0 < st by omega) h2 t2 a k [] f (by omega) (by omega) (by simp only [List.length_nil]; omega) (by omega)
    exact ⟨l, g1, by rw [g2]; simp, c, g3⟩
theorem Places_ok {k : Nat} (hk : 100000000000000 < k) {a b d n : Int} {ha hb hd : Bool} (va : a.natAbs < ilim) (vb : b.natAbs < ilim) (vd : d.natAbs < ilim) (h0 : 0 ≤ n) (hn : n ≤ 4000) (hd0 : hd = true → d ≠ 0) :
    ∃ l : List Int, brindlewoodref3_Places k (sz a b d ha hb hd) n = some (sStart (sStep d hd) a n ha, sStep d hd, l) ∧ (l.length : Int) = sCount (sStep d hd) (sStart (sStep d hd) a n ha) (sStop (sStep d hd) b n hb) ∧ ∃ c, l = places (sStart (sStep d hd) a n ha) (sStep d hd) c := by
  obtain ⟨r1, r2, r3⟩ := sStep_rng hd0
  obtain ⟨l1, l2, l3, l4⟩ := sLo_hi (st := sStep d hd) h0
  have rs := sStart_rng (st := sStep d hd) (a := a) (ha := ha) h0
  have rt := sStop_rng (st := sStep d hd) (a := b) (ha := hb) h0
  obtain ⟨l, g1, g2, g3⟩ := Places_l0_ok (k := k) (by omega) r1 r2 r3 (f := sStart (sStep d hd) a n ha) (t := sStop (sStep d hd) b n hb) (a := sStart (sStep d hd) a n ha) (by omega) (by omega) (by omega) (by omega)
  refine ⟨l, ?_, g2, g3⟩
  have e1 : w64 (n - 1) = n - 1 := w64_id (by omega) (by omega)
  have hstep : (bif hd then ((brindlewoodref3_IntOf k (iz d)).bind fun t1 => (brindlewoodref3_near k t1 (-10000) 10000).bind fun t2 => some (.inl (n, sz a b d ha hb hd, t2, []))) else (some (.inl (n, sz a b d ha hb hd, 1, []))) : Option ((Int × Sl × Int × List Int) ⊕ (Int × Int × List Int))) = some (.inl (n, sz a b d ha hb hd, sStep d hd, [])) := by
    cases hd
    · rfl
    · rw [IntOf_ok (by omega) vd]
      simp only [Option.bind_some, cond_true]
      have := small16 vd
      rw [near_ok (by omega) (rz_RI d) (by omega) (by omega) (by omega) (by omega)]; rfl
  unfold brindlewoodref3_Places
  have hstep' : (bif (sz a b d ha hb hd).2.2.2.2.2 then ((brindlewoodref3_IntOf k (sz a b d ha hb hd).2.2.1).bind fun t1 => (brindlewoodref3_near k t1 (-10000) 10000).bind fun t2 => some (.inl (n, sz a b d ha hb hd, t2, []))) else (some (.inl (n, sz a b d ha hb hd, 1, []))) : Option ((Int × Sl × Int × List Int) ⊕ (Int × Int × List Int))) = _ := hstep
  rw [hstep']
  generalize sStep d hd = st at *
  simp only [joinB_inl]
  rw [e1]
  have m1 : (bif decide (st < 0) then (some (.inl (n, sz a b d ha hb hd, st, ([] : List Int), (-1), n - 1))) else (some (.inl (n, sz a b d ha hb hd, st, [], 0, n))) : Option ((Int × Sl × Int × List Int × Int × Int) ⊕ (Int × Int × List Int))) = some (.inl (n, sz a b d ha hb hd, st, [], sLo st, sHi st n)) := by
    unfold sLo sHi
    by_cases h : st < 0
    · rw [decide_eq_true h, if_pos h, if_pos h]; rfl
    · rw [decide_eq_false h, if_neg h, if_neg h]; rfl
  rw [m1]
  simp only [joinB_inl]
  have m2 : ∀ (s' : Sl) (f' : List Int), (bif decide (st < 0) then (some (.inl (n, s', sHi st n, st, f', sLo st, sHi st n, sLo st))) else (some (.inl (n, s', sLo st, st, f', sLo st, sHi st n, sHi st n))) : Option ((Int × Sl × Int × Int × List Int × Int × Int × Int) ⊕ (Int × Int × List Int))) = some (.inl (n, s', (if st < 0 then sHi st n else sLo st), st, f', sLo st, sHi st n, (if st < 0 then sLo st else sHi st n))) := by
    intro s' f'
    by_cases h : st < 0
    · rw [decide_eq_true h, if_pos h, if_pos h]; rfl
    · rw [decide_eq_false h, if_neg h, if_neg h]; rfl
  rw [m2]
  simp only [joinB_inl, sz]
  have eA := endAt_ok hk va h0 hn (by omega) (by omega) l4
  have eB := endAt_ok hk vb h0 hn (by omega) (by omega) l4
  unfold sStart sStop at g1
  unfold sStart
  cases ha <;> cases hb <;> simp only [cond_true, cond_false, Option.bind_some, joinB_inl, eA, eB] at g1 ⊢ <;> rw [g1] <;> rfl
end Go.Pl
