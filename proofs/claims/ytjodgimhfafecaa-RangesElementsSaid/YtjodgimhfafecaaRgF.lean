/- RangesElements: its plain function answers true.  Conditions: values within their kinds, lists no longer than memory. -/
import Derived.Test.YtjodgimhfafecaaRgC
set_option linter.unusedVariables false
set_option linter.unusedSimpArgs false
namespace Go.Pl
open Go Go.Ev Go.Sh

theorem lim16r : lim = 65536 ^ (2 * e600) := by
  have h := Nat.pow_mul 65536 2 e600
  rw [show 65536 ^ 2 = 4294967296 by decide] at h
  rw [lim_def, h]
theorem lim_len16 {n : Nat} (h : n < lim) : ((dg 65536 n).length : Int) ≤ 1200 := by
  have h1 : (dg 65536 n).length ≤ 2 * e600 := dg_len hB16 (by rw [← lim16r]; exact h)
  have := e600_eq
  omega

/-! ### The first elements -/
def vals (s d : Int) (m : Nat) : List (Bool × List Int) := (List.range m).map fun i : Nat => iz (s + d * i)
theorem vals_succ (s d : Int) (m : Nat) : vals s d (m + 1) = vals s d m ++ [iz (s + d * m)] := by
  unfold vals
  rw [List.range_succ, List.map_append]; rfl
theorem vals_len (s d : Int) (m : Nat) : (vals s d m).length = m := by unfold vals; simp
theorem vals_at (s d : Int) {m i : Nat} (h : i < m) : nth IT (vals s d m) (i : Int) = iz (s + d * i) := by
  show (vals s d m).getD i _ = _
  unfold vals
  simp [List.getD, h]

theorem Values_l0 (k : Nat) (hk : 20000000000 < k) {s t d : Int} (h : RV s t d) {m : Nat} (hm : (m : Int) ≤ 4000) (hmc : (m : Int) ≤ cnt s t d) (f : Int × Int) : ∀ (n i : Nat), m - i < n → i ≤ m →
    ranges_Values.l0 k n (rz s t d) f (vals s d i) m i = some (.inl (f, vals s d m)) := by
  obtain ⟨h1, h2, h3, h4⟩ := RV_le h
  intro n
  induction n with
  | zero => intro i h; omega
  | succ n ih =>
    intro i g1 g2
    simp only [ranges_Values.l0, ranges_Values.b0]
    by_cases hi : i < m
    · have e1 : w64 ((i : Int) + 1) = ((i + 1 : Nat) : Int) := by rw [w64_id (by omega) (by omega)]; omega
      have he := relement_ok hk h1 h2 h3 h4 (i := (i : Int)) (by omega) (by omega)
      have he' : ranges_element k (rz s t d) (iz (i : Int)) = _ := he
      rw [dlt_t (by omega), iOf_ok (by omega) (by omega) (by omega)]
      simp only [cond_true, Option.bind_some]
      rw [he', e1]
      simp only [Option.bind_some, List.length_singleton]
      rw [fits_t (by rw [vals_len]; omega)]
      simp only [cond_true]
      rw [← vals_succ]
      exact ih (i + 1) (by omega) (by omega)
    · have : i = m := by omega
      subst this
      rw [dlt_f (by omega)]; rfl

/-- how many elements are returned -/
def vcount (s t d most : Int) : Nat := (if cnt s t d < most then cnt s t d else most).toNat
theorem rValues_ok {k : Nat} (hk : 20000000000 < k) {s t d most : Int} (h : RV s t d) (hm : most ≤ 9223372036854775807) : ranges_Values k (rz s t d) most = some (if most < 0 ∨ 4000 < most then ([], 4, -2) else (vals s d (vcount s t d most), 0, 0)) := by
  have hc := cnt_rlim h
  have hcl : (cnt s t d).natAbs < ilim := small_ilim (by omega)
  unfold ranges_Values
  rw [rcheck1 (by omega) h]
  simp only [Option.bind_some, bne_self_eq_false, cond_false]
  by_cases h1 : most < 0
  · rw [dlt_t h1, if_pos (.inl h1)]; rfl
  · rw [dlt_f (by omega)]
    by_cases h2 : 4000 < most
    · rw [dlt_t h2, if_pos (.inr h2)]; rfl
    · rw [dlt_f (by omega), if_neg (by omega)]
      simp only [cond_false, joinB_inl]
      rw [rlen hk h]
      simp only [Option.bind_some]
      rw [iSmall_ok (by omega) hcl]
      simp only [Option.bind_some]
      have hV : (vcount s t d most : Int) = (if cnt s t d < most then cnt s t d else most) := by unfold vcount; split <;> omega
      have hj : (bif ((ismall (cnt s t d)).2.1 == 0) then (bif decide ((ismall (cnt s t d)).1 < most) then (some (.inl ((ismall (cnt s t d)).1, rz s t d, ((0, 0) : Int × Int)))) else (some (.inl (most, rz s t d, (0, 0))))) else (some (.inl (most, rz s t d, (0, 0)))) : Option ((Int × Rg × Int × Int) ⊕ ((List (Bool × List Int)) × Int × Int))) = some (.inl ((vcount s t d most : Int), rz s t d, (0, 0))) := by
        rw [hV]
        unfold ismall
        by_cases h3 : -9223372036854775808 ≤ cnt s t d ∧ cnt s t d ≤ 9223372036854775807
        · rw [if_pos h3]
          simp only [beq_self_eq_true, cond_true]
          by_cases h4 : cnt s t d < most
          · rw [decide_eq_true h4, if_pos h4]; rfl
          · rw [decide_eq_false h4, if_neg h4]; rfl
        · rw [if_neg h3, if_neg (by omega)]; rfl
      rw [hj, joinB_inl]
      simp only
      have hL := Values_l0 k hk h (m := vcount s t d most) (by rw [hV]; split <;> omega) (by rw [hV]; split <;> omega) (0, 0) k 0 (by omega) (by omega)
      have hL' : ranges_Values.l0 k k (rz s t d) (0, 0) [] (vcount s t d most : Int) 0 = _ := hL
      rw [hL']; rfl

/-! ### The reference -/
theorem Element_ok {k : Nat} (hk : 100000000000000 < k) {A S C L I : Bool × List Int} {s d i : Int} (hA : RI A s) (hS : RI S d) (hI : RI I i) (bs : s.natAbs ≤ 8 * rlim) (bd : d.natAbs ≤ 8 * rlim) (bi : i.natAbs ≤ 7 * rlim) : ∃ E, brindlewoodref3_Range_Element k (A, S, C, L) I = some E ∧ RI E (s + d * i) := by
  have q1 : ∀ x : Int, x.natAbs < ilim → ((dg 65536 x.natAbs).length : Int) ≤ 1000000 := fun x hx => by have := rlen16 hx; omega
  obtain ⟨a, a1, a2⟩ := rTimes_ok hk hS hI (q1 _ (small_ilim (by omega))) (q1 _ (small_ilim (by omega)))
  obtain ⟨b, b1, b2⟩ := rPlus_ok hk hA a2 (q1 _ (small_ilim (by omega))) (q1 _ (abs_mul_ilim bd bi))
  unfold brindlewoodref3_Range_Element
  simp only
  rw [a1]
  simp only [Option.bind_some]
  rw [b1]
  exact ⟨b, rfl, b2⟩

theorem Has_ok {k : Nat} (hk : 100000000000000 < k) {A S C L V : Bool × List Int} {s t d v : Int} (hA : RI A s) (hS : RI S d) (hC : RI C (cnt s t d)) (hV : RI V v) (h : RV s t d) (hv : v.natAbs < ilim) : brindlewoodref3_Range_Has k (A, S, C, L) V = some (decide (ir (v - s) d = 0 ∧ 0 ≤ iq (v - s) d ∧ iq (v - s) d < cnt s t d)) := by
  obtain ⟨h1, h2, h3, h4⟩ := RV_le h
  have hc := cnt_rlim h
  have q1 : ∀ x : Int, x.natAbs < lim → ((dg 65536 x.natAbs).length : Int) ≤ 90000 := fun x hx => by have := lim_len16 hx; omega
  have hsl := rlim_ilim h.1
  have h2l := ilim_two
  have hil : 1 < ilim := ilim_iff.1 (by decide)
  obtain ⟨m, m1, m2⟩ := rMinus_ok hA
  obtain ⟨g, g1, g2⟩ := rPlus_ok hk hV m2 (by have := q1 v (by omega); omega) (by have := q1 (-s) (by omega); omega)
  rw [← Int.sub_eq_add_neg] at g2
  obtain ⟨q, r, f1, f2, f3⟩ := Floor_ok hk g2 hS h4 (q1 _ (by omega)) (q1 _ (by have := rlim_ilim h.2.2.1; omega))
  have hqb : (iq (v - s) d).natAbs < lim := by
    have h5 : (v - s).natAbs < ilim + rlim := by have := h.1; omega
    have h6 := iq_abs (x := v - s) h4
    have h7 := Nat.div_le_self (v - s).natAbs d.natAbs
    have h8 := rlim_mul.2
    split at h6 <;> omega
  have hcl : (cnt s t d).natAbs < lim := by have := small_ilim (x := cnt s t d) (by omega); omega
  unfold brindlewoodref3_Range_Has
  simp only
  rw [m1]
  simp only [Option.bind_some]
  rw [g1]
  simp only [Option.bind_some]
  rw [f1]
  simp only [Option.bind_some]
  rw [RI_zero_len f3, iOrder_ok (by omega) f2 hC (by have := q1 _ hqb; omega) (by have := q1 _ hcl; omega)]
  have hlt : decide (sgn (iq (v - s) d) (cnt s t d) < 0) = decide (iq (v - s) d < cnt s t d) := by
    apply decide_eq_decide.2
    unfold sgn
    split
    · constructor <;> intro <;> omega
    · split <;> constructor <;> intro <;> omega
  obtain ⟨B, hB⟩ : ∃ B, B = decide (ir (v - s) d = 0 ∧ 0 ≤ iq (v - s) d ∧ iq (v - s) d < cnt s t d) := ⟨_, rfl⟩
  rw [← hB]
  simp only [Option.bind_some]
  rw [hlt]
  by_cases hr : ir (v - s) d = 0
  · rw [decide_eq_true hr]
    simp only [cond_true]
    have key : 0 ≤ iq (v - s) d → decide (iq (v - s) d < cnt s t d) = B := fun h0 => by
      rw [hB]
      apply decide_eq_decide.2
      constructor
      · intro h5; exact ⟨hr, h0, h5⟩
      · intro h5; exact h5.2.2
    cases hq1 : q.1 with
    | false =>
      have h0 : 0 ≤ iq (v - s) d := by
        by_cases h5 : iq (v - s) d = 0
        · omega
        · have := f2.2 h5; rw [hq1] at this
          have : ¬ iq (v - s) d < 0 := by simpa using this.symm
          omega
      rw [key h0]; rfl
    | true =>
      simp only [cond_true]
      rw [RI_pos_len f2]
      by_cases h5 : iq (v - s) d = 0
      · rw [decide_eq_false (fun hn => hn h5)]
        rw [key (by omega)]; rfl
      · have := f2.2 h5
        rw [hq1] at this
        have hneg : iq (v - s) d < 0 := by simpa using this.symm
        rw [decide_eq_true h5]
        have : B = false := by rw [hB]; exact decide_eq_false fun hz => by omega
        rw [this]; rfl
  · rw [decide_eq_false hr]
    have : B = false := by rw [hB]; exact decide_eq_false fun hz => hr hz.1
    rw [this]; rfl

/-! ### The law's parts -/
abbrev RefRg := (Bool × List Int) × (Bool × List Int) × (Bool × List Int) × (Bool × List Int)
def el44 (k : Nat) (z44 : Int × (List (Bool × List Int)) × (Int × Int) × (Bool × List Int) × (Bool × List Int) × (Bool × List Int) × Bool × List Int) : Option Bool :=
  joinB (α := Int × (List (Bool × List Int)) × (Int × Int) × (Bool × List Int) × (Bool × List Int) × (Bool × List Int) × Bool × List Int) (bif decide (z44.1 < 0) then ((brindlewoodref3_At 4 (-2)).bind fun t45 => bif ((z44.2.2.1.1 == t45.1) && ((z44.2.2.1.2 == t45.2) && true)) then (some (.inr ((z44.2.1.length : Int) == 0))) else (some (.inr false))) else (bif decide (4000 < z44.1) then ((brindlewoodref3_At 4 (-2)).bind fun t46 => bif ((z44.2.2.1.1 == t46.1) && ((z44.2.2.1.2 == t46.2) && true)) then (some (.inr ((z44.2.1.length : Int) == 0))) else (some (.inr false))) else (some (.inl (z44.1, z44.2.1, z44.2.2.1, z44.2.2.2))))) (fun z47 => joinB (α := (List (Bool × List Int)) × (Int × Int) × ((Bool × List Int) × (Bool × List Int) × (Bool × List Int) × Bool × List Int) × Int) ((brindlewoodref3_Number k z47.1).bind fun t48 => (brindlewoodref3_Int_Order k z47.2.2.2.2.2.1 t48).bind fun t49 => bif decide (t49 < 0) then ((brindlewoodref3_Number k (z47.2.1.length : Int)).bind fun t50 => (brindlewoodref3_Int_Order k z47.2.2.2.2.2.1 t50).bind fun t51 => bif (t51 != 0) then (some (.inr false)) else (some (.inl (z47.2.1, z47.2.2.1, z47.2.2.2, (z47.2.1.length : Int))))) else (some (.inl (z47.2.1, z47.2.2.1, z47.2.2.2, z47.1)))) (fun z52 => joinB (α := (List (Bool × List Int)) × (Bool × List Int) × (Bool × List Int) × (Bool × List Int) × Bool × List Int) (bif (z52.2.1.1 != 0) then (some (.inr false)) else (bif ((z52.1.length : Int) != z52.2.2.2) then (some (.inr false)) else (some (.inl (z52.1, z52.2.2.1))))) (fun z53 => joinB (α := Unit) (brindlewoodlaw3_RangesElements.l0 k k z53.1 z53.2 0) (fun y57 => some true) some) some) some) some
def el31 (k : Nat) (z31 : Int × (Bool × List Int) × (Bool × List Int) × (Int × Int) × (List (Bool × List Int)) × (Int × Int) × (Bool × List Int) × (Bool × List Int) × (Bool × List Int) × Bool × List Int) : Option Bool :=
  joinB (α := Int × (List (Bool × List Int)) × (Int × Int) × (Bool × List Int) × (Bool × List Int) × (Bool × List Int) × Bool × List Int) ((brindlewoodref3_IntOk z31.2.1).bind fun t32 => bif (!t32) then ((brindlewoodref3_At 6 (-2)).bind fun t33 => bif (!((z31.2.2.2.1.1 == t33.1) && ((z31.2.2.2.1.2 == t33.2) && true))) then (some (.inr false)) else ((brindlewoodref3_NoInt z31.2.2.1).bind fun t34 => bif (!t34) then (some (.inr false)) else (some (.inl (z31.1, z31.2.2.2.2.1, z31.2.2.2.2.2.1, z31.2.2.2.2.2.2))))) else ((brindlewoodref3_IntOf k z31.2.1).bind fun t35 => (brindlewoodref3_Range_Has k z31.2.2.2.2.2.2 t35).bind fun t36 => bif (!t36) then ((brindlewoodref3_At 12 (-2)).bind fun t37 => bif (!((z31.2.2.2.1.1 == t37.1) && ((z31.2.2.2.1.2 == t37.2) && true))) then (some (.inr false)) else ((brindlewoodref3_NoInt z31.2.2.1).bind fun t38 => bif (!t38) then (some (.inr false)) else (some (.inl (z31.1, z31.2.2.2.2.1, z31.2.2.2.2.2.1, z31.2.2.2.2.2.2))))) else (bif (z31.2.2.2.1.1 != 0) then (some (.inr false)) else ((brindlewoodref3_IntOk z31.2.2.1).bind fun t39 => bif (!t39) then (some (.inr false)) else (bif z31.2.2.1.1 then (some (.inr false)) else ((brindlewoodref3_IntOf k z31.2.2.1).bind fun t40 => (brindlewoodref3_Range_Element k z31.2.2.2.2.2.2 t40).bind fun t41 => (brindlewoodref3_IntOf k z31.2.1).bind fun t42 => (brindlewoodref3_Int_Order k t41 t42).bind fun t43 => bif (t43 != 0) then (some (.inr false)) else (some (.inl (z31.1, z31.2.2.2.2.1, z31.2.2.2.2.2.1, z31.2.2.2.2.2.2))))))))) (fun z44 => joinB (α := Int × (List (Bool × List Int)) × (Int × Int) × (Bool × List Int) × (Bool × List Int) × (Bool × List Int) × Bool × List Int) (bif decide (z44.1 < 0) then ((brindlewoodref3_At 4 (-2)).bind fun t45 => bif ((z44.2.2.1.1 == t45.1) && ((z44.2.2.1.2 == t45.2) && true)) then (some (.inr ((z44.2.1.length : Int) == 0))) else (some (.inr false))) else (bif decide (4000 < z44.1) then ((brindlewoodref3_At 4 (-2)).bind fun t46 => bif ((z44.2.2.1.1 == t46.1) && ((z44.2.2.1.2 == t46.2) && true)) then (some (.inr ((z44.2.1.length : Int) == 0))) else (some (.inr false))) else (some (.inl (z44.1, z44.2.1, z44.2.2.1, z44.2.2.2))))) (fun z47 => joinB (α := (List (Bool × List Int)) × (Int × Int) × ((Bool × List Int) × (Bool × List Int) × (Bool × List Int) × Bool × List Int) × Int) ((brindlewoodref3_Number k z47.1).bind fun t48 => (brindlewoodref3_Int_Order k z47.2.2.2.2.2.1 t48).bind fun t49 => bif decide (t49 < 0) then ((brindlewoodref3_Number k (z47.2.1.length : Int)).bind fun t50 => (brindlewoodref3_Int_Order k z47.2.2.2.2.2.1 t50).bind fun t51 => bif (t51 != 0) then (some (.inr false)) else (some (.inl (z47.2.1, z47.2.2.1, z47.2.2.2, (z47.2.1.length : Int))))) else (some (.inl (z47.2.1, z47.2.2.1, z47.2.2.2, z47.1)))) (fun z52 => joinB (α := (List (Bool × List Int)) × (Bool × List Int) × (Bool × List Int) × (Bool × List Int) × Bool × List Int) (bif (z52.2.1.1 != 0) then (some (.inr false)) else (bif ((z52.1.length : Int) != z52.2.2.2) then (some (.inr false)) else (some (.inl (z52.1, z52.2.2.1))))) (fun z53 => joinB (α := Unit) (brindlewoodlaw3_RangesElements.l0 k k z53.1 z53.2 0) (fun y57 => some true) some) some) some) some) some
def el17 (k : Nat) (z17 : Int × (Bool × List Int) × (Bool × List Int) × (Bool × List Int) × (Int × Int) × (Bool × List Int) × (Int × Int) × (List (Bool × List Int)) × (Int × Int) × (Bool × List Int) × (Bool × List Int) × (Bool × List Int) × Bool × List Int) : Option Bool :=
  joinB (α := Int × (Bool × List Int) × (Bool × List Int) × (Int × Int) × (List (Bool × List Int)) × (Int × Int) × (Bool × List Int) × (Bool × List Int) × (Bool × List Int) × Bool × List Int) ((brindlewoodref3_IntOk z17.2.1).bind fun t18 => bif (!t18) then ((brindlewoodref3_At 6 (-2)).bind fun t19 => bif (!((z17.2.2.2.2.1.1 == t19.1) && ((z17.2.2.2.2.1.2 == t19.2) && true))) then (some (.inr false)) else ((brindlewoodref3_NoInt z17.2.2.2.1).bind fun t20 => bif (!t20) then (some (.inr false)) else (some (.inl (z17.1, z17.2.2.1, z17.2.2.2.2.2.1, z17.2.2.2.2.2.2.1, z17.2.2.2.2.2.2.2.1, z17.2.2.2.2.2.2.2.2.1, z17.2.2.2.2.2.2.2.2.2))))) else ((brindlewoodref3_IntOf k z17.2.1).bind fun t21 => joinB (α := Int × (Bool × List Int) × (Bool × List Int) × (Int × Int) × (Bool × List Int) × (Int × Int) × (List (Bool × List Int)) × (Int × Int) × ((Bool × List Int) × (Bool × List Int) × (Bool × List Int) × Bool × List Int) × Bool × List Int) (bif t21.1 then ((brindlewoodref3_Int_Plus k t21 z17.2.2.2.2.2.2.2.2.2.2.2.1).bind fun t22 => some (.inl (z17.1, z17.2.2.1, z17.2.2.2.1, z17.2.2.2.2.1, z17.2.2.2.2.2.1, z17.2.2.2.2.2.2.1, z17.2.2.2.2.2.2.2.1, z17.2.2.2.2.2.2.2.2.1, z17.2.2.2.2.2.2.2.2.2, t22))) else (some (.inl (z17.1, z17.2.2.1, z17.2.2.2.1, z17.2.2.2.2.1, z17.2.2.2.2.2.1, z17.2.2.2.2.2.2.1, z17.2.2.2.2.2.2.2.1, z17.2.2.2.2.2.2.2.2.1, z17.2.2.2.2.2.2.2.2.2, t21)))) (fun z23 => joinB (α := Int × (Bool × List Int) × (Bool × List Int) × (Int × Int) × (Bool × List Int) × (Int × Int) × (List (Bool × List Int)) × (Int × Int) × ((Bool × List Int) × (Bool × List Int) × (Bool × List Int) × Bool × List Int) × (Bool × List Int) × Bool) (bif z23.2.2.2.2.2.2.2.2.2.1 then (bif decide (0 < (z23.2.2.2.2.2.2.2.2.2.2.length : Int)) then (some (.inl (z23.1, z23.2.1, z23.2.2.1, z23.2.2.2.1, z23.2.2.2.2.1, z23.2.2.2.2.2.1, z23.2.2.2.2.2.2.1, z23.2.2.2.2.2.2.2.1, z23.2.2.2.2.2.2.2.2.1, z23.2.2.2.2.2.2.2.2.2, true))) else ((brindlewoodref3_Int_Order k z23.2.2.2.2.2.2.2.2.2 z23.2.2.2.2.2.2.2.2.1.2.2.1).bind fun t24 => some (.inl (z23.1, z23.2.1, z23.2.2.1, z23.2.2.2.1, z23.2.2.2.2.1, z23.2.2.2.2.2.1, z23.2.2.2.2.2.2.1, z23.2.2.2.2.2.2.2.1, z23.2.2.2.2.2.2.2.2.1, z23.2.2.2.2.2.2.2.2.2, decide (0 ≤ t24))))) else ((brindlewoodref3_Int_Order k z23.2.2.2.2.2.2.2.2.2 z23.2.2.2.2.2.2.2.2.1.2.2.1).bind fun t25 => some (.inl (z23.1, z23.2.1, z23.2.2.1, z23.2.2.2.1, z23.2.2.2.2.1, z23.2.2.2.2.2.1, z23.2.2.2.2.2.2.1, z23.2.2.2.2.2.2.2.1, z23.2.2.2.2.2.2.2.2.1, z23.2.2.2.2.2.2.2.2.2, decide (0 ≤ t25))))) (fun z26 => bif z26.2.2.2.2.2.2.2.2.2.2 then ((brindlewoodref3_At 4 (-2)).bind fun t27 => bif (!((z26.2.2.2.1.1 == t27.1) && ((z26.2.2.2.1.2 == t27.2) && true))) then (some (.inr false)) else ((brindlewoodref3_NoInt z26.2.2.1).bind fun t28 => bif (!t28) then (some (.inr false)) else (some (.inl (z26.1, z26.2.1, z26.2.2.2.2.1, z26.2.2.2.2.2.1, z26.2.2.2.2.2.2.1, z26.2.2.2.2.2.2.2.1, z26.2.2.2.2.2.2.2.2.1))))) else (bif (z26.2.2.2.1.1 != 0) then (some (.inr false)) else ((brindlewoodref3_Range_Element k z26.2.2.2.2.2.2.2.2.1 z26.2.2.2.2.2.2.2.2.2.1).bind fun t29 => (brindlewoodref3_SameInt k z26.2.2.1 t29).bind fun t30 => bif (!t30) then (some (.inr false)) else (some (.inl (z26.1, z26.2.1, z26.2.2.2.2.1, z26.2.2.2.2.2.1, z26.2.2.2.2.2.2.1, z26.2.2.2.2.2.2.2.1, z26.2.2.2.2.2.2.2.2.1)))))) (fun r => some (.inr r))) (fun r => some (.inr r)))) (fun z31 => joinB (α := Int × (List (Bool × List Int)) × (Int × Int) × (Bool × List Int) × (Bool × List Int) × (Bool × List Int) × Bool × List Int) ((brindlewoodref3_IntOk z31.2.1).bind fun t32 => bif (!t32) then ((brindlewoodref3_At 6 (-2)).bind fun t33 => bif (!((z31.2.2.2.1.1 == t33.1) && ((z31.2.2.2.1.2 == t33.2) && true))) then (some (.inr false)) else ((brindlewoodref3_NoInt z31.2.2.1).bind fun t34 => bif (!t34) then (some (.inr false)) else (some (.inl (z31.1, z31.2.2.2.2.1, z31.2.2.2.2.2.1, z31.2.2.2.2.2.2))))) else ((brindlewoodref3_IntOf k z31.2.1).bind fun t35 => (brindlewoodref3_Range_Has k z31.2.2.2.2.2.2 t35).bind fun t36 => bif (!t36) then ((brindlewoodref3_At 12 (-2)).bind fun t37 => bif (!((z31.2.2.2.1.1 == t37.1) && ((z31.2.2.2.1.2 == t37.2) && true))) then (some (.inr false)) else ((brindlewoodref3_NoInt z31.2.2.1).bind fun t38 => bif (!t38) then (some (.inr false)) else (some (.inl (z31.1, z31.2.2.2.2.1, z31.2.2.2.2.2.1, z31.2.2.2.2.2.2))))) else (bif (z31.2.2.2.1.1 != 0) then (some (.inr false)) else ((brindlewoodref3_IntOk z31.2.2.1).bind fun t39 => bif (!t39) then (some (.inr false)) else (bif z31.2.2.1.1 then (some (.inr false)) else ((brindlewoodref3_IntOf k z31.2.2.1).bind fun t40 => (brindlewoodref3_Range_Element k z31.2.2.2.2.2.2 t40).bind fun t41 => (brindlewoodref3_IntOf k z31.2.1).bind fun t42 => (brindlewoodref3_Int_Order k t41 t42).bind fun t43 => bif (t43 != 0) then (some (.inr false)) else (some (.inl (z31.1, z31.2.2.2.2.1, z31.2.2.2.2.2.1, z31.2.2.2.2.2.2))))))))) (fun z44 => joinB (α := Int × (List (Bool × List Int)) × (Int × Int) × (Bool × List Int) × (Bool × List Int) × (Bool × List Int) × Bool × List Int) (bif decide (z44.1 < 0) then ((brindlewoodref3_At 4 (-2)).bind fun t45 => bif ((z44.2.2.1.1 == t45.1) && ((z44.2.2.1.2 == t45.2) && true)) then (some (.inr ((z44.2.1.length : Int) == 0))) else (some (.inr false))) else (bif decide (4000 < z44.1) then ((brindlewoodref3_At 4 (-2)).bind fun t46 => bif ((z44.2.2.1.1 == t46.1) && ((z44.2.2.1.2 == t46.2) && true)) then (some (.inr ((z44.2.1.length : Int) == 0))) else (some (.inr false))) else (some (.inl (z44.1, z44.2.1, z44.2.2.1, z44.2.2.2))))) (fun z47 => joinB (α := (List (Bool × List Int)) × (Int × Int) × ((Bool × List Int) × (Bool × List Int) × (Bool × List Int) × Bool × List Int) × Int) ((brindlewoodref3_Number k z47.1).bind fun t48 => (brindlewoodref3_Int_Order k z47.2.2.2.2.2.1 t48).bind fun t49 => bif decide (t49 < 0) then ((brindlewoodref3_Number k (z47.2.1.length : Int)).bind fun t50 => (brindlewoodref3_Int_Order k z47.2.2.2.2.2.1 t50).bind fun t51 => bif (t51 != 0) then (some (.inr false)) else (some (.inl (z47.2.1, z47.2.2.1, z47.2.2.2, (z47.2.1.length : Int))))) else (some (.inl (z47.2.1, z47.2.2.1, z47.2.2.2, z47.1)))) (fun z52 => joinB (α := (List (Bool × List Int)) × (Bool × List Int) × (Bool × List Int) × (Bool × List Int) × Bool × List Int) (bif (z52.2.1.1 != 0) then (some (.inr false)) else (bif ((z52.1.length : Int) != z52.2.2.2) then (some (.inr false)) else (some (.inl (z52.1, z52.2.2.1))))) (fun z53 => joinB (α := Unit) (brindlewoodlaw3_RangesElements.l0 k k z53.1 z53.2 0) (fun y57 => some true) some) some) some) some) some) some

theorem law_l0 (k : Nat) (hk : 100000000000000 < k) {A S C L : Bool × List Int} {s t d : Int} (h : RV s t d) (hA : RI A s) (hS : RI S d) {m : Nat} (hm : (m : Int) ≤ 4000) (hmc : (m : Int) ≤ cnt s t d) : ∀ (n i : Nat), m - i < n → i ≤ m →
    brindlewoodlaw3_RangesElements.l0 k n (vals s d m) (A, S, C, L) i = some (.inl ()) := by
  obtain ⟨h1, h2, h3, h4⟩ := RV_le h
  have hp := rlim_big.1
  intro n
  induction n with
  | zero => intro i h; omega
  | succ n ih =>
    intro i g1 g2
    simp only [brindlewoodlaw3_RangesElements.l0, brindlewoodlaw3_RangesElements.b0]
    rw [vals_len]
    by_cases hi : i < m
    · have e1 : w64 ((i : Int) + 1) = ((i + 1 : Nat) : Int) := by rw [w64_id (by omega) (by omega)]; omega
      obtain ⟨I, I1, I2, _⟩ := num_ok (k := k) (by omega) (i : Int) (by omega) (by omega)
      obtain ⟨E, E1, E2⟩ := Element_ok hk (C := C) (L := L) hA hS I2 (by omega) (by omega) (by omega)
      have hb := (elem_abs h4 (i := (i : Int)) (by omega) (by omega) h1 h2).1
      have hat := vals_at s d hi
      have hat' : nth (.st (.pair (.bool) (.list (.int .u32)))) (vals s d m) (i : Int) = iz (s + d * i) := hat
      rw [dlt_t (by omega), inR_t (by omega) (by omega), I1, hat']
      simp only [cond_true, Option.bind_some]
      rw [E1]
      simp only [Option.bind_some]
      rw [SameInt_ok (by omega) E2 (small_ilim (by omega)), e1]
      simp only [Option.bind_some, Bool.not_true, cond_false]
      exact ih (i + 1) (by omega) (by omega)
    · rw [dlt_f (by omega)]; rfl

theorem el44_ok {k : Nat} (hk : 100000000000000 < k) {A S C L : Bool × List Int} {s t d most : Int} (h : RV s t d) (hA : RI A s) (hS : RI S d) (hC : RI C (cnt s t d)) {l : List (Bool × List Int)} {e : Int × Int} (hl : (if most < 0 ∨ 4000 < most then ([], 4, -2) else (vals s d (vcount s t d most), ((0, 0) : Int × Int))) = (l, e)) :
    el44 k (most, l, e, A, S, C, L) = some true := by
  have hc := cnt_rlim h
  have hp := rlim_big.1
  unfold el44
  simp only
  by_cases h1 : most < 0
  · rw [if_pos (.inl h1)] at hl
    cases hl
    rw [dlt_t h1]; rfl
  by_cases h2 : 4000 < most
  · rw [if_pos (.inr h2)] at hl
    cases hl
    rw [dlt_f (by omega), dlt_t h2]; rfl
  rw [if_neg (by omega)] at hl
  cases hl
  rw [dlt_f (by omega), dlt_f (by omega)]
  simp only [cond_false, joinB_inl]
  have hV : (vcount s t d most : Int) = (if cnt s t d < most then cnt s t d else most) := by unfold vcount; split <;> omega
  obtain ⟨M, M1, M2, _⟩ := num_ok (k := k) (by omega) most (by omega) (by omega)
  obtain ⟨V, V1, V2, _⟩ := num_ok (k := k) (by omega) (vcount s t d most : Int) (by omega) (by rw [hV]; split <;> omega)
  have q1 : ∀ x : Int, x.natAbs ≤ 80 * rlim → ((dg 65536 x.natAbs).length : Int) ≤ 1000000 := fun x hx => by have := rlen16 (small_ilim (x := x) (by omega)); omega
  rw [M1]
  simp only [Option.bind_some]
  rw [iOrder_ok (by omega) hC M2 (q1 _ (by omega)) (q1 _ (by omega)), vals_len, V1]
  simp only [Option.bind_some]
  rw [iOrder_ok (by omega) hC V2 (q1 _ (by omega)) (q1 _ (by rw [hV]; split <;> omega))]
  simp only [Option.bind_some]
  have hL := law_l0 k hk (C := C) (L := L) h hA hS (m := vcount s t d most) (by rw [hV]; split <;> omega) (by rw [hV]; split <;> omega) k 0 (by omega) (by omega)
  have hL' : brindlewoodlaw3_RangesElements.l0 k k (vals s d (vcount s t d most)) (A, S, C, L) 0 = _ := hL
  by_cases h3 : cnt s t d < most
  · rw [if_pos h3] at hV
    have s1 : decide (sgn (cnt s t d) most < 0) = true := dlt_t (by unfold sgn; rw [if_pos h3]; decide)
    have s2 : (sgn (cnt s t d) (vcount s t d most : Int) != 0) = false := bne_f (by unfold sgn; rw [if_neg (by omega), if_neg (by omega)])
    rw [s1, s2]
    simp only [cond_true, cond_false, joinB_inl, bne_self_eq_false, vals_len, hL']
  · rw [if_neg h3] at hV
    have s1 : decide (sgn (cnt s t d) most < 0) = false := dlt_f (by unfold sgn; rw [if_neg h3]; split <;> decide)
    have s2 : ((vcount s t d most : Int) != most) = false := bne_f hV
    rw [s1]
    simp only [cond_true, cond_false, joinB_inl, bne_self_eq_false, vals_len, s2, hL']

theorem el31_ok {k : Nat} (hk : 100000000000000 < k) {A S C L v : Bool × List Int} {s t d most : Int} (h : RV s t d) (hv : Wf IT v) (hA : RI A s) (hS : RI S d) (hC : RI C (cnt s t d)) {l : List (Bool × List Int)} {e : Int × Int} {K : Bool × List Int} {hf : Int × Int} (hK : ranges_Index k (rz s t d) v = some (K, hf))
    (hrest : el44 k (most, l, e, A, S, C, L) = some true) : el31 k (most, v, K, hf, l, e, A, S, C, L) = some true := by
  obtain ⟨h1, h2, h3, h4⟩ := RV_le h
  have hc := cnt_rlim h
  have hp := rlim_big.1
  unfold el44 at hrest
  unfold el31
  simp only at hrest ⊢
  rcases int_vals hv with ⟨x, hx, rfl, hV⟩ | hV
  · have hV' : brindlewoodref3_IntOk (iz x) = some true := hV
    rw [hV', IntOf_ok (by omega) hx]
    simp only [Option.bind_some, Bool.not_true, cond_false]
    rw [Has_ok hk hA hS hC (rz_RI x) h hx]
    simp only [Option.bind_some]
    rcases rIndex_ok (k := k) (by omega) h hx with ⟨q, q1, q2⟩ | ⟨q1, q2⟩
    · rw [q2] at hK
      cases hK
      obtain ⟨a1, a2, a3⟩ := q1
      have hi := (ir_zero_iff h4 q).1 (show x - s = d * q by omega)
      rw [hi.1, hi.2, decide_eq_true ⟨rfl, a2, a3⟩]
      have hql : q.natAbs < ilim := small_ilim (by omega)
      have hqok : brindlewoodref3_IntOk (iz q) = some true := iz_valid hql
      have hqs : (iz q).1 = false := decide_eq_false (by omega)
      obtain ⟨E, E1, E2⟩ := Element_ok hk (C := C) (L := L) hA hS (rz_RI q) (by omega) (by omega) (by omega)
      rw [← a1] at E2
      simp only [Bool.not_true, cond_false, bne_self_eq_false, hqok, Option.bind_some, hqs]
      rw [IntOf_ok (by omega) hql]
      simp only [Option.bind_some]
      rw [E1]
      simp only [Option.bind_some]
      rw [iOrder_ok (by omega) E2 (rz_RI x) (by have := rlen16 hx; omega) (by have := rlen16 hx; omega)]
      have hs0 : (sgn x x != 0) = false := bne_f (by unfold sgn; rw [if_neg (by omega), if_neg (by omega)])
      simp only [Option.bind_some, hs0, cond_false, joinB_inl]
      exact hrest
    · rw [q2] at hK
      cases hK
      have : decide (ir (x - s) d = 0 ∧ 0 ≤ iq (x - s) d ∧ iq (x - s) d < cnt s t d) = false := decide_eq_false fun hz => q1 (iq (x - s) d) ⟨by
        have := (ir_zero_iff h4 (iq (x - s) d)).2 ⟨hz.1, rfl⟩
        omega, hz.2.1, hz.2.2⟩
      rw [this]
      simp only [Bool.not_false, cond_true, brindlewoodref3_At, Option.bind_some, beq_self_eq_true, Bool.and_self, Bool.not_true, cond_false, NoInt_nil, joinB_inl]
      exact hrest
  · have hV' : brindlewoodref3_IntOk v = some false := hV
    rw [rIndex_no2 (rvalid_t h) hV] at hK
    cases hK
    rw [hV']
    simp only [Bool.not_false, cond_true, brindlewoodref3_At, Option.bind_some, beq_self_eq_true, Bool.and_self, Bool.not_true, cond_false, NoInt_nil, joinB_inl]
    exact hrest

theorem el17_ok {k : Nat} (hk : 100000000000000 < k) {A S C L i v : Bool × List Int} {s t d most : Int} (h : RV s t d) (hi : Wf IT i) (hA : RI A s) (hS : RI S d) (hC : RI C (cnt s t d)) {l : List (Bool × List Int)} {e : Int × Int} {X K : Bool × List Int} {g hf : Int × Int} (hX : ranges_At k (rz s t d) i = some (X, g))
    (hrest : el31 k (most, v, K, hf, l, e, A, S, C, L) = some true) : el17 k (most, i, v, X, g, K, hf, l, e, A, S, C, L) = some true := by
  obtain ⟨h1, h2, h3, h4⟩ := RV_le h
  have hc := cnt_rlim h
  have hp := rlim_big.1
  unfold el31 at hrest
  unfold el17
  simp only at hrest ⊢
  rcases int_vals hi with ⟨x, hx, rfl, hV⟩ | hV
  · have hV' : brindlewoodref3_IntOk (iz x) = some true := hV
    rw [rAt_ok (by omega) h hx] at hX
    have hX := Option.some.inj hX
    rw [hV', IntOf_ok (by omega) hx]
    simp only [Option.bind_some, Bool.not_true, cond_false]
    obtain ⟨j, hj⟩ : ∃ j, j = (if x < 0 then x + cnt s t d else x) := ⟨_, rfl⟩
    rw [← hj] at hX
    have hjl : j.natAbs < lim := by
      have := small_ilim (x := cnt s t d) (by omega)
      have := ilim_two
      rw [hj]; split <;> omega
    have hlx := rlen16 hx
    have hlc : ((dg 65536 (cnt s t d).natAbs).length : Int) ≤ 1000000 := by have := rlen16 (small_ilim (x := cnt s t d) (by omega)); omega
    -- the position
    obtain ⟨W, W1, W2⟩ : ∃ W, RI W j ∧ (bif decide (x < 0) then ((brindlewoodref3_Int_Plus k (decide (x < 0), dg 65536 x.natAbs) C).bind fun t22 => some (.inl (most, v, X, g, K, hf, l, e, ((A, S, C, L) : RefRg), t22))) else (some (.inl (most, v, X, g, K, hf, l, e, (A, S, C, L), (decide (x < 0), dg 65536 x.natAbs)))) : Option ((Int × (Bool × List Int) × (Bool × List Int) × (Int × Int) × (Bool × List Int) × (Int × Int) × (List (Bool × List Int)) × (Int × Int) × RefRg × (Bool × List Int)) ⊕ Bool)) = some (.inl (most, v, X, g, K, hf, l, e, (A, S, C, L), W)) := by
      by_cases hn : x < 0
      · rw [if_pos hn] at hj
        obtain ⟨W, W1, W2⟩ := rPlus_ok hk (rz_RI x) hC (by omega) hlc
        rw [← hj] at W2
        refine ⟨W, W2, ?_⟩
        rw [W1, decide_eq_true hn]; rfl
      · rw [if_neg hn] at hj
        exact ⟨(decide (x < 0), dg 65536 x.natAbs), by rw [hj]; exact rz_RI x, by rw [decide_eq_false hn]; rfl⟩
    rw [W2]
    simp only [joinB_inl]
    -- is it within the range?
    have hO := iOrder_ok (k := k) (by omega) W1 hC (by have := lim_len16 hjl; omega) hlc
    have hge : decide (0 ≤ sgn j (cnt s t d)) = decide (cnt s t d ≤ j) := by
      apply decide_eq_decide.2
      unfold sgn
      split
      · constructor <;> intro <;> omega
      · split <;> constructor <;> intro <;> omega
    have hbad : (bif W.1 then (bif decide (0 < (W.2.length : Int)) then (some (.inl (most, v, X, g, K, hf, l, e, ((A, S, C, L) : RefRg), W, true))) else ((brindlewoodref3_Int_Order k W C).bind fun t24 => some (.inl (most, v, X, g, K, hf, l, e, (A, S, C, L), W, decide (0 ≤ t24))))) else ((brindlewoodref3_Int_Order k W C).bind fun t25 => some (.inl (most, v, X, g, K, hf, l, e, (A, S, C, L), W, decide (0 ≤ t25)))) : Option ((Int × (Bool × List Int) × (Bool × List Int) × (Int × Int) × (Bool × List Int) × (Int × Int) × (List (Bool × List Int)) × (Int × Int) × RefRg × (Bool × List Int) × Bool) ⊕ Bool)) = some (.inl (most, v, X, g, K, hf, l, e, (A, S, C, L), W, decide (j < 0 ∨ cnt s t d ≤ j))) := by
      rw [hO]
      simp only [Option.bind_some]
      rw [hge, RI_pos_len W1]
      cases hw : W.1 with
      | true =>
        by_cases h5 : j = 0
        · rw [decide_eq_false (fun hn => hn h5)]
          have : decide (cnt s t d ≤ j) = decide (j < 0 ∨ cnt s t d ≤ j) := decide_eq_decide.2 (by omega)
          rw [this]; rfl
        · have := W1.2 h5
          rw [hw] at this
          have hneg : j < 0 := by simpa using this.symm
          rw [decide_eq_true h5, decide_eq_true (show j < 0 ∨ cnt s t d ≤ j from .inl hneg)]; rfl
      | false =>
        have : 0 ≤ j := by
          by_cases h5 : j = 0
          · omega
          · have := W1.2 h5
            rw [hw] at this
            have : ¬ j < 0 := by simpa using this.symm
            omega
        have : decide (cnt s t d ≤ j) = decide (j < 0 ∨ cnt s t d ≤ j) := decide_eq_decide.2 (by omega)
        rw [this]; rfl
    rw [hbad]
    simp only [joinB_inl]
    by_cases hin : 0 ≤ j ∧ j < cnt s t d
    · rw [if_pos hin] at hX
      cases hX
      have hb := (elem_abs h4 hin.1 hin.2 h1 h2).1
      obtain ⟨E, E1, E2⟩ := Element_ok hk (C := C) (L := L) hA hS W1 (by omega) (by omega) (by omega)
      rw [decide_eq_false (show ¬ (j < 0 ∨ cnt s t d ≤ j) by omega), E1]
      simp only [cond_false, bne_self_eq_false, Option.bind_some]
      rw [SameInt_ok (by omega) E2 (small_ilim (by omega))]
      simp only [Option.bind_some, Bool.not_true, cond_false, joinB_inl]
      exact hrest
    · rw [if_neg hin] at hX
      cases hX
      rw [decide_eq_true (show (j < 0 ∨ cnt s t d ≤ j) by omega)]
      simp only [cond_true, brindlewoodref3_At, Option.bind_some, beq_self_eq_true, Bool.and_self, Bool.not_true, cond_false, NoInt_nil, joinB_inl]
      exact hrest
  · have hV' : brindlewoodref3_IntOk i = some false := hV
    rw [rAt_no2 (rvalid_t h) hV] at hX
    cases hX
    rw [hV']
    simp only [Bool.not_false, cond_true, brindlewoodref3_At, Option.bind_some, beq_self_eq_true, Bool.and_self, Bool.not_true, cond_false, NoInt_nil, joinB_inl]
    exact hrest

theorem rangesElements_plain {r : Rg} {i v : Bool × List Int} {most : Int} (hr : Wf RT r) (hi : Wf IT i) (hv : Wf IT v) (hm : Wf (.int .i64) most) : brindlewoodlaw3_RangesElements 1000000000000000000 r i v most = some true := by
  have hR := RangeOk_ok (k := 1000000000000000000) (by decide) hr
  have hmr : (-9223372036854775808 : Int) ≤ most ∧ most ≤ 9223372036854775807 := hm
  rcases range_cases hr with ⟨s, t, d, h, rfl, hV⟩ | hV
  · have hp := rlim_big.1
    have hc := cnt_rlim h
    obtain ⟨A, S, C, L, g1, g2, g3, g4, g5, g6, g7⟩ := RangeOf_ok (k := 1000000000000000000) (by decide) h
    obtain ⟨X, g, hX⟩ : ∃ X g, ranges_At 1000000000000000000 (rz s t d) i = some (X, g) := by
      rcases int_vals hi with ⟨x, hx, rfl, _⟩ | hn
      · exact ⟨_, _, rAt_ok (by decide) h hx⟩
      · exact ⟨_, _, rAt_no2 hV hn⟩
    obtain ⟨K, hf, hK⟩ : ∃ K hf, ranges_Index 1000000000000000000 (rz s t d) v = some (K, hf) := by
      rcases int_vals hv with ⟨x, hx, rfl, _⟩ | hn
      · rcases rIndex_ok (k := 1000000000000000000) (by decide) h hx with ⟨q, _, q2⟩ | ⟨_, q2⟩
        · exact ⟨_, _, q2⟩
        · exact ⟨_, _, q2⟩
      · exact ⟨_, _, rIndex_no2 hV hn⟩
    obtain ⟨l, e, hl⟩ : ∃ l e, (if most < 0 ∨ 4000 < most then ([], 4, -2) else (vals s d (vcount s t d most), ((0, 0) : Int × Int))) = (l, e) := ⟨_, _, rfl⟩
    have hVals := rValues_ok (k := 1000000000000000000) (by decide) h hmr.2
    rw [hl] at hVals
    have f44 := el44_ok (k := 1000000000000000000) (by decide) (L := L) h g2 g3 g4 hl
    have f31 := el31_ok (by decide) h hv g2 g3 g4 hK f44
    have f17 := el17_ok (by decide) h hi g2 g3 g4 hX f31
    unfold el17 at f17
    unfold brindlewoodlaw3_RangesElements
    rw [rLength_ok (by decide) h, hX, hK, hVals, spans_ok, hV, hR, hV]
    simp only [Option.bind_some, Bool.not_true, cond_false, beq_self_eq_true, joinB_inl]
    rw [hR, hV, g1]
    simp only [Option.bind_some, Bool.not_true, cond_false, bne_self_eq_false]
    rw [SameInt_ok (by decide) g4 (small_ilim (by omega))]
    simp only [Option.bind_some, Bool.not_true, cond_false, joinB_inl]
    exact f17
  · obtain ⟨n1, n2, n3⟩ := rTurn_no (k := 1000000000000000000) (by decide) hV
    have hVals : ranges_Values 1000000000000000000 r most = some ([], 6, -1) := by
      unfold ranges_Values
      rw [rcheck1_no (by decide) hV]; rfl
    unfold brindlewoodlaw3_RangesElements
    rw [n3, rAt_no1 hV, rIndex_no1 hV, hVals, spans_ok, hV, hR, hV]
    simp only [Option.bind_some, Bool.not_true, cond_false, beq_self_eq_true, joinB_inl]
    rw [hR, hV]; rfl
end Go.Pl
