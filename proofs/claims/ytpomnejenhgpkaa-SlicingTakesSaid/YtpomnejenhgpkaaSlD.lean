/- SlicingResolves: its plain function answers true.  Conditions: limbs within their kind, lists no longer than memory. -/
import Derived.Test.YtpomnejenhgpkaaSlC
set_option linter.unusedVariables false
set_option linter.unusedSimpArgs false
set_option maxHeartbeats 0
namespace Go.Pl
open Go Go.Ev Go.Sh
theorem cuts_ok : brindlewoodlaw3_cuts 1000000000000000000 = some true := by kernel_rfl
def slTail (k : Nat) (z14 : Int × Sl × Int × Int × Int × (Int × Int) × (Int × Int) × Bool) : Option Bool :=
  joinB (α := Int × ((Bool × List Int) × (Bool × List Int) × (Bool × List Int) × Bool × Bool × Bool) × Int × Int × Int × (Int × Int) × Int × Int) (bif (z14.2.2.2.2.2.2.1.1 == 0) then (bif (!z14.2.2.2.2.2.2.2) then ((brindlewoodref3_At 4 (-2)).bind fun t15 => some (.inl (z14.1, z14.2.1, z14.2.2.1, z14.2.2.2.1, z14.2.2.2.2.1, z14.2.2.2.2.2.1, t15))) else (some (.inl (z14.1, z14.2.1, z14.2.2.1, z14.2.2.2.1, z14.2.2.2.2.1, z14.2.2.2.2.2.1, z14.2.2.2.2.2.2.1)))) else (some (.inl (z14.1, z14.2.1, z14.2.2.1, z14.2.2.2.1, z14.2.2.2.2.1, z14.2.2.2.2.2.1, z14.2.2.2.2.2.2.1)))) (fun z16 => bif (z16.2.2.2.2.2.2.1 != 0) then (bif ((z16.2.2.2.2.2.1.1 == z16.2.2.2.2.2.2.1) && ((z16.2.2.2.2.2.1.2 == z16.2.2.2.2.2.2.2) && true)) then (bif (z16.2.2.1 == 0) then (bif (z16.2.2.2.1 == 0) then (some (z16.2.2.2.2.1 == 0)) else (some false)) else (some false)) else (some false)) else ((brindlewoodref3_Places k z16.2.1 z16.1).bind fun t17 => bif (z16.2.2.2.2.2.1.1 == 0) then (bif (z16.2.2.1 == t17.1) then (bif (z16.2.2.2.1 == t17.2.1) then (let c18 := (z16.2.2.2.2.1 == (t17.2.2.length : Int)); some c18) else (some false)) else (some false)) else (some false))) some
theorem slTail_ok {k : Nat} (hk : 100000000000000 < k) {s : Sl} {n : Int} (h : Wf SlT s) {r1 r2 r3 : Int} {g : Int × Int} (hr : slicing_Resolve k s n = some (r1, r2, r3, g)) : slTail k (n, s, r1, r2, r3, g, sfault s, bif decide (0 ≤ n) then decide (n ≤ 4000) else false) = some true := by
  have hat : ∀ a b : Int, brindlewoodref3_At a b = some (a, b) := fun _ _ => rfl
  obtain ⟨ha, hb, hc, hor⟩ := slice_cases h
  have hck := slCheck_ok ha hb hc
  unfold slTail
  rcases hor with ⟨a, b, d, ga, gb, gd, va, vb, vd, rfl, h0, hd0⟩ | hne
  · rw [h0] at hck ⊢
    by_cases hl : 0 ≤ n ∧ n ≤ 4000
    · rw [Resolve_ok (by omega) va vb vd hl.1 hl.2 hck hd0] at hr
      simp only [Option.some.injEq, Prod.mk.injEq] at hr
      obtain ⟨rfl, rfl, rfl, rfl⟩ := hr
      obtain ⟨l, p1, p2, _⟩ := Places_ok hk (ha := ga) (hb := gb) va vb vd hl.1 hl.2 hd0
      rw [decide_eq_true hl.1, decide_eq_true hl.2]
      simp only [cond_true, beq_self_eq_true, Bool.not_true, cond_false, joinB_inl, bne_self_eq_false, p1, Option.bind_some, p2]
    · rw [Resolve_range hck (by omega)] at hr
      simp only [Option.some.injEq, Prod.mk.injEq] at hr
      obtain ⟨rfl, rfl, rfl, rfl⟩ := hr
      have : (bif decide (0 ≤ n) then decide (n ≤ 4000) else false) = false := by
        by_cases h1 : 0 ≤ n
        · rw [decide_eq_true h1, decide_eq_false (fun h2 => hl ⟨h1, h2⟩)]; rfl
        · rw [decide_eq_false h1]; rfl
      rw [this]; rfl
  · rw [Resolve_no hck hne] at hr
    simp only [Option.some.injEq, Prod.mk.injEq] at hr
    obtain ⟨rfl, rfl, rfl, rfl⟩ := hr
    generalize sfault s = f at *
    obtain ⟨f1, f2⟩ := f
    have e1 : (f1 == 0) = false := by
      have : f1 ≠ 0 := hne
      simp [this]
    have e2 : (f1 != 0) = true := bne_t hne
    simp only [e1, e2, cond_true, cond_false, joinB_inl, beq_self_eq_true, Bool.and_true, Bool.true_and]
def slMid (k : Nat) (z13 : Int × Sl × Int × (Int × Int) × Int × Int × Int × (Int × Int) × (Int × Int) × Bool × (Int × Int) × Int × Bool) : Option Bool :=
  joinB (α := Int × ((Bool × List Int) × (Bool × List Int) × (Bool × List Int) × Bool × Bool × Bool) × Int × Int × Int × (Int × Int) × (Int × Int) × Bool) (bif z13.2.2.2.2.2.2.2.2.2.2.2.2 then (bif (z13.2.2.2.1.1 != 0) then (some (.inr false)) else (bif (z13.2.2.1 != z13.2.2.2.2.2.2.2.2.2.2.2.1) then (some (.inr false)) else (bif (!z13.2.2.2.2.2.2.2.2.2.2.2.2) then (bif (!((z13.2.2.2.1.1 == z13.2.2.2.2.2.2.2.2.2.2.1.1) && ((z13.2.2.2.1.2 == z13.2.2.2.2.2.2.2.2.2.2.1.2) && true))) then (some (.inr false)) else (bif (z13.2.2.1 != 0) then (some (.inr false)) else (some (.inl (z13.1, z13.2.1, z13.2.2.2.2.1, z13.2.2.2.2.2.1, z13.2.2.2.2.2.2.1, z13.2.2.2.2.2.2.2.1, z13.2.2.2.2.2.2.2.2.1, z13.2.2.2.2.2.2.2.2.2.1))))) else (some (.inl (z13.1, z13.2.1, z13.2.2.2.2.1, z13.2.2.2.2.2.1, z13.2.2.2.2.2.2.1, z13.2.2.2.2.2.2.2.1, z13.2.2.2.2.2.2.2.2.1, z13.2.2.2.2.2.2.2.2.2.1)))))) else (bif (!z13.2.2.2.2.2.2.2.2.2.2.2.2) then (bif (!((z13.2.2.2.1.1 == z13.2.2.2.2.2.2.2.2.2.2.1.1) && ((z13.2.2.2.1.2 == z13.2.2.2.2.2.2.2.2.2.2.1.2) && true))) then (some (.inr false)) else (bif (z13.2.2.1 != 0) then (some (.inr false)) else (some (.inl (z13.1, z13.2.1, z13.2.2.2.2.1, z13.2.2.2.2.2.1, z13.2.2.2.2.2.2.1, z13.2.2.2.2.2.2.2.1, z13.2.2.2.2.2.2.2.2.1, z13.2.2.2.2.2.2.2.2.2.1))))) else (some (.inl (z13.1, z13.2.1, z13.2.2.2.2.1, z13.2.2.2.2.2.1, z13.2.2.2.2.2.2.1, z13.2.2.2.2.2.2.2.1, z13.2.2.2.2.2.2.2.2.1, z13.2.2.2.2.2.2.2.2.2.1))))) (fun z14 => joinB (α := Int × ((Bool × List Int) × (Bool × List Int) × (Bool × List Int) × Bool × Bool × Bool) × Int × Int × Int × (Int × Int) × Int × Int) (bif (z14.2.2.2.2.2.2.1.1 == 0) then (bif (!z14.2.2.2.2.2.2.2) then ((brindlewoodref3_At 4 (-2)).bind fun t15 => some (.inl (z14.1, z14.2.1, z14.2.2.1, z14.2.2.2.1, z14.2.2.2.2.1, z14.2.2.2.2.2.1, t15))) else (some (.inl (z14.1, z14.2.1, z14.2.2.1, z14.2.2.2.1, z14.2.2.2.2.1, z14.2.2.2.2.2.1, z14.2.2.2.2.2.2.1)))) else (some (.inl (z14.1, z14.2.1, z14.2.2.1, z14.2.2.2.1, z14.2.2.2.2.1, z14.2.2.2.2.2.1, z14.2.2.2.2.2.2.1)))) (fun z16 => bif (z16.2.2.2.2.2.2.1 != 0) then (bif ((z16.2.2.2.2.2.1.1 == z16.2.2.2.2.2.2.1) && ((z16.2.2.2.2.2.1.2 == z16.2.2.2.2.2.2.2) && true)) then (bif (z16.2.2.1 == 0) then (bif (z16.2.2.2.1 == 0) then (some (z16.2.2.2.2.1 == 0)) else (some false)) else (some false)) else (some false)) else ((brindlewoodref3_Places k z16.2.1 z16.1).bind fun t17 => bif (z16.2.2.2.2.2.1.1 == 0) then (bif (z16.2.2.1 == t17.1) then (bif (z16.2.2.2.1 == t17.2.1) then (let c18 := (z16.2.2.2.2.1 == (t17.2.2.length : Int)); some c18) else (some false)) else (some false)) else (some false))) some) some
theorem slMid_ok {k : Nat} {n i : Int} {s : Sl} {f : Int × Int} {r1 r2 r3 : Int} {g w : Int × Int} {lg : Bool} {v : Int × Int} {at' : Int} {ok : Bool} (h : (ok = true ∧ f = (0, 0) ∧ i = at') ∨ (ok = false ∧ f = v ∧ i = 0)) : slMid k (n, s, i, f, r1, r2, r3, g, w, lg, v, at', ok) = slTail k (n, s, r1, r2, r3, g, w, lg) := by
  unfold slMid
  rcases h with ⟨rfl, rfl, rfl⟩ | ⟨rfl, rfl, rfl⟩
  · simp only [cond_true, bne_self_eq_false, cond_false, Bool.not_true, joinB_inl]
    rfl
  · simp only [cond_true, bne_self_eq_false, cond_false, Bool.not_false, joinB_inl, beq_self_eq_true, Bool.true_and, Bool.not_true]
    rfl
theorem slicingResolves_ok {k : Nat} (hk : 100000000000000 < k) (hcuts : brindlewoodlaw3_cuts k = some true) {i : Bool × List Int} {s : Sl} {n : Int} (hi : Wf IT i) (hs : Wf SlT s) (hn1 : -9223372036854775808 ≤ n) (hn2 : n ≤ 9223372036854775807) : brindlewoodlaw3_SlicingResolves k i s n = some true := by
  have hat : ∀ a b : Int, brindlewoodref3_At a b = some (a, b) := fun _ _ => rfl
  obtain ⟨ha, hb, hc, hor⟩ := slice_cases hs
  have hck := slCheck_ok ha hb hc
  have hsf := SliceFault_ok (k := k) (by omega) ha hb hc
  -- what Resolve answers
  have hres : ∃ r1 r2 r3 g, slicing_Resolve k s n = some (r1, r2, r3, g) := by
    rcases hor with ⟨a, b, d, ga, gb, gd, va, vb, vd, rfl, h0, hd0⟩ | hne
    · rw [h0] at hck
      by_cases hl : 0 ≤ n ∧ n ≤ 4000
      · exact ⟨_, _, _, _, Resolve_ok (by omega) va vb vd hl.1 hl.2 hck hd0⟩
      · exact ⟨_, _, _, _, Resolve_range hck (by omega)⟩
    · exact ⟨_, _, _, _, Resolve_no hck hne⟩
  obtain ⟨r1, r2, r3, g, hr⟩ := hres
  have hT := slTail_ok hk hs hr
  -- the single position
  have hidx : ∃ j f v at' ok, slicing_Index k i n = some (j, f) ∧ ((ok = true ∧ f = (0, 0) ∧ j = at') ∨ (ok = false ∧ f = v ∧ j = 0)) ∧
      (∀ (α : Type) (F : (Int × Int) → Int → Bool → α), ((brindlewoodref3_IntOk i).bind fun t9 => bif (!t9) then ((brindlewoodref3_At 6 (-1)).bind fun t10 => some (F t10 0 false)) else (bif (!(bif decide (0 ≤ n) then decide (n ≤ 4000) else false)) then ((brindlewoodref3_At 4 (-2)).bind fun t11 => some (F t11 0 false)) else ((brindlewoodref3_Indexed k i n).bind fun t12 => some (F (4, -1) t12.1 t12.2)))) = some (F v at' ok)) := by
    rw [rIntOk]
    rcases int_vals hi with ⟨x, hx, rfl, hv⟩ | hv
    · rw [sIndex_ok (by omega) hx ⟨hn1, hn2⟩, hv]
      by_cases hl : 0 ≤ n ∧ n ≤ 4000
      · have e : (bif decide (0 ≤ n) then decide (n ≤ 4000) else false) = true := by rw [decide_eq_true hl.1, decide_eq_true hl.2]; rfl
        rw [if_neg (by omega), e, Indexed_ok hk hx hl.1 hl.2]
        unfold posOf
        by_cases hp : 0 ≤ fromEnd x n ∧ fromEnd x n < n
        · rw [if_pos hp, if_pos hp]
          exact ⟨_, _, (4, -1), _, true, rfl, .inl ⟨rfl, rfl, rfl⟩, fun _ _ => rfl⟩
        · rw [if_neg hp, if_neg hp]
          exact ⟨_, _, (4, -1), 0, false, rfl, .inr ⟨rfl, rfl, rfl⟩, fun _ _ => rfl⟩
      · have e : (bif decide (0 ≤ n) then decide (n ≤ 4000) else false) = false := by
          by_cases h1 : 0 ≤ n
          · rw [decide_eq_true h1, decide_eq_false (fun h2 => hl ⟨h1, h2⟩)]; rfl
          · rw [decide_eq_false h1]; rfl
        rw [if_pos (by omega), e]
        exact ⟨_, _, (4, -2), 0, false, rfl, .inr ⟨rfl, rfl, rfl⟩, fun _ _ => rfl⟩
    · refine ⟨0, (6, -1), (6, -1), 0, false, ?_, .inr ⟨rfl, rfl, rfl⟩, fun _ _ => by rw [hv]; rfl⟩
      unfold slicing_Index
      rw [hv]; rfl
  obtain ⟨j, f, v, at', ok, hj, hok, hF⟩ := hidx
  have hM := slMid_ok (k := k) (n := n) (s := s) (r1 := r1) (r2 := r2) (r3 := r3) (g := g) (w := sfault s) (lg := bif decide (0 ≤ n) then decide (n ≤ 4000) else false) hok
  rw [hT] at hM
  unfold brindlewoodlaw3_SlicingResolves
  rw [hj, hr, hsf, hcuts, hck]
  simp only [Option.bind_some, Bool.not_true, cond_false, beq_self_eq_true, Bool.true_and, joinB_inl]
  have m1 : (bif decide (0 ≤ n) then (some (.inl (n, i, s, j, f, r1, r2, r3, g, sfault s, decide (n ≤ 4000)))) else (some (.inl (n, i, s, j, f, r1, r2, r3, g, sfault s, false))) : Option ((Int × (Bool × List Int) × Sl × Int × (Int × Int) × Int × Int × Int × (Int × Int) × (Int × Int) × Bool) ⊕ Bool)) = some (.inl (n, i, s, j, f, r1, r2, r3, g, sfault s, bif decide (0 ≤ n) then decide (n ≤ 4000) else false)) := by
    cases decide (0 ≤ n) <;> rfl
  rw [m1]
  simp only [joinB_inl]
  rw [hat 4 (-1), Option.bind_some]
  have m2 := hF _ (fun v at' ok => (Sum.inl (n, s, j, f, r1, r2, r3, g, sfault s, (bif decide (0 ≤ n) then decide (n ≤ 4000) else false), v, at', ok) : (Int × Sl × Int × (Int × Int) × Int × Int × Int × (Int × Int) × (Int × Int) × Bool × (Int × Int) × Int × Bool) ⊕ Bool))
  simp only at m2
  rw [m2]
  exact hM
theorem slicingResolves_plain {i : Bool × List Int} {s : Sl} {n : Int} (hi : Wf IT i) (hs : Wf SlT s) (hn : Wf (.int .i64) n) : brindlewoodlaw3_SlicingResolves 1000000000000000000 i s n = some true := by
  have hr : (-9223372036854775808 : Int) ≤ n ∧ n ≤ 9223372036854775807 := hn
  exact slicingResolves_ok (by decide) cuts_ok hi hs hr.1 hr.2
end Go.Pl
