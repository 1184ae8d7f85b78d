/- SlicingReversed: its plain function answers true.  Conditions: limbs within their kind, lists no longer than memory. -/
import Derived.Test.YtpomnejenhgpkaaSlD
set_option linter.unusedVariables false
set_option linter.unusedSimpArgs false
set_option maxHeartbeats 0
namespace Go.Pl
open Go Go.Ev Go.Sh
theorem sl_ilim {n : Int} (n1 : -9223372036854775808 ≤ n) (n2 : n ≤ 9223372036854775807) : n.natAbs < ilim := by
  have h : (dg 4294967296 n.natAbs).length ≤ 2 := by
    apply dg_len hB32
    have : (4294967296 : Nat) ^ 2 = 18446744073709551616 := by decide
    omega
  exact ilim_iff.1 (by omega)
def tk (l : List Int) (st sp : Int) (c : Nat) : List Int := (List.range c).map (fun i : Nat => rd l (st + (i : Int) * sp))
theorem tk_length (l : List Int) (st sp : Int) (c : Nat) : (tk l st sp c).length = c := by unfold tk; simp
theorem tk_rd {l : List Int} {st sp : Int} {c : Nat} {i : Int} (h0 : 0 ≤ i) (h : i < c) : rd (tk l st sp c) i = rd l (st + i * sp) := by
  obtain ⟨j, rfl⟩ : ∃ j : Nat, i = j := ⟨i.toNat, by omega⟩
  have hj : j < c := by omega
  show (tk l st sp c).getD j 0 = _
  rw [List.getD_eq_getElem?_getD]
  unfold tk
  rw [List.getElem?_map, List.getElem?_range hj]
  rfl
theorem place_rng {st n f t i : Int} (h3 : st ≠ 0) (f1 : sLo st ≤ f) (f2 : f ≤ sHi st n) (t1 : sLo st ≤ t) (t2 : t ≤ sHi st n) (i0 : 0 ≤ i) (hi : i < sCount st f t) : 0 ≤ f + i * st ∧ f + i * st < n := by
  unfold sCount at hi
  by_cases hs : st < 0
  · rw [if_pos hs] at hi
    have hx : 0 < f - t := by
      refine Int.not_le.1 fun h => ?_
      unfold steps at hi; rw [if_pos h] at hi; omega
    obtain ⟨g1, g2, g3⟩ := steps_pos hx (show 0 < -st by omega)
    have m1 : -st * i ≤ -st * (steps (f - t) (-st) - 1) := Int.mul_le_mul_of_nonneg_left (by omega) (by omega)
    have m2 : 0 ≤ -st * i := Int.mul_nonneg (by omega) i0
    have e : i * st = -(-st * i) := by rw [Int.neg_mul, Int.neg_neg, Int.mul_comm]
    rw [e]
    unfold sLo at t1; unfold sHi at f2
    rw [if_pos hs] at t1 f2
    omega
  · rw [if_neg hs] at hi
    have hx : 0 < t - f := by
      refine Int.not_le.1 fun h => ?_
      unfold steps at hi; rw [if_pos h] at hi; omega
    obtain ⟨g1, g2, g3⟩ := steps_pos hx (show 0 < st by omega)
    have m1 : st * i ≤ st * (steps (t - f) st - 1) := Int.mul_le_mul_of_nonneg_left (by omega) (by omega)
    have m2 : 0 ≤ st * i := Int.mul_nonneg (by omega) i0
    have e : i * st = st * i := Int.mul_comm _ _
    rw [e]
    unfold sLo at f1; unfold sHi at t2
    rw [if_neg hs] at f1 t2
    omega
theorem count_rng {st n f t : Int} (h3 : st ≠ 0) (hn : 0 ≤ n) (f1 : sLo st ≤ f) (f2 : f ≤ sHi st n) (t1 : sLo st ≤ t) (t2 : t ≤ sHi st n) : 0 ≤ sCount st f t ∧ sCount st f t ≤ n := by
  unfold sCount
  unfold sLo at *; unfold sHi at *
  by_cases hs : st < 0
  · rw [if_pos hs] at *
    have n1 := steps_nn (x := f - t) (d := -st) (by omega)
    refine ⟨n1.1, ?_⟩
    by_cases h : 0 ≤ f - t
    · have := n1.2 h; omega
    · unfold steps; rw [if_pos (by omega)]; omega
  · rw [if_neg hs] at *
    have n1 := steps_nn (x := t - f) (d := st) (by omega)
    refine ⟨n1.1, ?_⟩
    by_cases h : 0 ≤ t - f
    · have := n1.2 h; omega
    · unfold steps; rw [if_pos (by omega)]; omega
theorem Take_l0 (k : Nat) (l : List Int) (hl : (l.length : Int) ≤ 4000) {f st : Int} {c : Nat} (hc : c ≤ 4000) (hf : -1 ≤ f ∧ f ≤ 4000) (hp : ∀ i : Nat, i < c → 0 ≤ f + (i : Int) * st ∧ f + (i : Int) * st < l.length) : ∀ (m i : Nat), i ≤ c → c - i < m →
    slicing_Take_int.l0 k m l (0, 0) f st (tk l f st i) c i = some (.inl ((0, 0), tk l f st c)) := by
  intro m
  induction m with
  | zero => intro i _ h; omega
  | succ m ih =>
    intro i h1 h2
    simp only [slicing_Take_int.l0, slicing_Take_int.b0]
    by_cases h : i < c
    · obtain ⟨p1, p2⟩ := hp i h
      have e1 : w64 ((i : Int) * st) = (i : Int) * st := w64_id (by omega) (by omega)
      have e2 : w64 (f + (i : Int) * st) = f + (i : Int) * st := w64_id (by omega) (by omega)
      have e3 : w64 ((i : Int) + 1) = ((i + 1 : Nat) : Int) := by rw [w64_id (by omega) (by omega)]; omega
      have e4 : tk l f st i ++ [rd l (f + (i : Int) * st)] = tk l f st (i + 1) := by unfold tk; rw [List.range_succ, List.map_append]; rfl
      rw [dlt_t (by omega), e1, e2, inR_t p1 p2, fits_t (by rw [tk_length, List.length_singleton]; omega), e3, e4]
      exact ih (i + 1) (by omega) (by omega)
    · have : i = c := by omega
      subst this
      rw [dlt_f (by omega)]; rfl
theorem Take_ok {k : Nat} (hk : 20000 < k) {l : List Int} (hl : (l.length : Int) ≤ 4000) {s : Sl} {f st : Int} {c : Nat} (hr : slicing_Resolve k s l.length = some (f, st, (c : Int), 0, 0)) (hc : c ≤ 4000) (hf : -1 ≤ f ∧ f ≤ 4000) (hp : ∀ i : Nat, i < c → 0 ≤ f + (i : Int) * st ∧ f + (i : Int) * st < l.length) :
    slicing_Take_int k l s = some (tk l f st c, 0, 0) := by
  have h := Take_l0 k l hl hc hf hp k 0 (by omega) (by omega)
  have h' : slicing_Take_int.l0 k k l (0, 0) f st [] (c : Int) 0 = _ := h
  unfold slicing_Take_int
  rw [hr]
  simp only [Option.bind_some, bne_self_eq_false, cond_false]
  rw [h']; rfl
theorem Take_no {k : Nat} {l : List Int} {s : Sl} {a b c : Int} {f : Int × Int} (hr : slicing_Resolve k s l.length = some (a, b, c, f)) (hf : f.1 ≠ 0) : slicing_Take_int k l s = some ([], f) := by
  unfold slicing_Take_int
  rw [hr]
  simp only [Option.bind_some]
  rw [bne_t hf]; rfl
theorem Resolve_ex {k : Nat} (hk : 2000 < k) {a b d n : Int} {ha hb hd : Bool} (va : a.natAbs < ilim) (vb : b.natAbs < ilim) (vd : d.natAbs < ilim) (h0 : 0 ≤ n) (hn : n ≤ 4000) (hc : slicing_Check (sz a b d ha hb hd) = some (0, 0)) (hd0 : hd = true → d ≠ 0) :
    ∃ (f st : Int) (c : Nat), slicing_Resolve k (sz a b d ha hb hd) n = some (f, st, (c : Int), 0, 0) ∧ c ≤ n ∧ -1 ≤ f ∧ f ≤ 4000 ∧ -10000 ≤ st ∧ st ≤ 10000 ∧ (∀ i : Nat, i < c → 0 ≤ f + (i : Int) * st ∧ f + (i : Int) * st < n) := by
  obtain ⟨r1, r2, r3⟩ := sStep_rng hd0
  obtain ⟨l1, l2, l3, l4⟩ := sLo_hi (st := sStep d hd) h0
  have rs := sStart_rng (st := sStep d hd) (a := a) (ha := ha) h0
  have rt := sStop_rng (st := sStep d hd) (a := b) (ha := hb) h0
  have hcr := count_rng r3 h0 rs.1 rs.2 rt.1 rt.2
  have hR := Resolve_ok hk va vb vd h0 hn hc hd0
  obtain ⟨c, hcn⟩ : ∃ c : Nat, sCount (sStep d hd) (sStart (sStep d hd) a n ha) (sStop (sStep d hd) b n hb) = c := ⟨_, (Int.toNat_of_nonneg hcr.1).symm⟩
  rw [hcn] at hR hcr
  refine ⟨_, _, c, hR, hcr.2, by omega, by omega, r1, r2, fun i hi => ?_⟩
  exact place_rng r3 rs.1 rs.2 rt.1 rt.2 (by omega) (by rw [hcn]; omega)
theorem rev_slice {k : Nat} (hk : 20000 < k) {l : List Int} (hl : (l.length : Int) ≤ 4000) : slicing_Take_int k l (sz 0 0 (-1) false false true) = some (tk l (l.length - 1) (-1) l.length, 0, 0) := by
  have hck : slicing_Check (sz 0 0 (-1) false false true) = some (0, 0) := by
    have v0 : integer_Valid (iz 0) = some true := iz_valid (sl_ilim (by decide) (by decide))
    have v1 : integer_Valid (iz (-1)) = some true := iz_valid (sl_ilim (by decide) (by decide))
    rw [slCheck_ok (.inl v0) (.inl v0) (.inl v1)]
    have p0 : pB (iz 0) false = true := by unfold pB; rw [v0]; rfl
    have p1 : pB (iz (-1)) true = true := by unfold pB; rw [v1]; rfl
    show some (bif pB (iz 0) false && (pB (iz 0) false && pB (iz (-1)) true) then (bif true && (((iz (-1)).2.length : Int) == 0) then ((22 : Int), (-1 : Int)) else (0, 0)) else (6, -1)) = _
    rw [p0, p1]; rfl
  have hR := Resolve_ok (k := k) (by omega) (a := 0) (b := 0) (d := -1) (n := l.length) (ha := false) (hb := false) (hd := true) (sl_ilim (by decide) (by decide)) (sl_ilim (by decide) (by decide)) (sl_ilim (by decide) (by decide)) (by omega) hl hck (fun _ => by decide)
  have e1 : sStep (-1) true = -1 := rfl
  have e2 : sStart (-1) 0 l.length false = (l.length : Int) - 1 := rfl
  have e3 : sStop (-1) 0 l.length false = -1 := rfl
  have e4 : sCount (-1) ((l.length : Int) - 1) (-1) = l.length := by
    show steps ((l.length : Int) - 1 - (-1)) 1 = _
    unfold steps
    by_cases h : (l.length : Int) - 1 - -1 ≤ 0
    · rw [if_pos h]; omega
    · rw [if_neg h]; omega
  rw [e1, e2, e3, e4] at hR
  exact Take_ok hk hl hR (by omega) (by omega) (fun i hi => by omega)
theorem rev_l0 (k : Nat) (x0 : List Int) (x2 : Int) (s : Sl) (r : List Int) (hr : (r.length : Int) ≤ 4000) : ∀ (m i : Nat), i ≤ r.length → r.length - i < m →
    brindlewoodlaw3_SlicingReversed.l0 k m x0 x2 s r (tk r (r.length - 1) (-1) r.length) i = some (.inl (x0, x2, s, r)) := by
  intro m
  induction m with
  | zero => intro i _ h; omega
  | succ m ih =>
    intro i h1 h2
    simp only [brindlewoodlaw3_SlicingReversed.l0, brindlewoodlaw3_SlicingReversed.b0]
    rw [tk_length]
    by_cases h : i < r.length
    · have e1 : w64 (w64 ((r.length : Int) - 1) - i) = (r.length : Int) - 1 - i := by rw [w64_id (n := (r.length : Int) - 1) (by omega) (by omega), w64_id (by omega) (by omega)]
      have e3 : w64 ((i : Int) + 1) = ((i + 1 : Nat) : Int) := by rw [w64_id (by omega) (by omega)]; omega
      rw [dlt_t (by omega), e1, inR_t (by omega) (by omega), inR_t (by omega) (by omega), tk_rd (by omega) (by omega), show (r.length : Int) - 1 + ((r.length : Int) - 1 - i) * -1 = i by omega, e3]
      simp only [bne_self_eq_false, cond_true, cond_false]
      exact ih (i + 1) (by omega) (by omega)
    · rw [dlt_f (by omega)]; rfl
def rvTail (k : Nat) (z11 : List Int × Int × List Int × Int × Int × Int) : Option Bool :=
  bif !decide (z11.2.2.2.2.2 = 0) then (let c12 := w64 (z11.2.2.2.1 + (w64 ((Int.tmod z11.2.1 z11.2.2.2.2.2) * z11.2.2.2.2.1))); (integer_Of k c12).bind fun t13 => (slicing_Index k t13 (z11.1.length : Int)).bind fun t14 => (integer_Of k (w64 (c12 - (z11.1.length : Int)))).bind fun t15 => (slicing_Index k t15 (z11.1.length : Int)).bind fun t16 => bif (t14.2.1 == 0) then (bif (t16.2.1 == 0) then (bif (t14.1 == c12) then (bif (t16.1 == c12) then (bif inR (Int.tmod z11.2.1 z11.2.2.2.2.2) (z11.2.2.1.length : Int) then (bif inR c12 (z11.1.length : Int) then (let c17 := ((rd z11.2.2.1 (Int.tmod z11.2.1 z11.2.2.2.2.2)) == (rd z11.1 c12)); some c17) else none) else none) else (some false)) else (some false)) else (some false)) else (some false)) else none
theorem rvTail_ok {k : Nat} (hk : 2000 < k) {l : List Int} (hl : (l.length : Int) ≤ 4000) {x f st : Int} {c : Nat} (hx : 0 ≤ x) (hc : 0 < c) (hcl : c ≤ 4000) (hst : -10000 ≤ st ∧ st ≤ 10000) (hf : -1 ≤ f ∧ f ≤ 4000) (hp : ∀ i : Nat, i < c → 0 ≤ f + (i : Int) * st ∧ f + (i : Int) * st < l.length) :
    rvTail k (l, x, tk l f st c, f, st, c) = some true := by
  have hm : Int.tmod x c = x % c := Int.tmod_eq_emod_of_nonneg hx
  have m1 := Int.emod_nonneg x (show (c : Int) ≠ 0 by omega)
  have m2 := Int.emod_lt_of_pos x (show (0 : Int) < c by omega)
  obtain ⟨j, hj⟩ : ∃ j : Nat, x % c = j := ⟨_, (Int.toNat_of_nonneg m1).symm⟩
  rw [hj] at hm m1 m2
  obtain ⟨p1, p2⟩ := hp j (by omega)
  unfold rvTail
  simp only [hm]
  have e1 : w64 ((j : Int) * st) = (j : Int) * st := w64_id (by omega) (by omega)
  have e2 : w64 (f + (j : Int) * st) = f + (j : Int) * st := w64_id (by omega) (by omega)
  have e5 : rd (tk l f st c) j = rd l (f + (j : Int) * st) := tk_rd (by omega) (by omega)
  rw [decide_eq_false (show ¬ (c : Int) = 0 by omega), e1, e2, e5]
  generalize f + (j : Int) * st = p at *
  have e3 : w64 (p - l.length) = p - l.length := w64_id (by omega) (by omega)
  rw [e3, iOf_ok (by omega) (by omega) (by omega), iOf_ok (by omega) (by omega) (by omega)]
  simp only [Bool.not_false, cond_true, Option.bind_some]
  have i1 := sIndex_ok hk (v := p) (n := l.length) (sl_ilim (by omega) (by omega)) ⟨by omega, by omega⟩
  have i2 := sIndex_ok hk (v := p - l.length) (n := l.length) (sl_ilim (by omega) (by omega)) ⟨by omega, by omega⟩
  rw [if_neg (by omega)] at i1 i2
  have q1 : posOf p l.length = (p, 0, 0) := by
    unfold posOf fromEnd
    rw [if_neg (show ¬ p < 0 by omega), if_pos (by omega)]
  have q2 : posOf (p - l.length) l.length = (p, 0, 0) := by
    unfold posOf fromEnd
    rw [if_pos (show p - (l.length : Int) < 0 by omega), show p - (l.length : Int) + l.length = p by omega, if_pos (by omega)]
  rw [q1] at i1
  rw [q2] at i2
  rw [i1, i2, tk_length, inR_t p1 p2, inR_t (by omega) m2]
  simp only [Option.bind_some, beq_self_eq_true, cond_true]
theorem slicingReversed_ok {k : Nat} (hk : 100000000000000 < k) (hcuts : brindlewoodlaw3_cuts k = some true) {l : List Int} {s : Sl} {x : Int} (hs : Wf SlT s) : brindlewoodlaw3_SlicingReversed k l s x = some true := by
  obtain ⟨ha, hb, hc, hor⟩ := slice_cases hs
  have hck := slCheck_ok ha hb hc
  unfold brindlewoodlaw3_SlicingReversed
  rw [hcuts]
  simp only [Option.bind_some, Bool.not_true, cond_false]
  by_cases hl : (4000 : Int) < (l.length : Int)
  · rw [dlt_t hl]; rfl
  rw [dlt_f (by omega)]
  simp only [cond_false, joinB_inl]
  rcases hor with ⟨a, b, d, ga, gb, gd, va, vb, vd, rfl, h0, hd0⟩ | hne
  · rw [h0] at hck
    obtain ⟨f, st, c, hR, hcn, f1, f2, s1, s2, hp⟩ := Resolve_ex (k := k) (by omega) va vb vd (n := l.length) (by omega) (by omega) hck hd0
    have hT := Take_ok (by omega) (by omega) hR (by omega) ⟨f1, f2⟩ hp
    rw [hT]
    simp only [Option.bind_some, bne_self_eq_false, cond_false]
    rw [iOf_ok (by omega) (by omega) (by omega)]
    simp only [Option.bind_some]
    have hl2 : ((tk l f st c).length : Int) ≤ 4000 := by rw [tk_length]; omega
    have hV := rev_slice (k := k) (by omega) hl2
    have hV' : slicing_Take_int k (tk l f st c) ((false, []), (false, []), iz (-1), false, false, true) = _ := hV
    rw [hV']
    have hL := rev_l0 k l x (sz a b d ga gb gd) (tk l f st c) hl2 k 0 (by omega) (by omega)
    have hL' : brindlewoodlaw3_SlicingReversed.l0 k k l x (sz a b d ga gb gd) (tk l f st c) (tk (tk l f st c) ((tk l f st c).length - 1) (-1) (tk l f st c).length) 0 = _ := hL
    have e0 : ((tk (tk l f st c) ((tk l f st c).length - 1) (-1) (tk l f st c).length).length : Int) = ((tk l f st c).length : Int) := by rw [tk_length (tk l f st c)]
    simp only [Option.bind_some, bne_self_eq_false, cond_false]
    rw [e0]
    simp only [bne_self_eq_false, cond_false, joinB_inl]
    rw [hL']
    simp only [joinB_inl]
    rw [hR]
    simp only [Option.bind_some, bne_self_eq_false, cond_false]
    by_cases hc0 : c = 0
    · subst hc0; rfl
    · have e1 : ((c : Int) == 0) = false := by
        simp [hc0]
      rw [e1]
      simp only [cond_false]
      by_cases hx : x < 0
      · rw [decide_eq_true hx]; rfl
      · rw [decide_eq_false hx]
        simp only [cond_false, joinB_inl]
        exact rvTail_ok (by omega) (by omega) (by omega) (by omega) (by omega) ⟨s1, s2⟩ ⟨f1, f2⟩ hp
  · rw [Take_no (Resolve_no hck hne) hne]
    simp only [Option.bind_some]
    rw [bne_t hne]; rfl
theorem slicingReversed_plain {l : List Int} {s : Sl} {x : Int} (hl : Wf (.list (.int .i64)) l) (hs : Wf SlT s) (hx : Wf (.int .i64) x) : brindlewoodlaw3_SlicingReversed 1000000000000000000 l s x = some true :=
  slicingReversed_ok (by decide) cuts_ok hs
end Go.Pl
