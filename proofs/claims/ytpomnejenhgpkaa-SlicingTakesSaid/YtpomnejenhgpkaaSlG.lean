/- SlicingBack: its plain function answers true.  Conditions: limbs within their kind, lists no longer than memory. -/
import Derived.Test.YtpomnejenhgpkaaSlF
set_option linter.unusedVariables false
set_option linter.unusedSimpArgs false
set_option maxHeartbeats 0
namespace Go.Pl
open Go Go.Ev Go.Sh
def putL (l : List Int) (f st : Int) (w : List Int) (i : Nat) : List Int := (List.range i).foldl (fun out (t : Nat) => out.set (f + (t : Int) * st).toNat (rd w t)) l
theorem putL_succ (l : List Int) (f st : Int) (w : List Int) (i : Nat) : putL l f st w (i + 1) = (putL l f st w i).set (f + (i : Int) * st).toNat (rd w i) := by
  unfold putL
  rw [List.range_succ, List.foldl_append]; rfl
theorem putL_length (l : List Int) (f st : Int) (w : List Int) : ∀ i : Nat, (putL l f st w i).length = l.length := by
  intro i
  induction i with
  | zero => rfl
  | succ i ih => rw [putL_succ, List.length_set, ih]
theorem Put_l0 (k : Nat) (l w : List Int) (hl : (l.length : Int) ≤ 4000) (hw : (w.length : Int) ≤ 4000) {f st : Int} (hf : -1 ≤ f ∧ f ≤ 4000) (hp : ∀ i : Nat, i < w.length → 0 ≤ f + (i : Int) * st ∧ f + (i : Int) * st < l.length) : ∀ (m i : Nat), i ≤ w.length → w.length - i < m →
    slicing_Put_int.l0 k m (0, 0) f st (putL l f st w i) w w.length i = some (.inl ((0, 0), putL l f st w w.length)) := by
  intro m
  induction m with
  | zero => intro i _ h; omega
  | succ m ih =>
    intro i h1 h2
    simp only [slicing_Put_int.l0, slicing_Put_int.b0]
    by_cases h : i < w.length
    · obtain ⟨p1, p2⟩ := hp i h
      have e1 : w64 ((i : Int) * st) = (i : Int) * st := w64_id (by omega) (by omega)
      have e2 : w64 (f + (i : Int) * st) = f + (i : Int) * st := w64_id (by omega) (by omega)
      have e3 : w64 ((i : Int) + 1) = ((i + 1 : Nat) : Int) := by rw [w64_id (by omega) (by omega)]; omega
      rw [dlt_t (by omega), inR_t (by omega) (by omega), e1, e2, inR_t p1 (by rw [putL_length]; exact p2), e3]
      simp only [cond_true]
      have := ih (i + 1) (by omega) (by omega)
      rw [putL_succ] at this
      exact this
    · have : i = w.length := by omega
      subst this
      rw [dlt_f (by omega)]; rfl
theorem Put_no {k : Nat} {l w : List Int} {most : Int} {s : Sl} {a b c : Int} {f : Int × Int} (hr : slicing_Resolve k s l.length = some (a, b, c, f)) (hf : f.1 ≠ 0) : slicing_Put_int k l s w most = some ([], f) := by
  unfold slicing_Put_int
  rw [hr]
  simp only [Option.bind_some]
  rw [bne_t hf]; rfl
theorem fits_i64 {n : Nat} (h : (n : Int) ≤ 4000) : fitsB n 8 = true := fits_t (by omega)
theorem Put_ok {k : Nat} (hk : 20000 < k) {l w : List Int} {most : Int} (hl : (l.length : Int) ≤ 4000) (hw : (w.length : Int) ≤ 20000000000000) (hfit : fitsB (w.length + 4000) 8 = true) {s : Sl} {f st : Int} {c : Nat} (hr : slicing_Resolve k s l.length = some (f, st, (c : Int), 0, 0)) (hc : c ≤ l.length) (hf : -1 ≤ f ∧ f ≤ 4000) (h1 : st = 1 → 0 ≤ f ∧ f + c ≤ l.length) (hp : ∀ i : Nat, i < c → 0 ≤ f + (i : Int) * st ∧ f + (i : Int) * st < l.length) :
    slicing_Put_int k l s w most = some (if st ≠ 1 ∧ (w.length : Int) ≠ c then ([], 9, -3) else if most < (l.length : Int) - c + w.length then ([], 14, -1) else if st = 1 then (l.take f.toNat ++ w ++ l.drop (f.toNat + c), 0, 0) else (putL l f st w w.length, 0, 0)) := by
  have hat : ∀ a b : Int, slicing_at a b = some (a, b) := fun _ _ => rfl
  unfold slicing_Put_int
  rw [hr]
  simp only [Option.bind_some, bne_self_eq_false, cond_false]
  have e1 : w64 (w64 ((l.length : Int) - c) + w.length) = (l.length : Int) - c + w.length := by rw [w64_id (n := (l.length : Int) - c) (by omega) (by omega), w64_id (by omega) (by omega)]
  by_cases hs : st = 1
  · subst hs
    obtain ⟨f0, fc⟩ := h1 rfl
    obtain ⟨F, rfl⟩ : ∃ F : Nat, f = F := ⟨f.toNat, by omega⟩
    rw [if_neg (fun h => h.1 rfl)]
    simp only [bne_self_eq_false, cond_false, joinB_inl]
    rw [e1]
    by_cases hm : most < (l.length : Int) - c + w.length
    · rw [decide_eq_true hm, if_pos hm]; rfl
    · rw [decide_eq_false hm, if_neg hm]
      simp only [if_true, cond_false, beq_self_eq_true, cond_true]
      have e2 : w64 ((F : Int) + c) = ((F + c : Nat) : Int) := by rw [w64_id (by omega) (by omega)]; omega
      rw [e2, dle_t (show (0 : Int) ≤ F by omega), dle_t (show (F : Int) ≤ l.length by omega), dle_t (show (0 : Int) ≤ ((F + c : Nat) : Int) by omega), dle_t (show ((F + c : Nat) : Int) ≤ l.length by omega), dle_t (show (l.length : Int) ≤ l.length by omega)]
      have s1 : Ev.sub l 0 ((F : Int) - 0) = l.take F := by
        show (l.drop 0).take ((F : Int) - 0).toNat = _
        rw [List.drop_zero, show ((F : Int) - 0).toNat = F by omega]
      have s2 : Ev.sub l ((F + c : Nat) : Int) ((l.length : Int) - ((F + c : Nat) : Int)) = l.drop (F + c) := by
        show (l.drop (((F + c : Nat) : Int)).toNat).take ((l.length : Int) - ((F + c : Nat) : Int)).toNat = _
        rw [natCast_toNat, List.take_of_length_le (by rw [List.length_drop]; omega)]
      have hcc := Concat_ok (k := k) (A := l.take F) (B := w) (C := l.drop (F + c)) (by omega) (fits_less hfit (by rw [List.length_take, List.length_drop]; omega)) (by rw [List.length_take, List.length_drop]; omega)
      rw [s1, s2, hcc]
      simp only [Int.le_refl, Nat.le_refl, decide_true, Bool.and_self, cond_true, Option.bind_some, natCast_toNat]
  · rw [bne_t hs]
    simp only [cond_true, joinB_inl]
    by_cases hlen : (w.length : Int) = c
    · rw [bne_f hlen, if_neg (fun h => h.2 hlen)]
      simp only [cond_false]
      rw [e1]
      by_cases hm : most < (l.length : Int) - c + w.length
      · rw [decide_eq_true hm, if_pos hm]; rfl
      · rw [decide_eq_false hm, if_neg hm, if_neg hs, beq_f hs]
        simp only [cond_false]
        have hcl : slices_Clone_intint l = some l := by
          unfold slices_Clone_intint
          rw [fits_i64 (by omega)]; rfl
        rw [hcl]
        simp only [Option.bind_some]
        have hP := Put_l0 k l w hl (by omega) hf (fun i hi => hp i (by omega)) k 0 (by omega) (by omega)
        have hP' : slicing_Put_int.l0 k k (0, 0) f st l w w.length 0 = _ := hP
        rw [hP']; rfl
    · rw [bne_t hlen, if_pos ⟨hs, hlen⟩]; rfl
theorem Resolve_ex2 {k : Nat} (hk : 2000 < k) {a b d n : Int} {ha hb hd : Bool} (va : a.natAbs < ilim) (vb : b.natAbs < ilim) (vd : d.natAbs < ilim) (h0 : 0 ≤ n) (hn : n ≤ 4000) (hc : slicing_Check (sz a b d ha hb hd) = some (0, 0)) (hd0 : hd = true → d ≠ 0) :
    ∃ (f st : Int) (c : Nat), slicing_Resolve k (sz a b d ha hb hd) n = some (f, st, (c : Int), 0, 0) ∧ c ≤ n ∧ -1 ≤ f ∧ f ≤ 4000 ∧ -10000 ≤ st ∧ st ≤ 10000 ∧ (∀ i : Nat, i < c → 0 ≤ f + (i : Int) * st ∧ f + (i : Int) * st < n) ∧ st ≠ 0 ∧ (st = 1 → 0 ≤ f ∧ f + c ≤ n) ∧
      f = sStart (sStep d hd) a n ha ∧ st = sStep d hd ∧ (c : Int) = sCount (sStep d hd) (sStart (sStep d hd) a n ha) (sStop (sStep d hd) b n hb) := by
  obtain ⟨r1, r2, r3⟩ := sStep_rng hd0
  obtain ⟨l1, l2, l3, l4⟩ := sLo_hi (st := sStep d hd) h0
  have rs := sStart_rng (st := sStep d hd) (a := a) (ha := ha) h0
  have rt := sStop_rng (st := sStep d hd) (a := b) (ha := hb) h0
  have hcr := count_rng r3 h0 rs.1 rs.2 rt.1 rt.2
  have hR := Resolve_ok hk va vb vd h0 hn hc hd0
  obtain ⟨c, hcn⟩ : ∃ c : Nat, sCount (sStep d hd) (sStart (sStep d hd) a n ha) (sStop (sStep d hd) b n hb) = c := ⟨_, (Int.toNat_of_nonneg hcr.1).symm⟩
  rw [hcn] at hR hcr
  have hpl : ∀ i : Nat, i < c → 0 ≤ sStart (sStep d hd) a n ha + (i : Int) * sStep d hd ∧ sStart (sStep d hd) a n ha + (i : Int) * sStep d hd < n := fun i hi => place_rng r3 rs.1 rs.2 rt.1 rt.2 (by omega) (by rw [hcn]; omega)
  refine ⟨_, _, c, hR, hcr.2, by omega, by omega, r1, r2, hpl, r3, fun e => ?_, rfl, rfl, hcn.symm⟩
  have e1 : sLo (sStep d hd) = 0 := by unfold sLo; rw [if_neg (by omega)]
  have e2 : sHi (sStep d hd) n = n := by unfold sHi; rw [if_neg (by omega)]
  refine ⟨by omega, ?_⟩
  by_cases hz : c = 0
  · omega
  · have := hpl (c - 1) (by omega)
    have h2 : ((c - 1 : Nat) : Int) * sStep d hd = ((c - 1 : Nat) : Int) := by rw [e, Int.mul_one]
    omega
theorem put_same {l : List Int} {f st : Int} {c : Nat} (hp : ∀ i : Nat, i < c → 0 ≤ f + (i : Int) * st ∧ f + (i : Int) * st < l.length) : ∀ i : Nat, i ≤ c → putL l f st (tk l f st c) i = l := by
  intro i
  induction i with
  | zero => intro _; rfl
  | succ i ih =>
    intro hi
    obtain ⟨p1, p2⟩ := hp i (by omega)
    rw [putL_succ, ih (by omega), tk_rd (by omega) (by omega)]
    generalize f + (i : Int) * st = p at *
    obtain ⟨j, rfl⟩ : ∃ j : Nat, p = j := ⟨p.toNat, by omega⟩
    rw [natCast_toNat, rd_nat]
    apply List.ext_getElem (by simp)
    intro m h1 h2
    rw [List.getElem_set]
    by_cases hm : j = m
    · subst hm
      rw [if_pos rfl, List.getD_eq_getElem?_getD, List.getElem?_eq_getElem h2]; rfl
    · rw [if_neg hm]
def sbTail (k : Nat) (z11 : List Int × Sl × List Int × Int × Int) : Option Bool :=
  (slicing_Put_int k z11.1 z11.2.1 [] (z11.1.length : Int)).bind fun t12 => bif (z11.2.2.2.1 == 1) then (bif (t12.2.1 == 0) then ((brindlewoodref3_Numbers k t12.1 z11.2.2.1).bind fun t13 => some t13) else (some false)) else (bif (z11.2.2.2.2 == 0) then (bif (t12.2.1 == 0) then ((brindlewoodref3_Numbers k t12.1 z11.1).bind fun t14 => bif t14 then (some true) else (bif decide (0 < z11.2.2.2.2) then ((brindlewoodref3_At 9 (-3)).bind fun t15 => let c16 := ((t12.2.1 == t15.1) && ((t12.2.2 == t15.2) && true)); some c16) else (some false))) else (bif decide (0 < z11.2.2.2.2) then ((brindlewoodref3_At 9 (-3)).bind fun t17 => let c18 := ((t12.2.1 == t17.1) && ((t12.2.2 == t17.2) && true)); some c18) else (some false))) else (bif decide (0 < z11.2.2.2.2) then ((brindlewoodref3_At 9 (-3)).bind fun t19 => let c20 := ((t12.2.1 == t19.1) && ((t12.2.2 == t19.2) && true)); some c20) else (some false)))
theorem sbTail_ok {k : Nat} (hk : 100000000000001 < k) {l : List Int} (hl : (l.length : Int) ≤ 4000) {s : Sl} {f st : Int} {c : Nat} (hr : slicing_Resolve k s l.length = some (f, st, (c : Int), 0, 0)) (hc : c ≤ l.length) (hf : -1 ≤ f ∧ f ≤ 4000) (hst : st ≠ 0) (h1 : st = 1 → 0 ≤ f ∧ f + c ≤ l.length) (hp : ∀ i : Nat, i < c → 0 ≤ f + (i : Int) * st ∧ f + (i : Int) * st < l.length) : sbTail k (l, s, left l f st c l.length, st, c) = some true := by
  have hat : ∀ a b : Int, brindlewoodref3_At a b = some (a, b) := fun _ _ => rfl
  have hP := Put_ok (k := k) (w := []) (most := l.length) (by omega) hl (by simp) (fits_t (by decide)) hr hc hf h1 hp
  rw [if_neg (show ¬ ((l.length : Int) < (l.length : Int) - c + (([] : List Int).length : Nat)) by simp; omega)] at hP
  unfold sbTail
  rw [hP]
  simp only [Option.bind_some]
  by_cases hs : st = 1
  · subst hs
    obtain ⟨f0, fc⟩ := h1 rfl
    obtain ⟨F, rfl⟩ : ∃ F : Nat, f = F := ⟨f.toNat, by omega⟩
    rw [if_neg (fun h => h.1 rfl), if_pos rfl, left_one' (by omega), natCast_toNat, List.append_nil]
    simp only [beq_self_eq_true, cond_true]
    rw [Nums_ok (by rw [List.length_append, List.length_take, List.length_drop]; omega) (by omega), decide_eq_true rfl]; rfl
  · rw [beq_f hs]
    simp only [cond_false]
    by_cases hz : c = 0
    · subst hz
      rw [if_neg (fun h => h.2 rfl), if_neg hs]
      have e : putL l f st [] ([] : List Int).length = l := rfl
      rw [e, Nums_ok (by show (l.length : Int) ≤ _; omega) (by omega), decide_eq_true rfl]; rfl
    · rw [if_pos ⟨hs, by simp; omega⟩, beq_f (show (c : Int) ≠ 0 by omega), decide_eq_true (show (0 : Int) < c by omega)]
      rfl
theorem slicingBack_ok {k : Nat} (hk : 100000000000001 < k) (hcuts : brindlewoodlaw3_cuts k = some true) {l : List Int} {s : Sl} (hs : Wf SlT s) : brindlewoodlaw3_SlicingBack k l s = some true := by
  obtain ⟨ha, hb, hc, hor⟩ := slice_cases hs
  have hck := slCheck_ok ha hb hc
  unfold brindlewoodlaw3_SlicingBack
  rw [hcuts]
  simp only [Option.bind_some, Bool.not_true, cond_false]
  by_cases hl : (4000 : Int) < (l.length : Int)
  · rw [dlt_t hl]; rfl
  rw [dlt_f (by omega)]
  simp only [cond_false, joinB_inl]
  rcases hor with ⟨a, b, d, ga, gb, gd, va, vb, vd, rfl, h0, hd0⟩ | hne
  · rw [h0] at hck
    obtain ⟨f, st, c, hR, hcn, f1, f2, s1, s2, hp, hst, h1, _, _, _⟩ := Resolve_ex2 (k := k) (by omega) va vb vd (n := l.length) (by omega) (by omega) hck hd0
    have hcn' : c ≤ l.length := by omega
    have hT := Take_ok (by omega) (by omega) hR (by omega) ⟨f1, f2⟩ hp
    have hD := Drop_ok (by omega) (by omega) hR (by omega) ⟨f1, f2⟩ hp
    have hP := Put_ok (k := k) (w := tk l f st c) (most := l.length) (by omega) (by omega) (by rw [tk_length]; omega) (fits_t (by rw [tk_length]; omega)) hR hcn' ⟨f1, f2⟩ (fun e => h1 e) hp
    rw [if_neg (fun h => h.2 (by rw [tk_length])), if_neg (show ¬ ((l.length : Int) < (l.length : Int) - c + ((tk l f st c).length : Nat)) by rw [tk_length]; omega)] at hP
    have hP2 : slicing_Put_int k l (sz a b d ga gb gd) (tk l f st c) l.length = some (l, 0, 0) := by
      rw [hP]
      by_cases hs1 : st = 1
      · subst hs1
        obtain ⟨f0, fc⟩ := h1 rfl
        obtain ⟨F, rfl⟩ : ∃ F : Nat, f = F := ⟨f.toNat, by omega⟩
        rw [if_pos rfl, natCast_toNat, tk_one (by omega), three_parts (by omega)]
      · rw [if_neg hs1, tk_length, put_same hp c (Nat.le_refl _)]
    have hll := left_length hst hp
    rw [hT]
    simp only [Option.bind_some]
    rw [hP2, hD]
    simp only [Option.bind_some, bne_self_eq_false, cond_false]
    rw [hR]
    simp only [Option.bind_some, bne_self_eq_false, cond_false]
    rw [Nums_ok (by omega) (by omega), decide_eq_true rfl]
    simp only [Option.bind_some, Bool.not_true, cond_false]
    rw [bne_f (show ((tk l f st c).length : Int) = c by rw [tk_length]), bne_f (show w64 (((tk l f st c).length : Int) + (left l f st c l.length).length) = l.length by rw [tk_length, w64_id (by omega) (by omega)]; omega)]
    simp only [cond_false, joinB_inl]
    exact sbTail_ok hk (by omega) hR hcn' ⟨f1, f2⟩ hst h1 hp
  · have hR := Resolve_no (k := k) (n := l.length) hck hne
    rw [Take_no hR hne]
    simp only [Option.bind_some]
    rw [Put_no hR hne, Drop_no hR hne]
    simp only [Option.bind_some]
    rw [bne_t hne]
    simp only [cond_true, beq_self_eq_true, Bool.and_self]
theorem slicingBack_plain {l : List Int} {s : Sl} (hl : Wf (.list (.int .i64)) l) (hs : Wf SlT s) : brindlewoodlaw3_SlicingBack 1000000000000000000 l s = some true :=
  slicingBack_ok (by decide) cuts_ok hs
end Go.Pl
