/- RationalField: its plain function answers true.  Conditions: values within their kinds, lists no longer than memory. -/
import Derived.Test.YtpigdmmofiiacaaRaC
set_option linter.unusedVariables false
set_option linter.unusedSimpArgs false
set_option maxHeartbeats 0
namespace Go.Pl
open Go Go.Ev Go.Sh
theorem e12_ex : ∃ e : Nat, e = 12 := ⟨_, rfl⟩
noncomputable def e12 : Nat := Classical.choose e12_ex
theorem e12_eq : e12 = 12 := Classical.choose_spec e12_ex
noncomputable def flim : Nat := 4294967296 ^ e12
theorem flim_iff {n : Nat} : (dg 4294967296 n).length ≤ 12 ↔ n < flim := by rw [← e12_eq]; exact dg_len_iff hB32
theorem flim_four : 4 * (flim * flim * (flim * flim)) ≤ ilim ∧ 4 * (flim * flim * flim) ≤ ilim ∧ 4 * (flim * flim) ≤ ilim ∧ 2 ≤ flim := by
  have h2 : 2 ≤ flim := by
    have : (1 : Nat) < flim := flim_iff.1 (by decide)
    omega
  have h : 4 * (flim * flim * (flim * flim)) ≤ ilim := by
    have h1 : 4 * (flim * flim * (flim * flim)) ≤ flim * flim * (flim * flim) * 4294967296 := by omega
    refine Nat.le_trans h1 ?_
    unfold flim ilim
    rw [← Nat.pow_add, ← Nat.pow_add, ← Nat.pow_succ]
    exact Nat.pow_le_pow_right (by decide) (by have := e12_eq; have := e128_eq; omega)
  have h3 : flim * flim * flim ≤ flim * flim * (flim * flim) := Nat.mul_le_mul_left _ (Nat.le_mul_of_pos_left _ (by omega))
  have h4 : flim * flim ≤ flim * flim * (flim * flim) := Nat.le_mul_of_pos_right _ (Nat.mul_pos (by omega) (by omega))
  omega
theorem low_cross {x : Int} {y : Nat} (hy : 0 < y) : rnum x y * y = x * rden x y := by
  obtain ⟨g, _, _, h1, h2, _, _⟩ := low_facts (x := x) hy
  generalize rnum x y = p at *
  generalize rden x y = q at *
  subst h1; subst h2
  rw [Int.natCast_mul]; grind
theorem field_l0 (k : Nat) (a b c : Rt) (l : List Rt) (hl : (l.length : Int) ≤ 1000) : ∀ (n i : Nat), l.length - i < n → i ≤ l.length →
    brindlewoodlaw3_RationalField.l0 k n a b c l l.length i = some (.inr true) ∨ (brindlewoodlaw3_RationalField.l0 k n a b c l l.length i = some (.inl (a, b, c)) ∧ ∀ x ∈ l.drop i, x.1.2.length ≤ 12 ∧ x.2.2.length ≤ 12) := by
  intro n
  induction n with
  | zero => intro i h; omega
  | succ n ih =>
    intro i h1 h2
    simp only [brindlewoodlaw3_RationalField.l0, brindlewoodlaw3_RationalField.b0]
    by_cases hi : i < l.length
    · have e1 : w64 ((i : Int) + 1) = ((i + 1 : Nat) : Int) := by rw [w64_id (by omega) (by omega)]; omega
      have hd : l.drop i = l[i] :: l.drop (i + 1) := List.drop_eq_getElem_cons hi
      have hn : nth RtT l (i : Int) = l[i] := by
        show l.getD i _ = _
        rw [List.getD_eq_getElem?_getD, List.getElem?_eq_getElem hi]; rfl
      have hn' : nth (.st (.pair (.st (.pair (.bool) (.list (.int .u32)))) (.st (.pair (.bool) (.list (.int .u32)))))) l (i : Int) = l[i] := hn
      rw [dlt_t (by omega), inR_t (by omega) (by omega), hn', e1, hd]
      simp only [cond_true]
      by_cases c1 : 12 < l[i].1.2.length
      · rw [dlt_t (by omega)]; exact .inl rfl
      · rw [dlt_f (by omega)]
        simp only [cond_false]
        by_cases c2 : 12 < l[i].2.2.length
        · rw [dlt_t (by omega)]; exact .inl rfl
        · rw [dlt_f (by omega)]
          simp only [cond_false]
          rcases ih (i + 1) (by omega) (by omega) with h | ⟨h, g⟩
          · exact .inl h
          · refine .inr ⟨h, fun x hx => ?_⟩
            rcases List.mem_cons.1 hx with rfl | hx
            · omega
            · exact g x hx
    · have e1 : i = l.length := by omega
      subst e1
      rw [dlt_f (by omega), List.drop_length]
      exact .inr ⟨rfl, by simp⟩
theorem sum_fits {x : Int} {y : Nat} (hy : 0 < y) (h1 : x.natAbs < ilim) (h2 : y < ilim) : ratres x y = (rq (rnum x y) (rden x y), 0, 0) ∧ RatV (rnum x y) (rden x y) := by
  obtain ⟨l1, l2⟩ := rnum_le (x := x) hy
  exact ⟨ratres_ok (by omega) (by omega), rnum_V hy (by omega) (by omega)⟩
theorem nat3 {a b c M N K : Nat} (ha : a ≤ M) (hb : b ≤ N) : a * b ≤ M * N := Nat.mul_le_mul ha hb
theorem rf_valid {k : Nat} (hk : 100000000000000 < k) {pa pb pc : Int} {qa qb qc : Nat} (va : RatV pa qa) (vb : RatV pb qb) (vc : RatV pc qc)
    (ba : pa.natAbs < flim ∧ qa < flim) (bb : pb.natAbs < flim ∧ qb < flim) (bc : pc.natAbs < flim ∧ qc < flim) (wz : ∀ x y, RatV x y → brindlewoodref3_RatioOk k (rq x y) = some true) :
    ∃ s d p x y z : Rt, rational_Add k (rq pa qa) (rq pb qb) = some (s, 0, 0) ∧ rational_Sub k s (rq pb qb) = some (d, 0, 0) ∧ rational_Mul k s (rq pc qc) = some (p, 0, 0) ∧
      rational_Mul k (rq pa qa) (rq pc qc) = some (x, 0, 0) ∧ rational_Mul k (rq pb qb) (rq pc qc) = some (y, 0, 0) ∧ rational_Add k x y = some (z, 0, 0) ∧ d = rq pa qa ∧ p = z ∧ (∃ u v, RatV u v ∧ z = rq u v) ∧ (pc ≠ 0 → rational_Div k x (rq pc qc) = some (rq pa qa, 0, 0)) := by
  have hk' : 20000000000 < k := by omega
  obtain ⟨f4, f3, f2, f1⟩ := flim_four
  obtain ⟨a1, a2, a3, a4⟩ := va
  obtain ⟨b1, b2, b3, b4⟩ := vb
  obtain ⟨c1, c2, c3, c4⟩ := vc
  -- the sum
  have u1 := mul_lt_sq ba.1 bb.2
  have u2 := mul_lt_sq bb.1 ba.2
  have u3 := mul_lt_sq ba.2 bb.2
  have sx : (pa * (qb : Int) + pb * (qa : Int)).natAbs ≤ 2 * (flim * flim) := by
    have h1 : (pa * (qb : Int)).natAbs = pa.natAbs * qb := by rw [Int.natAbs_mul, Int.natAbs_natCast]
    have h2 : (pb * (qa : Int)).natAbs = pb.natAbs * qa := by rw [Int.natAbs_mul, Int.natAbs_natCast]
    omega
  have sy0 : 0 < qa * qb := Nat.mul_pos a3 b3
  obtain ⟨s1, s2⟩ := sum_fits sy0 (x := pa * (qb : Int) + pb * (qa : Int)) (by omega) (by omega)
  have sc := low_cross (x := pa * (qb : Int) + pb * (qa : Int)) sy0
  obtain ⟨sl1, sl2⟩ := rnum_le (x := pa * (qb : Int) + pb * (qa : Int)) sy0
  have eS := qAdd_ok hk' ⟨a1, a2, a3, a4⟩ ⟨b1, b2, b3, b4⟩
  rw [s1] at eS
  have sb1 : (rnum (pa * (qb : Int) + pb * (qa : Int)) (qa * qb)).natAbs ≤ 2 * (flim * flim) := Nat.le_trans sl1 sx
  have sb2 : rden (pa * (qb : Int) + pb * (qa : Int)) (qa * qb) ≤ flim * flim := by omega
  generalize rnum (pa * (qb : Int) + pb * (qa : Int)) (qa * qb) = sn at *
  generalize rden (pa * (qb : Int) + pb * (qa : Int)) (qa * qb) = sd at *
  obtain ⟨sv1, sv2, sv3, sv4⟩ := s2
  rw [Int.natCast_mul] at sc
  -- the difference
  have eD := qSub_ok hk' ⟨sv1, sv2, sv3, sv4⟩ ⟨b1, b2, b3, b4⟩
  obtain ⟨d1, d2⟩ := low_is (p := pa) (q := qa) (x := sn * (qb : Int) + -pb * (sd : Int)) (y := sd * qb) a3 (Nat.mul_pos sv3 b3) a4 (by rw [Int.natCast_mul]; grind)
  rw [ratres_ok (by rw [d1]; exact a1) (by rw [d2]; exact a2), d1, d2] at eD
  -- products
  have eX := qMul_ok hk' ⟨a1, a2, a3, a4⟩ ⟨c1, c2, c3, c4⟩
  have eY := qMul_ok hk' ⟨b1, b2, b3, b4⟩ ⟨c1, c2, c3, c4⟩
  have eP := qMul_ok hk' ⟨sv1, sv2, sv3, sv4⟩ ⟨c1, c2, c3, c4⟩
  have xy0 : 0 < qa * qc := Nat.mul_pos a3 c3
  have yy0 : 0 < qb * qc := Nat.mul_pos b3 c3
  have py0 : 0 < sd * qc := Nat.mul_pos sv3 c3
  have v1 := mul_lt_sq ba.1 bc.1
  have v2 := mul_lt_sq ba.2 bc.2
  have v3 := mul_lt_sq bb.1 bc.1
  have v4 := mul_lt_sq bb.2 bc.2
  have v5 : sn.natAbs * pc.natAbs ≤ 2 * (flim * flim) * flim := Nat.mul_le_mul sb1 (by omega)
  have v6 : sd * qc ≤ flim * flim * flim := Nat.mul_le_mul sb2 (by omega)
  have v5' : 2 * (flim * flim) * flim = 2 * (flim * flim * flim) := by rw [Nat.mul_assoc]
  have m1 : (pa * pc).natAbs = pa.natAbs * pc.natAbs := Int.natAbs_mul _ _
  have m2 : (pb * pc).natAbs = pb.natAbs * pc.natAbs := Int.natAbs_mul _ _
  have m3 : (sn * pc).natAbs = sn.natAbs * pc.natAbs := Int.natAbs_mul _ _
  have q0 : 0 < flim * flim := Nat.mul_pos (by omega) (by omega)
  have q1 : 0 < flim * flim * flim := Nat.mul_pos q0 (by omega)
  obtain ⟨x1, x2⟩ := sum_fits xy0 (x := pa * pc) (by omega) (by omega)
  obtain ⟨y1, y2⟩ := sum_fits yy0 (x := pb * pc) (by omega) (by omega)
  obtain ⟨p1, p2⟩ := sum_fits py0 (x := sn * pc) (by omega) (by omega)
  have xc := low_cross (x := pa * pc) xy0
  have yc := low_cross (x := pb * pc) yy0
  obtain ⟨xl1, xl2⟩ := rnum_le (x := pa * pc) xy0
  obtain ⟨yl1, yl2⟩ := rnum_le (x := pb * pc) yy0
  rw [x1] at eX
  rw [y1] at eY
  rw [p1] at eP
  generalize hxn : rnum (pa * pc) (qa * qc) = xn at *
  generalize hxd : rden (pa * pc) (qa * qc) = xd at *
  generalize hyn : rnum (pb * pc) (qb * qc) = yn at *
  generalize hyd : rden (pb * pc) (qb * qc) = yd at *
  obtain ⟨xv1, xv2, xv3, xv4⟩ := x2
  obtain ⟨yv1, yv2, yv3, yv4⟩ := y2
  rw [Int.natCast_mul] at xc yc
  -- the sum of the products
  have eZ := qAdd_ok hk' ⟨xv1, xv2, xv3, xv4⟩ ⟨yv1, yv2, yv3, yv4⟩
  have zy0 : 0 < xd * yd := Nat.mul_pos xv3 yv3
  obtain ⟨z1, z2⟩ := low_eq (x := sn * pc) (x' := xn * (yd : Int) + yn * (xd : Int)) (y := sd * qc) (y' := xd * yd) py0 zy0 (by
    rw [Int.natCast_mul, Int.natCast_mul]
    refine Int.eq_of_mul_eq_mul_left (a := (qa : Int) * qb * qc) (by
      have := Int.mul_pos (Int.mul_pos (show (0 : Int) < qa by omega) (show (0 : Int) < qb by omega)) (show (0 : Int) < qc by omega)
      omega) ?_
    have g1 : (qa : Int) * qb * qc * (sn * pc * (xd * yd)) = sn * (qa * qb) * (pc * qc * xd * yd) := by grind
    have g2 : (qa : Int) * qb * qc * ((xn * yd + yn * xd) * (sd * qc)) = (xn * (qa * qc)) * (qb * yd * sd * qc) + (yn * (qb * qc)) * (qa * xd * sd * qc) := by grind
    rw [g1, g2, sc, xc, yc]
    grind)
  rw [z1, z2] at eP
  rw [z1, z2] at p2
  rw [ratres_ok p2.1 p2.2.1] at eZ
  refine ⟨_, _, _, _, _, _, eS, eD, eP, eX, eY, eZ, rfl, rfl, ⟨_, _, p2, rfl⟩, fun h0 => ?_⟩
  have eQ := qDiv_ok hk' ⟨xv1, xv2, xv3, xv4⟩ ⟨c1, c2, c3, c4⟩
  rw [if_neg h0] at eQ
  obtain ⟨w1, w2⟩ := low_is (p := pa) (q := qa) (x := divX xn pc qc) (y := xd * pc.natAbs) a3 (Nat.mul_pos xv3 (by omega)) a4 (by
    rw [Int.natCast_mul]
    unfold divX
    by_cases hneg : pc < 0
    · rw [if_pos hneg]
      have : (pc.natAbs : Int) = -pc := by omega
      rw [this]; grind
    · rw [if_neg hneg]
      have : (pc.natAbs : Int) = pc := by omega
      rw [this]; grind)
  rw [ratres_ok (by rw [w1]; exact a1) (by rw [w2]; exact a2), w1, w2] at eQ
  exact eQ
end Go.Pl
