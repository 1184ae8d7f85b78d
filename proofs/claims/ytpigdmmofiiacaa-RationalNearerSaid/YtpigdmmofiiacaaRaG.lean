/- Ratios: floors, roundings, the terms of continued fractions.  Conditions: those that each theorem names. -/
import Derived.Test.YtpigdmmofiiacaaRaC
import Derived.Test.YtpigdmmofiiacaaPiK
set_option linter.unusedVariables false
set_option linter.unusedSimpArgs false
namespace Go.Pl
open Go Go.Ev Go.Sh
def cf (x : Int) (y : Nat) : List Int := if h : y = 0 then [] else (x / (y : Int)) :: cf (y : Int) (x % (y : Int)).toNat
termination_by y
decreasing_by
  have h1 := Int.emod_lt_of_pos x (show (0 : Int) < y by omega)
  have h2 := Int.emod_nonneg x (show (y : Int) ≠ 0 by omega)
  omega
theorem cf_zero (x : Int) : cf x 0 = [] := by rw [cf]; rfl
theorem cf_pos (x : Int) {y : Nat} (hy : 0 < y) : cf x y = (x / (y : Int)) :: cf (y : Int) (x % (y : Int)).toNat := by
  conv => lhs; rw [cf]
  rw [dif_neg (by omega)]
def cst (p : Int) (q : Nat) : Nat → Int × Nat
  | 0 => (p, q)
  | j + 1 => (((cst p q j).2 : Int), ((cst p q j).1 % ((cst p q j).2 : Int)).toNat)
theorem gcd_emod {p : Int} {q : Nat} (hq : 0 < q) : Nat.gcd q (p % (q : Int)).toNat = Nat.gcd p.natAbs q := by
  obtain ⟨l, hl⟩ : ∃ l : Nat, p % (q : Int) = l := ⟨(p % (q : Int)).toNat, by have := Int.emod_nonneg p (show (q : Int) ≠ 0 by omega); omega⟩
  have hd : (q : Int) ∣ p - l := by rw [← hl]; exact Int.dvd_self_sub_emod
  obtain ⟨c, hc⟩ := hd
  rw [hl, Int.toNat_natCast]
  refine Nat.dvd_antisymm (Nat.dvd_gcd ?_ (Nat.gcd_dvd_left _ _)) (Nat.dvd_gcd (Nat.gcd_dvd_right _ _) ?_)
  · have g1 : (Nat.gcd q l : Int) ∣ (q : Int) := Int.ofNat_dvd.2 (Nat.gcd_dvd_left _ _)
    have g2 : (Nat.gcd q l : Int) ∣ (l : Int) := Int.ofNat_dvd.2 (Nat.gcd_dvd_right _ _)
    have : p = q * c + l := by omega
    have h1 : (Nat.gcd q l : Int) ∣ p := by rw [this]; exact Int.dvd_add (Int.dvd_trans g1 (Int.dvd_mul_right _ _)) g2
    exact Int.ofNat_dvd_left.1 h1
  · have g1 : (Nat.gcd p.natAbs q : Int) ∣ (q : Int) := Int.ofNat_dvd.2 (Nat.gcd_dvd_right _ _)
    have g2 : (Nat.gcd p.natAbs q : Int) ∣ p := Int.ofNat_dvd_left.2 (Nat.gcd_dvd_left _ _)
    have : (l : Int) = p - q * c := by omega
    have h1 : (Nat.gcd p.natAbs q : Int) ∣ (l : Int) := by rw [this]; exact Int.dvd_sub g2 (Int.dvd_trans g1 (Int.dvd_mul_right _ _))
    exact Int.ofNat_dvd.1 h1
theorem cst_facts {p : Int} {q : Nat} (hV : RatV p q) : ∀ j, j < (cf p q).length → RatV (cst p q j).1 (cst p q j).2 ∧ (cf p q).drop j = cf (cst p q j).1 (cst p q j).2 ∧ (0 < j → (cst p q j).2 < (cst p q j).1) := by
  intro j
  induction j with
  | zero => intro _; exact ⟨hV, rfl, fun h => by omega⟩
  | succ j ih =>
    intro hj
    obtain ⟨⟨h1, h2, h3, h4⟩, h5, _⟩ := ih (by omega)
    have e1 : cst p q (j + 1) = (((cst p q j).2 : Int), ((cst p q j).1 % ((cst p q j).2 : Int)).toNat) := rfl
    rw [e1]
    have hg := gcd_emod (p := (cst p q j).1) h3
    have hlt := Int.emod_lt_of_pos (cst p q j).1 (show (0 : Int) < ((cst p q j).2 : Int) by omega)
    have hnn := Int.emod_nonneg (cst p q j).1 (show ((cst p q j).2 : Int) ≠ 0 by omega)
    rw [cf_pos _ h3] at h5
    have h6 : (cf p q).drop (j + 1) = cf ((cst p q j).2 : Int) ((cst p q j).1 % ((cst p q j).2 : Int)).toNat := by
      rw [← List.drop_drop, h5]; rfl
    have h7 : 0 < ((cst p q j).1 % ((cst p q j).2 : Int)).toNat := by
      refine Nat.pos_of_ne_zero fun e => ?_
      rw [e, cf_zero] at h6
      have := congrArg List.length h6
      rw [List.length_drop] at this
      simp at this; omega
    rw [h4] at hg
    generalize (cst p q j).1 = x at *
    generalize (cst p q j).2 = y at *
    refine ⟨⟨by simpa using h2, by omega, h7, by simpa using hg⟩, h6, fun _ => by simp only; omega⟩
theorem cf_at {p : Int} {q : Nat} (hV : RatV p q) {j : Nat} (hj : j < (cf p q).length) : (cf p q)[j] = (cst p q j).1 / ((cst p q j).2 : Int) := by
  obtain ⟨h1, h2, _⟩ := cst_facts hV j hj
  rw [cf_pos _ h1.2.2.1] at h2
  have := congrArg (fun l => l[0]?) h2
  simp only [List.getElem?_drop, Nat.add_zero, List.getElem?_cons_zero] at this
  rw [List.getElem?_eq_getElem hj] at this
  exact Option.some.inj this
theorem cf_len_pos {p : Int} {q : Nat} (hq : 0 < q) : 0 < (cf p q).length := by rw [cf_pos _ hq]; simp
theorem iq_edivq {x m : Int} (hm : 0 < m) : iq x m = x / m := by
  have h1 := floor_eq (x := x) (y := m) (by omega)
  rw [ir_emod hm] at h1
  have h2 := Int.mul_ediv_add_emod x m
  have h3 : m * iq x m = m * (x / m) := by omega
  exact Int.eq_of_mul_eq_mul_left (by omega) h3
def cnt (s t d : Int) : Int := if d < 0 then (if t < s then (s - t + (-d - 1)) / (-d) else 0) else (if s < t then (t - s + (d - 1)) / d else 0)
theorem Terms_l0 (k : Nat) (hk : 20000000000 < k) (f : Int × Int) : ∀ (n : Nat) (L : List Int) (x : Int) (y : Nat), 401 - L.length < n → L.length ≤ 400 → x.natAbs < ilim → y < ilim →
    rational_Terms.l0 k n f (L.map iz) (iz x) (iz (y : Int)) = some (if L.length + (cf x y).length ≤ 400 then .inl (f, (L ++ cf x y).map iz) else .inr ([], 2, -1)) := by
  intro n
  induction n with
  | zero => intro L x y h; omega
  | succ n ih =>
    intro L x y h hL hx hy
    simp only [rational_Terms.l0, rational_Terms.b0]
    by_cases h0 : y = 0
    · subst h0
      rw [cf_zero]
      have e : decide (0 < ((iz ((0 : Nat) : Int)).2.length : Int)) = false := rfl
      rw [e]
      simp only [cond_false, List.length_nil, Nat.add_zero, List.append_nil]
      rw [if_pos hL]
    · have hl := (dg_len_pos (n := y) hB32).2 (by omega)
      have e : decide (0 < ((iz (y : Int)).2.length : Int)) = true := dlt_t (by rw [iz_nat]; simp only; omega)
      have hy' : (0 : Int) < (y : Int) := by omega
      rw [e, iDivMod_ok hk hx (by simpa using hy), if_neg (by omega), iq_edivq hy', ir_emod hy']
      simp only [cond_true, Option.bind_some, List.length_map]
      rw [cf_pos _ (by omega)]
      have hlt := Int.emod_lt_of_pos x hy'
      have hnn := Int.emod_nonneg x (show (y : Int) ≠ 0 by omega)
      by_cases h4 : L.length = 400
      · rw [h4, if_neg (by simp only [List.length_cons]; omega)]; rfl
      · rw [beq_f (by omega)]
        simp only [cond_false, List.length_singleton]
        rw [fits_t (by omega)]
        simp only [cond_true]
        have e2 : L.map iz ++ [iz (x / (y : Int))] = (L ++ [x / (y : Int)]).map iz := by simp
        have e3 : (x % (y : Int)) = (((x % (y : Int)).toNat : Nat) : Int) := by omega
        rw [e2]
        conv => lhs; rw [e3]
        rw [ih _ _ _ (by simp; omega) (by simp; omega) (by simpa using hy) (by omega)]
        simp only [List.length_append, List.length_singleton, List.length_cons, List.length_nil, Nat.zero_add, List.append_assoc, List.singleton_append]
        rw [show L.length + 1 + (cf (y : Int) (x % (y : Int)).toNat).length = L.length + ((cf (y : Int) (x % (y : Int)).toNat).length + 1) by omega]
noncomputable def terms (p : Int) (q : Nat) : List (Bool × List Int) × Int × Int := if (cf p q).length ≤ 400 then ((cf p q).map iz, 0, 0) else ([], 2, -1)
theorem qTerms_ok {k : Nat} (hk : 20000000000 < k) {p : Int} {q : Nat} (h : RatV p q) : rational_Terms k (rq p q) = some (terms p q) := by
  unfold rational_Terms
  rw [qcheck1 hk h]
  simp only [Option.bind_some, bne_self_eq_false, cond_false, rq]
  have := Terms_l0 k hk (0, 0) k [] p q (by simp; omega) (by simp) h.1 h.2.1
  rw [List.map_nil] at this
  rw [this]
  simp only [List.length_nil, Nat.zero_add, List.nil_append]
  unfold terms
  split <;> rfl
theorem fl_facts {p : Int} {q : Nat} (h : RatV p q) : 0 ≤ p % (q : Int) ∧ p % (q : Int) < q ∧ RatV (p % (q : Int)) q ∧ (p / (q : Int)).natAbs < ilim ∧ p = q * (p / (q : Int)) + p % (q : Int) := by
  obtain ⟨h1, h2, h3, h4⟩ := h
  have hlt := Int.emod_lt_of_pos p (show (0 : Int) < q by omega)
  have hnn := Int.emod_nonneg p (show (q : Int) ≠ 0 by omega)
  have hg := gcd_emod (p := p) h3
  have hq := iq_lt (x := p) (y := (q : Int)) (by omega) h1
  rw [iq_edivq (by omega)] at hq
  have he := Int.mul_ediv_add_emod p q
  refine ⟨hnn, hlt, ⟨by omega, h2, h3, ?_⟩, hq, he.symm⟩
  rw [h4] at hg
  rw [Nat.gcd_comm]
  have : (p % (q : Int)).natAbs = (p % (q : Int)).toNat := by omega
  rw [this]; exact hg
theorem qFloor_ok {k : Nat} (hk : 20000000000 < k) {p : Int} {q : Nat} (h : RatV p q) : rational_Floor k (rq p q) = some (iz (p / (q : Int)), rq (p % (q : Int)) q, 0, 0) := by
  obtain ⟨f1, f2, f3, f4, f5⟩ := fl_facts h
  have h' := h
  obtain ⟨h1, h2, h3, h4⟩ := h
  unfold rational_Floor
  rw [qcheck1 hk h']
  simp only [Option.bind_some, bne_self_eq_false, cond_false, rq]
  rw [iDivMod_ok hk h1 (by simpa using h2), if_neg (by omega), iq_edivq (by omega), ir_emod (by omega)]
  simp only [Option.bind_some]
  rw [rMake_ok hk f3.1 (by simpa using h2), if_neg (by omega), if_neg (by omega), Int.natAbs_natCast]
  obtain ⟨l1, l2⟩ := low_self (p := p % (q : Int)) h3 f3.2.2.2
  rw [ratres_ok (by rw [l1]; exact f3.1) (by rw [l2]; exact h2), l1, l2]
  rfl
def odd (v : Int) : Bool := decide (v.natAbs % 2 = 1)
theorem odd_dg {b : Nat} (hb : 2 ≤ b) (he : b % 2 = 0) {n : Nat} (hn : 0 < n) : (Int.tmod (rd (dg b n) 0) 2 == 1) = decide (n % 2 = 1) := by
  rw [dg_pos hb hn]
  have e : rd (((n % b : Nat) : Int) :: dg b (n / b)) 0 = ((n % b : Nat) : Int) := rfl
  rw [e]
  have h2 : n % b % 2 = n % 2 := by
    obtain ⟨c, rfl⟩ := Nat.dvd_of_mod_eq_zero he
    exact Nat.mod_mul_right_mod n 2 c
  have e2 : Int.tmod ((n % b : Nat) : Int) 2 = ((n % b % 2 : Nat) : Int) := rfl
  rw [e2, h2]
  by_cases h : n % 2 = 1
  · rw [h]; rfl
  · rw [decide_eq_false h, beq_f (by omega)]
def near (p : Int) (q : Nat) : Int := if (q : Int) < 2 * (p % (q : Int)) ∨ (2 * (p % (q : Int)) = q ∧ odd (p / (q : Int)) = true) then p / (q : Int) + 1 else p / (q : Int)
theorem near_lt {p : Int} {q : Nat} (h : RatV p q) : (near p q).natAbs < ilim := by
  obtain ⟨f1, f2, f3, f4, f5⟩ := fl_facts h
  obtain ⟨h1, h2, h3, h4⟩ := h
  have hi : 4 < ilim := ilim_iff.1 (by decide)
  unfold near
  split
  · rename_i hc
    have hq2 : 2 ≤ q := by omega
    by_cases hneg : p / (q : Int) < 0
    · omega
    · have : 2 * (p / (q : Int)) ≤ q * (p / (q : Int)) := Int.mul_le_mul_of_nonneg_right (by omega) (by omega)
      omega
  · exact f4
theorem qRound_ok {k : Nat} (hk : 20000000000 < k) {p : Int} {q : Nat} (h : RatV p q) : rational_Round k (rq p q) = some (iz (near p q), 0, 0) := by
  have hn := near_lt h
  obtain ⟨f1, f2, f3, f4, f5⟩ := fl_facts h
  have h' := h
  obtain ⟨h1, h2, h3, h4⟩ := h
  have hi := ilim_two
  unfold rational_Round
  rw [qFloor_ok hk h']
  simp only [Option.bind_some, bne_self_eq_false, cond_false, rq]
  have e1 : natural_Add k (iz (p % (q : Int))).2 (iz (p % (q : Int))).2 = some (dg 4294967296 ((p % (q : Int)).natAbs + (p % (q : Int)).natAbs), 0, 0) := by
    show natural_Add k (dg 4294967296 _) (dg 4294967296 _) = _
    rw [Add_ok (ilim_lim f3.1) (ilim_lim f3.1) (by omega), if_pos (by have := f3.1; omega)]
  have e2 : natural_Cmp k (dg 4294967296 ((p % (q : Int)).natAbs + (p % (q : Int)).natAbs)) (iz (q : Int)).2 = some (sgn (((p % (q : Int)).natAbs + (p % (q : Int)).natAbs : Nat) : Int) q, 0, 0) := by
    rw [iz_nat]
    exact Cmp_ok (by have := f3.1; omega) (ilim_lim h2) (by omega)
  rw [e1]
  simp only [Option.bind_some]
  have hO : integer_Of k 1 = some (iz 1) := iOf_ok (by omega) (by decide) (by decide)
  have ha : integer_Add k (iz (p / (q : Int))) (iz 1) = some (ires (p / (q : Int) + 1)) := iAdd_ok (by omega) f4 (ilim_iff.1 (by decide))
  obtain ⟨r, hr⟩ : ∃ r : Nat, p % (q : Int) = r := ⟨(p % (q : Int)).toNat, by omega⟩
  unfold near at hn ⊢
  rw [hr] at hn e2 ⊢
  simp only [Int.natAbs_natCast] at e2 ⊢
  by_cases c1 : q < r + r
  · have : sgn ((r + r : Nat) : Int) q = 1 := by unfold sgn; rw [if_neg (by omega), if_pos (by omega)]
    rw [this] at e2
    rw [e2]
    rw [if_pos (.inl (by omega))] at hn ⊢
    simp only [Option.bind_some, show decide ((0 : Int) < 1) = true from rfl, cond_true, hO, Option.bind_some, ha, ires_ok hn]
  · by_cases c2 : r + r = q
    · have : sgn ((r + r : Nat) : Int) q = 0 := by unfold sgn; rw [if_neg (by omega), if_neg (by omega)]
      rw [this] at e2
      rw [e2]
      simp only [Option.bind_some, show decide ((0 : Int) < 0) = false from rfl, cond_false, beq_self_eq_true, cond_true]
      by_cases hz : p / (q : Int) = 0
      · have ho : odd (p / (q : Int)) = false := by rw [hz]; rfl
        rw [if_neg (by rw [ho]; simp; omega), hz]
        rfl
      · have hl := (dg_len_pos (n := (p / (q : Int)).natAbs) hB32).2 (by omega)
        have e3 : decide (0 < ((iz (p / (q : Int))).2.length : Int)) = true := dlt_t (by show (0 : Int) < ((dg 4294967296 (p / (q : Int)).natAbs).length : Int); omega)
        have e4 : inR 0 ((iz (p / (q : Int))).2.length : Int) = true := inR_t (by omega) (by show (0 : Int) < ((dg 4294967296 (p / (q : Int)).natAbs).length : Int); omega)
        have e5 : (Int.tmod (rd (iz (p / (q : Int))).2 0) 2 == 1) = decide ((p / (q : Int)).natAbs % 2 = 1) := odd_dg hB32 (by decide) (by omega)
        rw [e3, e4, e5]
        simp only [cond_true]
        by_cases ho : (p / (q : Int)).natAbs % 2 = 1
        · have ho' : odd (p / (q : Int)) = true := decide_eq_true ho
          rw [if_pos (.inr ⟨by omega, ho'⟩)] at hn ⊢
          rw [decide_eq_true ho]
          simp only [cond_true, hO, Option.bind_some, ha, ires_ok hn]
        · have ho' : odd (p / (q : Int)) = false := decide_eq_false ho
          rw [if_neg (by rw [ho']; simp; omega), decide_eq_false ho]
          rfl
    · have : sgn ((r + r : Nat) : Int) q = -1 := by unfold sgn; rw [if_pos (by omega)]
      rw [this] at e2
      rw [e2, if_neg (by omega)]
      rfl
end Go.Pl
