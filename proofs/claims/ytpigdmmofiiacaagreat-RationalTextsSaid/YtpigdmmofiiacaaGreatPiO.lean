/- IntegerTexts: its plain function answers true.  Conditions: values within their kinds, texts no longer than memory. -/
import Derived.Test.YtpigdmmofiiacaaGreatPiN
set_option linter.unusedVariables false
set_option linter.unusedSimpArgs false
namespace Go.Pl
open Go Go.Ev Go.Sh
theorem al_at {b i : Nat} (hi : i < b) : rd ((List.range b).map (fun n : Nat => al n)) (i : Int) = al i := by
  rw [rd_nat]
  simp [List.getD, hi]
theorem Index_l0 (k : Nat) {b : Nat} (hb : b ≤ 36) (c : Int) : ∀ (n i : Nat), b - i < n → i ≤ b → (dval b c < i → dval b c = -1) →
    slices_Index_bytebyte.l0 k n ((List.range b).map (fun n : Nat => al n)) c b i = some (if dval b c < 0 then .inl () else .inr (dval b c)) := by
  intro n
  induction n with
  | zero => intro i h; omega
  | succ n ih =>
    intro i h1 h2 h3
    simp only [slices_Index_bytebyte.l0, slices_Index_bytebyte.b0]
    have hd := dval_lt (b := (b : Int)) (c := c) (by omega)
    by_cases hi : i < b
    · have e1 : w64 ((i : Int) + 1) = ((i + 1 : Nat) : Int) := by rw [w64_id (by omega) (by omega)]; omega
      rw [dlt_t (by omega), inR_t (by omega) (by simp; omega), al_at hi, e1]
      simp only [cond_true]
      by_cases hc : c = al i
      · have hv : dval b c = i := by rw [hc]; exact dval_al (by omega) (by omega) (by omega)
        have hc' : (c == al (i : Int)) = true := by simpa using hc
        rw [hc', hv, if_neg (by omega)]; rfl
      · have hc' : (c == al (i : Int)) = false := by simpa using hc
        rw [hc']
        simp only [cond_false]
        refine ih (i + 1) (by omega) (by omega) (fun h => ?_)
        rcases Int.lt_or_le (dval b c) i with h4 | h4
        · exact h3 h4
        · exfalso
          have h5 : dval b c = i := by omega
          have h6 := al_dval (b := (b : Int)) (c := c) (by omega)
          rw [h5] at h6
          exact hc h6.symm
    · rw [dlt_f (by omega)]
      have : dval b c = -1 := h3 (by omega)
      rw [this]; rfl
theorem Index_ok {k : Nat} (hk : 1000 < k) {b : Nat} (hb : b ≤ 36) (c : Int) : slices_Index_bytebyte k ((List.range b).map (fun n : Nat => al n)) c = some (dval b c) := by
  unfold slices_Index_bytebyte
  have hd := dval_lt (b := (b : Int)) (c := c) (by omega)
  have h := Index_l0 k hb c k 0 (by omega) (by omega) (fun h => by omega)
  have e1 : (((List.range b).map (fun n : Nat => al n)).length : Int) = b := by simp
  have h' : slices_Index_bytebyte.l0 k k ((List.range b).map (fun n : Nat => al n)) c b 0 = _ := h
  rw [e1, h']
  by_cases hn : dval b c < 0
  · rw [if_pos hn]
    have : dval b c = -1 := by omega
    rw [this]; rfl
  · rw [if_neg hn]; rfl
def allD (b : Int) (l : List Int) : Prop := ∀ c ∈ l, 0 ≤ dval b c
instance (b : Int) (l : List Int) : Decidable (allD b l) := by unfold allD; infer_instance
theorem allD_cons {b c : Int} {l : List Int} : allD b (c :: l) ↔ 0 ≤ dval b c ∧ allD b l := by simp [allD]
theorem Parse_l0 (k : Nat) (hk : 1000 < k) {b : Nat} (hb : b ≤ 36) (s : ByteArray) (hs : (s.size : Int) ≤ 5000) (r : Bool × List Int) (f : Int × Int) (g : Bool) : ∀ (n i : Nat) (ds : List Int), s.size - i < n → i ≤ s.size → ((ds.length + (s.size - i) : Nat) : Int) ≤ 1000000 →
    integer_Parse.l0 k n b r f s g ds s.size i = some (if allD b ((bytesOf s).drop i) then .inl ((b : Int), r, f, g, ds ++ ((bytesOf s).drop i).map (dval b)) else .inr ((false, []), 1, -1)) := by
  intro n
  induction n with
  | zero => intro i ds h; omega
  | succ n ih =>
    intro i ds h1 h2 h3
    simp only [integer_Parse.l0, integer_Parse.b0]
    have hbl := bytes_len s
    by_cases hi : i < s.size
    · have e1 : w64 ((i : Int) + 1) = ((i + 1 : Nat) : Int) := by rw [w64_id (by omega) (by omega)]; omega
      have hA : bytesOf ((⟨#[48, 49, 50, 51, 52, 53, 54, 55, 56, 57, 97, 98, 99, 100, 101, 102, 103, 104, 105, 106, 107, 108, 109, 110, 111, 112, 113, 114, 115, 116, 117, 118, 119, 120, 121, 122]⟩ : ByteArray).extract 0 (Int.toNat (b : Int))) = (List.range b).map (fun n : Nat => al n) := take_ALPH hb
      have hz : ((⟨#[48, 49, 50, 51, 52, 53, 54, 55, 56, 57, 97, 98, 99, 100, 101, 102, 103, 104, 105, 106, 107, 108, 109, 110, 111, 112, 113, 114, 115, 116, 117, 118, 119, 120, 121, 122]⟩ : ByteArray).size : Int) = 36 := rfl
      have hf : fitsB ((⟨#[48, 49, 50, 51, 52, 53, 54, 55, 56, 57, 97, 98, 99, 100, 101, 102, 103, 104, 105, 106, 107, 108, 109, 110, 111, 112, 113, 114, 115, 116, 117, 118, 119, 120, 121, 122]⟩ : ByteArray).extract 0 (Int.toNat (b : Int))).size 1 = true := by
        have h1 := bytes_len (ALPH.extract 0 (Int.toNat (b : Int)))
        rw [take_ALPH hb] at h1
        simp only [List.length_map, List.length_range] at h1
        have h2 : fitsB (ALPH.extract 0 (Int.toNat (b : Int))).size 1 = true := fits_t (by omega)
        exact h2
      have hrd : rd (bytesOf s) (i : Int) = (bytesOf s).getD i 0 := rfl
      rw [dlt_t (by omega), hz, dle_t (a := 0) (b := (b : Int)) (by omega), dle_t (a := (b : Int)) (b := 36) (by omega), hf, hA, inR_t (by omega) (by omega), hrd, e1, drop_getD (by omega), z_le]
      simp only [cond_true, Bool.and_self]
      rw [Index_ok hk hb]
      simp only [Option.bind_some]
      generalize (bytesOf s).getD i 0 = c at *
      by_cases hc : 0 ≤ dval b c
      · rw [dlt_f hc]
        simp only [cond_false, List.length_singleton]
        rw [fits_t (by omega)]
        simp only [cond_true]
        rw [ih (i + 1) _ (by omega) (by omega) (by simp only [List.length_append, List.length_singleton]; omega)]
        by_cases ha : allD b ((bytesOf s).drop (i + 1))
        · rw [if_pos ha, if_pos (allD_cons.2 ⟨hc, ha⟩)]; simp
        · rw [if_neg ha, if_neg (fun h => ha (allD_cons.1 h).2)]
      · rw [dlt_t (by omega), if_neg (fun h => hc (allD_cons.1 h).1)]
        rfl
    · have : i = s.size := by omega
      subst this
      rw [dlt_f (by omega), List.drop_eq_nil_of_le (by omega), if_pos (by simp [allD])]
      simp
theorem IntText_l1 (k : Nat) {b : Nat} (hb : b ≤ 36) (s : ByteArray) (r : Bool × List Int) (g : Bool) (ds : List Int) (i : Nat) (hi : i < s.size) : ∀ (n j : Nat) (d : Int), b - j < n → j ≤ b → d = (if dval b ((bytesOf s).getD i 0) < j then dval b ((bytesOf s).getD i 0) else -1) →
    brindlewoodref3_IntText.l1 k n s b r g ds i d j = some (.inl (s, (b : Int), r, g, ds, (i : Int), dval b ((bytesOf s).getD i 0))) := by
  intro n
  induction n with
  | zero => intro j d h; omega
  | succ n ih =>
    intro j d h1 h2 h3
    simp only [brindlewoodref3_IntText.l1, brindlewoodref3_IntText.b1]
    have hdv := dval_lt (b := (b : Int)) (c := (bytesOf s).getD i 0) (by omega)
    have hbl := bytes_len s
    by_cases hj : j < b
    · have e1 : w64 ((j : Int) + 1) = ((j + 1 : Nat) : Int) := by rw [w64_id (by omega) (by omega)]; omega
      have hr : inR (j : Int) ((⟨#[48, 49, 50, 51, 52, 53, 54, 55, 56, 57, 97, 98, 99, 100, 101, 102, 103, 104, 105, 106, 107, 108, 109, 110, 111, 112, 113, 114, 115, 116, 117, 118, 119, 120, 121, 122]⟩ : ByteArray).size : Int) = true := inR_t (by omega) (by rw [show ((⟨#[48, 49, 50, 51, 52, 53, 54, 55, 56, 57, 97, 98, 99, 100, 101, 102, 103, 104, 105, 106, 107, 108, 109, 110, 111, 112, 113, 114, 115, 116, 117, 118, 119, 120, 121, 122]⟩ : ByteArray).size : Int) = 36 from rfl]; omega)
      have ha : rd (bytesOf (⟨#[48, 49, 50, 51, 52, 53, 54, 55, 56, 57, 97, 98, 99, 100, 101, 102, 103, 104, 105, 106, 107, 108, 109, 110, 111, 112, 113, 114, 115, 116, 117, 118, 119, 120, 121, 122]⟩ : ByteArray)) (j : Int) = al j := rd_ALPH (by omega) (by omega)
      have hrd : rd (bytesOf s) (i : Int) = (bytesOf s).getD i 0 := rfl
      rw [dlt_t (by omega), hr, ha, inR_t (by omega) (by omega), hrd, e1]
      simp only [cond_true]
      generalize (bytesOf s).getD i 0 = c at *
      by_cases hc : al j = c
      · have hv : dval b c = j := by rw [← hc]; exact dval_al (by omega) (by omega) (by omega)
        have hc' : (al (j : Int) == c) = true := by simpa using hc
        rw [hc']
        simp only [cond_true]
        exact ih (j + 1) j (by omega) (by omega) (by rw [if_pos (by omega), hv])
      · have hc' : (al (j : Int) == c) = false := by simpa using hc
        have hv : dval b c ≠ j := fun h => by
          have h6 := al_dval (b := (b : Int)) (c := c) (by omega)
          rw [h] at h6
          exact hc h6
        rw [hc']
        simp only [cond_false]
        refine ih (j + 1) d (by omega) (by omega) ?_
        rw [h3]
        by_cases h4 : dval b c < j
        · rw [if_pos h4, if_pos (by omega)]
        · rw [if_neg h4, if_neg (by omega)]
    · rw [dlt_f (by omega)]
      rw [if_pos (by omega)] at h3
      rw [h3]; rfl
theorem IntText_l0 (k : Nat) (hk : 1000 < k) {b : Nat} (hb : b ≤ 36) (s : ByteArray) (hs : (s.size : Int) ≤ 5000) (r : Bool × List Int) (g : Bool) : ∀ (n i : Nat) (ds : List Int), s.size - i < n → i ≤ s.size → ((ds.length + (s.size - i) : Nat) : Int) ≤ 1000000 →
    brindlewoodref3_IntText.l0 k n s b r g ds i = some (if allD b ((bytesOf s).drop i) then .inl ((b : Int), r, g, ds ++ ((bytesOf s).drop i).map (dval b)) else .inr ((false, []), false)) := by
  intro n
  induction n with
  | zero => intro i ds h; omega
  | succ n ih =>
    intro i ds h1 h2 h3
    simp only [brindlewoodref3_IntText.l0, brindlewoodref3_IntText.b0]
    have hbl := bytes_len s
    by_cases hi : i < s.size
    · have e1 : w64 ((i : Int) + 1) = ((i + 1 : Nat) : Int) := by rw [w64_id (by omega) (by omega)]; omega
      have hdv := dval_lt (b := (b : Int)) (c := (bytesOf s).getD i 0) (by omega)
      have h := IntText_l1 k hb s r g ds i hi k 0 (-1) (by omega) (by omega) (by split <;> omega)
      have h' : brindlewoodref3_IntText.l1 k k s b r g ds i (-1) 0 = _ := h
      rw [dlt_t (by omega), h', drop_getD (by omega)]
      simp only [cond_true, joinB_inl, e1]
      generalize (bytesOf s).getD i 0 = c at *
      by_cases hc : 0 ≤ dval b c
      · rw [dlt_f hc]
        simp only [cond_false, List.length_singleton]
        rw [fits_t (by omega)]
        simp only [cond_true]
        rw [ih (i + 1) _ (by omega) (by omega) (by simp only [List.length_append, List.length_singleton]; omega)]
        by_cases ha : allD b ((bytesOf s).drop (i + 1))
        · rw [if_pos ha, if_pos (allD_cons.2 ⟨hc, ha⟩)]; simp
        · rw [if_neg ha, if_neg (fun h => ha (allD_cons.1 h).2)]
      · rw [dlt_t (by omega), if_neg (fun h => hc (allD_cons.1 h).1)]
        rfl
    · have : i = s.size := by omega
      subst this
      rw [dlt_f (by omega), List.drop_eq_nil_of_le (by omega), if_pos (by simp [allD])]
      simp
def tneg (l : List Int) : Bool := l.head? == some 45
def trest (l : List Int) : List Int := if tneg l = true then l.drop 1 else l
def tbad (b : Int) (l : List Int) : Prop := trest l = [] ∨ ((trest l).head? = some 48 ∧ l ≠ [48]) ∨ ¬ allD b (trest l)
def tval (b : Nat) (l : List Int) : Int := if tneg l = true then -(hv b ((trest l).map (dval b)) 0 : Int) else (hv b ((trest l).map (dval b)) 0 : Int)
theorem pre_ok (s : ByteArray) : ∃ r : ByteArray, bytesOf r = trest (bytesOf s) ∧ r.size ≤ s.size ∧
    (∀ (α ρ : Type) (m : ByteArray → Bool → Option (α ⊕ ρ)), (bif decide (0 < (s.size : Int)) then (bif inR 0 (s.size : Int) then (bif ((rd (bytesOf s) 0) == 45) then (bif ((decide (0 ≤ 1) && decide (1 ≤ (s.size : Int))) && decide ((s.size : Int) ≤ (s.size : Int))) then m (s.extract 1 (Int.toNat (s.size : Int))) true else none) else m s false) else none) else m s false) = m r (tneg (bytesOf s))) ∧
    (bif tneg (bytesOf s) then (bif ((decide (0 ≤ 1) && decide (1 ≤ (s.size : Int))) && decide ((s.size : Int) ≤ (s.size : Int))) then some (s.extract 1 (Int.toNat (s.size : Int))) else none) else some s) = some r := by
  have hbl := bytes_len s
  have htl := bytes_tail s
  have htz := bytes_len (s.extract 1 (Int.toNat (s.size : Int)))
  cases hl : bytesOf s with
  | nil =>
    rw [hl] at hbl
    simp only [List.length_nil] at hbl
    refine ⟨s, by rw [hl]; rfl, Nat.le_refl _, fun α ρ m => ?_, rfl⟩
    rw [dlt_f (by omega)]; rfl
  | cons c l =>
    rw [hl] at hbl htl
    simp only [List.length_cons] at hbl
    have hone : decide (0 ≤ 1) = true := rfl
    by_cases hc : c = 45
    · have hn : tneg (c :: l) = true := by rw [hc]; rfl
      refine ⟨s.extract 1 (Int.toNat (s.size : Int)), ?_, ?_, fun α ρ m => ?_, ?_⟩
      · unfold trest; rw [hn, if_pos rfl]; exact htl
      · rw [htl] at htz; simp only [List.drop_succ_cons, List.drop_zero] at htz; omega
      · have hc' : (c == (45 : Int)) = true := by simpa using hc
        rw [dlt_t (by omega), inR_t (by omega) (by omega), rd_head, hc', dle_t (a := 1) (by omega), dle_t (a := (s.size : Int)) (by omega), hn]
        rfl
      · rw [hn, dle_t (a := 1) (by omega), dle_t (a := (s.size : Int)) (by omega)]
        rfl
    · have hn : tneg (c :: l) = false := by simpa [tneg] using hc
      refine ⟨s, ?_, Nat.le_refl _, fun α ρ m => ?_, ?_⟩
      · unfold trest; rw [hn]; simpa using hl
      · have hc' : (c == (45 : Int)) = false := by simpa using hc
        rw [dlt_t (by omega), inR_t (by omega) (by omega), rd_head, hc', hn]
        rfl
      · rw [hn]; rfl
theorem hv_nat {b : Nat} {l : List Int} (h : allD b l) (hb : 2 ≤ b) (hb' : b ≤ 36) (hl : (l.length : Int) ≤ 5000) : badAt b (l.map (dval b)) 0 = (0, 0) ∧ ∀ d ∈ l.map (dval b), d ≤ 9223372036854775807 := by
  have key : ∀ d ∈ l.map (dval b), 0 ≤ d ∧ d < (b : Int) := by
    intro d hd
    obtain ⟨c, hc, rfl⟩ := List.mem_map.1 hd
    exact ⟨h c hc, (dval_lt (by omega)).2⟩
  exact ⟨badAt_none _ _ key, fun d hd => by have := key d hd; omega⟩
theorem Parse_ok {k : Nat} (hk : k = 1000000000000000000) {b : Nat} (hb : 2 ≤ b) (hb' : b ≤ 36) (s : ByteArray) (hs : (s.size : Int) ≤ 4097) : (tbad b (bytesOf s) → integer_Parse k s b = some ((false, []), 1, -1)) ∧ (¬ tbad b (bytesOf s) → integer_Parse k s b = some (ires (tval b (bytesOf s)))) := by
  have hk' : 100000000000000 < k := by rw [hk]; decide
  obtain ⟨r, r1, r2, r3, r4⟩ := pre_ok s
  have hrl := bytes_len r
  have hbl := bytes_len s
  have hP : integer_Parse k s b = joinB (α := Int × (Bool × List Int) × (Int × Int) × ByteArray × Bool) (bif (r.toList == ByteArray.empty.toList) then ((integer_at 1 (-1)).bind fun t6 => some (.inr ((false, []), t6))) else (bif inR 0 (r.size : Int) then (bif ((rd (bytesOf r) 0) == 48) then (bif (!(s.toList == (⟨#[48]⟩ : ByteArray).toList)) then ((integer_at 1 (-1)).bind fun t7 => some (.inr ((false, []), t7))) else (some (.inl ((b : Int), (false, []), (0, 0), r, tneg (bytesOf s))))) else (some (.inl ((b : Int), (false, []), (0, 0), r, tneg (bytesOf s))))) else none)) (fun z8 => joinB (α := Int × (Bool × List Int) × (Int × Int) × Bool × List Int) (integer_Parse.l0 k k z8.1 z8.2.1 z8.2.2.1 z8.2.2.2.1 z8.2.2.2.2 [] (z8.2.2.2.1.size : Int) 0) (fun y11 => (natural_From k y11.2.2.2.2 y11.1).bind fun t12 => bif (t12.2.1 != 0) then ((integer_at 14 (-1)).bind fun t13 => some ((false, []), t13)) else ((integer_signed y11.2.2.2.1 t12.1).bind fun t14 => some (t14.1, t14.2))) some) some := by
    unfold integer_Parse
    have h1 : decide ((b : Int) < 2) = false := dlt_f (by omega)
    have h2 : decide ((36 : Int) < (b : Int)) = false := dlt_f (by omega)
    have h3 : decide ((4097 : Int) < (s.size : Int)) = false := dlt_f (by omega)
    simp only [h1, h2, cond_false, joinB_inl, h3]
    rw [r3 (ByteArray × Int × (Bool × List Int) × (Int × Int) × ByteArray × Bool) ((Bool × List Int) × Int × Int) (fun x g => some (.inl (s, (b : Int), (false, []), (0, 0), x, g)))]
    rfl
  have e0 : bytesOf ByteArray.empty = [] := by
    have : ByteArray.empty = ⟨#[]⟩ := rfl
    rw [this, bytes_mk]; rfl
  have e48 : bytesOf (⟨#[48]⟩ : ByteArray) = [48] := by rw [bytes_mk]; rfl
  rw [toList_eq_iff, toList_eq_iff, e0, e48] at hP
  have hL := Parse_l0 k (by omega) hb' r (by omega) (false, []) (0, 0) (tneg (bytesOf s)) k 0 [] (by omega) (by omega) (by simp; omega)
  have hL' : integer_Parse.l0 k k b (false, []) (0, 0) r (tneg (bytesOf s)) [] r.size 0 = _ := hL
  rw [List.drop_zero, r1] at hL'
  rw [r1] at hP
  have hlen : (trest (bytesOf s)).length = r.size := by rw [← r1, hrl]
  cases hr : trest (bytesOf s) with
  | nil =>
    refine ⟨fun _ => ?_, fun h => absurd (.inl hr) h⟩
    rw [hP, hr]; rfl
  | cons c l =>
    rw [hr] at hP hL' hlen
    simp only [List.length_cons] at hlen
    have hne : decide (c :: l = ([] : List Int)) = false := decide_eq_false (by simp)
    rw [hne, inR_t (by omega) (by omega), rd_head] at hP
    simp only [cond_false, cond_true] at hP
    have fin : ∀ (hgood : c = 48 → bytesOf s = [48]), integer_Parse k s b = (if allD b (c :: l) then some (ires (tval b (bytesOf s))) else some ((false, []), 1, -1)) := by
      intro hgood
      rw [hP]
      have hj : (bif (c == 48) then (bif (!(decide (bytesOf s = [48]))) then ((integer_at 1 (-1)).bind fun t7 => some (.inr ((false, []), t7))) else (some (.inl ((b : Int), (false, []), (0, 0), r, tneg (bytesOf s))))) else (some (.inl ((b : Int), (false, []), (0, 0), r, tneg (bytesOf s)))) : Option ((Int × (Bool × List Int) × (Int × Int) × ByteArray × Bool) ⊕ ((Bool × List Int) × Int × Int))) = some (.inl ((b : Int), (false, []), (0, 0), r, tneg (bytesOf s))) := by
        by_cases hc : c = 48
        · have hc' : (c == (48 : Int)) = true := by simpa using hc
          rw [hc', decide_eq_true (hgood hc)]; rfl
        · have hc' : (c == (48 : Int)) = false := by simpa using hc
          rw [hc']; rfl
      rw [hj, joinB_inl]
      simp only
      rw [hL']
      by_cases ha : allD b (c :: l)
      · rw [if_pos ha, if_pos ha, joinB_inl]
        have hln : ((c :: l).length : Int) ≤ 5000 := by simp only [List.length_cons]; omega
        obtain ⟨h1, h2⟩ := hv_nat ha hb hb' hln
        simp only [List.nil_append]
        have hF := From_ok hb hb' (l := (c :: l).map (dval b)) (by rw [List.length_map]; omega) h2
        rw [if_pos h1, ← hk] at hF
        rw [hF]
        have hvv : tval b (bytesOf s) = if tneg (bytesOf s) = true then -(hv b ((c :: l).map (dval b)) 0 : Int) else (hv b ((c :: l).map (dval b)) 0 : Int) := by unfold tval; rw [hr]
        have hab : (tval b (bytesOf s)).natAbs = hv b ((c :: l).map (dval b)) 0 := by rw [hvv]; split <;> simp
        by_cases hl : hv b ((c :: l).map (dval b)) 0 < lim
        · rw [if_pos hl]
          have hs := signed_ok (s := tneg (bytesOf s)) (v := tval b (bytesOf s)) (fun h => by
            rw [hvv] at h ⊢
            by_cases hn : tneg (bytesOf s) = true
            · rw [if_pos hn] at h ⊢
              rw [hn]
              exact (decide_eq_true (by omega)).symm
            · rw [if_neg hn] at h ⊢
              have : tneg (bytesOf s) = false := by simpa using hn
              rw [this]
              exact (decide_eq_false (by omega)).symm)
          rw [hab] at hs
          simp only [Option.bind_some, bne_self_eq_false, cond_false, hs]
        · rw [if_neg hl]
          have : ¬ (tval b (bytesOf s)).natAbs < ilim := fun h => hl (by rw [← hab]; exact ilim_lim h)
          unfold ires
          rw [if_neg this]
          rfl
      · rw [if_neg ha, if_neg ha]; rfl
    constructor
    · intro hbad
      by_cases hgood : c = 48 → bytesOf s = [48]
      · rw [fin hgood, if_neg]
        intro ha
        rcases hbad with h | ⟨h1, h2⟩ | h
        · rw [hr] at h; exact absurd h (by simp)
        · rw [hr] at h1
          exact h2 (hgood (by simpa using h1))
        · rw [hr] at h; exact h ha
      · have h48 : c = 48 ∧ bytesOf s ≠ [48] := by
          by_cases hc : c = 48
          · exact ⟨hc, fun h => hgood fun _ => h⟩
          · exact absurd (fun h => absurd h hc) hgood
        have hc' : (c == (48 : Int)) = true := by simpa using h48.1
        rw [hP, hc', decide_eq_false h48.2]; rfl
    · intro hbad
      have hgood : c = 48 → bytesOf s = [48] := by
        intro hc
        by_cases h : bytesOf s = [48]
        · exact h
        · exact absurd (.inr (.inl ⟨by rw [hr, hc]; rfl, h⟩)) hbad
      have ha : allD b (c :: l) := by
        by_cases h : allD b (c :: l)
        · exact h
        · exact absurd (.inr (.inr (by rw [hr]; exact h))) hbad
      rw [fin hgood, if_pos ha]
theorem IntText_ok {k : Nat} (hk : k = 1000000000000000000) {b : Nat} (hb : 2 ≤ b) (hb' : b ≤ 36) (s : ByteArray) (hs : (s.size : Int) ≤ 4097) : (tbad b (bytesOf s) → brindlewoodref3_IntText k s b = some ((false, []), false)) ∧ (¬ tbad b (bytesOf s) → ∃ c, brindlewoodref3_IntText k s b = some (c, true) ∧ RI c (tval b (bytesOf s))) := by
  have hk' : 100000000000000 < k := by rw [hk]; decide
  obtain ⟨r, r1, r2, r3, r4⟩ := pre_ok s
  have hrl := bytes_len r
  have hbl := bytes_len s
  have hP : brindlewoodref3_IntText k s b = joinB (α := ByteArray × Int × (Bool × List Int) × Bool) (bif (r.toList == ByteArray.empty.toList) then (some (.inr ((false, []), false))) else (bif inR 0 (r.size : Int) then (bif ((rd (bytesOf r) 0) == 48) then (bif decide (1 < (r.size : Int)) then (some (.inr ((false, []), false))) else (bif tneg (bytesOf s) then (some (.inr ((false, []), false))) else (some (.inl (r, (b : Int), (false, []), tneg (bytesOf s)))))) else (some (.inl (r, (b : Int), (false, []), tneg (bytesOf s))))) else none)) (fun z3 => joinB (α := Int × (Bool × List Int) × Bool × List Int) (brindlewoodref3_IntText.l0 k k z3.1 z3.2.1 z3.2.2.1 z3.2.2.2 [] 0) (fun y5 => (brindlewoodref3_Read k y5.2.2.2 y5.1).bind fun t6 => some ((y5.2.2.1, t6), true)) some) some := by
    unfold brindlewoodref3_IntText
    have h1 : (bif decide (0 < (s.size : Int)) then (bif inR 0 (s.size : Int) then (some (.inl (s, (b : Int), ((false, []) : Bool × List Int), ((rd (bytesOf s) 0) == 45)))) else none) else (some (.inl (s, (b : Int), (false, []), false))) : Option ((ByteArray × Int × (Bool × List Int) × Bool) ⊕ ((Bool × List Int) × Bool))) = some (.inl (s, (b : Int), (false, []), tneg (bytesOf s))) := by
      cases hl : bytesOf s with
      | nil =>
        rw [hl] at hbl
        simp only [List.length_nil] at hbl
        rw [dlt_f (by omega)]; rfl
      | cons c l =>
        rw [hl] at hbl
        simp only [List.length_cons] at hbl
        rw [dlt_t (by omega), inR_t (by omega) (by omega), rd_head]
        rfl
    rw [h1, joinB_inl]
    simp only
    have h2 : (bif tneg (bytesOf s) then (bif ((decide (0 ≤ 1) && decide (1 ≤ (s.size : Int))) && decide ((s.size : Int) ≤ (s.size : Int))) then (some (.inl (s.extract 1 (Int.toNat (s.size : Int)), (b : Int), ((false, []) : Bool × List Int), tneg (bytesOf s)))) else none) else (some (.inl (s, (b : Int), (false, []), tneg (bytesOf s)))) : Option ((ByteArray × Int × (Bool × List Int) × Bool) ⊕ ((Bool × List Int) × Bool))) = some (.inl (r, (b : Int), (false, []), tneg (bytesOf s))) := by
      have h3 := congrArg (fun o : Option ByteArray => o.bind fun x => (some (.inl (x, (b : Int), ((false, []) : Bool × List Int), tneg (bytesOf s))) : Option ((ByteArray × Int × (Bool × List Int) × Bool) ⊕ ((Bool × List Int) × Bool)))) r4
      simp only [Option.bind_some] at h3
      rw [← h3]
      cases tneg (bytesOf s)
      · rfl
      · cases ((decide (0 ≤ 1) && decide (1 ≤ (s.size : Int))) && decide ((s.size : Int) ≤ (s.size : Int))) <;> rfl
    rw [h2, joinB_inl]
  have e0 : bytesOf ByteArray.empty = [] := by
    have : ByteArray.empty = ⟨#[]⟩ := rfl
    rw [this, bytes_mk]; rfl
  rw [toList_eq_iff, e0] at hP
  have hL := IntText_l0 k (by omega) hb' r (by omega) (false, []) (tneg (bytesOf s)) k 0 [] (by omega) (by omega) (by simp; omega)
  have hL' : brindlewoodref3_IntText.l0 k k r b (false, []) (tneg (bytesOf s)) [] 0 = _ := hL
  rw [List.drop_zero, r1] at hL'
  rw [r1] at hP
  have hlen : (trest (bytesOf s)).length = r.size := by rw [← r1, hrl]
  cases hr : trest (bytesOf s) with
  | nil =>
    refine ⟨fun _ => ?_, fun h => absurd (.inl hr) h⟩
    rw [hP, hr]; rfl
  | cons c l =>
    rw [hr] at hP hL' hlen
    simp only [List.length_cons] at hlen
    have hne : decide (c :: l = ([] : List Int)) = false := decide_eq_false (by simp)
    rw [hne, inR_t (by omega) (by omega), rd_head] at hP
    simp only [cond_false, cond_true] at hP
    -- the text "0" and no other
    have h48 : c = 48 → (bytesOf s = [48] ↔ ¬ (1 : Int) < (r.size : Int) ∧ tneg (bytesOf s) = false) := by
      intro hc
      constructor
      · intro h
        have hn : tneg (bytesOf s) = false := by rw [h]; rfl
        have : trest (bytesOf s) = [48] := by unfold trest; rw [hn, h]; rfl
        rw [hr] at this
        have hl0 : l = [] := (List.cons.inj this).2
        rw [hl0] at hlen
        simp only [List.length_nil] at hlen
        exact ⟨by omega, hn⟩
      · intro ⟨h1, h2⟩
        have hl0 : l = [] := List.length_eq_zero_iff.1 (by omega)
        have : trest (bytesOf s) = bytesOf s := by unfold trest; rw [h2]; rfl
        rw [← this, hr, hl0, hc]
    have fin : ∀ (hgood : c = 48 → bytesOf s = [48]), brindlewoodref3_IntText k s b = (if allD b (c :: l) then (brindlewoodref3_Read k ((c :: l).map (dval b)) b).bind fun t6 => some ((tneg (bytesOf s), t6), true) else some ((false, []), false)) := by
      intro hgood
      rw [hP]
      have hj : (bif (c == 48) then (bif decide (1 < (r.size : Int)) then (some (.inr ((false, []), false))) else (bif tneg (bytesOf s) then (some (.inr ((false, []), false))) else (some (.inl (r, (b : Int), (false, []), tneg (bytesOf s)))))) else (some (.inl (r, (b : Int), (false, []), tneg (bytesOf s)))) : Option ((ByteArray × Int × (Bool × List Int) × Bool) ⊕ ((Bool × List Int) × Bool))) = some (.inl (r, (b : Int), (false, []), tneg (bytesOf s))) := by
        by_cases hc : c = 48
        · have hc' : (c == (48 : Int)) = true := by simpa using hc
          obtain ⟨h1, h2⟩ := (h48 hc).1 (hgood hc)
          rw [hc', decide_eq_false h1, h2]; rfl
        · have hc' : (c == (48 : Int)) = false := by simpa using hc
          rw [hc']; rfl
      rw [hj, joinB_inl]
      simp only
      rw [hL']
      by_cases ha : allD b (c :: l)
      · rw [if_pos ha, if_pos ha, joinB_inl]
        simp only [List.nil_append]
      · rw [if_neg ha, if_neg ha]; rfl
    constructor
    · intro hbad
      by_cases hgood : c = 48 → bytesOf s = [48]
      · rw [fin hgood, if_neg]
        intro ha
        rcases hbad with h | ⟨h1, h2⟩ | h
        · rw [hr] at h; exact absurd h (by simp)
        · rw [hr] at h1
          exact h2 (hgood (by simpa using h1))
        · rw [hr] at h; exact h ha
      · have hno : c = 48 ∧ bytesOf s ≠ [48] := by
          by_cases hc : c = 48
          · exact ⟨hc, fun h => hgood fun _ => h⟩
          · exact absurd (fun h => absurd h hc) hgood
        have hc' : (c == (48 : Int)) = true := by simpa using hno.1
        rw [hP, hc']
        by_cases h1 : (1 : Int) < (r.size : Int)
        · rw [decide_eq_true h1]; rfl
        · have h2 : tneg (bytesOf s) = true := by
            cases hn : tneg (bytesOf s) with
            | true => rfl
            | false => exact absurd ((h48 hno.1).2 ⟨h1, hn⟩) hno.2
          rw [decide_eq_false h1, h2]; rfl
    · intro hbad
      have hgood : c = 48 → bytesOf s = [48] := by
        intro hc
        by_cases h : bytesOf s = [48]
        · exact h
        · exact absurd (.inr (.inl ⟨by rw [hr, hc]; rfl, h⟩)) hbad
      have ha : allD b (c :: l) := by
        by_cases h : allD b (c :: l)
        · exact h
        · exact absurd (.inr (.inr (by rw [hr]; exact h))) hbad
      have hln : ((c :: l).length : Int) ≤ 5000 := by simp only [List.length_cons]; omega
      obtain ⟨h1, h2⟩ := hv_nat ha hb hb' hln
      obtain ⟨hR, _⟩ := Read_ok hb hb' (l := (c :: l).map (dval b)) (by rw [List.length_map]; omega) h1
      rw [← hk] at hR
      rw [fin hgood, if_pos ha, hR]
      have hvv : tval b (bytesOf s) = if tneg (bytesOf s) = true then -(hv b ((c :: l).map (dval b)) 0 : Int) else (hv b ((c :: l).map (dval b)) 0 : Int) := by unfold tval; rw [hr]
      refine ⟨_, rfl, ?_, fun h => ?_⟩
      · show dg 65536 _ = dg 65536 _
        congr 1
        rw [hvv]; split <;> simp
      · show tneg (bytesOf s) = _
        rw [hvv] at h ⊢
        by_cases hn : tneg (bytesOf s) = true
        · rw [if_pos hn] at h ⊢
          rw [hn]
          exact (decide_eq_true (by omega)).symm
        · rw [if_neg hn] at h ⊢
          have : tneg (bytesOf s) = false := by simpa using hn
          rw [this]
          exact (decide_eq_false (by omega)).symm
end Go.Pl
