/- Ratios: reading texts, the program and the reference.  Conditions: those that each theorem names. -/
import Derived.Test.YtpigdmmofiiacaaGreatRaJ
import Derived.Test.YtpigdmmofiiacaaGreatRaC
set_option linter.unusedVariables false
set_option linter.unusedSimpArgs false
namespace Go.Pl
open Go Go.Ev Go.Sh
def parseTail (k : Nat) (z3 : ((Bool × List Int) × Bool × List Int) × (Int × Int) × ByteArray × ByteArray × Bool) : Option (((Bool × List Int) × Bool × List Int) × Int × Int) :=
  (integer_Parse k z3.2.2.1 10).bind fun t4 => (integer_Parse k z3.2.2.2.1 10).bind fun t5 => joinB (α := ((Bool × List Int) × Bool × List Int) × (Int × Int) × (Bool × List Int) × (Int × Int) × (Bool × List Int) × Int × Int) (bif (t4.2.1 == 1) then ((rational_at 1 (-1)).bind fun t6 => some (.inr (((false, []), false, []), t6))) else (bif (t5.2.1 == 1) then ((rational_at 1 (-1)).bind fun t7 => some (.inr (((false, []), false, []), t7))) else (bif z3.2.2.2.2 then (bif (z3.2.2.2.1.toList == (⟨#[49]⟩ : ByteArray).toList) then ((rational_at 1 (-1)).bind fun t8 => some (.inr (((false, []), false, []), t8))) else (bif inR 0 (z3.2.2.2.1.size : Int) then (bif ((rd (bytesOf z3.2.2.2.1) 0) == 45) then ((rational_at 1 (-1)).bind fun t9 => some (.inr (((false, []), false, []), t9))) else (bif (z3.2.2.2.1.toList == (⟨#[48]⟩ : ByteArray).toList) then ((rational_at 1 (-1)).bind fun t10 => some (.inr (((false, []), false, []), t10))) else (some (.inl (z3.1, z3.2.1, t4.1, t4.2, t5.1, t5.2))))) else none)) else (some (.inl (z3.1, z3.2.1, t4.1, t4.2, t5.1, t5.2)))))) (fun z11 => joinB (α := ((Bool × List Int) × Bool × List Int) × (Int × Int) × (Bool × List Int) × Bool × List Int) (bif (z11.2.2.2.1.1 != 0) then ((rational_at 14 (-1)).bind fun t12 => some (.inr (((false, []), false, []), t12))) else (bif (z11.2.2.2.2.2.1 != 0) then ((rational_at 14 (-1)).bind fun t13 => some (.inr (((false, []), false, []), t13))) else (some (.inl (z11.1, z11.2.1, z11.2.2.1, z11.2.2.2.2.1))))) (fun z14 => (rational_Valid k z14.2.2).bind fun t15 => bif (!t15) then ((rational_at 6 (-1)).bind fun t16 => some (((false, []), false, []), t16)) else (some (z14.2.2, (0, 0)))) some) some
def textsTail (k : Nat) (z13 : ByteArray × ((Bool × List Int) × Bool × List Int) × Int × Int) : Option (Bool) :=
  bif decide (4000 < (z13.1.size : Int)) then ((brindlewoodref3_At 3 (-1)).bind fun t14 => (brindlewoodlaw3_gives k z13.2.1 z13.2.2 ((false, []), []) t14).bind fun t15 => some t15) else (joinB (α := ByteArray × ((Bool × List Int) × Bool × List Int) × (Int × Int) × Int) (brindlewoodlaw3_RationalTexts.l0 k k z13.1 z13.2.1 z13.2.2 0) (fun y16 => bif ((decide (0 ≤ 0) && decide (0 ≤ y16.2.2.2)) && decide (y16.2.2.2 ≤ (y16.1.size : Int))) then ((brindlewoodref3_IntText k (y16.1.extract 0 (Int.toNat y16.2.2.2)) 10).bind fun t17 => (brindlewoodref3_Number k 1).bind fun t18 => joinB (α := ((Bool × List Int) × Bool × List Int) × (Int × Int) × (Bool × List Int) × Bool × Bool × List Int) (bif decide (y16.2.2.2 < (y16.1.size : Int)) then (bif ((decide (0 ≤ w64 (y16.2.2.2 + 1)) && decide (w64 (y16.2.2.2 + 1) ≤ (y16.1.size : Int))) && decide ((y16.1.size : Int) ≤ (y16.1.size : Int))) then ((brindlewoodref3_IntText k (y16.1.extract (Int.toNat (w64 (y16.2.2.2 + 1))) (Int.toNat (y16.1.size : Int))) 10).bind fun t19 => bif t17.2 then (bif t19.2 then ((brindlewoodref3_Number k 1).bind fun t20 => (brindlewoodref3_Int_Order k t19.1 t20).bind fun t21 => some (.inl (y16.2.1, y16.2.2.1, t17.1, decide (0 < t21), t19.1))) else (some (.inl (y16.2.1, y16.2.2.1, t17.1, false, t19.1)))) else (some (.inl (y16.2.1, y16.2.2.1, t17.1, false, t19.1)))) else none) else (some (.inl (y16.2.1, y16.2.2.1, t17.1, t17.2, t18)))) (fun z22 => bif (!z22.2.2.2.1) then ((brindlewoodref3_At 1 (-1)).bind fun t23 => (brindlewoodlaw3_gives k z22.1 z22.2.1 ((false, []), []) t23).bind fun t24 => some t24) else (joinB (α := ((Bool × List Int) × Bool × List Int) × (Int × Int) × (Bool × List Int) × (Bool × List Int) × Bool) ((brindlewoodref3_Int_Fits z22.2.2.1 128).bind fun t25 => bif (!t25) then (some (.inl (z22.1, z22.2.1, z22.2.2.1, z22.2.2.2.2, true))) else ((brindlewoodref3_Int_Fits z22.2.2.2.2 128).bind fun t26 => some (.inl (z22.1, z22.2.1, z22.2.2.1, z22.2.2.2.2, (!t26))))) (fun z27 => bif z27.2.2.2.2 then ((brindlewoodref3_At 14 (-1)).bind fun t28 => (brindlewoodlaw3_gives k z27.1 z27.2.1 ((false, []), []) t28).bind fun t29 => some t29) else ((brindlewoodref3_Common k z27.2.2.1.2 z27.2.2.2.1.2).bind fun t30 => (brindlewoodref3_Small k 1).bind fun t31 => (brindlewoodref3_Compare k t30 t31).bind fun t32 => bif (t32 != 0) then ((brindlewoodref3_At 6 (-1)).bind fun t33 => (brindlewoodlaw3_gives k z27.1 z27.2.1 ((false, []), []) t33).bind fun t34 => some t34) else ((brindlewoodlaw3_gives k z27.1 z27.2.1 (z27.2.2.1, z27.2.2.2.1.2) (0, 0)).bind fun t35 => some t35))) some)) some) else none) some)
def readTail (k : Nat) (z22 : ((Bool × List Int) × Bool × List Int) × (Int × Int) × (Bool × List Int) × Bool × Bool × List Int) : Option (Bool) :=
  bif (!z22.2.2.2.1) then ((brindlewoodref3_At 1 (-1)).bind fun t23 => (brindlewoodlaw3_gives k z22.1 z22.2.1 ((false, []), []) t23).bind fun t24 => some t24) else (joinB (α := ((Bool × List Int) × Bool × List Int) × (Int × Int) × (Bool × List Int) × (Bool × List Int) × Bool) ((brindlewoodref3_Int_Fits z22.2.2.1 128).bind fun t25 => bif (!t25) then (some (.inl (z22.1, z22.2.1, z22.2.2.1, z22.2.2.2.2, true))) else ((brindlewoodref3_Int_Fits z22.2.2.2.2 128).bind fun t26 => some (.inl (z22.1, z22.2.1, z22.2.2.1, z22.2.2.2.2, (!t26))))) (fun z27 => bif z27.2.2.2.2 then ((brindlewoodref3_At 14 (-1)).bind fun t28 => (brindlewoodlaw3_gives k z27.1 z27.2.1 ((false, []), []) t28).bind fun t29 => some t29) else ((brindlewoodref3_Common k z27.2.2.1.2 z27.2.2.2.1.2).bind fun t30 => (brindlewoodref3_Small k 1).bind fun t31 => (brindlewoodref3_Compare k t30 t31).bind fun t32 => bif (t32 != 0) then ((brindlewoodref3_At 6 (-1)).bind fun t33 => (brindlewoodlaw3_gives k z27.1 z27.2.1 ((false, []), []) t33).bind fun t34 => some t34) else ((brindlewoodlaw3_gives k z27.1 z27.2.1 (z27.2.2.1, z27.2.2.2.1.2) (0, 0)).bind fun t35 => some t35))) some)
theorem valid_gcd {k : Nat} (hk : 20000000000 < k) {p : Int} {q : Nat} (hp : p.natAbs < ilim) (hq : q < ilim) (h0 : 0 < q) : rational_Valid k (rq p q) = some (decide (Nat.gcd p.natAbs q = 1)) := by
  have e1 : (iz (q : Int)).1 = false := by rw [iz_nat]
  have e2 : (((iz (q : Int)).2.length : Int) == 0) = false := beq_f (by rw [iz_nat]; have := (dg_len_pos (n := q) hB32).2 (by omega); simp only; omega)
  unfold rational_Valid rq
  simp only [iz_valid hp, iz_valid (v := (q : Int)) (by simpa using hq), Option.bind_some, Bool.not_true, cond_false, e1, e2, joinB_inl]
  exact gcd_is1 hk hp hq
abbrev zR : Rt := ((false, []), false, [])
noncomputable instance (b : Int) (l : List Int) : Decidable (tbad b l) := Classical.propDecidable _
noncomputable def pres (A D : List Int) (fd : Bool) : Rt × Int × Int :=
  if tbad 10 A ∨ tbad 10 D ∨ (fd = true ∧ tval 10 D ≤ 1) then (zR, 1, -1)
  else if ¬ ((tval 10 A).natAbs < ilim ∧ (tval 10 D).natAbs < ilim) then (zR, 14, -1)
  else if ¬ Nat.gcd (tval 10 A).natAbs (tval 10 D).natAbs = 1 then (zR, 6, -1)
  else (rq (tval 10 A) (tval 10 D).natAbs, 0, 0)
theorem pres_bad {A D : List Int} {fd : Bool} (h : tbad 10 A ∨ tbad 10 D ∨ (fd = true ∧ tval 10 D ≤ 1)) : pres A D fd = (zR, 1, -1) := by unfold pres; rw [if_pos h]
theorem pres_big {A D : List Int} {fd : Bool} (h : ¬ (tbad 10 A ∨ tbad 10 D ∨ (fd = true ∧ tval 10 D ≤ 1))) (h2 : ¬ ((tval 10 A).natAbs < ilim ∧ (tval 10 D).natAbs < ilim)) : pres A D fd = (zR, 14, -1) := by unfold pres; rw [if_neg h, if_pos h2]
theorem pres_gcd {A D : List Int} {fd : Bool} (h : ¬ (tbad 10 A ∨ tbad 10 D ∨ (fd = true ∧ tval 10 D ≤ 1))) (h2 : (tval 10 A).natAbs < ilim ∧ (tval 10 D).natAbs < ilim) (h3 : ¬ Nat.gcd (tval 10 A).natAbs (tval 10 D).natAbs = 1) : pres A D fd = (zR, 6, -1) := by unfold pres; rw [if_neg h, if_neg (fun f => f h2), if_pos h3]
theorem pres_ok {A D : List Int} {fd : Bool} (h : ¬ (tbad 10 A ∨ tbad 10 D ∨ (fd = true ∧ tval 10 D ≤ 1))) (h2 : (tval 10 A).natAbs < ilim ∧ (tval 10 D).natAbs < ilim) (h3 : Nat.gcd (tval 10 A).natAbs (tval 10 D).natAbs = 1) : pres A D fd = (rq (tval 10 A) (tval 10 D).natAbs, 0, 0) := by unfold pres; rw [if_neg h, if_neg (fun f => f h2), if_neg (fun f => f h3)]
theorem ires_code (v : Int) : ((ires v).2.1 == 1) = false := by unfold ires; split <;> rfl
theorem ires_t {v : Int} (h : v.natAbs < ilim) : ((ires v).2.1 != 0) = false := by rw [ires_ok h]; rfl
theorem ires_f {v : Int} (h : ¬ v.natAbs < ilim) : ((ires v).2.1 != 0) = true := by unfold ires; rw [if_neg h]; rfl
theorem ONE_bytes : bytesOf (⟨#[49]⟩ : ByteArray) = [49] := by rw [bytes_mk]; rfl
theorem ZERO_bytes : bytesOf (⟨#[48]⟩ : ByteArray) = [48] := by rw [bytes_mk]; rfl
theorem den_text {D : List Int} (h : ¬ tbad 10 D) : (D = [49] ↔ tval 10 D = 1) ∧ (D.head? = some 45 ↔ tval 10 D < 0) ∧ (D = [48] ↔ tval 10 D = 0) := by
  have hc := canon (b := 10) (by decide) (by decide) h
  have e1 : txt 10 1 = [49] := txt_one (by decide)
  have e0 : txt 10 0 = [48] := rfl
  have b1 := (txt_back (b := 10) (by decide) (by decide) 1).2
  have b0 := (txt_back (b := 10) (by decide) (by decide) 0).2
  rw [e1] at b1
  rw [e0] at b0
  refine ⟨⟨fun e => by rw [e]; exact b1, fun e => by rw [hc, e, e1]⟩, ⟨fun e => ?_, fun e => by rw [hc]; exact txt_neg e⟩, ⟨fun e => by rw [e]; exact b0, fun e => by rw [hc, e, e0]⟩⟩
  refine Int.not_le.1 fun h2 => txt_pos (b := 10) (by decide) (by decide) h2 ?_
  rw [← hc]; exact e
theorem parseTail_ok {k : Nat} (hk : k = 1000000000000000000) {a D : ByteArray} {fd : Bool} (ha : (a.size : Int) ≤ 4097) (hD : (D.size : Int) ≤ 4097) (h1 : fd = false → bytesOf D = [49]) (z : Rt) (f : Int × Int) : parseTail k (z, f, a, D, fd) = some (pres (bytesOf a) (bytesOf D) fd) := by
  have hk1 : 20000000000 < k := by rw [hk]; decide
  have hat : ∀ a b : Int, rational_at a b = some (a, b) := fun _ _ => rfl
  obtain ⟨a1, a2⟩ := Parse_ok hk (b := 10) (by decide) (by decide) a ha
  obtain ⟨b1, b2⟩ := Parse_ok hk (b := 10) (by decide) (by decide) D hD
  have c10 : ((10 : Nat) : Int) = 10 := rfl
  rw [c10] at a1 a2 b1 b2
  unfold parseTail
  simp only
  by_cases ba : tbad 10 (bytesOf a)
  · rw [a1 ba, pres_bad (.inl ba)]
    by_cases bd : tbad 10 (bytesOf D)
    · rw [b1 bd]; rfl
    · rw [b2 bd]; rfl
  · rw [a2 ba]
    by_cases bd : tbad 10 (bytesOf D)
    · rw [b1 bd, pres_bad (.inr (.inl bd))]
      simp only [Option.bind_some, ires_code, cond_false]; rfl
    · rw [b2 bd]
      obtain ⟨t1, t2, t3⟩ := den_text bd
      simp only [Option.bind_some, ires_code, cond_false, hat]
      -- behind the refusal of small denominators
      have fin : (fd = true → 1 < tval 10 (bytesOf D)) → (joinB (α := ((Bool × List Int) × Bool × List Int) × (Int × Int) × (Bool × List Int) × Bool × List Int) (bif ((ires (tval 10 (bytesOf a))).2.1 != 0) then ((some ((14 : Int), (-1 : Int))).bind fun t12 => some (.inr (((false, []), false, []), t12))) else (bif ((ires (tval 10 (bytesOf D))).2.1 != 0) then ((some ((14 : Int), (-1 : Int))).bind fun t13 => some (.inr (((false, []), false, []), t13))) else (some (.inl (z, f, (ires (tval 10 (bytesOf a))).1, (ires (tval 10 (bytesOf D))).1))))) (fun z14 => (rational_Valid k z14.2.2).bind fun t15 => bif (!t15) then ((some ((6 : Int), (-1 : Int))).bind fun t16 => some (((false, []), false, []), t16)) else (some (z14.2.2, (0, 0)))) some) = some (pres (bytesOf a) (bytesOf D) fd) := by
        intro hgt
        have hpos : 0 < tval 10 (bytesOf D) := by
          cases hf : fd with
          | true => have := hgt hf; omega
          | false => have := t1.1 (h1 hf); omega
        have hb : ¬ (tbad 10 (bytesOf a) ∨ tbad 10 (bytesOf D) ∨ (fd = true ∧ tval 10 (bytesOf D) ≤ 1)) := by
          rintro (h | h | ⟨h, h'⟩)
          · exact ba h
          · exact bd h
          · have := hgt h; omega
        by_cases l1 : (tval 10 (bytesOf a)).natAbs < ilim
        · rw [ires_t l1]
          simp only [cond_false]
          by_cases l2 : (tval 10 (bytesOf D)).natAbs < ilim
          · rw [ires_t l2]
            simp only [cond_false, joinB_inl]
            have e : ((ires (tval 10 (bytesOf a))).1, (ires (tval 10 (bytesOf D))).1) = rq (tval 10 (bytesOf a)) (tval 10 (bytesOf D)).natAbs := by
              rw [ires_ok l1, ires_ok l2]
              unfold rq
              have : (((tval 10 (bytesOf D)).natAbs : Nat) : Int) = tval 10 (bytesOf D) := by omega
              rw [this]
            rw [e, valid_gcd hk1 l1 l2 (by omega)]
            simp only [Option.bind_some]
            by_cases hg : Nat.gcd (tval 10 (bytesOf a)).natAbs (tval 10 (bytesOf D)).natAbs = 1
            · rw [decide_eq_true hg, pres_ok hb ⟨l1, l2⟩ hg]; rfl
            · rw [decide_eq_false hg, pres_gcd hb ⟨l1, l2⟩ hg]; rfl
          · rw [ires_f l2, pres_big hb (fun h => l2 h.2)]; rfl
        · rw [ires_f l1, pres_big hb (fun h => l1 h.1)]; rfl
      cases hf : fd with
      | false =>
        subst hf
        simp only [cond_false, joinB_inl]
        exact fin (fun h => by cases h)
      | true =>
        subst hf
        simp only [cond_true, toList_eq_iff, ONE_bytes, ZERO_bytes]
        by_cases v1 : tval 10 (bytesOf D) = 1
        · rw [decide_eq_true (t1.2 v1), pres_bad (.inr (.inr ⟨rfl, by omega⟩))]; rfl
        · rw [decide_eq_false (fun e => v1 (t1.1 e))]
          have hne : bytesOf D ≠ [] := by
            intro e
            apply bd
            rw [e]; exact .inl rfl
          have hsz := bytes_len D
          obtain ⟨c, r, hcr⟩ := List.exists_cons_of_ne_nil hne
          have hsz' := hsz
          rw [hcr] at hsz'
          simp only [List.length_cons] at hsz'
          rw [inR_t (by omega) (by omega)]
          simp only [cond_false, cond_true]
          have hrd : rd (bytesOf D) 0 = c := by rw [hcr]; rfl
          have hhd : (bytesOf D).head? = some c := by rw [hcr]; rfl
          rw [hrd]
          rw [hhd, Option.some.injEq] at t2
          by_cases v2 : tval 10 (bytesOf D) < 0
          · rw [t2.2 v2, pres_bad (.inr (.inr ⟨rfl, by omega⟩))]; rfl
          · rw [beq_f (fun e => v2 (t2.1 e))]
            simp only [cond_false]
            by_cases v3 : tval 10 (bytesOf D) = 0
            · rw [decide_eq_true (t3.2 v3), pres_bad (.inr (.inr ⟨rfl, by omega⟩))]; rfl
            · rw [decide_eq_false (fun e => v3 (t3.1 e))]
              simp only [cond_false, joinB_inl]
              exact fin (fun _ => by omega)
def behind (l : List Int) : List Int := if slash l < l.length then l.drop (slash l + 1) else [49]
theorem qParse_ok {k : Nat} (hk : k = 1000000000000000000) {s : ByteArray} (hs : (s.size : Int) ≤ 4000) : rational_Parse k s = some (pres ((bytesOf s).take (slash (bytesOf s))) (behind (bytesOf s)) (decide (slash (bytesOf s) < s.size))) := by
  obtain ⟨a, b, e1, e2, e3, e4⟩ := Cut_bar s (by omega)
  have e1' : strings_Cut s (⟨#[47]⟩ : ByteArray) = _ := e1
  have hl := bytes_len s
  unfold rational_Parse
  rw [dlt_f (by omega), e1']
  simp only [cond_false, Option.bind_some]
  unfold behind
  rw [hl]
  by_cases hm : slash (bytesOf s) < s.size
  · obtain ⟨e5, e6⟩ := e4 hm
    rw [decide_eq_true hm, if_pos hm, ← e2, ← e5]
    simp only [Bool.not_true, cond_false, joinB_inl]
    exact parseTail_ok hk (by omega) (by omega) (fun h => by cases h) _ _
  · rw [decide_eq_false hm, if_neg hm, ← e2, ← ONE_bytes]
    simp only [Bool.not_false, cond_true, joinB_inl]
    exact parseTail_ok hk (by omega) (by decide) (fun _ => ONE_bytes) _ _
theorem qParse_long {k : Nat} {s : ByteArray} (hs : 4000 < (s.size : Int)) : rational_Parse k s = some (zR, 3, -1) := by
  unfold rational_Parse
  rw [dlt_t hs]; rfl
theorem bar_l0 (k : Nat) (s : ByteArray) (hs : (s.size : Int) ≤ 1000000) (y : Rt) (g : Int × Int) : ∀ (n i : Nat), s.size - i < n → i ≤ slash (bytesOf s) → brindlewoodlaw3_RationalTexts.l0 k n s y g i = some (.inl (s, y, g, (slash (bytesOf s) : Int))) := by
  intro n
  induction n with
  | zero => intro i h; omega
  | succ n ih =>
    intro i h hi
    have hl := bytes_len s
    have hle := slash_le (bytesOf s)
    simp only [brindlewoodlaw3_RationalTexts.l0, brindlewoodlaw3_RationalTexts.b0]
    by_cases hi2 : i < s.size
    · rw [dlt_t (by omega), inR_t (by omega) (by omega), rd_nat]
      simp only [cond_true]
      by_cases h3 : i < slash (bytesOf s)
      · have := slash_not (bytesOf s) i h3
        have e1 : w64 ((i : Int) + 1) = ((i + 1 : Nat) : Int) := by rw [w64_id (by omega) (by omega)]; omega
        rw [bne_t this, e1]
        exact ih (i + 1) (by omega) (by omega)
      · have hi3 : i = slash (bytesOf s) := by omega
        subst hi3
        rw [slash_at (bytesOf s) (by omega)]
        rfl
    · rw [dlt_f (by omega)]
      have : i = slash (bytesOf s) := by omega
      rw [this]; rfl
theorem readTail_ok {k : Nat} (hk : 100000000000000 < k) {A D : List Int} {fd : Bool} (h1 : fd = false → D = [49]) {N M : Bool × List Int} {ok : Bool} (hok : ok = true ↔ ¬ (tbad 10 A ∨ tbad 10 D ∨ (fd = true ∧ tval 10 D ≤ 1))) (hN : ok = true → RI N (tval 10 A)) (hM : ok = true → RI M (tval 10 D)) (sA : (dg 65536 (tval 10 A).natAbs).length ≤ 90000) (sD : (dg 65536 (tval 10 D).natAbs).length ≤ 90000) :
    readTail k ((pres A D fd).1, (pres A D fd).2, N, ok, M) = some true := by
  unfold readTail
  simp only
  cases ho : ok with
  | false =>
    have hb : tbad 10 A ∨ tbad 10 D ∨ (fd = true ∧ tval 10 D ≤ 1) := Decidable.byContradiction fun h => by rw [hok.2 h] at ho; cases ho
    have e : pres A D fd = (zR, 1, -1) := pres_bad hb
    rw [e]
    simp only [Bool.not_false, cond_true, rAt, Option.bind_some]
    rw [gives_err (by decide)]; rfl
  | true =>
    have hb := hok.1 ho
    have hN := hN ho
    have hM := hM ho
    have bd : ¬ tbad 10 D := fun h => hb (.inr (.inl h))
    have hpos : 0 < tval 10 D := by
      cases hf : fd with
      | true => exact Int.not_le.1 fun h => hb (.inr (.inr ⟨hf, by omega⟩))
      | false => have := (den_text bd).1.1 (h1 hf); omega
    simp only [Bool.not_true, cond_false]
    rw [Fits_ok hN]
    simp only [Option.bind_some]
    by_cases l1 : (tval 10 A).natAbs < ilim
    · rw [decide_eq_true l1]
      simp only [Bool.not_true, cond_false]
      rw [Fits_ok hM]
      simp only [Option.bind_some]
      by_cases l2 : (tval 10 D).natAbs < ilim
      · rw [decide_eq_true l2]
        simp only [Bool.not_true, joinB_inl, cond_false]
        rw [hN.1, hM.1]
        have m2 := ilen16 l2
        have gl : (dg 65536 (Nat.gcd (tval 10 A).natAbs (tval 10 D).natAbs)).length ≤ (dg 65536 (tval 10 D).natAbs).length := len_le_of_le hB16 (Nat.gcd_le_right _ (by omega))
        have hS : brindlewoodref3_Small k 1 = some (dg 65536 1) := Small_ok (n := 1) (by decide) (by omega)
        have hs1 := sgn_one (Nat.gcd (tval 10 A).natAbs (tval 10 D).natAbs)
        rw [Common_ok (by omega) (by omega) hk]
        simp only [Option.bind_some]
        rw [hS]
        simp only [Option.bind_some]
        rw [Compare_ok (by omega) (by rw [show (dg 65536 1) = [1] from by rw [dg_pos (by decide) (by decide)]; rfl]; decide) (by omega)]
        simp only [Option.bind_some]
        by_cases hg : Nat.gcd (tval 10 A).natAbs (tval 10 D).natAbs = 1
        · rw [decide_eq_true hg, Option.some.injEq] at hs1
          have hs : (sgn ((Nat.gcd (tval 10 A).natAbs (tval 10 D).natAbs : Nat) : Int) ((1 : Nat) : Int) != 0) = false := by unfold bne; rw [hs1]; rfl
          rw [hs, pres_ok hb ⟨l1, l2⟩ hg]
          simp only [cond_false]
          rw [← hM.1]
          rw [gives_ok' (by omega) (c := (N, M.2)) ⟨hN, hM.1⟩ l1 l2]; rfl
        · rw [decide_eq_false hg, Option.some.injEq] at hs1
          have hs : (sgn ((Nat.gcd (tval 10 A).natAbs (tval 10 D).natAbs : Nat) : Int) ((1 : Nat) : Int) != 0) = true := by unfold bne; rw [hs1]; rfl
          rw [hs, pres_gcd hb ⟨l1, l2⟩ hg]
          simp only [cond_true, rAt, Option.bind_some]
          rw [gives_err (by decide)]; rfl
      · rw [decide_eq_false l2, pres_big hb (fun h => l2 h.2)]
        simp only [Bool.not_false, joinB_inl, cond_true, rAt, Option.bind_some]
        rw [gives_err (by decide)]; rfl
    · rw [decide_eq_false l1, pres_big hb (fun h => l1 h.1)]
      simp only [Bool.not_false, cond_true, joinB_inl, rAt, Option.bind_some]
      rw [gives_err (by decide)]; rfl
end Go.Pl
