/- Marks: a state told anew by a few values.  Conditions: at most 1000 parameters.
   Marks, joined.  Conditions: at most 1000 parameters.
   Code: what the evaluator answers, the code does.  Conditions: the table of types is the program's; what is called keeps its word; the program follows mixed orders; at most 1000 parameters.
   Functions: how they begin.  Conditions: those that each theorem names.
   Functions: how they end; the word of a function.  Conditions: those that each theorem names.
   The word of a function.  Conditions: the table of types is the program's; what is called keeps its word; the program follows mixed orders.
   The word of a function, joined.  Conditions: the table of types is the program's; what is called keeps its word; the program follows mixed orders.
   The word of a function, at last.  Conditions: the table of types is the program's; what is called keeps its word; the program follows mixed orders.
   The table of types, row by row.  Conditions: those that each theorem names, closed facts of the program.
   What the generator's texts use.  Conditions: none.
   slices.Clone keeps its word: a slice held against nil.  Conditions: those that the theorem names, closed facts of the function's code.
   Arguments out of their reading: what is read as data is related to a pure value whose numbers are within their kinds and whose lists fit.  Conditions: those that each theorem names.
   A law: a function of plain data that answers one bool.  If its plain function answers true at every pure value within its kinds, the law's row holds.  Conditions: those that each theorem names. -/
import Derived.Test.YtnopjcpoeffoiaaGreatDoorE3
import Derived.Laws.StructEq
import Derived.ProofKit
import Derived.SizedLaws
import Derived.OpenShut
import Derived.ChangeCalls
set_option linter.unusedVariables false
set_option linter.unusedSimpArgs false
namespace Go.Ev
open Go
section
variable {P : Program} {C : Ctx} {n : Nat} {S : St} {R : Nat → Prop} {ρ : Nat → Value} {a : Act} {w : World} {T : TypeId → TI} {tab : List Entry}
def entFr : (e : EntD) → e.den → Option (Nat × AV)
  | .dat s t, x => some (s, ofDat t x)
  | .own s t, _ => some (s, .one (.ref (s + 1000)))
  | .obox s ts, _ => some (s, .one (.ptr (s + 1000) 0))
  | .mp s, _ => some (s, .one (.mp (s + 1000)))
  | .fbox s ts os, _ => some (s, .one (.ptr (s + 1000) 0))
  | .part s i t, p => some (s, .one (.part i t p.1 p.2))
  | .fn s f ts, x => some (s, .one (.fn f (datsTs ts x)))
  | _, _ => none
def entHp : (e : EntD) → e.den → Option (Nat × Blk)
  | .own s t, l => some (s + 1000, .arr t l 2)
  | .blk i t o, l => some (i, .arr t l o)
  | .box i ts, x => some (i, .box (explodeTs ts x))
  | .obox s ts, x => some (s + 1000, .box (explodeTs ts x))
  | .mp s, x => some (s + 1000, .mp x)
  | _, _ => none
def entX : (e : EntD) → e.den → Nat → Blk → Prop
  | .fbox s ts os, x, i, B => (i = s + 1000 ∧ B = .box (refO s os 0 (explodeTs ts x))) ∨ ∃ o ∈ os, i = oid s o ∧ B = blkO (explodeTs ts x)[o]?
  | _, _, _, _ => False
def entH (e : EntD) (x : e.den) (i : Nat) (B : Blk) : Prop := entHp e x = some (i, B) ∨ entX e x i B
theorem oid_inj {s o o' : Nat} (h : oid s o = oid s o') : o = o' := by unfold oid at h; omega
theorem oid_ne {s o : Nat} : oid s o ≠ s + 1000 := by unfold oid; omega
theorem oid_ge {s o : Nat} : 1000 ≤ oid s o := by unfold oid; omega
theorem layO_hp (hp : Hp) (s : Nat) (cs : List Cel) (i : Nat) : ∀ os : List Nat, layO hp s cs os i = hp i ∨ ∃ o ∈ os, i = oid s o ∧ layO hp s cs os i = blkO cs[o]? := by
  intro os
  induction os with
  | nil => exact .inl rfl
  | cons o os ih =>
    by_cases h : i = oid s o
    · subst h; right; exact ⟨o, by simp, rfl, by simp only [layO]; rw [upd_same]⟩
    · simp only [layO]
      rw [upd_ne _ _ _ h]
      rcases ih with ih | ⟨o', ho, h1, h2⟩
      · exact .inl ih
      · exact .inr ⟨o', by simp [ho], h1, h2⟩
theorem blkO_nn (c : Option Cel) : blkO c ≠ .none := by
  unfold blkO
  split <;> simp
theorem layO_nn (hp : Hp) (s : Nat) (cs : List Cel) {i : Nat} : ∀ {os : List Nat}, (hp i ≠ .none ∨ ∃ o ∈ os, i = oid s o) → layO hp s cs os i ≠ .none := by
  intro os
  induction os with
  | nil => intro h; exact h.resolve_right (by simp)
  | cons o os ih =>
    intro h
    simp only [layO]
    by_cases hi : i = oid s o
    · subst hi; rw [upd_same]; exact blkO_nn _
    · rw [upd_ne _ _ _ hi]
      refine ih (h.imp id ?_)
      rintro ⟨o', ho, he⟩
      rcases List.mem_cons.1 ho with rfl | ho
      · exact absurd he hi
      · exact ⟨o', ho, he⟩
def hdM : {e : EntD} → {D : List EntD} → denM (e :: D) → e.den
  | _, [], x => x
  | _, _ :: _, x => x.1
def tlM : {e : EntD} → {D : List EntD} → denM (e :: D) → denM D
  | _, [], _ => ()
  | _, _ :: _, x => x.2
theorem getDs_cons {e : EntD} {D : List EntD} {x : denM (e :: D)} (h : getDs S (e :: D) = some x) : getD S e = some (hdM x) ∧ getDs S D = some (tlM x) := by
  cases D with
  | nil => exact ⟨h, rfl⟩
  | cons f D =>
    have h' : (match getD S e with
      | some x => match getDs S (f :: D) with
        | some y => some (x, y)
        | none => none
      | none => none) = some x := h
    cases h1 : getD S e with
    | none => rw [h1] at h'; cases h'
    | some y =>
      cases h2 : getDs S (f :: D) with
      | none => rw [h1, h2] at h'; cases h'
      | some z =>
        rw [h1, h2] at h'
        have h3 := Option.some.inj h'
        subst h3
        exact ⟨rfl, rfl⟩
theorem mkDs_cons {e : EntD} {D : List EntD} {S0 : St} (x : denM (e :: D)) : mkDs S0 (e :: D) x = mkDs (mkD S0 e (hdM x)) D (tlM x) := by
  cases D with
  | nil => rfl
  | cons f D => rfl
theorem mkD_fr {S0 : St} (e : EntD) (x : e.den) (s : Nat) : (mkD S0 e x).fr s = S0.fr s ∨ entFr e x = some (s, (mkD S0 e x).fr s) := by
  cases e with
  | dat s' t =>
    by_cases h : s = s'
    · subst h; right; simp [entFr, mkD, upd_same]
    · left; simp only [mkD]; rw [upd_ne _ _ _ h]
  | own s' t =>
    by_cases h : s = s'
    · subst h; right; simp [entFr, mkD, upd_same]
    · left; simp only [mkD]; rw [upd_ne _ _ _ h]
  | obox s' t =>
    by_cases h : s = s'
    · subst h; right; simp [entFr, mkD, upd_same]
    · left; simp only [mkD]; rw [upd_ne _ _ _ h]
  | fbox s' t os =>
    by_cases h : s = s'
    · subst h; right; simp [entFr, mkD, upd_same]
    · left; simp only [mkD]; rw [upd_ne _ _ _ h]
  | mp s' =>
    by_cases h : s = s'
    · subst h; right; simp [entFr, mkD, upd_same]
    · left; simp only [mkD]; rw [upd_ne _ _ _ h]
  | part s' i t =>
    by_cases h : s = s'
    · subst h; right; simp [entFr, mkD, upd_same]
    · left; simp only [mkD]; rw [upd_ne _ _ _ h]
  | fn s' f ts =>
    by_cases h : s = s'
    · subst h; right; simp [entFr, mkD, upd_same]
    · left; simp only [mkD]; rw [upd_ne _ _ _ h]
  | blk i t o => exact .inl rfl
  | box i ts => exact .inl rfl
theorem mkD_hp {S0 : St} (e : EntD) (x : e.den) (i : Nat) : (mkD S0 e x).hp i = S0.hp i ∨ entH e x i ((mkD S0 e x).hp i) := by
  cases e with
  | own s t =>
    by_cases h : i = s + 1000
    · subst h; right; left; simp [entHp, mkD, upd_same]
    · left; simp only [mkD]; rw [upd_ne _ _ _ h]
  | obox s t =>
    by_cases h : i = s + 1000
    · subst h; right; left; simp [entHp, mkD, upd_same]
    · left; simp only [mkD]; rw [upd_ne _ _ _ h]
  | mp s =>
    by_cases h : i = s + 1000
    · subst h; right; left; simp [entHp, mkD, upd_same]
    · left; simp only [mkD]; rw [upd_ne _ _ _ h]
  | blk j t o =>
    by_cases h : i = j
    · subst h; right; left; simp [entHp, mkD, upd_same]
    · left; simp only [mkD]; rw [upd_ne _ _ _ h]
  | box j ts =>
    by_cases h : i = j
    · subst h; right; left; simp [entHp, mkD, upd_same]
    · left; simp only [mkD]; rw [upd_ne _ _ _ h]
  | fbox s ts os =>
    by_cases h : i = s + 1000
    · subst h; right; right; left; exact ⟨rfl, by simp only [mkD]; rw [upd_same]⟩
    · simp only [mkD]
      rw [upd_ne _ _ _ h]
      rcases layO_hp S0.hp s (explodeTs ts x) i os with h1 | ⟨o, ho, h1, h2⟩
      · exact .inl h1
      · exact .inr (.inr (.inr ⟨o, ho, h1, h2⟩))
  | dat s t => exact .inl rfl
  | part s j t => exact .inl rfl
  | fn s f ts => exact .inl rfl
theorem mkD_nn {S0 : St} (e : EntD) (x : e.den) {i : Nat} (h : S0.hp i ≠ .none ∨ ∃ B, entH e x i B) : (mkD S0 e x).hp i ≠ .none := by
  by_cases hf : ∃ s ts os, e = .fbox s ts os
  · obtain ⟨s, ts, os, rfl⟩ := hf
    simp only [mkD]
    by_cases hi : i = s + 1000
    · subst hi; rw [upd_same]; simp
    · rw [upd_ne _ _ _ hi]
      refine layO_nn _ _ _ (h.imp id ?_)
      rintro ⟨B, h1 | h1 | ⟨o, ho, h1, _⟩⟩
      · cases h1
      · exact absurd h1.1 hi
      · exact ⟨o, ho, h1⟩
  · have hX : ∀ i B, entH e x i B → entHp e x = some (i, B) := by
      rintro i B (h1 | h1)
      · exact h1
      · cases e <;> first | exact absurd ⟨_, _, _, rfl⟩ hf | exact absurd h1 id
    rcases mkD_hp (S0 := S0) e x i with h1 | h1
    · rw [h1]
      rcases h with h | ⟨B, h⟩
      · exact h
      · have h := hX _ _ h
        intro e0
        cases e <;> simp [entHp] at h
        all_goals (obtain ⟨rfl, rfl⟩ := h; simp [mkD, upd_same] at h1; rw [← h1] at e0; cases e0)
    · have h1 := hX _ _ h1
      intro e0
      rw [e0] at h1
      cases e <;> simp [entHp] at h1
theorem mkDs_fr : ∀ (D : List EntD) (x : denM D) (S0 : St) (s : Nat), getDs S D = some x → (mkDs S0 D x).fr s = S0.fr s ∨ ∃ e ∈ D, ∃ y : e.den, getD S e = some y ∧ entFr e y = some (s, (mkDs S0 D x).fr s) := by
  intro D
  induction D with
  | nil => intro x S0 s _; exact .inl rfl
  | cons e D ih =>
    intro x S0 s h
    obtain ⟨h1, h2⟩ := getDs_cons h
    rw [mkDs_cons]
    rcases ih (tlM x) (mkD S0 e (hdM x)) s h2 with h3 | ⟨e', he, y, h3, h4⟩
    · rcases mkD_fr (S0 := S0) e (hdM x) s with h4 | h4
      · exact .inl (h3.trans h4)
      · exact .inr ⟨e, by simp, hdM x, h1, by rw [h3]; exact h4⟩
    · exact .inr ⟨e', by simp [he], y, h3, h4⟩
theorem mkDs_hp : ∀ (D : List EntD) (x : denM D) (S0 : St) (i : Nat), getDs S D = some x → (mkDs S0 D x).hp i = S0.hp i ∨ ∃ e ∈ D, ∃ y : e.den, getD S e = some y ∧ entH e y i ((mkDs S0 D x).hp i) := by
  intro D
  induction D with
  | nil => intro x S0 s _; exact .inl rfl
  | cons e D ih =>
    intro x S0 s h
    obtain ⟨h1, h2⟩ := getDs_cons h
    rw [mkDs_cons]
    rcases ih (tlM x) (mkD S0 e (hdM x)) s h2 with h3 | ⟨e', he, y, h3, h4⟩
    · rcases mkD_hp (S0 := S0) e (hdM x) s with h4 | h4
      · exact .inl (h3.trans h4)
      · exact .inr ⟨e, by simp, hdM x, h1, by rw [h3]; exact h4⟩
    · exact .inr ⟨e', by simp [he], y, h3, h4⟩
theorem mkDs_nn : ∀ (D : List EntD) (x : denM D) (S0 : St) (i : Nat), getDs S D = some x → (S0.hp i ≠ .none ∨ ∃ e ∈ D, ∀ y : e.den, ∃ B, entH e y i B) → (mkDs S0 D x).hp i ≠ .none := by
  intro D
  induction D with
  | nil => intro x S0 i _ h; exact h.resolve_right (by simp)
  | cons e D ih =>
    intro x S0 i h hor
    obtain ⟨h1, h2⟩ := getDs_cons h
    rw [mkDs_cons]
    refine ih _ _ _ h2 ?_
    rcases hor with hor | ⟨e', he, h3⟩
    · exact .inl (mkD_nn e _ (.inl hor))
    · rcases List.mem_cons.1 he with rfl | he
      · exact .inl (mkD_nn _ _ (.inr (h3 _)))
      · exact .inr ⟨e', he, h3⟩
theorem mkP_hp : ∀ (l : List EntP) (S0 : St), (mkP S0 l).hp = S0.hp := by
  intro l
  induction l with
  | nil => intro S0; rfl
  | cons p l ih => intro S0; cases p <;> simp only [mkP] <;> rw [ih]
def entPFr : EntP → Nat × AV
  | .ptr s i off => (s, .one (.ptr i off))
  | .ref s i => (s, .one (.ref i))
theorem mkP_fr : ∀ (l : List EntP) (S0 : St) (s : Nat), (mkP S0 l).fr s = S0.fr s ∨ ∃ p ∈ l, entPFr p = (s, (mkP S0 l).fr s) := by
  intro l
  induction l with
  | nil => intro S0 s; exact .inl rfl
  | cons p l ih =>
    intro S0 s
    have key : ∀ S1 : St, (S1.fr s = S0.fr s ∨ entPFr p = (s, S1.fr s)) → ((mkP S1 l).fr s = S0.fr s ∨ ∃ q ∈ p :: l, entPFr q = (s, (mkP S1 l).fr s)) := by
      intro S1 h1
      rcases ih S1 s with h | ⟨q, hq, h⟩
      · rw [h]
        rcases h1 with h1 | h1
        · exact .inl h1
        · exact .inr ⟨p, by simp, h1⟩
      · exact .inr ⟨q, by simp [hq], h⟩
    cases p with
    | ptr s' i off =>
      simp only [mkP]
      refine key _ ?_
      by_cases hs : s = s'
      · subst hs; right; simp [entPFr, upd_same]
      · left; simp only; rw [upd_ne _ _ _ hs]
    | ref s' i =>
      simp only [mkP]
      refine key _ ?_
      by_cases hs : s = s'
      · subst hs; right; simp [entPFr, upd_same]
      · left; simp only; rw [upd_ne _ _ _ hs]
def kept1 (S : St) : EntD → List Nat
  | .own s _ => (S.fr s).ids
  | .blk i _ _ => [i]
  | .box i _ => [i]
  | .obox s _ => (S.fr s).ids
  | .mp s => (S.fr s).ids
  | .fbox s _ os => match boxOf S s with
    | some p => p.1 :: cidO p.2 os
    | none => []
  | _ => []
def made1 : EntD → List Nat
  | .own s _ => [s + 1000]
  | .blk i _ _ => [i]
  | .box i _ => [i]
  | .obox s _ => [s + 1000]
  | .mp s => [s + 1000]
  | .fbox s _ os => (s + 1000) :: os.map (oid s)
  | _ => []
def dat1 (S : St) : EntD → List Nat
  | .dat s _ => (S.fr s).ids
  | .box i _ => match S.hp i with
    | .box cs => idsOf cs
    | _ => []
  | .obox s _ => boxIds S.hp (S.fr s)
  | .fbox s _ os => match boxOf S s with
    | some p => restO os 0 p.2
    | none => []
  | _ => []
theorem keptIds_cons (e : EntD) (D : List EntD) : keptIds S (e :: D) = kept1 S e ++ keptIds S D := by
  cases e with
  | fbox s ts os => simp only [keptIds, kept1]; cases boxOf S s <;> rfl
  | _ => simp [keptIds, kept1]
theorem madeIds_cons (e : EntD) (D : List EntD) : madeIds (e :: D) = made1 e ++ madeIds D := by cases e <;> simp [madeIds, made1]
theorem datIds_cons (e : EntD) (D : List EntD) : datIds S (e :: D) = dat1 S e ++ datIds S D := by
  cases e with
  | box i ts =>
    simp only [datIds, dat1]
    cases S.hp i <;> rfl
  | fbox s ts os => simp only [datIds, dat1]; cases boxOf S s <;> rfl
  | _ => simp [datIds, dat1]
theorem mem_kept {e : EntD} {k : Nat} : ∀ {D : List EntD}, e ∈ D → k ∈ kept1 S e → k ∈ keptIds S D := by
  intro D
  induction D with
  | nil => intro h; simp at h
  | cons f D ih =>
    intro h hk
    rw [keptIds_cons, List.mem_append]
    rcases List.mem_cons.1 h with h2 | h2
    · subst h2; exact .inl hk
    · exact .inr (ih h2 hk)
theorem mem_made {e : EntD} {k : Nat} : ∀ {D : List EntD}, e ∈ D → k ∈ made1 e → k ∈ madeIds D := by
  intro D
  induction D with
  | nil => intro h; simp at h
  | cons f D ih =>
    intro h hk
    rw [madeIds_cons, List.mem_append]
    rcases List.mem_cons.1 h with h2 | h2
    · subst h2; exact .inl hk
    · exact .inr (ih h2 hk)
theorem mem_dat {e : EntD} {k : Nat} : ∀ {D : List EntD}, e ∈ D → k ∈ dat1 S e → k ∈ datIds S D := by
  intro D
  induction D with
  | nil => intro h; simp at h
  | cons f D ih =>
    intro h hk
    rw [datIds_cons, List.mem_append]
    rcases List.mem_cons.1 h with h2 | h2
    · subst h2; exact .inl hk
    · exact .inr (ih h2 hk)
theorem kept_apart {e e' : EntD} {k : Nat} : ∀ {D : List EntD}, (keptIds S D).Nodup → e ∈ D → e' ∈ D → e ≠ e' → k ∈ kept1 S e → k ∉ kept1 S e' := by
  intro D
  induction D with
  | nil => intro _ h; simp at h
  | cons f D ih =>
    intro hn h h' hne hk hk'
    rw [keptIds_cons] at hn
    obtain ⟨_, hn2, hn3⟩ := List.nodup_append.1 hn
    rcases List.mem_cons.1 h with h2 | h2
    · rcases List.mem_cons.1 h' with h3 | h3
      · exact hne (h2.trans h3.symm)
      · subst h2; exact hn3 k hk k (mem_kept h3 hk') rfl
    · rcases List.mem_cons.1 h' with h3 | h3
      · subst h3; exact hn3 k hk' k (mem_kept h2 hk) rfl
      · exact ih hn2 h2 h3 hne hk hk'
theorem made_apart {e e' : EntD} {k : Nat} : ∀ {D : List EntD}, (madeIds D).Nodup → e ∈ D → e' ∈ D → e ≠ e' → k ∈ made1 e → k ∉ made1 e' := by
  intro D
  induction D with
  | nil => intro _ h; simp at h
  | cons f D ih =>
    intro hn h h' hne hk hk'
    rw [madeIds_cons] at hn
    obtain ⟨_, hn2, hn3⟩ := List.nodup_append.1 hn
    rcases List.mem_cons.1 h with h2 | h2
    · rcases List.mem_cons.1 h' with h3 | h3
      · exact hne (h2.trans h3.symm)
      · subst h2; exact hn3 k hk k (mem_made h3 hk') rfl
    · rcases List.mem_cons.1 h' with h3 | h3
      · subst h3; exact hn3 k hk' k (mem_made h2 hk) rfl
      · exact ih hn2 h2 h3 hne hk hk'
theorem kept1_nodup {e : EntD} : ∀ {D : List EntD}, (keptIds S D).Nodup → e ∈ D → (kept1 S e).Nodup := by
  intro D
  induction D with
  | nil => intro _ h; simp at h
  | cons f D ih =>
    intro hn h
    rw [keptIds_cons] at hn
    obtain ⟨h1, h2, _⟩ := List.nodup_append.1 hn
    rcases List.mem_cons.1 h with rfl | h
    · exact h1
    · exact ih h2 h
theorem mem_cidO {cs : List Cel} {o k : Nat} {c : Cel} (hc : cs[o]? = some c) (hk : k ∈ c.ids) : ∀ {os : List Nat}, o ∈ os → k ∈ cidO cs os := by
  intro os
  induction os with
  | nil => intro h; simp at h
  | cons o' os ih =>
    intro h
    simp only [cidO, List.mem_append]
    rcases List.mem_cons.1 h with rfl | h
    · left; rw [hc]; exact hk
    · exact .inr (ih h)
theorem cidO_apart {cs : List Cel} {o o' k : Nat} {c c' : Cel} (hc : cs[o]? = some c) (hc' : cs[o']? = some c') (hk : k ∈ c.ids) (hk' : k ∈ c'.ids) (hne : o ≠ o') : ∀ {os : List Nat}, (cidO cs os).Nodup → o ∈ os → o' ∈ os → False := by
  intro os
  induction os with
  | nil => intro _ h; simp at h
  | cons p os ih =>
    intro hn h h'
    simp only [cidO] at hn
    obtain ⟨_, h2, h3⟩ := List.nodup_append.1 hn
    rcases List.mem_cons.1 h with h4 | h4
    · rcases List.mem_cons.1 h' with h5 | h5
      · exact hne (h4.trans h5.symm)
      · subst h4
        exact h3 k (by rw [hc]; exact hk) k (mem_cidO hc' hk' h5) rfl
    · rcases List.mem_cons.1 h' with h5 | h5
      · subst h5
        exact h3 k (by rw [hc']; exact hk') k (mem_cidO hc hk h4) rfl
      · exact ih h2 h4 h5
theorem mem_restO {os : List Nat} {c : Cel} {i : Nat} (hi : i ∈ c.ids) : ∀ {cs : List Cel} {k m : Nat}, cs[m]? = some c → memB (k + m) os = false → i ∈ restO os k cs := by
  intro cs
  induction cs with
  | nil => intro k m h; simp at h
  | cons d cs ih =>
    intro k m h hb
    simp only [restO, List.mem_append]
    cases m with
    | zero =>
      simp at h; subst h
      rw [Nat.add_zero] at hb
      left; rw [hb]; exact hi
    | succ m => exact .inr (ih (k := k + 1) (m := m) (by simpa using h) (by rw [show k + 1 + m = k + (m + 1) by omega]; exact hb))
theorem explodeTs_ids : ∀ (ts : List Ty) (x : denTs ts), idsOf (explodeTs ts x) = [] := by
  intro ts
  induction ts with
  | nil => intro x; rfl
  | cons t ts ih =>
    intro x
    cases ts with
    | nil => exact explode_ids t x
    | cons t' ts => show idsOf (explode t x.1 ++ explodeTs (t' :: ts) x.2) = []; rw [idsOf_app, explode_ids, ih]; rfl
theorem implodeTs_ok {hp : Hp} (hB : ∀ i, BlkR ρ w R i (hp i)) {ρ' : Nat → Value} : ∀ {ts : List Ty} {cs : List Cel} {x : denTs ts} {vs : List Value}, implodeTs hp ts cs = some x → Frozen hp (idsOf cs) → CelsR ρ w R cs vs → CelsR ρ' w R (explodeTs ts x) vs := by
  intro ts
  induction ts with
  | nil =>
    intro cs x vs h hF hc
    cases cs with
    | nil => cases hc; exact .nil
    | cons c cs => cases h
  | cons t ts ih =>
    intro cs x vs h hF hc
    cases ts with
    | nil =>
      have h' : (match implode hp t cs with
        | some (x, []) => some x
        | _ => none) = some x := h
      split at h'
      · rename_i y hy
        cases h'
        obtain ⟨v1, v2, he, hr, hc2, _⟩ := implode_ok hB t cs [] x vs hy hF hc
        cases hc2
        rw [List.append_nil] at he; subst he
        exact explode_cels t x _ hr
      · cases h'
    | cons t' ts =>
      have h' : (match implode hp t cs with
        | some (x, cs') => match implodeTs hp (t' :: ts) cs' with
          | some y => some (x, y)
          | none => none
        | none => none) = some x := h
      split at h'
      · rename_i y cs' hy
        obtain ⟨v1, v2, he, hr, hc2, hi⟩ := implode_ok hB t cs cs' y vs hy hF hc
        split at h'
        · rename_i z hz
          have h3 : ((y, z) : denTs (t :: t' :: ts)) = x := Option.some.inj h'
          rw [← h3, he]
          exact (explode_cels (ρ := ρ') t y _ hr).app (ih hz (hF.sub hi) hc2)
        · cases h'
      · cases h'
theorem implode_all2 {hp : Hp} : ∀ (t : Ty) (cs rest : List Cel) (x : t.den), implode hp t cs = some (x, rest) → ∃ pre, cs = pre ++ rest ∧ All2 (fun c d => ∃ (t : Ty) (z : t.den), d = Cel.dat t z ∧ cellDat hp t c = some z) pre (explode t x) := by
  have single : ∀ (t : Ty) (c : Cel) (cs rest : List Cel) (x : t.den), one1 (cellDat hp t c) cs = some (x, rest) → explode t x = [.dat t x] → ∃ pre, c :: cs = pre ++ rest ∧ All2 (fun c d => ∃ (t : Ty) (z : t.den), d = Cel.dat t z ∧ cellDat hp t c = some z) pre (explode t x) := by
    intro t c cs rest x h he
    obtain ⟨h1, h2⟩ := one1_some h
    simp only at h1 h2
    subst h2
    exact ⟨[c], rfl, by rw [he]; exact .cons ⟨t, x, rfl, h1⟩ .nil⟩
  intro t
  induction t with
  | st t ih => intro cs rest x h; exact ih cs rest x h
  | pair a b iha ihb =>
    intro cs rest x h
    simp only [implode] at h
    cases h1 : implode hp a cs with
    | none => simp [h1] at h
    | some p =>
      cases h2 : implode hp b p.2 with
      | none => simp [h1, h2] at h
      | some q =>
        simp only [h1, h2, Option.some.injEq, Prod.mk.injEq] at h
        obtain ⟨rfl, rfl⟩ := h
        obtain ⟨p1, e1, r1⟩ := iha cs p.2 p.1 h1
        obtain ⟨p2, e2, r2⟩ := ihb p.2 q.2 q.1 h2
        exact ⟨p1 ++ p2, by rw [e1, e2, List.append_assoc], r1.app r2⟩
  | unit => intro cs rest x h; simp only [implode, Option.some.injEq, Prod.mk.injEq] at h; obtain ⟨_, rfl⟩ := h; exact ⟨[], rfl, .nil⟩
  | int k => intro cs rest x h; cases cs with
    | nil => cases h
    | cons c cs => exact single (.int k) c cs rest x h rfl
  | bool => intro cs rest x h; cases cs with
    | nil => cases h
    | cons c cs => exact single .bool c cs rest x h rfl
  | str => intro cs rest x h; cases cs with
    | nil => cases h
    | cons c cs => exact single .str c cs rest x h rfl
  | list t _ => intro cs rest x h; cases cs with
    | nil => cases h
    | cons c cs => exact single (.list t) c cs rest x h rfl
  | ptr t _ => intro cs rest x h; cases cs with
    | nil => cases h
    | cons c cs => exact single (.ptr t) c cs rest x h rfl
theorem implodeTs_all2 {hp : Hp} : ∀ {ts : List Ty} {cs : List Cel} {x : denTs ts}, implodeTs hp ts cs = some x → All2 (fun c d => ∃ (t : Ty) (z : t.den), d = Cel.dat t z ∧ cellDat hp t c = some z) cs (explodeTs ts x) := by
  intro ts
  induction ts with
  | nil =>
    intro cs x h
    cases cs with
    | nil => exact .nil
    | cons c cs => cases h
  | cons t ts ih =>
    intro cs x h
    cases ts with
    | nil =>
      have h' : (match implode hp t cs with
        | some (x, []) => some x
        | _ => none) = some x := h
      split at h'
      · rename_i y hy
        cases h'
        obtain ⟨pre, e1, r1⟩ := implode_all2 t cs [] x hy
        rw [List.append_nil] at e1
        rw [e1]; exact r1
      · cases h'
    | cons t' ts =>
      have h' : (match implode hp t cs with
        | some (x, cs') => match implodeTs hp (t' :: ts) cs' with
          | some y => some (x, y)
          | none => none
        | none => none) = some x := h
      split at h'
      · rename_i y cs' hy
        obtain ⟨pre, e1, r1⟩ := implode_all2 t cs cs' y hy
        split at h'
        · rename_i z hz
          have h3 : ((y, z) : denTs (t :: t' :: ts)) = x := Option.some.inj h'
          rw [← h3, e1]
          exact r1.app (ih hz)
        · cases h'
      · cases h'
theorem refO_cels {ρ' : Nat → Value} {hp : Hp} {s : Nat} {os : List Nat} : ∀ {cs ds : List Cel} {vs : List Value} (k : Nat), All2 (fun c d => ∃ (t : Ty) (z : t.den), d = Cel.dat t z ∧ cellDat hp t c = some z) cs ds → CelsR ρ w R cs vs →
    (∀ m c, cs[m]? = some c → memB (k + m) os = true → ∀ v, CelR ρ w R c v → CelR ρ' w R (.ref (oid s (k + m))) v) →
    (∀ m c (t : Ty) (z : t.den), cs[m]? = some c → memB (k + m) os = false → cellDat hp t c = some z → ∀ v, CelR ρ w R c v → CelR ρ' w R (.dat t z) v) → CelsR ρ' w R (refO s os k ds) vs := by
  intro cs
  induction cs with
  | nil => intro ds vs k h hc _ _; cases h; cases hc; exact .nil
  | cons c cs ih =>
    intro ds vs k h hc ho hd
    cases h with
    | cons h1 h2 =>
      cases hc with
      | cons g1 g2 =>
        refine .cons ?_ (ih (k + 1) h2 g2 (fun m c' hm hb => by have := ho (m + 1) c' (by simpa using hm); rw [show k + (m + 1) = k + 1 + m by omega] at this; exact this hb) (fun m c' t z hm hb => by have := hd (m + 1) c' t z (by simpa using hm); rw [show k + (m + 1) = k + 1 + m by omega] at this; exact this hb))
        cases hb : memB k os with
        | true => exact ho 0 c rfl hb _ g1
        | false =>
          obtain ⟨t, z, rfl, hz⟩ := h1
          exact hd 0 c t z rfl hb hz _ g1
theorem implodeTs_finds {hp' hp : Hp} (h : Finds hp' hp) : ∀ {ts : List Ty} {cs : List Cel} {x : denTs ts}, implodeTs hp' ts cs = some x → implodeTs hp ts cs = some x := by
  intro ts
  induction ts with
  | nil =>
    intro cs x hx
    cases cs with
    | nil => exact hx
    | cons c cs => cases hx
  | cons t ts ih =>
    intro cs x hx
    cases ts with
    | nil =>
      have h' : (match implode hp' t cs with
        | some (x, []) => some x
        | _ => none) = some x := hx
      show (match implode hp t cs with
        | some (x, []) => some x
        | _ => none) = some x
      split at h'
      · rename_i y hy
        rw [implode_finds h _ _ _ hy]; exact h'
      · cases h'
    | cons t' ts =>
      have h' : (match implode hp' t cs with
        | some (x, cs') => match implodeTs hp' (t' :: ts) cs' with
          | some y => some (x, y)
          | none => none
        | none => none) = some x := hx
      show (match implode hp t cs with
        | some (x, cs') => match implodeTs hp (t' :: ts) cs' with
          | some y => some (x, y)
          | none => none
        | none => none) = some x
      split at h'
      · rename_i y cs' hy
        rw [implode_finds h _ _ _ hy]
        simp only
        split at h'
        · rename_i z hz
          rw [ih hz]; exact h'
        · cases h'
      · cases h'
end
end Go.Ev
set_option linter.unusedVariables false
set_option linter.unusedSimpArgs false
namespace Go.Ev
open Go
section
variable {P : Program} {C : Ctx} {n : Nat} {S : St} {R : Nat → Prop} {ρ : Nat → Value} {a : Act} {w : World} {T : TypeId → TI} {tab : List Entry}
def valO (S : St) (ρ : Nat → Value) (s o : Nat) : Value := match boxOf S s with
  | some p => match p.2[o]? with
    | some (.ref i) => ρ i
    | _ => .slice none 0 0
  | none => .slice none 0 0
def oidOf (D : List EntD) (i : Nat) (p : Nat × Nat) : Prop := ∃ ts os, EntD.fbox p.1 ts os ∈ D ∧ p.2 ∈ os ∧ i = oid p.1 p.2
open Classical in
noncomputable def rhoM (S : St) (D : List EntD) (a : Act) (ρ : Nat → Value) (i : Nat) : Value :=
  if (∃ s t, EntD.own s t ∈ D ∧ i = s + 1000) ∨ (∃ s ts, EntD.obox s ts ∈ D ∧ i = s + 1000) ∨ (∃ s, EntD.mp s ∈ D ∧ i = s + 1000) ∨ ∃ s ts os, EntD.fbox s ts os ∈ D ∧ i = s + 1000 then a.tmps.getD (i - 1000) undef
  else if h : ∃ p, oidOf D i p then valO S ρ h.choose.1 h.choose.2 else ρ i
theorem rhoM_own {D : List EntD} {s : Nat} {t : Ty} (h : EntD.own s t ∈ D) : rhoM S D a ρ (s + 1000) = a.tmps.getD s undef := by
  unfold rhoM
  rw [if_pos (.inl ⟨s, t, h, rfl⟩), Nat.add_sub_cancel]
theorem rhoM_obox {D : List EntD} {s : Nat} {t : List Ty} (h : EntD.obox s t ∈ D) : rhoM S D a ρ (s + 1000) = a.tmps.getD s undef := by
  unfold rhoM
  rw [if_pos (.inr (.inl ⟨s, t, h, rfl⟩)), Nat.add_sub_cancel]
theorem rhoM_mp {D : List EntD} {s : Nat} (h : EntD.mp s ∈ D) : rhoM S D a ρ (s + 1000) = a.tmps.getD s undef := by
  unfold rhoM
  rw [if_pos (.inr (.inr (.inl ⟨s, h, rfl⟩))), Nat.add_sub_cancel]
theorem rhoM_fbox {D : List EntD} {s : Nat} {ts : List Ty} {os : List Nat} (h : EntD.fbox s ts os ∈ D) : rhoM S D a ρ (s + 1000) = a.tmps.getD s undef := by
  unfold rhoM
  rw [if_pos (.inr (.inr (.inr ⟨s, ts, os, h, rfl⟩))), Nat.add_sub_cancel]
theorem rhoM_cell {D : List EntD} (hn : (madeIds D).Nodup) {s : Nat} {ts : List Ty} {os : List Nat} (he : EntD.fbox s ts os ∈ D) {o : Nat} (ho : o ∈ os) : rhoM S D a ρ (oid s o) = valO S ρ s o := by
  have hm : oid s o ∈ made1 (EntD.fbox s ts os) := by simp only [made1]; exact List.mem_cons_of_mem _ (List.mem_map.2 ⟨o, ho, rfl⟩)
  unfold rhoM
  rw [if_neg]
  · have hx : ∃ p, oidOf D (oid s o) p := ⟨(s, o), ts, os, he, ho, rfl⟩
    rw [dif_pos hx]
    obtain ⟨ts', os', h1, h2, h3⟩ := hx.choose_spec
    generalize hx.choose = p at *
    by_cases hee : EntD.fbox s ts os = EntD.fbox p.1 ts' os'
    · simp only [EntD.fbox.injEq] at hee
      obtain ⟨rfl, rfl, rfl⟩ := hee
      rw [oid_inj h3]
    · exact absurd (show oid s o ∈ made1 (EntD.fbox p.1 ts' os') by rw [h3]; simp only [made1]; exact List.mem_cons_of_mem _ (List.mem_map.2 ⟨p.2, h2, rfl⟩)) (made_apart hn he h1 hee hm)
  · rintro (⟨s', t, h, e⟩ | ⟨s', t, h, e⟩ | ⟨s', h, e⟩ | ⟨s', ts', os', h, e⟩)
    · exact made_apart hn he h (by simp) hm (by rw [e]; simp [made1])
    · exact made_apart hn he h (by simp) hm (by rw [e]; simp [made1])
    · exact made_apart hn he h (by simp) hm (by rw [e]; simp [made1])
    · by_cases hee : EntD.fbox s ts os = EntD.fbox s' ts' os'
      · simp only [EntD.fbox.injEq] at hee
        obtain ⟨rfl, rfl, rfl⟩ := hee
        exact oid_ne e
      · exact made_apart hn he h hee hm (by rw [e]; simp [made1])
theorem rhoM_other {D : List EntD} (hn : (madeIds D).Nodup) {e : EntD} {i : Nat} (he : e ∈ D) (hi : i ∈ made1 e) (hne : (∀ s t, e ≠ .own s t) ∧ (∀ s t, e ≠ .obox s t) ∧ (∀ s, e ≠ .mp s) ∧ ∀ s t os, e ≠ .fbox s t os) : rhoM S D a ρ i = ρ i := by
  unfold rhoM
  rw [if_neg, dif_neg]
  · rintro ⟨p, ts, os, h1, h2, h3⟩
    exact made_apart hn he h1 (hne.2.2.2 p.1 ts os) hi (by rw [h3]; simp only [made1]; exact List.mem_cons_of_mem _ (List.mem_map.2 ⟨p.2, h2, rfl⟩))
  · rintro (⟨s, t, h, rfl⟩ | ⟨s, t, h, rfl⟩ | ⟨s, h, rfl⟩ | ⟨s, t, os, h, rfl⟩)
    · exact made_apart hn he h (hne.1 s t) hi (by simp [made1])
    · exact made_apart hn he h (hne.2.1 s t) hi (by simp [made1])
    · exact made_apart hn he h (hne.2.2.1 s) hi (by simp [made1])
    · exact made_apart hn he h (hne.2.2.2 s t os) hi (by simp [made1])
theorem own_anew (h1 : RelW C n S R ρ a w) {s : Nat} {t : Ty} {y : List t.den} (hy : getD S (.own s t) = some y) :
    OwnR w R t y 2 (a.tmps.getD s undef) ∧ (a.tmps.getD s undef = .slice none 0 0 ∨ ∃ b off len cap, a.tmps.getD s undef = .slice (some ⟨b, off, none⟩) len cap) ∧
      ∀ b, memOf (a.tmps.getD s undef) = some b → ∃ k ∈ (S.fr s).ids, (∃ t l, S.hp k = .arr t l 2) ∧ memOf (ρ k) = some b := by
  have hv := h1.fr s
  simp only [getD] at hy
  split at hy
  · rename_i hf
    cases hy
    rw [hf] at hv
    have e : a.tmps.getD s undef = .slice none 0 0 := hv
    exact ⟨.inl ⟨e, rfl⟩, .inl e, fun b hb => by rw [e] at hb; cases hb⟩
  · rename_i j hf
    rw [hf] at hv
    split at hy
    · rename_i t' l o hj
      cases hq : Nat.beq o 2 with
      | false => simp [hq] at hy
      | true =>
        have hq' := Nat.eq_of_beq_eq_true hq
        subst hq'
        simp only [hq, cond_true] at hy
        obtain ⟨e, he⟩ := castTo_some hy
        cases e; subst he
        have hO := h1.hp j
        rw [hj] at hO
        rw [hv.1]
        refine ⟨hO, by rw [← hv.1]; exact hv.2, fun b hb => ⟨j, by rw [hf]; simp [AV.ids, Cel.ids], ⟨_, _, hj⟩, hb⟩⟩
    · cases hy
  · rename_i j t0 off len hf
    rw [hf] at hv
    split at hy
    · rename_i t' l o hj
      cases hq : (Nat.beq o 2 && decide (t0 = t')) with
      | false => simp [hq] at hy
      | true =>
        simp only [hq, cond_true] at hy
        simp only [Bool.and_eq_true] at hq
        have hq' := Nat.eq_of_beq_eq_true hq.1
        subst hq'
        obtain ⟨e, he⟩ := castTo_some hy
        cases e; subst he
        have hO := h1.hp j
        rw [hj] at hO
        obtain ⟨h0, h2, h3, h4⟩ := part_slice hv (of_decide_eq_true hq.2) hO
        have hsl := sub_len (l := l) h0 h2 h3
        rcases h4 with h4 | ⟨b, o', cap', cs, X, fz, hr, hlc, hh, hsz, hmb, he, _, hq2⟩
        · exact ⟨.inl h4, .inl h4.1, fun b hb => by rw [h4.1] at hb; cases hb⟩
        · refine ⟨.inr ⟨b, o', cap', cs, X, fz, by rw [hsl]; exact hr, by rw [hsl]; exact hlc, hh, hsz, he, by simp, fun _ => hq2 (by simp)⟩, .inr ⟨_, _, _, _, hr⟩, fun b2 hb => ⟨j, by rw [hf]; simp [AV.ids, Cel.ids], ⟨_, _, hj⟩, ?_⟩⟩
          rw [hr] at hb
          simp only [memOf, Option.some.injEq] at hb
          rw [← hb]; exact hmb
    · cases hy
  · cases hy
theorem obox_get {s : Nat} {ts : List Ty} {y : denTs ts} (hy : getD S (.obox s ts) = some y) : ∃ j cs, S.fr s = .one (.ptr j 0) ∧ S.hp j = .box cs ∧ implodeTs S.hp ts cs = some y := by
  simp only [getD] at hy
  split at hy
  · rename_i j off hf
    cases hq : Nat.beq off 0 with
    | false => simp [hq] at hy
    | true =>
      have hq' := Nat.eq_of_beq_eq_true hq
      subst hq'
      simp only [hq, cond_true] at hy
      split at hy
      · rename_i cs hj; exact ⟨j, cs, hf, hj, hy⟩
      · cases hy
  · cases hy
theorem mp_get {s : Nat} {y : List Int} (hy : getD S (.mp s) = some y) : ∃ j, S.fr s = .one (.mp j) ∧ S.hp j = .mp y := by
  simp only [getD] at hy
  split at hy
  · rename_i j hf
    split at hy
    · rename_i l hj
      cases hy
      exact ⟨j, hf, hj⟩
    · cases hy
  · cases hy
theorem fbox_get {s : Nat} {ts : List Ty} {os : List Nat} {y : denTs ts} (hy : getD S (.fbox s ts os) = some y) : ∃ j cs, S.fr s = .one (.ptr j 0) ∧ S.hp j = .box cs ∧ boxOf S s = some (j, cs) ∧ implodeTs S.hp ts cs = some y ∧ ownO S.hp cs (explodeTs ts y) os = true := by
  simp only [getD] at hy
  split at hy
  · rename_i p hp
    obtain ⟨j, cs⟩ := p
    have hp' := hp
    unfold boxOf at hp
    split at hp
    · rename_i j' off hf
      cases hq : Nat.beq off 0 with
      | false => simp [hq] at hp
      | true =>
        have hq' := Nat.eq_of_beq_eq_true hq
        subst hq'
        simp only [hq, cond_true] at hp
        split at hp
        · rename_i cs' hj
          simp only [Option.some.injEq, Prod.mk.injEq] at hp
          obtain ⟨rfl, rfl⟩ := hp
          split at hy
          · rename_i x hx
            cases ho : ownO S.hp cs' (explodeTs ts x) os with
            | false => rw [ho] at hy; cases hy
            | true =>
              rw [ho] at hy
              simp only [cond_true, Option.some.injEq] at hy
              subst hy
              exact ⟨j', cs', hf, hj, hp', hx, ho⟩
          · cases hy
        · cases hp
    · cases hp
  · cases hy
theorem ownO_at {hp : Hp} {cs ds : List Cel} {os : List Nat} (h : ownO hp cs ds os = true) {o : Nat} (ho : o ∈ os) :
    ∃ (c : Cel) (t : Ty) (l : List t.den), cs[o]? = some c ∧ ds[o]? = some (.dat (.list t) l) ∧ ((c = .nil ∧ l = []) ∨ ∃ i l', c = .ref i ∧ hp i = .arr t l' 2) := by
  have h1 := List.all_eq_true.1 h o ho
  unfold ownC at h1
  split at h1
  · rename_i t l h2 h3
    refine ⟨_, t, l, h2, h3, .inl ⟨rfl, ?_⟩⟩
    unfold isNil at h1
    split at h1
    · rfl
    · cases h1
  · rename_i i t l h2 h3
    split at h1
    · rename_i t' l' q hi
      simp only [Bool.and_eq_true, decide_eq_true_eq] at h1
      obtain ⟨e1, rfl⟩ := h1
      have := Nat.eq_of_beq_eq_true e1
      subst this
      exact ⟨_, t', l, h2, h3, .inr ⟨i, l', rfl, hi⟩⟩
    · cases h1
  · cases h1
def keyed (S : St) (e : EntD) (i k : Nat) : Prop := match e with
  | .fbox s _ os => ∃ j cs, boxOf S s = some (j, cs) ∧ ((i = s + 1000 ∧ k = j) ∨ ∃ o ∈ os, i = oid s o ∧ cs[o]? = some (.ref k))
  | _ => True
theorem memB_iff {o : Nat} {os : List Nat} : memB o os = true ↔ o ∈ os := by
  unfold memB
  rw [List.any_eq_true]
  constructor
  · rintro ⟨x, hx, h⟩; rw [Nat.eq_of_beq_eq_true h]; exact hx
  · intro h; exact ⟨o, h, by simp⟩
theorem mark_ok (h : RelW C n S R ρ a w) (hnp : C.np ≤ 1000) {M : Mrk} {x : M.den} (hx : getM M S = some x) : Rel C n (mkM M x) a w := by
  unfold getM at hx
  cases hc : (staticOk M && getP S M.P && nodupB (keptIds S M.D) && !meets (keptIds S M.D) (datIds S M.D) && noLent S.hp (datIds S M.D)) with
  | false => rw [hc] at hx; cases hx
  | true =>
    rw [hc] at hx
    simp only [cond_true] at hx
    simp only [Bool.and_eq_true, Bool.not_eq_true'] at hc
    obtain ⟨⟨⟨⟨hstat, hP⟩, hkn⟩, hmeet⟩, hnl⟩ := hc
    simp only [staticOk, Bool.and_eq_true] at hstat
    obtain ⟨⟨hmade, hparts⟩, hPs⟩ := hstat
    have hmade' := nodupB_iff hmade
    have hkn' := nodupB_iff hkn
    obtain ⟨R1, h1, hs1, hb1⟩ := h.freezes (datIds S M.D) (fun i hi t l e => by
      have := List.all_eq_true.1 hnl i hi
      rw [e] at this; cases this)
    have hkeep : ∀ k ∈ keptIds S M.D, frzHp S.hp (datIds S M.D) k = S.hp k := fun k hk => by
      simp only [frzHp]; rw [if_neg (meets_false hmeet hk)]
    have hF := (SubHp.finds (hp' := S.hp) (hp := S.hp) fun i => .inl rfl).frz (datIds S M.D)
    generalize hS1 : ({ S with hp := frzHp S.hp (datIds S M.D) } : St) = S1 at *
    have hfr1 : S1.fr = S.fr := by rw [← hS1]
    have hhp1 : S1.hp = frzHp S.hp (datIds S M.D) := by rw [← hS1]
    -- blocks under their old names
    have hkeep1 : ∀ k ∈ keptIds S M.D, S1.hp k = S.hp k := fun k hk => by rw [hhp1]; exact hkeep k hk
    have hownS1 : ∀ {s : Nat} {t : Ty} {y : List t.den}, EntD.own s t ∈ M.D → getD S (.own s t) = some y → getD S1 (.own s t) = some y := by
      intro s t y he hy
      have hk : ∀ k ∈ (S.fr s).ids, S1.hp k = S.hp k := fun k hk => hkeep1 k (mem_kept he hk)
      simp only [getD, hfr1] at hy ⊢
      split at hy
      · exact hy
      · rename_i j hf; rw [hk j (by rw [hf]; simp [AV.ids, Cel.ids])]; exact hy
      · rename_i j t0 off len hf; rw [hk j (by rw [hf]; simp [AV.ids, Cel.ids])]; exact hy
      · cases hy
    have hlaid : ∀ i, (∃ e ∈ M.D, (∃ t o, e = .blk i t o) ∨ (∃ ts, e = .box i ts) ∨ (∃ s t, e = .own s t ∧ i = s + 1000) ∨ (∃ s t, e = .obox s t ∧ i = s + 1000) ∨ (∃ s, e = .mp s ∧ i = s + 1000) ∨ ∃ s ts os, e = .fbox s ts os ∧ (i = s + 1000 ∨ ∃ o ∈ os, i = oid s o)) → (mkM M x).hp i ≠ .none := by
      rintro i ⟨e, he, hor⟩
      unfold mkM
      rw [mkP_hp]
      refine mkDs_nn M.D x St.empty i hx (.inr ⟨e, he, fun y => ?_⟩)
      rcases hor with ⟨t, o, rfl⟩ | ⟨ts, rfl⟩ | ⟨s, t, rfl, rfl⟩ | ⟨s, t, rfl, rfl⟩ | ⟨s, rfl, rfl⟩ | ⟨s, ts, os, rfl, rfl | ⟨o, ho, rfl⟩⟩
      · exact ⟨_, .inl rfl⟩
      · exact ⟨_, .inl rfl⟩
      · exact ⟨_, .inl rfl⟩
      · exact ⟨_, .inl rfl⟩
      · exact ⟨_, .inl rfl⟩
      · exact ⟨_, .inr (.inl ⟨rfl, rfl⟩)⟩
      · exact ⟨_, .inr (.inr ⟨o, ho, rfl, rfl⟩)⟩
    have hblk : ∀ e ∈ M.D, ∀ y : e.den, getD S e = some y → ∀ i B, entH e y i B → BlkR (rhoM S M.D a ρ) w R1 i B ∧
        (excl B = true → ∀ b, memOf (rhoM S M.D a ρ i) = some b → ∃ k ∈ kept1 S e, excl (S.hp k) = true ∧ memOf (ρ k) = some b ∧ ((∀ t l, B ≠ .arr t l 1) → ∀ t l, S.hp k ≠ .arr t l 1) ∧ keyed S e i k) ∧
        (∀ t l, B = .arr t l 1 → rhoM S M.D a ρ i = ρ i ∧ S.hp i = .arr t l 1) ∧ (i < C.np → rhoM S M.D a ρ i = ρ i ∧ S.hp i ≠ .none) ∧ (∀ cs, B = .box cs → ∀ k ∈ idsOf cs, (mkM M x).hp k ≠ .none) ∧ i ∈ made1 e := by
      intro e he y hy i B hB
      by_cases hfb : ∃ s ts os, e = .fbox s ts os
      · obtain ⟨s, ts, os, rfl⟩ := hfb
        obtain ⟨j, cs, hf, hSj, hbo, him, hown⟩ := fbox_get hy
        have hkp : ∀ k, k ∈ j :: cidO cs os → k ∈ kept1 S (EntD.fbox s ts os) := fun k hk => by simp only [kept1, hbo]; exact hk
        have hk := hkeep1 j (mem_kept (D := M.D) he (hkp j (by simp)))
        have hO := h1.hp j
        rw [hk, hSj] at hO
        obtain ⟨b, vs, X, hv, hh, hcs, hnR⟩ := hO
        have hal := implodeTs_all2 him
        have hfv := h1.fr s
        rw [hfr1, hf] at hfv
        obtain ⟨b', e1, e2⟩ := hfv
        have hρ : rhoM S M.D a ρ (s + 1000) = ρ j := by rw [rhoM_fbox (S := S) he, e2, e1]
        -- its own lists
        have hvo : ∀ o ∈ os, ∀ k, cs[o]? = some (.ref k) → valO S ρ s o = ρ k := fun o _ k hc => by unfold valO; rw [hbo]; simp only; rw [hc]
        have hvn : ∀ o ∈ os, cs[o]? = some .nil → valO S ρ s o = .slice none 0 0 := fun o _ hc => by unfold valO; rw [hbo]; simp only; rw [hc]
        rcases hB with hB | ⟨rfl, rfl⟩ | ⟨o, ho, rfl, rfl⟩
        · cases hB
        · rw [hρ]
          refine ⟨⟨b, vs, X, by rw [hρ]; exact hv, hh, ?_, hnR⟩, fun _ b hb => ⟨j, hkp j (by simp), by rw [hSj]; rfl, hb, fun _ t2 l2 e0 => by rw [hSj] at e0; (cases e0), j, cs, hbo, .inl ⟨rfl, rfl⟩⟩, by simp, fun hi => by omega, fun cs' e0 k hk' => ?_, by simp [made1]⟩
          · refine refO_cels 0 hal hcs (fun m c hm hb v hv' => ?_) (fun m c t z hm hb hz v hv' => ?_)
            · rw [Nat.zero_add] at hb ⊢
              have hmo := memB_iff.1 hb
              obtain ⟨c', t, l, g1, _, g3⟩ := ownO_at hown hmo
              rw [hm] at g1
              cases g1
              show v = rhoM S M.D a ρ (oid s m) ∧ _
              rw [rhoM_cell (S := S) hmade' he hmo]
              rcases g3 with ⟨rfl, _⟩ | ⟨i, l', rfl, _⟩
              · have hv2 : v = .slice none 0 0 := hv'
                exact ⟨by rw [hvn m hmo hm]; exact hv2, .inl hv2⟩
              · exact ⟨by rw [hvo m hmo i hm]; exact hv'.1, hv'.2⟩
            · rw [Nat.zero_add] at hb
              have hz1 : cellDat S1.hp t c = some z := by rw [hhp1]; exact cellDat_finds hF hz
              exact cellDat_ok h1.hp hz1 (by
                rw [hhp1]
                exact (frz_frozen S.hp _).sub fun i hi => mem_dat (D := M.D) he (by simp only [dat1, hbo]; exact mem_restO hi hm (by rw [Nat.zero_add]; exact hb))) hv'
          · cases e0
            have hids : ∀ (ds : List Cel) (q : Nat), All2 (fun c d => ∃ (t : Ty) (z : t.den), d = Cel.dat t z ∧ cellDat S.hp t c = some z) cs ds ∨ True → (∀ d ∈ ds, d.ids = []) → ∀ k ∈ idsOf (refO s os q ds), ∃ o ∈ os, k = oid s o := by
              intro ds
              induction ds with
              | nil => intro q _ _ k hk; simp [refO, idsOf] at hk
              | cons d ds ih =>
                intro q _ hd k hk
                simp only [refO, idsOf, List.mem_append] at hk
                rcases hk with hk | hk
                · cases hb : memB q os with
                  | true => rw [hb] at hk; simp [Cel.ids] at hk; exact ⟨q, memB_iff.1 hb, hk⟩
                  | false => rw [hb, cond_false, hd d (by simp)] at hk; simp at hk
                · exact ih (q + 1) (.inr trivial) (fun d hd' => hd d (by simp [hd'])) k hk
            obtain ⟨o, ho, rfl⟩ := hids _ 0 (.inr trivial) (fun d hd => by
              have h0 := explodeTs_ids ts y
              refine List.eq_nil_iff_forall_not_mem.2 fun i hi => ?_
              have := mem_idsOf hd hi
              rw [h0] at this; simp at this) k hk'
            exact hlaid _ ⟨_, he, .inr (.inr (.inr (.inr (.inr ⟨s, ts, os, rfl, .inr ⟨o, ho, rfl⟩⟩))))⟩
        · obtain ⟨c, t, l, g1, g2, g3⟩ := ownO_at hown ho
          rw [rhoM_cell (S := S) hmade' he ho, g2]
          have hmm : oid s o ∈ made1 (EntD.fbox s ts os) := by simp only [made1]; exact List.mem_cons_of_mem _ (List.mem_map.2 ⟨o, ho, rfl⟩)
          rcases g3 with ⟨rfl, rfl⟩ | ⟨i, l', rfl, hi⟩
          · rw [hvn o ho g1]
            refine ⟨?_, fun _ b hb => (by cases hb), fun t2 l2 e0 => by simp [blkO] at e0, fun hi => absurd hi (by have := @oid_ge s o; omega), fun cs' e0 => by simp [blkO] at e0, hmm⟩
            show OwnR w R1 t [] 2 (rhoM S M.D a ρ (oid s o))
            rw [rhoM_cell (S := S) hmade' he ho, hvn o ho g1]
            exact .inl ⟨rfl, rfl⟩
          · rw [hvo o ho i g1]
            have hic : i ∈ cidO cs os := mem_cidO g1 (by simp [Cel.ids]) ho
            have hki := hkeep1 i (mem_kept (D := M.D) he (hkp i (by simp [hic])))
            have hOi := h1.hp i
            rw [hki, hi] at hOi
            obtain ⟨d, hd1, t0, z, hd2, hd3⟩ := hal.get g1
            rw [g2] at hd1
            simp only [Option.some.injEq] at hd1
            rw [← hd1] at hd2
            simp only [Cel.dat.injEq] at hd2
            obtain ⟨rfl, hd2⟩ := hd2
            have hd2' := eq_of_heq hd2
            subst hd2'
            simp only [cellDat, hi] at hd3
            obtain ⟨e3, he3⟩ := castTo_some hd3
            cases e3
            subst he3
            refine ⟨?_, fun _ b hb => ⟨i, hkp i (by simp [hic]), by rw [hi]; rfl, hb, fun _ t2 l2 e0 => by rw [hi] at e0; (cases e0), j, cs, hbo, .inr ⟨o, ho, rfl, g1⟩⟩, fun t2 l2 e0 => by simp [blkO] at e0, fun hi => absurd hi (by have := @oid_ge s o; omega), fun cs' e0 => by simp [blkO] at e0, hmm⟩
            show OwnR w R1 t l' 2 (rhoM S M.D a ρ (oid s o))
            rw [rhoM_cell (S := S) hmade' he ho, hvo o ho i g1]
            exact hOi
      have hkd : ∀ i k, keyed S e i k := fun i k => by
        unfold keyed
        split
        · rename_i s ts os; exact absurd ⟨s, ts, os, rfl⟩ hfb
        · trivial
      have hB : entHp e y = some (i, B) := by
        rcases hB with hB | hB
        · exact hB
        · cases e <;> first | exact absurd ⟨_, _, _, rfl⟩ hfb | exact absurd hB id
      cases e with
      | fbox s ts os => exact absurd ⟨s, ts, os, rfl⟩ hfb
      | own s t =>
        simp only [entHp, Option.some.injEq, Prod.mk.injEq] at hB
        obtain ⟨rfl, rfl⟩ := hB
        obtain ⟨k1, k2, k3⟩ := own_anew h1 (hownS1 he hy)
        rw [rhoM_own he]
        refine ⟨by show OwnR _ _ _ _ _ _; rw [rhoM_own he]; exact k1, fun _ b hb => ?_, by simp, fun hi => by omega, by simp, by simp [made1]⟩
        obtain ⟨k, hk, ⟨t', l', hl⟩, hm⟩ := k3 b hb
        rw [hfr1] at hk
        have hkk := hkeep1 k (mem_kept (D := M.D) he hk)
        rw [hkk] at hl
        exact ⟨k, hk, by rw [hl]; rfl, hm, fun _ t2 l2 e0 => by rw [hl] at e0; (cases e0), hkd _ _⟩
      | blk j t o =>
        simp only [entHp, Option.some.injEq, Prod.mk.injEq] at hB
        obtain ⟨rfl, rfl⟩ := hB
        have hρ := rhoM_other (S := S) (a := a) (ρ := ρ) hmade' he (i := j) (by simp [made1]) (by simp)
        have hSj : S.hp j = .arr t y o := by
          simp only [getD] at hy
          split at hy
          · rename_i t' l o' hj
            cases hq : Nat.beq o o' with
            | false => simp [hq] at hy
            | true =>
              have hq' := Nat.eq_of_beq_eq_true hq
              subst hq'
              simp only [hq, cond_true] at hy
              obtain ⟨e0, he0⟩ := castTo_some hy
              cases e0; subst he0
              exact hj
          · cases hy
        have hk := hkeep1 j (mem_kept (D := M.D) he (by simp [kept1]))
        have hO := h1.hp j
        rw [hk, hSj] at hO
        rw [hρ]
        refine ⟨by show OwnR _ _ _ _ _ _; rw [hρ]; exact hO, fun hex b hb => ⟨j, by simp [kept1], by rw [hSj]; exact hex, hb, fun hne t2 l2 e0 => by rw [hSj] at e0; exact hne _ _ e0, hkd _ _⟩, fun t2 l2 e0 => ⟨rfl, by rw [hSj]; exact e0⟩, fun _ => ⟨rfl, by rw [hSj]; simp⟩, by simp, by simp [made1]⟩
      | box j ts =>
        simp only [entHp, Option.some.injEq, Prod.mk.injEq] at hB
        obtain ⟨rfl, rfl⟩ := hB
        have hρ := rhoM_other (S := S) (a := a) (ρ := ρ) hmade' he (i := j) (by simp [made1]) (by simp)
        have hSj : ∃ cs, S.hp j = .box cs ∧ implodeTs S.hp ts cs = some y := by
          simp only [getD] at hy
          split at hy
          · rename_i cs hj; exact ⟨cs, hj, hy⟩
          · cases hy
        obtain ⟨cs, hSj, him⟩ := hSj
        have hk := hkeep1 j (mem_kept (D := M.D) he (by simp [kept1]))
        have hO := h1.hp j
        rw [hk, hSj] at hO
        obtain ⟨b, vs, X, hv, hh, hcs, hnR⟩ := hO
        have hfro : Frozen S1.hp (idsOf cs) := by
          rw [hhp1]
          exact (frz_frozen S.hp _).sub fun i hi => mem_dat (D := M.D) he (by simp only [dat1, hSj]; exact hi)
        have him1 : implodeTs S1.hp ts cs = some y := by rw [hhp1]; exact implodeTs_finds hF him
        rw [hρ]
        refine ⟨⟨b, vs, X, by rw [hρ]; exact hv, hh, implodeTs_ok h1.hp him1 hfro hcs, hnR⟩, fun _ b hb => ⟨j, by simp [kept1], by rw [hSj]; rfl, hb, fun _ t2 l2 e0 => by rw [hSj] at e0; (cases e0), hkd _ _⟩, by simp, fun _ => ⟨rfl, by rw [hSj]; simp⟩, fun cs' e0 k hk => by cases e0; rw [explodeTs_ids] at hk; simp at hk, by simp [made1]⟩
      | obox s ts =>
        simp only [entHp, Option.some.injEq, Prod.mk.injEq] at hB
        obtain ⟨rfl, rfl⟩ := hB
        obtain ⟨j, cs, hf, hSj, him⟩ := obox_get hy
        have hk := hkeep1 j (mem_kept (D := M.D) he (by simp [kept1, hf, AV.ids, Cel.ids]))
        have hO := h1.hp j
        rw [hk, hSj] at hO
        obtain ⟨b, vs, X, hv, hh, hcs, hnR⟩ := hO
        have hfv := h1.fr s
        rw [hfr1, hf] at hfv
        obtain ⟨b', e1, e2⟩ := hfv
        have hρ : rhoM S M.D a ρ (s + 1000) = ρ j := by rw [rhoM_obox he, e2, e1]
        have hfro : Frozen S1.hp (idsOf cs) := by
          rw [hhp1]
          exact (frz_frozen S.hp _).sub fun i hi => mem_dat (D := M.D) he (by simp only [dat1, boxIds, hf, hSj]; exact hi)
        have him1 : implodeTs S1.hp ts cs = some y := by rw [hhp1]; exact implodeTs_finds hF him
        rw [hρ]
        refine ⟨⟨b, vs, X, by rw [hρ]; exact hv, hh, implodeTs_ok h1.hp him1 hfro hcs, hnR⟩, fun _ b hb => ⟨j, by simp [kept1, hf, AV.ids, Cel.ids], by rw [hSj]; rfl, hb, fun _ t2 l2 e0 => by rw [hSj] at e0; (cases e0), hkd _ _⟩, by simp, fun hi => by omega, fun cs' e0 k hk => by cases e0; rw [explodeTs_ids] at hk; simp at hk, by simp [made1]⟩
      | mp s =>
        simp only [entHp, Option.some.injEq, Prod.mk.injEq] at hB
        obtain ⟨rfl, rfl⟩ := hB
        obtain ⟨j, hf, hSj⟩ := mp_get hy
        have hk := hkeep1 j (mem_kept (D := M.D) he (by simp [kept1, hf, AV.ids, Cel.ids]))
        have hO := h1.hp j
        rw [hk, hSj] at hO
        have hfv := h1.fr s
        rw [hfr1, hf] at hfv
        obtain ⟨e1, e2⟩ := hfv
        have hρ : rhoM S M.D a ρ (s + 1000) = ρ j := by rw [rhoM_mp he, e1]
        have hO' : MapR w R1 y (ρ j) := hO
        rw [hρ]
        refine ⟨by show MapR w R1 y (rhoM S M.D a ρ (s + 1000)); rw [hρ]; exact hO', fun _ b hb => ⟨j, by simp [kept1, hf, AV.ids, Cel.ids], by rw [hSj]; rfl, hb, fun _ t2 l2 e0 => by rw [hSj] at e0; (cases e0), hkd _ _⟩, by simp, fun hi => by omega, (fun cs' e0 => by cases e0), by simp [made1]⟩
      | dat s t => simp [entHp] at hB
      | part s j t => simp [entHp] at hB
      | fn s f ts => simp [entHp] at hB
    have hval : ∀ e ∈ M.D, ∀ y : e.den, getD S e = some y → ∀ s v, entFr e y = some (s, v) → AVR (rhoM S M.D a ρ) w R1 v (a.tmps.getD s undef) ∧ ∀ i ∈ v.ids, (mkM M x).hp i ≠ .none := by
      intro e he y hy s v hv
      cases e with
      | dat s' t =>
        simp only [entFr, Option.some.injEq, Prod.mk.injEq] at hv
        obtain ⟨rfl, rfl⟩ := hv
        have hy1 : datOf S1.hp t (S.fr s') = some y := by rw [hhp1]; exact datOf_finds hF hy
        have hfv := h1.fr s'
        rw [hfr1] at hfv
        have hfro : Frozen S1.hp (S.fr s').ids := by
          rw [hhp1]
          exact (frz_frozen S.hp _).sub fun i hi => mem_dat (D := M.D) he (by simp only [dat1]; exact hi)
        exact ⟨ofDat_ok (datOf_ok h1.hp hy1 hfro hfv), by rw [ofDat_ids]; simp⟩
      | own s' t =>
        simp only [entFr, Option.some.injEq, Prod.mk.injEq] at hv
        obtain ⟨rfl, rfl⟩ := hv
        obtain ⟨k1, k2, k3⟩ := own_anew h1 (hownS1 he hy)
        exact ⟨⟨(rhoM_own (S := S) he).symm, k2⟩, fun i hi => by
          simp [AV.ids, Cel.ids] at hi; subst hi
          exact hlaid _ ⟨_, he, .inr (.inr (.inl ⟨s', t, rfl, rfl⟩))⟩⟩
      | obox s' ts =>
        simp only [entFr, Option.some.injEq, Prod.mk.injEq] at hv
        obtain ⟨rfl, rfl⟩ := hv
        obtain ⟨j, cs, hf, hSj, him⟩ := obox_get hy
        have hfv := h1.fr s'
        rw [hfr1, hf] at hfv
        obtain ⟨b', e1, e2⟩ := hfv
        exact ⟨⟨b', by rw [rhoM_obox he]; exact e2, e2⟩, fun i hi => by
          simp [AV.ids, Cel.ids] at hi; subst hi
          exact hlaid _ ⟨_, he, .inr (.inr (.inr (.inl ⟨s', ts, rfl, rfl⟩)))⟩⟩
      | fbox s' ts os =>
        simp only [entFr, Option.some.injEq, Prod.mk.injEq] at hv
        obtain ⟨rfl, rfl⟩ := hv
        obtain ⟨j, cs, hf, hSj, hbo, him, _⟩ := fbox_get hy
        have hfv := h1.fr s'
        rw [hfr1, hf] at hfv
        obtain ⟨b', e1, e2⟩ := hfv
        exact ⟨⟨b', by rw [rhoM_fbox (S := S) he]; exact e2, e2⟩, fun i hi => by
          simp [AV.ids, Cel.ids] at hi; subst hi
          exact hlaid _ ⟨_, he, .inr (.inr (.inr (.inr (.inr ⟨s', ts, os, rfl, .inl rfl⟩))))⟩⟩
      | mp s' =>
        simp only [entFr, Option.some.injEq, Prod.mk.injEq] at hv
        obtain ⟨rfl, rfl⟩ := hv
        obtain ⟨j, hf, hSj⟩ := mp_get hy
        have hfv := h1.fr s'
        rw [hfr1, hf] at hfv
        obtain ⟨e1, e2⟩ := hfv
        exact ⟨⟨(rhoM_mp (S := S) he).symm, e2⟩, fun i hi => by
          simp [AV.ids, Cel.ids] at hi; subst hi
          exact hlaid _ ⟨_, he, .inr (.inr (.inr (.inr (.inl ⟨s', rfl, rfl⟩))))⟩⟩
      | part s' j t =>
        simp only [entFr, Option.some.injEq, Prod.mk.injEq] at hv
        obtain ⟨rfl, rfl⟩ := hv
        have hpj := List.all_eq_true.1 hparts _ he
        simp only at hpj
        obtain ⟨e', he', hb'⟩ := List.any_eq_true.1 hpj
        have hblkj : ∃ t' o, EntD.blk j t' o ∈ M.D := by
          cases e' with
          | blk j' t' o =>
            simp only [Bool.and_eq_true] at hb'
            have := Nat.eq_of_beq_eq_true hb'.1
            subst this
            exact ⟨t', o, he'⟩
          | _ => simp at hb'
        obtain ⟨t', o, hbD⟩ := hblkj
        have hρ := rhoM_other (S := S) (a := a) (ρ := ρ) hmade' hbD (i := j) (by simp [made1]) (by simp)
        have hfv := h1.fr s'
        rw [hfr1] at hfv
        refine ⟨?_, fun i hi => by
          simp [AV.ids, Cel.ids] at hi; subst hi
          exact hlaid _ ⟨_, hbD, .inl ⟨_, _, rfl⟩⟩⟩
        simp only [getD] at hy
        split at hy
        · rename_i j' hf
          cases hq : Nat.beq j j' with
          | false => simp [hq] at hy
          | true =>
            have hq' := Nat.eq_of_beq_eq_true hq
            subst hq'
            simp only [hq, cond_true] at hy
            split at hy
            · rename_i t2 l o2 hj
              cases hd : decide (t = t2) with
              | false => simp [hd] at hy
              | true =>
                simp only [hd, cond_true, Option.some.injEq] at hy
                subst hy
                rw [hf] at hfv
                have hO := h.hp j
                rw [hj] at hO
                have hvv : a.tmps.getD s' undef = ρ j := hfv.1
                refine ⟨Int.le_refl _, by simp, ?_⟩
                rw [hρ, hvv]
                rcases hO with ⟨hO, hl0⟩ | ⟨b, off, cap, cs, X, fz, hO, hlc, _⟩
                · left; subst hl0; exact ⟨hO, hO, rfl, rfl⟩
                · right; exact ⟨b, off, l.length, cap, off, cap, hO, by rw [hO]; simp, by simp, by simpa using hlc, by simp, .inr (by simp), Nat.le_refl _⟩
            · cases hy
        · rename_i j' t2 off len hf
          cases hq : (Nat.beq j j' && decide (t = t2)) with
          | false => simp [hq] at hy
          | true =>
            simp only [hq, cond_true, Option.some.injEq] at hy
            subst hy
            simp only [Bool.and_eq_true] at hq
            have hq' := Nat.eq_of_beq_eq_true hq.1
            subst hq'
            have ht := of_decide_eq_true hq.2
            subst ht
            rw [hf] at hfv
            exact AVR.rho (x := .one (.part j t off len)) hfv fun i hi => by
              simp [AV.ids, Cel.ids] at hi; subst hi; exact hρ
        · cases hy
      | fn s' f ts =>
        simp only [entFr, Option.some.injEq, Prod.mk.injEq] at hv
        obtain ⟨rfl, rfl⟩ := hv
        have hfv := h1.fr s'
        rw [hfr1] at hfv
        simp only [getD] at hy
        split at hy
        · rename_i g ds hf
          cases hq : Nat.beq f g with
          | false => simp [hq] at hy
          | true =>
            have hq' := Nat.eq_of_beq_eq_true hq
            subst hq'
            simp only [hq, cond_true] at hy
            rw [hf] at hfv
            obtain ⟨vs, hv, hds⟩ := hfv
            rw [capsOf_dats hy] at hds
            exact ⟨⟨vs, hv, hds⟩, by simp [AV.ids, Cel.ids]⟩
        · cases hy
      | blk j t o => simp [entFr] at hv
      | box j ts => simp [entFr] at hv
    have hptr : ∀ p ∈ M.P, ∀ s v, entPFr p = (s, v) → AVR (rhoM S M.D a ρ) w R1 v (a.tmps.getD s undef) ∧ ∀ i ∈ v.ids, (mkM M x).hp i ≠ .none := by
      intro p hp s v hv
      have hgp : ∀ (l : List EntP), getP S l = true → ∀ p ∈ l, (match p with
          | .ptr s i off => S.fr s = .one (.ptr i off)
          | .ref s i => S.fr s = .one (.ref i)) := by
        intro l
        induction l with
        | nil => intro _ p hp; simp at hp
        | cons q l ih =>
          intro hl p hp
          cases q with
          | ptr s i off =>
            simp only [getP, Bool.and_eq_true] at hl
            rcases List.mem_cons.1 hp with rfl | hp
            · have := hl.1
              split at this
              · rename_i j off' hf
                simp only [Bool.and_eq_true] at this
                simp only
                rw [hf, Nat.eq_of_beq_eq_true this.1, Nat.eq_of_beq_eq_true this.2]
              · cases this
            · exact ih hl.2 p hp
          | ref s i =>
            simp only [getP, Bool.and_eq_true] at hl
            rcases List.mem_cons.1 hp with rfl | hp
            · have := hl.1
              split at this
              · rename_i j hf
                simp only
                rw [hf, Nat.eq_of_beq_eq_true this]
              · cases this
            · exact ih hl.2 p hp
      have hfp := hgp M.P hP p hp
      have hst := List.all_eq_true.1 hPs p hp
      cases p with
      | ptr s' i off =>
        simp only [entPFr, Prod.mk.injEq] at hv
        obtain ⟨rfl, rfl⟩ := hv
        simp only at hfp hst
        obtain ⟨e', he', hb'⟩ := List.any_eq_true.1 hst
        have hbox : ∃ ts, EntD.box i ts ∈ M.D := by
          cases e' with
          | box j ts =>
            have := Nat.eq_of_beq_eq_true hb'
            subst this; exact ⟨ts, he'⟩
          | _ => simp at hb'
        obtain ⟨ts, hbD⟩ := hbox
        have hρ := rhoM_other (S := S) (a := a) (ρ := ρ) hmade' hbD (i := i) (by simp [made1]) (by simp)
        have hfv := h1.fr s'
        rw [hfr1, hfp] at hfv
        exact ⟨AVR.rho (x := .one (.ptr i off)) hfv fun k hk => by simp [AV.ids, Cel.ids] at hk; subst hk; exact hρ, fun k hk => by
          simp [AV.ids, Cel.ids] at hk; subst hk
          exact hlaid _ ⟨_, hbD, .inr (.inl ⟨_, rfl⟩)⟩⟩
      | ref s' i =>
        simp only [entPFr, Prod.mk.injEq] at hv
        obtain ⟨rfl, rfl⟩ := hv
        simp only at hfp hst
        obtain ⟨e', he', hb'⟩ := List.any_eq_true.1 hst
        have hbox : ∃ t o, EntD.blk i t o ∈ M.D := by
          cases e' with
          | blk j t o =>
            have := Nat.eq_of_beq_eq_true hb'
            subst this; exact ⟨t, o, he'⟩
          | _ => simp at hb'
        obtain ⟨t, o, hbD⟩ := hbox
        have hρ := rhoM_other (S := S) (a := a) (ρ := ρ) hmade' hbD (i := i) (by simp [made1]) (by simp)
        have hfv := h1.fr s'
        rw [hfr1, hfp] at hfv
        exact ⟨AVR.rho (x := .one (.ref i)) hfv fun k hk => by simp [AV.ids, Cel.ids] at hk; subst hk; exact hρ, fun k hk => by
          simp [AV.ids, Cel.ids] at hk; subst hk
          exact hlaid _ ⟨_, hbD, .inl ⟨_, _, rfl⟩⟩⟩
    have hslot : ∀ s, AVR (rhoM S M.D a ρ) w R1 ((mkM M x).fr s) (a.tmps.getD s undef) ∧ ∀ i ∈ ((mkM M x).fr s).ids, (mkM M x).hp i ≠ .none := by
      intro s
      rcases mkP_fr M.P (mkDs St.empty M.D x) s with h2 | ⟨p, hp, h2⟩
      · rcases mkDs_fr M.D x St.empty s hx with h3 | ⟨e, he, y, hy, h3⟩
        · have : (mkM M x).fr s = .one .u := h2.trans h3
          rw [this]
          exact ⟨trivial, by simp [AV.ids, Cel.ids]⟩
        · have e1 : (mkM M x).fr s = (mkDs St.empty M.D x).fr s := h2
          rw [e1]
          exact hval e he y hy s _ h3
      · exact hptr p hp s _ h2
    have hheap : ∀ i, (mkM M x).hp i = .none ∨ ∃ e ∈ M.D, ∃ y : e.den, getD S e = some y ∧ entH e y i ((mkM M x).hp i) := by
      intro i
      have e1 : (mkM M x).hp = (mkDs St.empty M.D x).hp := mkP_hp _ _
      rw [e1]
      exact mkDs_hp M.D x St.empty i hx
    refine ⟨R1, rhoM S M.D a ρ, { fr := fun s => (hslot s).1, hp := fun i => ?_, men := fun s => (hslot s).2, menB := fun j cs hj i hi => ?_, dis := fun i j b hij hi hj hmi hmj => ?_, new := fun i b hi hl hm => ?_, lent := fun i t l hi => ?_, lt := h1.lt, sub := h1.sub, old := h1.old, keep := h1.keep, defers := h1.defers, size := h1.size, par := fun i hi hn => ?_, npn := h1.npn }⟩
    · rcases hheap i with h2 | ⟨e, he, y, hy, h2⟩
      · rw [h2]; trivial
      · exact (hblk e he y hy i _ h2).1
    · rcases hheap j with h2 | ⟨e, he, y, hy, h2⟩
      · rw [h2] at hj; cases hj
      · exact (hblk e he y hy j _ h2).2.2.2.2.1 cs hj i hi
    · rcases hheap i with h2 | ⟨e, he, y, hy, h2⟩
      · rw [h2] at hi; cases hi
      · rcases hheap j with h3 | ⟨e', he', y', hy', h3⟩
        · rw [h3] at hj; cases hj
        · have f1 := hblk e he y hy i _ h2
          have f2 := hblk e' he' y' hy' j _ h3
          obtain ⟨k, hk, hkx, hkm, _, hkd⟩ := f1.2.1 hi b hmi
          obtain ⟨k', hk', hkx', hkm', _, hkd'⟩ := f2.2.1 hj b hmj
          have hkk : k ≠ k' := by
            by_cases hee : e = e'
            · subst hee
              have m1 := f1.2.2.2.2.2
              have m2 := f2.2.2.2.2.2
              by_cases hfb : ∃ s ts os, e = .fbox s ts os
              · obtain ⟨s, ts, os, rfl⟩ := hfb
                have hnd := kept1_nodup hkn' he
                obtain ⟨j0, cs0, b0, o0⟩ := hkd
                obtain ⟨j1, cs1, b1, o1⟩ := hkd'
                rw [b0] at b1
                simp only [Option.some.injEq, Prod.mk.injEq] at b1
                obtain ⟨rfl, rfl⟩ := b1
                simp only [kept1, b0] at hnd
                obtain ⟨n1, n2⟩ := List.nodup_cons.1 hnd
                intro e0
                subst e0
                rcases o0 with ⟨rfl, rfl⟩ | ⟨o, ho, rfl, hc⟩
                · rcases o1 with ⟨rfl, _⟩ | ⟨o', ho', rfl, hc'⟩
                  · exact hij rfl
                  · exact n1 (mem_cidO hc' (by simp [Cel.ids]) ho')
                · rcases o1 with ⟨rfl, rfl⟩ | ⟨o', ho', rfl, hc'⟩
                  · exact n1 (mem_cidO hc (by simp [Cel.ids]) ho)
                  · exact cidO_apart hc hc' (k := k) (by simp [Cel.ids]) (by simp [Cel.ids]) (fun e1 => hij (by rw [e1])) n2 ho ho'
              · exfalso
                cases e <;> first | exact hfb ⟨_, _, _, rfl⟩ | (simp [made1] at m1 m2 <;> exact hij (m1.trans m2.symm))
            · exact fun e0 => kept_apart hkn' he he' hee hk (e0 ▸ hk')
          exact h.dis k k' b hkk hkx hkx' hkm hkm'
    · rcases hheap i with h2 | ⟨e, he, y, hy, h2⟩
      · rw [h2] at hi; cases hi
      · obtain ⟨k, hk, hkx, hkm, hkl, _⟩ := (hblk e he y hy i _ h2).2.1 hi b hm
        exact h.new k b hkx (hkl hl) hkm
    · rcases hheap i with h2 | ⟨e, he, y, hy, h2⟩
      · rw [h2] at hi; cases hi
      · obtain ⟨k1, k2⟩ := (hblk e he y hy i _ h2).2.2.1 t l hi
        rw [k1]; exact h.lent i t l k2
    · rcases hheap i with h2 | ⟨e, he, y, hy, h2⟩
      · exact absurd h2 hn
      · obtain ⟨k1, k2⟩ := (hblk e he y hy i _ h2).2.2.2.1 hi
        rw [k1]; exact h.par i hi k2
end
end Go.Ev
set_option linter.unusedVariables false
set_option linter.unusedSimpArgs false
namespace Go.Ev
open Go
section
variable {P : Program} {T : TypeId → TI} {tab : List Entry} {n : Nat} {R0 : Type} {fin : St → Option R0}
def LoopPost (n : Nat) (fin : St → Option R0) (C : Ctx) (O : Mrk) (id : Nat) (m : O.den ⊕ R0) (e : Exit) (a : Act) (w : World) : Prop :=
  match m with
  | .inl y => e = .exit id ∧ Rel C n (mkM O y) a w
  | .inr r => e = .ret ∧ ∃ S', fin S' = some r ∧ Rel C n S' a w
def LoopOK (P : Program) (n : Nat) (fin : St → Option R0) (body : Code) (M O : Mrk) (id : Nat) (run : M.den → Option (O.den ⊕ R0)) : Prop :=
  ∀ (C : Ctx) (x : M.den) (m : O.den ⊕ R0) (a : Act) (w : World), C.np ≤ 1000 → run x = some m → Rel C n (mkM M x) a w → (Code.loop body).wp P (LoopPost n fin C O id m) a w
def AnnOK (P : Program) (n : Nat) (fin : St → Option R0) : Code → Ann R0 → Prop
  | .seq x y, ann => match ann with
    | .jseq _ a b => AnnOK P n fin x a ∧ AnnOK P n fin y b
    | ann => AnnOK P n fin x ann.fst ∧ AnnOK P n fin y ann.snd
  | .cond _ x y, ann => AnnOK P n fin x ann.fst ∧ AnnOK P n fin y ann.snd
  | .block _ x, ann => AnnOK P n fin x ann.fst
  | .loop body, ann => match ann with
    | .loop M O id run => LoopOK P n fin body M O id run
    | _ => True
  | _, _ => True
def Post {A : Type} (n : Nat) (fin : St → Option R0) (C : Ctx) (K : Exit → St → Option A) (KR : R0 → Option A) (r : A) (e : Exit) (a : Act) (w : World) : Prop :=
  (∃ S', K e S' = some r ∧ Rel C n S' a w) ∨ (e = .ret ∧ ∃ S' r0, fin S' = some r0 ∧ KR r0 = some r ∧ Rel C n S' a w)
theorem evalC_sound (TK : TypesOK P T) (hT : ∀ E ∈ tab, SpecOK P E) (hm : P.follows .mixedOrders = true) {C : Ctx} (hnp : C.np ≤ 1000) : ∀ (c : Code) {A : Type} (ann : Ann R0) (K : Exit → St → Option A) (KR : R0 → Option A) (S : St) (r : A) (a : Act) (w : World),
    evalC T tab n fin c ann K KR S = some r → AnnOK P n fin c ann → Rel C n S a w → c.wp P (Post n fin C K KR r) a w := by
  intro c
  induction c with
  | skip =>
    intro A ann K KR S r a w h _ hR
    simp only [evalC] at h
    exact wp_skip (.inl ⟨S, h, hR⟩)
  | region id ops dr =>
    intro A ann K KR S r a w h _ hR
    simp only [evalC] at h
    cases dr with
    | false => exact region_seq TK hT h hR fun S' a' w' hk hR' => .inl ⟨S', hk, hR'⟩
    | true => exact region_any TK hT hm h hR fun S' a' w' hk hR' => .inl ⟨S', hk, hR'⟩
  | seq x y ihx ihy =>
    intro A ann K KR S r a w h hann hR
    have plain : ∀ (u v : Ann R0) (K1 : Exit → St → Option A), (∀ S', K1 .normal S' = evalC T tab n fin y v K KR S') → (∀ e S', e ≠ .normal → K1 e S' = K e S') → evalC T tab n fin x (R := A) u K1 KR S = some r → AnnOK P n fin x u → AnnOK P n fin y v → (Code.seq x y).wp P (Post n fin C K KR r) a w := by
      intro u v K1 hK1 hK2 h hu hv
      refine wp_seq (wp_mono (ihx u _ KR S r a w h hu hR) fun e a' w' hp => ?_)
      rcases hp with ⟨S', hk, hR'⟩ | ⟨rfl, S', r0, h1, h2, hR'⟩
      · cases e with
        | normal => rw [hK1] at hk; exact ihy v K KR S' r a' w' hk hv hR'
        | _ => rw [hK2 _ _ (by simp)] at hk; exact .inl ⟨S', hk, hR'⟩
      · exact .inr ⟨rfl, S', r0, h1, h2, hR'⟩
    cases ann with
    | jseq O u v =>
      simp only [evalC] at h
      obtain ⟨hu, hv⟩ : AnnOK P n fin x u ∧ AnnOK P n fin y v := hann
      unfold joinB at h
      split at h
      · cases h
      · rename_i z hz
        refine wp_seq (wp_mono (ihx u _ _ S _ a w hz hu hR) fun e a' w' hp => ?_)
        rcases hp with ⟨S', hk, hR'⟩ | ⟨rfl, S', r0, h1, h2, hR'⟩
        · cases e with
          | normal =>
            simp only at hk
            split at hk
            · rename_i z' hz'
              simp only [Option.some.injEq, Sum.inl.injEq] at hk
              subst hk
              obtain ⟨R, ρ, hR'⟩ := hR'
              exact ihy v K KR (mkM O z') r a' w' h hv (mark_ok hR' hnp hz')
            · cases hk
          | _ => cases hk
        · cases h2
      · rename_i r0 hz
        refine wp_seq (wp_mono (ihx u _ _ S _ a w hz hu hR) fun e a' w' hp => ?_)
        rcases hp with ⟨S', hk, hR'⟩ | ⟨rfl, S', r1, h1, h2, hR'⟩
        · cases e with
          | normal =>
            simp only at hk
            split at hk
            · simp at hk
            · cases hk
          | _ => cases hk
        · simp only [Option.some.injEq, Sum.inr.injEq] at h2
          subst h2
          exact .inr ⟨rfl, S', r1, h1, h, hR'⟩
    | nil =>
      simp only [evalC] at h
      exact plain _ _ _ (fun _ => rfl) (fun e S' he => by cases e <;> first | rfl | exact absurd rfl he) h hann.1 hann.2
    | seq u v =>
      simp only [evalC] at h
      exact plain _ _ _ (fun _ => rfl) (fun e S' he => by cases e <;> first | rfl | exact absurd rfl he) h hann.1 hann.2
    | cond u v =>
      simp only [evalC] at h
      exact plain _ _ _ (fun _ => rfl) (fun e S' he => by cases e <;> first | rfl | exact absurd rfl he) h hann.1 hann.2
    | block u =>
      simp only [evalC] at h
      exact plain _ _ _ (fun _ => rfl) (fun e S' he => by cases e <;> first | rfl | exact absurd rfl he) h hann.1 hann.2
    | loop M O id run =>
      simp only [evalC] at h
      exact plain _ _ _ (fun _ => rfl) (fun e S' he => by cases e <;> first | rfl | exact absurd rfl he) h hann.1 hann.2
  | cond c x y ihx ihy =>
    intro A ann K KR S r a w h hann hR
    simp only [evalC] at h
    split at h
    · rename_i t
      split at h
      · rename_i b hb
        obtain ⟨R, ρ, hRW⟩ := hR
        have hv := hRW.fr t
        rw [hb] at hv
        have hc : a.eval (.tmp t) = .bool b := bool_of hv
        refine wp_cond hc ?_
        cases b with
        | true =>
          simp only [cond_true] at h
          rw [setB_self hb] at h
          exact ihx _ K KR S r a w h hann.1 ⟨R, ρ, hRW⟩
        | false =>
          simp only [cond_false] at h
          rw [setB_self hb] at h
          exact ihy _ K KR S r a w h hann.2 ⟨R, ρ, hRW⟩
      · cases h
    · rename_i b
      refine wp_cond (t := b) rfl ?_
      cases b with
      | true => exact ihx _ K KR S r a w h hann.1 hR
      | false => exact ihy _ K KR S r a w h hann.2 hR
    · cases h
  | block id x ih =>
    intro A ann K KR S r a w h hann hR
    simp only [evalC] at h
    refine wp_block (wp_mono (ih _ _ KR S r a w h hann hR) fun e a' w' hp => ?_)
    rcases hp with ⟨S', hk, hR'⟩ | ⟨rfl, S', r0, h1, h2, hR'⟩
    · cases e with
      | exit i =>
        simp only at hk
        simp only [Exit.inBlock]
        cases hq : Nat.beq i id with
        | true =>
          rw [hq] at hk
          rw [if_pos (Nat.eq_of_beq_eq_true hq)]
          exact .inl ⟨S', hk, hR'⟩
        | false =>
          rw [hq] at hk
          rw [if_neg (fun e => by subst e; simp at hq)]
          exact .inl ⟨S', hk, hR'⟩
      | _ => exact .inl ⟨S', hk, hR'⟩
    · exact .inr ⟨rfl, S', r0, h1, h2, hR'⟩
  | loop body ih =>
    intro A ann K KR S r a w h hann hR
    cases ann with
    | loop M O id run =>
      simp only [evalC] at h
      split at h
      · rename_i x hx
        obtain ⟨R, ρ, hRW⟩ := hR
        have hM := mark_ok hRW hnp hx
        unfold joinB at h
        split at h
        · cases h
        · rename_i z hz
          refine wp_mono (hann C x _ a w hnp hz hM) fun e a' w' hp => ?_
          obtain ⟨rfl, hR'⟩ := hp
          exact .inl ⟨_, h, hR'⟩
        · rename_i r0 hz
          refine wp_mono (hann C x _ a w hnp hz hM) fun e a' w' hp => ?_
          obtain ⟨rfl, S', h1, hR'⟩ := hp
          exact .inr ⟨rfl, S', r0, h1, h, hR'⟩
      · cases h
    | _ => simp only [evalC] at h; cases h
  | exit id =>
    intro A ann K KR S r a w h _ hR
    simp only [evalC] at h
    exact wp_exit (.inl ⟨S, h, hR⟩)
  | ret =>
    intro A ann K KR S r a w h _ hR
    simp only [evalC] at h
    split at h
    · rename_i r0 hf
      exact wp_ret (.inr ⟨rfl, S, r0, hf, h, hR⟩)
    · cases h
  | _ =>
    intro A ann K KR S r a w h _ hR
    simp only [evalC] at h
    cases h
def LoopIn (P : Program) (c : Code) (Q : Exit → Act → World → Prop) (a : Act) (w : World) : Prop :=
  ∀ (b : Frame) (k : List Item) (cs : List Frame), ∃ e a' w', Q e a' w' ∧ Arrives P (lone (b.at a (.code c :: .inLoop c :: k)) cs w) b k cs e a' w'
theorem LoopIn.wp {c : Code} {Q : Exit → Act → World → Prop} {a : Act} {w : World} (h : LoopIn P c Q a w) : (Code.loop c).wp P Q a w := fun b k cs => by
  obtain ⟨e, a', w', hq, harr⟩ := h b k cs
  exact ⟨e, a', w', hq, .of_steps (.one step_loop) harr⟩
theorem LoopIn.round {c : Code} {Q : Exit → Act → World → Prop} {a : Act} {w : World} (h : c.wp P (Exit.then (LoopIn P c Q) Q) a w) : LoopIn P c Q a w := by
  intro b k cs
  obtain ⟨e, a₁, w₁, hq, harr⟩ := h b (.inLoop c :: k) cs
  cases e with
  | normal =>
    obtain ⟨e₂, a₂, w₂, hq₂, harr₂⟩ := hq b k cs
    exact ⟨e₂, a₂, w₂, hq₂, .of_steps (Steps.trans harr (.one step_inLoop)) harr₂⟩
  | exit id => exact ⟨_, a₁, w₁, hq, .pass (x := .inLoop c) rfl (fun _ _ => .inl (by simp)) harr⟩
  | goto l => exact ⟨_, a₁, w₁, hq, .pass (x := .inLoop c) rfl (fun _ _ => .inl (by simp)) harr⟩
  | ret => exact ⟨_, a₁, w₁, hq, .pass (x := .inLoop c) rfl (fun _ _ => .inl (by simp)) harr⟩
  | panic ch => exact ⟨_, a₁, w₁, hq, .pass (x := .inLoop c) rfl (fun _ _ => .inl (by simp)) harr⟩
  | outgrown => exact ⟨_, a₁, w₁, hq, .pass (x := .inLoop c) rfl (fun _ _ => .inl (by simp)) harr⟩
theorem loop_ok (TK : TypesOK P T) (hT : ∀ E ∈ tab, SpecOK P E) (hm : P.follows .mixedOrders = true) {body : Code} {ann : Ann R0} (hann : AnnOK P n fin body ann) {M O : Mrk} {id : Nat} {L : Nat → M.den → Option (O.den ⊕ R0)} (h0 : ∀ x, L 0 x = none)
    (hL : ∀ m x, evalRound T tab n fin body ann M O id (L m) x = L (m + 1) x) (k : Nat) : LoopOK P n fin body M O id (L k) := by
  intro C x m a w hnp hx hR
  refine LoopIn.wp ?_
  induction k generalizing x a w with
  | zero => rw [h0] at hx; cases hx
  | succ k ih =>
    rw [← hL] at hx
    unfold evalRound at hx
    refine LoopIn.round (wp_mono (evalC_sound TK hT hm hnp body ann _ _ _ m a w hx hann hR) fun e a' w' hp => ?_)
    rcases hp with ⟨S', hk, R', ρ', hR'⟩ | ⟨rfl, S', r0, h1, h2, hR'⟩
    · cases e with
      | normal =>
        simp only at hk
        split at hk
        · rename_i y hy
          exact ih y a' w' hk (mark_ok hR' hnp hy)
        · cases hk
      | exit i =>
        simp only at hk
        cases hq : Nat.beq i id with
        | false => rw [hq] at hk; cases hk
        | true =>
          rw [hq] at hk
          simp only [cond_true] at hk
          split at hk
          · rename_i y hy
            cases hk
            have := Nat.eq_of_beq_eq_true hq
            subst this
            exact ⟨rfl, mark_ok hR' hnp hy⟩
          · cases hk
      | _ => cases hk
    · cases h2
      exact ⟨rfl, S', h1, hR'⟩
end
end Go.Ev
set_option linter.unusedVariables false
set_option linter.unusedSimpArgs false
namespace Go.Ev
open Go
section
variable {P : Program} {T : TypeId → TI} {tab : List Entry} {n : Nat} {w : World} {R : Nat → Prop}
def initFr : (p : PSh) → p.den → Nat → AV
  | .dat t, x, _ => ofDat t x
  | .view t, _, i => .one (.ref i)
  | .lent t, _, i => .one (.ref i)
  | .fn f ts, x, _ => .one (.fn f (datsTs ts x))
  | .nil, _, _ => .one .nil
def initHp : (p : PSh) → p.den → Blk
  | .view t, l => .arr t l 0
  | .lent t, l => .arr t l 1
  | _, _ => .none
theorem initAs_cons {p : PSh} {A : List PSh} {i : Nat} {S : St} (x : denA (p :: A)) : initAs i S (p :: A) x = initAs (i + 1) (initA S.fr S.hp i p (hdA x)) A (tlA x) := by
  cases A <;> rfl
theorem initA_fr (S : St) (i : Nat) (p : PSh) (x : p.den) (s : Nat) : (initA S.fr S.hp i p x).fr s = if s = i then initFr p x i else S.fr s := by
  by_cases h : s = i
  · subst h; cases p <;> simp [initA, initFr, upd_same]
  · rw [if_neg h]; cases p <;> simp only [initA] <;> exact upd_ne _ _ _ h
theorem initA_hp (S : St) (i : Nat) (p : PSh) (x : p.den) (s : Nat) (hn : S.hp i = .none) : (initA S.fr S.hp i p x).hp s = if s = i then initHp p x else S.hp s := by
  cases p <;> simp only [initA, initHp] <;> by_cases h : s = i
  all_goals first
    | (subst h; simp [upd_same]; done)
    | (simp [upd_ne _ _ _ h, h]; done)
    | (subst h; simp [hn]; done)
    | simp [h]
theorem initAs_get : ∀ (A : List PSh) (x : denA A) (i : Nat) (S : St) (args : List Value), ArgsR w R A x args → (∀ j, i ≤ j → S.fr j = .one .u ∧ S.hp j = .none) →
    ∀ s, (s < i → (initAs i S A x).fr s = S.fr s ∧ (initAs i S A x).hp s = S.hp s) ∧
      (i ≤ s → (A[s - i]? = none ∧ (initAs i S A x).fr s = .one .u ∧ (initAs i S A x).hp s = .none) ∨
        ∃ (p : PSh) (y : p.den) (v : Value), A[s - i]? = some p ∧ args[s - i]? = some v ∧ ArgR w R p y v ∧ (initAs i S A x).fr s = initFr p y s ∧ (initAs i S A x).hp s = initHp p y) := by
  intro A
  induction A with
  | nil => intro x i S args _ h s; exact ⟨fun _ => ⟨rfl, rfl⟩, fun hs => .inl ⟨rfl, (h s hs).1, (h s hs).2⟩⟩
  | cons p A ih =>
    intro x i S args ha h s
    obtain ⟨v, r, rfl, h1, h2⟩ := ha
    rw [initAs_cons]
    have hn := (h i (Nat.le_refl _)).2
    have hS : ∀ j, i + 1 ≤ j → (initA S.fr S.hp i p (hdA x)).fr j = .one .u ∧ (initA S.fr S.hp i p (hdA x)).hp j = .none := fun j hj => by
      rw [initA_fr, initA_hp _ _ _ _ _ hn, if_neg (by omega), if_neg (by omega)]
      exact h j (by omega)
    obtain ⟨k1, k2⟩ := ih (tlA x) (i + 1) (initA S.fr S.hp i p (hdA x)) r h2 hS s
    refine ⟨fun hs => ?_, fun hs => ?_⟩
    · obtain ⟨e1, e2⟩ := k1 (by omega)
      rw [e1, e2, initA_fr, initA_hp _ _ _ _ _ hn, if_neg (by omega), if_neg (by omega)]
      exact ⟨rfl, rfl⟩
    · rcases Nat.lt_or_ge i s with hlt | hge
      · have e : s - i = (s - (i + 1)) + 1 := by omega
        rw [e, List.getElem?_cons_succ, List.getElem?_cons_succ]
        exact k2 (by omega)
      · have hsi : s = i := by omega
        subst hsi
        obtain ⟨e1, e2⟩ := k1 (by omega)
        rw [e1, e2, initA_fr, initA_hp _ _ _ _ _ hn, if_pos rfl, if_pos rfl, Nat.sub_self]
        exact .inr ⟨p, hdA x, v, rfl, rfl, h1, rfl, rfl⟩
theorem wins_get : ∀ {A : List PSh} {args : List Value} {i : Nat} {p : PSh} {v : Value}, A[i]? = some p → args[i]? = some v → ∀ q ∈ winOf p v, q ∈ wins A args := by
  intro A
  induction A with
  | nil => intro args i p v h; simp at h
  | cons p0 A ih =>
    intro args i p v hp hv q hq
    cases args with
    | nil => simp at hv
    | cons v0 args =>
      simp only [wins, List.mem_append]
      cases i with
      | zero => simp at hp hv; subst hp hv; exact .inl hq
      | succ i => exact .inr (ih (by simpa using hp) (by simpa using hv) q hq)
theorem wins_apart : ∀ {A : List PSh} {args : List Value}, (wins A args).Pairwise (fun p q => p.1 ≠ q.1) → ∀ {i j : Nat} {p p' : PSh} {v v' : Value}, i ≠ j → A[i]? = some p → args[i]? = some v → A[j]? = some p' → args[j]? = some v' → ∀ q ∈ winOf p v, ∀ q' ∈ winOf p' v', q.1 ≠ q'.1 := by
  intro A
  induction A with
  | nil => intro args _ i j p p' v v' _ h; simp at h
  | cons p0 A ih =>
    intro args hpw i j p p' v v' hij hp hv hp' hv' q hq q' hq'
    cases args with
    | nil => simp at hv
    | cons v0 args =>
      simp only [wins] at hpw
      obtain ⟨h1, h2, h3⟩ := List.pairwise_append.1 hpw
      cases i with
      | zero =>
        simp at hp hv; subst hp hv
        cases j with
        | zero => exact absurd rfl hij
        | succ j => exact h3 q hq q' (wins_get (by simpa using hp') (by simpa using hv') q' hq')
      | succ i =>
        cases j with
        | zero =>
          simp at hp' hv'; subst hp' hv'
          exact (h3 q' hq' q (wins_get (by simpa using hp) (by simpa using hv) q hq)).symm
        | succ j => exact ih h2 (i := i) (j := j) (by omega) (by simpa using hp) (by simpa using hv) (by simpa using hp') (by simpa using hv') q hq q' hq'
theorem init_rel {A : List PSh} {x : denA A} {args : List Value} (ha : ArgsR w R A x args) (hlt : ∀ b, R b → b < w.heap.size) (hpw : (wins A args).Pairwise fun p q => p.1 ≠ q.1) (hn : A.length ≤ n) (hal : args.length = A.length) :
    Rel (ctxOf w R A args) n (initAs 0 St.empty A x) { tmps := args.toArray ++ Array.replicate (n - args.toArray.size) undef, defers := [] } w := by
  have hget := initAs_get (w := w) (R := R) A x 0 St.empty args ha (fun j _ => ⟨rfl, rfl⟩)
  have htmp : ∀ s v, args[s]? = some v → ({ tmps := args.toArray ++ Array.replicate (n - args.toArray.size) undef, defers := [] } : Act).tmps.getD s undef = v := by
    intro s v hv
    have hs : s < args.length := by
      rcases Nat.lt_or_ge s args.length with h | h
      · exact h
      · rw [List.getElem?_eq_none h] at hv; cases hv
    simp only [Array.getD_eq_getD_getElem?]
    rw [Array.getElem?_append_left (by simpa using hs), List.getElem?_toArray, hv]; rfl
  have hcase : ∀ s, (A[s]? = none ∧ (initAs 0 St.empty A x).fr s = .one .u ∧ (initAs 0 St.empty A x).hp s = .none) ∨
        ∃ (p : PSh) (y : p.den) (v : Value), A[s]? = some p ∧ args[s]? = some v ∧ ArgR w R p y v ∧ (initAs 0 St.empty A x).fr s = initFr p y s ∧ (initAs 0 St.empty A x).hp s = initHp p y := fun s => by simpa using (hget s).2 (Nat.zero_le _)
  have harg : ∀ s v, args[s]? = some v → args.getD s undef = v := fun s v hv => by simp [hv]
  have hexl : ∀ i, excl ((initAs 0 St.empty A x).hp i) = true → ∃ t l v, A[i]? = some (.lent t) ∧ args[i]? = some v ∧ OwnR w R t l 1 v ∧ (initAs 0 St.empty A x).hp i = .arr t l 1 := by
    intro i hi
    rcases hcase i with ⟨_, _, h2⟩ | ⟨p, y, v, k1, k2, k3, k4, k5⟩
    · rw [h2] at hi; cases hi
    · cases p with
      | lent t => exact ⟨t, y, v, k1, k2, k3, k5⟩
      | view t => rw [k5] at hi; simp [initHp, excl] at hi
      | dat t => rw [k5] at hi; simp [initHp, excl] at hi
      | fn f ts => rw [k5] at hi; simp [initHp, excl] at hi
      | nil => rw [k5] at hi; simp [initHp, excl] at hi
  have hwinb : ∀ {t : Ty} {l : List t.den} {v : Value} {b : Nat}, OwnR w R t l 1 v → memOf v = some b → ∃ off cap, v = .slice (some ⟨b, off, none⟩) l.length cap ∧ (b, off, off + l.length * t.size) ∈ winOf (.lent t) v := by
    intro t l v b hO hb
    rcases hO with ⟨hO, _⟩ | ⟨b', off, cap, cs, X, fz, hO, _⟩
    · rw [hO] at hb; cases hb
    · rw [hO] at hb
      simp only [memOf, Option.some.injEq] at hb
      subst hb
      exact ⟨off, cap, hO, by rw [hO]; simp [winOf]⟩
  refine ⟨R, fun i => args.getD i undef, { fr := fun s => ?_, hp := fun i => ?_, men := fun s i hi => ?_, menB := fun j cs hj => ?_, dis := fun i j b hij hi hj hmi hmj => ?_, new := fun i b hi hl => ?_, lent := fun i t l hi => ?_, lt := hlt, sub := fun b hb => hb, old := fun b _ hb => hb, keep := ?_, defers := rfl, size := ?_, par := fun i _ _ => rfl, npn := hn }⟩
  · rcases hcase s with ⟨_, h1, _⟩ | ⟨p, y, v, k1, k2, k3, k4, k5⟩
    · rw [h1]; trivial
    · rw [k4, htmp s v k2]
      cases p with
      | dat t => exact ofDat_ok k3
      | view t =>
        refine ⟨(harg s v k2).symm, ?_⟩
        rcases k3 with ⟨k3, _⟩ | ⟨b, off, cap, cs, X, fz, k3, _⟩
        · exact .inl k3
        · exact .inr ⟨_, _, _, _, k3⟩
      | lent t =>
        refine ⟨(harg s v k2).symm, ?_⟩
        rcases k3 with ⟨k3, _⟩ | ⟨b, off, cap, cs, X, fz, k3, _⟩
        · exact .inl k3
        · exact .inr ⟨_, _, _, _, k3⟩
      | fn f ts => exact k3
      | nil => exact k3
  · rcases hcase i with ⟨_, _, h2⟩ | ⟨p, y, v, k1, k2, k3, k4, k5⟩
    · rw [h2]; trivial
    · rw [k5]
      cases p with
      | dat t => trivial
      | fn f ts => trivial
      | nil => trivial
      | lent t => show OwnR w R t y 1 (args.getD i undef); rw [harg i v k2]; exact k3
      | view t =>
        show OwnR w R t y 0 (args.getD i undef)
        rw [harg i v k2]
        rcases k3 with k3 | ⟨b, off, cap, cs, X, fz, k3, hl, hR, hh, hs, he⟩
        · exact .inl k3
        · exact .inr ⟨b, off, cap, cs, X, fz, k3, hl, hh, hs, he, fun _ => hR, fun e => absurd rfl e⟩
  · rcases hcase s with ⟨_, h1, _⟩ | ⟨p, y, v, k1, k2, k3, k4, k5⟩
    · rw [h1] at hi; simp [AV.ids, Cel.ids] at hi
    · rw [k4] at hi
      cases p with
      | dat t => simp only [initFr, ofDat_ids] at hi; simp at hi
      | view t => simp [initFr, AV.ids, Cel.ids] at hi; subst hi; rw [k5]; simp [initHp]
      | lent t => simp [initFr, AV.ids, Cel.ids] at hi; subst hi; rw [k5]; simp [initHp]
      | fn f ts => simp [initFr, AV.ids, Cel.ids] at hi
      | nil => simp [initFr, AV.ids, Cel.ids] at hi
  · exfalso
    rcases hcase j with ⟨_, _, h2⟩ | ⟨p, y, v, k1, k2, k3, k4, k5⟩
    · rw [h2] at hj; cases hj
    · rw [k5] at hj; cases p <;> cases hj
  · obtain ⟨t, l, v, k1, k2, k3, _⟩ := hexl i hi
    obtain ⟨t', l', v', m1, m2, m3, _⟩ := hexl j hj
    simp only [harg i v k2] at hmi
    simp only [harg j v' m2] at hmj
    obtain ⟨off, cap, _, g1⟩ := hwinb k3 hmi
    obtain ⟨off', cap', _, g2⟩ := hwinb m3 hmj
    exact wins_apart hpw hij k1 k2 m1 m2 _ g1 _ g2 rfl
  · obtain ⟨t, l, v, k1, k2, k3, k4⟩ := hexl i hi
    exact absurd k4 (hl t l)
  · obtain ⟨t', l', v, k1, k2, k3, k4⟩ := hexl i (by rw [hi]; rfl)
    rw [hi] at k4
    simp only [Blk.arr.injEq] at k4
    obtain ⟨rfl, e, _⟩ := k4
    cases e
    refine ⟨rfl, ?_⟩
    show LentIn _ t l.length (args.getD i undef)
    rw [harg i v k2]
    rcases k3 with ⟨k3, _⟩ | ⟨b, off, cap, cs, X, fz, k3, _⟩
    · exact .inl k3
    · exact .inr ⟨b, off, cap, k3, wins_get k1 k2 _ (by rw [k3]; simp [winOf])⟩
  · refine ⟨Nat.le_refl _, fun _ _ _ => rfl, fun q hq => ?_, fun p hp q hq e => ?_, SameStreams.refl _⟩
    · have hmem : ∀ {A : List PSh} {x : denA A} {args : List Value}, ArgsR w R A x args → ∀ q ∈ wins A args, ∃ cs X fz, w.heap[q.1]? = some (.cells cs X fz) := by
        intro A
        induction A with
        | nil => intro x args _ q hq; simp [wins] at hq
        | cons p A ih =>
          intro x args ha q hq
          obtain ⟨v, r, rfl, h1, h2⟩ := ha
          simp only [wins, List.mem_append] at hq
          rcases hq with hq | hq
          · cases p with
            | lent t =>
              rcases h1 with ⟨h1, _⟩ | ⟨b, off, cap, cs, X, fz, h1, _, hh, _⟩
              · rw [h1] at hq; simp [winOf] at hq
              · rw [h1] at hq; simp only [winOf, List.mem_singleton] at hq; subst hq; exact ⟨cs, X, fz, hh⟩
            | _ => simp [winOf] at hq
          · exact ih h2 q hq
      obtain ⟨cs, X, fz, hh⟩ := hmem ha q hq
      exact ⟨cs, cs, X, fz, hh, hh, rfl, fun _ _ => rfl⟩
    · have : ∀ {l : List (Nat × Nat × Nat)}, l.Pairwise (fun p q => p.1 ≠ q.1) → ∀ p ∈ l, ∀ q ∈ l, p.1 = q.1 → p = q := by
        intro l
        induction l with
        | nil => intro _ p hp; simp at hp
        | cons a l ih =>
          intro h p hp q hq e
          obtain ⟨h1, h2⟩ := List.pairwise_cons.1 h
          rcases List.mem_cons.1 hp with hpa | hp2
          · rcases List.mem_cons.1 hq with hqa | hq2
            · rw [hpa, hqa]
            · subst hpa; exact absurd e (h1 q hq2)
          · rcases List.mem_cons.1 hq with hqa | hq2
            · subst hqa; exact absurd e.symm (h1 p hp2)
            · exact ih h2 p hp2 q hq2 e
      exact this hpw p hp q hq e
  · simp; omega
end
end Go.Ev
set_option linter.unusedVariables false
set_option linter.unusedSimpArgs false
namespace Go.Ev
open Go
section
variable {P : Program} {C : Ctx} {S : St} {ρ : Nat → Value} {a : Act} {T : TypeId → TI} {tab : List Entry} {n : Nat} {w w' : World} {R R' : Nat → Prop}
theorem argsR_len : ∀ {A : List PSh} {x : denA A} {args : List Value}, ArgsR w R A x args → args.length = A.length := by
  intro A
  induction A with
  | nil => intro x args h; simp only [ArgsR] at h; simp [h]
  | cons p A ih => intro x args h; obtain ⟨v, r, rfl, _, h2⟩ := h; simp [ih h2]
def resRead (tmps : Array Value) : ResultVar → Sem Value
  | .tmp t => pure (tmps.getD t undef)
  | .cell a t => do loadVar t (← asAddr (tmps.getD a undef))
theorem finVal_ok (TK : TypesOK P T) (h : RelW C n S R ρ a w) {r : ResultVar} {v : AV} (hv : finVal T S r = some v) : ∃ u, (resRead a.tmps r).run P w = .ok u w ∧ AVR ρ w R v u ∧ ∀ i ∈ v.ids, S.hp i ≠ .none := by
  cases r with
  | tmp t =>
    simp only [finVal, Option.some.injEq] at hv
    subst hv
    exact ⟨_, rfl, h.fr t, h.men t⟩
  | cell s t =>
    simp only [finVal] at hv
    split at hv
    · rename_i i hf
      split at hv
      · rename_i cs hb
        cases hc : ((T t).on && Nat.beq (cnt cs) (T t).ty.size) with
        | false => rw [hc] at hv; cases hv
        | true =>
          rw [hc] at hv
          simp only [cond_true, Option.some.injEq] at hv
          subst hv
          simp only [Bool.and_eq_true] at hc
          have hlen := Nat.eq_of_beq_eq_true hc.2
          rw [cnt_length] at hlen
          have tk := TK t hc.1
          obtain ⟨inf, hi, hs, _⟩ := tk.info
          have hfv := h.fr s
          rw [hf] at hfv
          obtain ⟨b, h1, h2⟩ := hfv
          have hbi := h.hp i
          rw [hb] at hbi
          obtain ⟨b', vs, X, h3, h4, hl, _⟩ := hbi
          rw [h1] at h3; cases h3
          have hvl : vs.length = cs.length := hl.len.symm
          have hld := run_loadVar (off := 0) hi tk.desc.agg (fun hq => hs.trans (tk.one hq)) h4 (by simp; omega)
          refine ⟨_, ?_, mkOf_ok (t := (T t).ty) hl, fun k hk => h.menB i cs hb k (mkOf_ids hk)⟩
          simp only [resRead, Sem.run_bind, h2, asAddr, Sem.run_pure, Result.andThen_ok, hld]
          congr 1
          have e : (vs.toArray.toList.drop 0).take inf.size = vs := by rw [List.drop_zero, List.take_of_length_le (by simp only [List.toList_toArray]; omega)]
          rw [e]
      · cases hv
    · cases hv
theorem finVals_ok (TK : TypesOK P T) (h : RelW C n S R ρ a w) : ∀ {rs : List ResultVar} {vs : List AV}, finVals T S rs = some vs → ∃ us : List Value, (rs.mapM (resRead a.tmps)).run P w = .ok us w ∧ All2 (AVR ρ w R) vs us ∧ ∀ v ∈ vs, ∀ i ∈ v.ids, S.hp i ≠ .none := by
  intro rs
  induction rs with
  | nil => intro vs hv; simp only [finVals, Option.some.injEq] at hv; subst hv; exact ⟨[], rfl, .nil, by simp⟩
  | cons r rs ih =>
    intro vs hv
    simp only [finVals] at hv
    cases h1 : finVal T S r with
    | none => simp [h1] at hv
    | some v =>
      cases h2 : finVals T S rs with
      | none => simp [h1, h2] at hv
      | some ws =>
        simp only [h1, h2, Option.some.injEq] at hv
        subst hv
        obtain ⟨u, k1, k2, k3⟩ := finVal_ok TK h h1
        obtain ⟨us, m1, m2, m3⟩ := ih h2
        refine ⟨u :: us, ?_, .cons k2 m2, fun v hv => ?_⟩
        · simp only [List.mapM_cons, Sem.run_bind, k1, m1, Result.andThen_ok, Sem.run_pure]
        · rcases List.mem_cons.1 hv with rfl | hv
          · exact k3
          · exact m3 v hv
theorem run_results {fn : Func} {tmps : Array Value} {us : List Value} (h : (fn.results.toList.mapM (resRead tmps)).run P w = .ok us w) : (results fn tmps).run P w = .ok (retV us) w := by
  have e2 : (fn.results.mapM (resRead tmps)).run P w = .ok us.toArray w := by
    rw [Array.mapM_eq_mapM_toList]
    simp [h]
  have e3 : results fn tmps = (do let vs ← fn.results.mapM (resRead tmps); pure (if h : vs.size = 1 then vs[0] else .tuple vs) : Sem Value) := by
    unfold results
    congr 1
  rw [e3]
  simp only [Sem.run_bind, e2, Result.andThen_ok, Sem.run_pure]
  congr 1
  match us with
  | [] => rfl
  | [u] => rfl
  | u :: v :: us => simp [retV]
end
end Go.Ev
set_option linter.unusedVariables false
set_option linter.unusedSimpArgs false
namespace Go.Ev
open Go
section
variable {P : Program} {C : Ctx} {S : St} {ρ : Nat → Value} {a : Act} {T : TypeId → TI} {tab : List Entry} {n : Nat} {w w' : World} {R R' : Nat → Prop}
theorem finB_cons {r : RSh} {B : List RSh} {vs : List AV} {y : denB (r :: B)} (h : finB S (r :: B) vs = some y) :
    (r.isVal = true ∧ ∃ v rest, vs = v :: rest ∧ finOne S r v = some (hdB y) ∧ finB S B rest = some (tlB y)) ∨ (r.isVal = false ∧ finOne S r (.one .u) = some (hdB y) ∧ finB S B vs = some (tlB y)) := by
  cases B with
  | nil =>
    cases r with
    | dat t =>
      cases vs with
      | nil => cases h
      | cons v vs => cases vs with
        | nil => exact .inl ⟨rfl, v, [], rfl, h, rfl⟩
        | cons v2 vs => cases h
    | own t =>
      cases vs with
      | nil => cases h
      | cons v vs => cases vs with
        | nil => exact .inl ⟨rfl, v, [], rfl, h, rfl⟩
        | cons v2 vs => cases h
    | cut p t =>
      cases vs with
      | nil => cases h
      | cons v vs => cases vs with
        | nil => exact .inl ⟨rfl, v, [], rfl, h, rfl⟩
        | cons v2 vs => cases h
    | fin p t =>
      cases vs with
      | nil => exact .inr ⟨rfl, h, rfl⟩
      | cons v vs => cases h
  | cons q B =>
    have val : r.isVal = true → ∀ v rest, vs = v :: rest → (match finOne S r v with
        | some x => match finB S (q :: B) rest with
          | some z => some ((x, z) : denB (r :: q :: B))
          | none => none
        | none => none) = some y → (r.isVal = true ∧ ∃ v rest, vs = v :: rest ∧ finOne S r v = some (hdB y) ∧ finB S (q :: B) rest = some (tlB y)) := by
      intro hv v rest hvs h
      cases h1 : finOne S r v with
      | none => rw [h1] at h; cases h
      | some x =>
        cases h2 : finB S (q :: B) rest with
        | none => rw [h1, h2] at h; cases h
        | some z =>
          rw [h1, h2] at h
          have h3 := Option.some.inj h
          subst h3
          exact ⟨hv, v, rest, hvs, h1, h2⟩
    cases r with
    | dat t =>
      cases vs with
      | nil => cases h
      | cons v vs => exact .inl (val rfl v vs rfl h)
    | own t =>
      cases vs with
      | nil => cases h
      | cons v vs => exact .inl (val rfl v vs rfl h)
    | cut p t =>
      cases vs with
      | nil => cases h
      | cons v vs => exact .inl (val rfl v vs rfl h)
    | fin p t =>
      right
      unfold finB at h
      simp only [RSh.isVal, cond_false] at h
      cases h1 : finOne S (.fin p t) (.one .u) with
      | none => rw [h1] at h; cases h
      | some x =>
        cases h2 : finB S (q :: B) vs with
        | none => rw [h1, h2] at h; cases h
        | some z =>
          rw [h1, h2] at h
          have h3 := Option.some.inj h
          subst h3
          exact ⟨rfl, rfl, rfl⟩
end
end Go.Ev
set_option linter.unusedVariables false
set_option linter.unusedSimpArgs false
namespace Go.Ev
open Go
section
variable {P : Program} {C : Ctx} {S : St} {ρ : Nat → Value} {a : Act} {T : TypeId → TI} {tab : List Entry} {n : Nat} {w w' : World} {R R' : Nat → Prop}
theorem finIds_own : ∀ {B : List RSh} {vs : List AV}, (B.filter RSh.isVal).length ≤ 1 → (∃ t, RSh.own t ∈ B) → finIds true B vs = [] := by
  have fins : ∀ {B : List RSh} {vs : List AV}, (B.filter RSh.isVal).length = 0 → finIds true B vs = [] := by
    intro B
    induction B with
    | nil => intro vs _; cases vs <;> rfl
    | cons r B ih =>
      intro vs h
      cases r with
      | fin p t =>
        show finIds true B vs = []
        exact ih (by simpa [RSh.isVal] using h)
      | _ => simp [RSh.isVal] at h
  intro B
  induction B with
  | nil => intro vs _ h; obtain ⟨t, h⟩ := h; simp at h
  | cons r B ih =>
    intro vs h ho
    cases r with
    | fin p t =>
      show finIds true B vs = []
      obtain ⟨t', ho⟩ := ho
      exact ih (by simpa [RSh.isVal] using h) ⟨t', by simpa using ho⟩
    | own t =>
      cases vs with
      | nil => rfl
      | cons v vs =>
        show ([] ++ finIds true B vs : List Nat) = []
        rw [List.nil_append]
        exact fins (by simp only [List.filter_cons, RSh.isVal, if_true, List.length_cons] at h; omega)
    | dat t =>
      exfalso
      obtain ⟨t', ho⟩ := ho
      have hm : RSh.own t' ∈ B.filter RSh.isVal := List.mem_filter.2 ⟨by simpa using ho, rfl⟩
      have hpos : 0 < (B.filter RSh.isVal).length := List.length_pos_of_mem hm
      simp only [List.filter_cons, RSh.isVal, if_true, List.length_cons] at h
      omega
    | cut p t =>
      exfalso
      obtain ⟨t', ho⟩ := ho
      have hm : RSh.own t' ∈ B.filter RSh.isVal := List.mem_filter.2 ⟨by simpa using ho, rfl⟩
      have hpos : 0 < (B.filter RSh.isVal).length := List.length_pos_of_mem hm
      simp only [List.filter_cons, RSh.isVal, if_true, List.length_cons] at h
      omega
theorem own_val {o0 : Nat} {R : Nat → Prop} {hp : Hp} (hB : ∀ k, BlkR ρ w R k (hp k)) {t : Ty} {v : AV} {u : Value} {y : List t.den} (hv : AVR ρ w R v u) (hp0 : ∀ k ∈ v.ids, ∀ t l, S.hp k = .arr t l 2 → hp k = .arr t l o0) (hy : finOne S (.own t) v = some y) :
    OwnR w R t y o0 u ∧ ∀ b, memOf u = some b → ∃ k ∈ v.ids, (∃ t l, S.hp k = .arr t l 2) ∧ memOf (ρ k) = some b := by
  simp only [finOne] at hy
  split at hy
  · cases hy
    have e : u = .slice none 0 0 := hv
    exact ⟨.inl ⟨e, rfl⟩, fun b hb => by rw [e] at hb; cases hb⟩
  · rename_i j
    split at hy
    · rename_i t' l o hj
      cases hq : Nat.beq o 2 with
      | false => simp [hq] at hy
      | true =>
        have hq' := Nat.eq_of_beq_eq_true hq
        subst hq'
        simp only [hq, cond_true] at hy
        obtain ⟨e, he⟩ := castTo_some hy
        cases e; subst he
        have hO := hB j
        rw [hp0 j (by simp [AV.ids, Cel.ids]) _ _ hj] at hO
        rw [hv.1]
        exact ⟨hO, fun b hb => ⟨j, by simp [AV.ids, Cel.ids], ⟨_, _, hj⟩, hb⟩⟩
    · cases hy
  · rename_i j t0 off len
    split at hy
    · rename_i t' l o hj
      cases hq : (Nat.beq o 2 && decide (t0 = t')) with
      | false => simp [hq] at hy
      | true =>
        simp only [hq, cond_true] at hy
        simp only [Bool.and_eq_true] at hq
        have hq' := Nat.eq_of_beq_eq_true hq.1
        subst hq'
        obtain ⟨e, he⟩ := castTo_some hy
        cases e; subst he
        have hO := hB j
        rw [hp0 j (by simp [AV.ids, Cel.ids]) _ _ hj] at hO
        obtain ⟨h0, h2, h3, h4⟩ := part_slice hv (of_decide_eq_true hq.2) hO
        have hsl := sub_len (l := l) h0 h2 h3
        rcases h4 with h4 | ⟨b, o', cap', cs, X, fz, hr, hlc, hh, hsz, hmb, he, hq1, hq2⟩
        · exact ⟨.inl h4, fun b hb => by rw [h4.1] at hb; cases hb⟩
        · refine ⟨.inr ⟨b, o', cap', cs, X, fz, by rw [hsl]; exact hr, by rw [hsl]; exact hlc, hh, hsz, he, hq1, hq2⟩, fun b2 hb => ⟨j, by simp [AV.ids, Cel.ids], ⟨_, _, hj⟩, ?_⟩⟩
          rw [hr] at hb
          simp only [memOf, Option.some.injEq] at hb
          rw [← hb]; exact hmb
    · cases hy
  · cases hy
theorem finOne_ok {R0 : Nat → Prop} {A : List PSh} {args : List Value} (h : RelW (ctxOf w R0 A args) n S R ρ a w') {R1 : Nat → Prop} {ids : List Nat} (h1 : RelW (ctxOf w R0 A args) n { S with hp := frzHp S.hp ids } R1 ρ a w') (hs : ∀ b, R b → R1 b) (hnl : noLent S.hp ids = true) {single : Bool}
    {r : RSh} {B : List RSh} (hcut : cutOk A (r :: B) = true) {v : AV} {u : Value} (hv : AVR ρ w' R v u) {y : r.den} (hy : finOne S r v = some y) (hid : ∀ i ∈ finIds single [r] [v], i ∈ ids) (hown : single = true → (∃ t, r = .own t) → ids = []) : ResR w w' R1 args single r y u := by
  have ha : Agree w' w' R := fun _ _ => rfl
  have hF := (SubHp.finds (hp' := S.hp) (hp := S.hp) fun i => .inl rfl).frz ids
  have hv1 : AVR ρ w' R1 v u := hv.mono hs ha
  have hlt : ∀ {p : Nat} {q : PSh}, A[p]? = some q → p < A.length := fun hp => by
    rcases Nat.lt_or_ge _ A.length with h | h
    · exact h
    · rw [List.getElem?_eq_none h] at hp; cases hp
  cases r with
  | dat t => exact datOf_ok h1.hp (datOf_finds hF hy) ((frz_frozen S.hp ids).sub fun i hi => hid i (by simp [finIds, hi])) hv1
  | own t =>
    cases hsg : single with
    | true =>
      have hids := hown hsg ⟨t, rfl⟩
      subst hids
      have hz : frzHp S.hp [] = S.hp := by funext i; simp [frzHp]
      obtain ⟨k1, k2⟩ := own_val (S := S) (o0 := 2) (hp := S.hp) (fun k => by have := h1.hp k; simp only [hz] at this; exact this) hv1 (fun k _ t' l hb => hb) hy
      simp only [ResR, cond_true]
      refine ⟨k1, fun b hb => ?_⟩
      obtain ⟨k, _, ⟨t', l', hl⟩, hm⟩ := k2 b hb
      exact h.new k b (by rw [hl]; rfl) (fun t2 l2 e => by rw [hl] at e; cases e) hm
    | false =>
      obtain ⟨k1, _⟩ := own_val (S := S) (o0 := 0) h1.hp hv1 (fun k hk t' l hb => by
        have : k ∈ ids := hid k (by rw [hsg]; simp [finIds, hk])
        simp only [frzHp, if_pos this, hb, frzB]) hy
      simp only [ResR, cond_false]
      exact OwnR.slice k1
  | cut p t =>
    have hp : p < A.length := by
      simp only [cutOk, Bool.and_eq_true] at hcut
      have h2 := hcut.1
      split at h2
      · rename_i t' ht'; exact hlt ht'
      · rename_i t' ht'; exact hlt ht'
      · cases h2
    simp only [finOne] at hy
    split at hy
    · rename_i i
      cases hq : Nat.beq i p with
      | false => simp [hq] at hy
      | true =>
        have hq' := Nat.eq_of_beq_eq_true hq
        subst hq'
        simp only [hq, cond_true] at hy
        split at hy
        · rename_i t' l o hb
          cases hd : decide (t' = t) with
          | false => simp [hd] at hy
          | true =>
            simp only [hd, cond_true, Option.some.injEq] at hy
            subst hy
            have hρ : ρ i = args.getD i undef := h.par i hp (by rw [hb]; simp)
            have hO := h.hp i
            rw [hb] at hO
            have e : u = ρ i := hv.1
            refine ⟨Int.le_refl _, by simp, ?_⟩
            simp only
            rw [e, ← hρ]
            rcases hO with ⟨hO, hl0⟩ | ⟨b, off, cap, cs, X, fz, hO, hlc, _⟩
            · left; subst hl0; exact ⟨hO, hO, by simp, by simp⟩
            · right; exact ⟨b, off, l.length, cap, off, cap, hO, by rw [hO]; simp, by simp, by simpa using hlc, by simp, .inr (by simp), Nat.le_refl _⟩
        · cases hy
    · rename_i i t' off len
      cases hq : (Nat.beq i p && decide (t' = t)) with
      | false => simp [hq] at hy
      | true =>
        simp only [hq, cond_true] at hy
        simp only [Bool.and_eq_true] at hq
        have hq' := Nat.eq_of_beq_eq_true hq.1
        subst hq'
        have ht := of_decide_eq_true hq.2
        subst ht
        split at hy
        · rename_i t2 l o hb
          cases hy
          have hρ : ρ i = args.getD i undef := h.par i hp (by rw [hb]; simp)
          obtain ⟨k0, k1, k2⟩ := hv
          refine ⟨k0, k1, ?_⟩
          simp only
          rw [← hρ]; exact k2
        · cases hy
    · cases hy
  | fin p t =>
    simp only [finOne] at hy
    split at hy
    · rename_i t' l o hb
      cases hq : Nat.beq o 1 with
      | false => simp [hq] at hy
      | true =>
        have hq' := Nat.eq_of_beq_eq_true hq
        subst hq'
        simp only [hq, cond_true] at hy
        obtain ⟨e, he⟩ := castTo_some hy
        cases e; subst he
        have hnot : p ∉ ids := fun hm => by
          have := List.all_eq_true.1 hnl p hm
          rw [hb] at this; cases this
        have hO := h1.hp p
        have e1 : frzHp S.hp ids p = .arr t l 1 := by simp only [frzHp, if_neg hnot]; exact hb
        simp only [e1] at hO
        have hρ := (h.lent p t l hb).1
        show OwnR w' R1 t l 1 (args.getD p undef)
        have hO' : OwnR w' R1 t l 1 (ρ p) := hO
        rw [hρ] at hO'
        exact hO'
    · cases hy
end
end Go.Ev
set_option linter.unusedVariables false
set_option linter.unusedSimpArgs false
namespace Go.Ev
open Go
section
variable {P : Program} {C : Ctx} {S : St} {ρ : Nat → Value} {a : Act} {T : TypeId → TI} {tab : List Entry} {n : Nat} {w w' : World} {R R' : Nat → Prop}
theorem cutOk_tail {A : List PSh} {r : RSh} {B : List RSh} (h : cutOk A (r :: B) = true) : cutOk A B = true := by
  cases r <;> simp only [cutOk, Bool.and_eq_true] at h <;> first | exact h.2 | exact h
theorem finB_ok {R0 : Nat → Prop} {A : List PSh} {args : List Value} (h : RelW (ctxOf w R0 A args) n S R ρ a w') {R1 : Nat → Prop} {ids : List Nat} (h1 : RelW (ctxOf w R0 A args) n { S with hp := frzHp S.hp ids } R1 ρ a w') (hs : ∀ b, R b → R1 b) (hnl : noLent S.hp ids = true) {single : Bool} :
    ∀ {B : List RSh} {vs : List AV} {us : List Value} {y : denB B}, cutOk A B = true → finB S B vs = some y → All2 (AVR ρ w' R) vs us → (∀ i ∈ finIds single B vs, i ∈ ids) → (single = true → (∃ t, RSh.own t ∈ B) → ids = []) → ResRs w w' R1 args single B y us := by
  intro B
  induction B with
  | nil =>
    intro vs us y _ hy hv _ _
    cases vs with
    | nil => cases hv; rfl
    | cons v vs => cases hy
  | cons r B ih =>
    intro vs us y hcut hy hv hid hown
    simp only [ResRs]
    rcases finB_cons hy with ⟨hval, v, rest, rfl, k1, k2⟩ | ⟨hval, k1, k2⟩
    · cases hv with
      | cons hv hr =>
        rename_i u us
        rw [hval]
        have hid1 : ∀ i ∈ finIds single [r] [v], i ∈ ids := fun i hi => hid i (by
          cases r <;> simp [finIds, RSh.isVal] at hi hval ⊢ <;> first | exact .inl hi | exact hi.elim)
        have hid2 : ∀ i ∈ finIds single B rest, i ∈ ids := fun i hi => hid i (by
          cases r <;> simp [finIds, RSh.isVal] at hval ⊢ <;> first | exact .inr hi | exact hi)
        exact ⟨u, us, rfl, finOne_ok h h1 hs hnl hcut hv k1 hid1 (fun hs ⟨t, ht⟩ => hown hs ⟨t, by simp [ht]⟩), ih (cutOk_tail hcut) k2 hr hid2 fun hs ⟨t, ht⟩ => hown hs ⟨t, by simp [ht]⟩⟩
    · rw [hval]
      have hid2 : ∀ i ∈ finIds single B vs, i ∈ ids := fun i hi => hid i (by
        cases r with
        | fin p t => exact hi
        | _ => simp [RSh.isVal] at hval)
      have hid1 : ∀ i ∈ finIds single [r] [.one .u], i ∈ ids := fun i hi => by
        cases r with
        | fin p t => simp [finIds] at hi
        | _ => simp [RSh.isVal] at hval
      exact ⟨finOne_ok h h1 hs hnl hcut (v := .one .u) (u := undef) trivial k1 hid1 (fun hs ⟨t, ht⟩ => hown hs ⟨t, by simp [ht]⟩), ih (cutOk_tail hcut) k2 hv hid2 fun hs ⟨t, ht⟩ => hown hs ⟨t, by simp [ht]⟩⟩
theorem fin_post (TK : TypesOK P T) {R0 : Nat → Prop} {A : List PSh} {B : List RSh} {args : List Value} (hwf : wfE A B = true) (h : Rel (ctxOf w R0 A args) n S a w') {fn : Func} {y : denB B} (hy : finOf T B fn.results.toList S = some y) :
    a.defers = [] ∧ ∃ v, (results fn a.tmps).run P w' = .ok v w' ∧ CallPost w R0 A B args y v w' := by
  obtain ⟨R, ρ, h⟩ := h
  refine ⟨h.defers, ?_⟩
  unfold finOf at hy
  split at hy
  · rename_i vs hvs
    cases hnl : noLent S.hp (finIds (oneVal B) B vs) with
    | false => rw [hnl] at hy; cases hy
    | true =>
      rw [hnl] at hy
      simp only [cond_true] at hy
      obtain ⟨us, k1, k2, _⟩ := finVals_ok TK h hvs
      obtain ⟨R1, h1, hs1, _⟩ := h.freezes (finIds (oneVal B) B vs) (fun i hi t l e => by
        have := List.all_eq_true.1 hnl i hi
        rw [e] at this; cases this)
      simp only [wfE, Bool.and_eq_true] at hwf
      refine ⟨_, run_results k1, R1, us, rfl, finB_ok h h1 hs1 hnl hwf.1.1.1 hy k2 (fun i hi => hi) (fun hs hown => ?_), fun b hb => hs1 b (h.sub b hb), h1.old, h1.lt, h.keep⟩
      rw [hs]
      refine finIds_own ?_ hown
      have := Nat.eq_of_beq_eq_true hs
      rw [cnt_length] at this; omega
  · cases hy
theorem fn_ok (TK : TypesOK P T) (hT : ∀ E ∈ tab, SpecOK P E) (hm : P.follows .mixedOrders = true) {f : FuncId} {fn : Func} {c : Code} (hf : P.funcs[f]? = some fn) (hb : fn.body = some c) (hname : fn.name ≠ "runtime.NumGoroutine")
    {A : List PSh} {B : List RSh} {ann : Ann (denB B)} {run : denA A → Option (denB B)} (hwf : wfE A B = true) (hA : A.length ≤ 1000) (hAn : A.length ≤ fn.ntmps) (hann : AnnOK P fn.ntmps (finOf T B fn.results.toList) c ann)
    (hev : ∀ x, evalF T tab fn.ntmps c fn.results.toList A B ann x = run x) : SpecOK P ⟨f, A, B, run⟩ where
  run := fun x y w R args hrun hargs hlt hpw => by
    refine calls_of_wp hf hb ?_
    have hrel := init_rel (n := fn.ntmps) hargs hlt hpw hAn (argsR_len hargs)
    have hrun : evalF T tab fn.ntmps c fn.results.toList A B ann x = some y := (hev x).trans hrun
    unfold evalF at hrun
    refine wp_mono (evalC_sound TK hT hm (C := ctxOf w R A args) hA c ann _ _ _ y _ w hrun hann hrel) fun e a' w' hp => ?_
    rcases hp with ⟨S', hk, hR'⟩ | ⟨rfl, S', r0, h1, h2, hR'⟩
    · cases e with
      | normal =>
        obtain ⟨d, v, hv, hc⟩ := fin_post TK hwf hR' hk
        exact ⟨d, v, hv, hc⟩
      | _ => cases hk
    · cases h2
      obtain ⟨d, v, hv, hc⟩ := fin_post TK hwf hR' h1
      exact ⟨d, v, hv, hc⟩
  fn := ⟨fn, hf, hname, by rw [hb]; rfl⟩
  wf := hwf
end
end Go.Ev
set_option linter.unusedVariables false
set_option linter.unusedSimpArgs false
namespace Go.Ev
open Go
section
variable {P : Program}
def infoOf (P : Program) (t : TypeId) : Option (Nat × Option Value) := (P.info? t).map fun i => (i.size, i.zero)
def infoOf3 (P : Program) (t : TypeId) : Option (Nat × Nat × Option Value) := (P.info? t).map fun i => (i.size, i.bytes, i.zero)
theorem infoOf_ex {t : TypeId} {s : Nat} {z : Option Value} (h : infoOf P t = some (s, z)) : ∃ i, P.info? t = some i ∧ i.size = s ∧ i.zero = z := by
  unfold infoOf at h
  cases hi : P.info? t with
  | none => rw [hi] at h; cases h
  | some i => rw [hi] at h; simp at h; exact ⟨i, rfl, h.1, h.2⟩
theorem infoOf3_ex {t : TypeId} {s b : Nat} {z : Option Value} (h : infoOf3 P t = some (s, b, z)) : ∃ i, P.info? t = some i ∧ i.size = s ∧ i.bytes = b ∧ i.zero = z := by
  unfold infoOf3 at h
  cases hi : P.info? t with
  | none => rw [hi] at h; cases h
  | some i => rw [hi] at h; simp at h; exact ⟨i, rfl, h.1, h.2.1, h.2.2⟩
theorem tyInt {t : TypeId} {k : IntKind} (h : infoOf P t = some (1, some (.int k 0))) (hu : P.underlying t = some (.int k)) : TyOK P t ⟨.int k, 0, [], false, true⟩ := by
  obtain ⟨i, h1, h2, h3⟩ := infoOf_ex h
  exact ⟨⟨i, h1, h2, h3⟩, hu, by simp⟩
theorem tyBool {t : TypeId} (h : infoOf P t = some (1, some (.bool false))) (hu : P.underlying t = some .bool) : TyOK P t ⟨.bool, 0, [], false, true⟩ := by
  obtain ⟨i, h1, h2, h3⟩ := infoOf_ex h
  exact ⟨⟨i, h1, h2, h3⟩, hu, by simp⟩
theorem tyStr {t : TypeId} (h : infoOf P t = some (1, some (.string ByteArray.empty))) (hu : P.underlying t = some .string) : TyOK P t ⟨.str, 0, [], false, true⟩ := by
  obtain ⟨i, h1, h2, h3⟩ := infoOf_ex h
  exact ⟨⟨i, h1, h2, h3⟩, hu, by simp⟩
theorem tyList {t et : TypeId} {e : Ty} {eb : Nat} (h : infoOf P t = some (1, some (.slice none 0 0))) (hu : P.underlying t = some (.slice et)) (he : infoOf3 P et = some (e.size, eb, some (zeroVal e))) (hp : Nat.blt 0 e.size = true) (hb : Nat.blt 0 eb = true)
    (hw : (zeroVal e).cells.toList = zeroVals e) (hi : ∀ k, e = .int k → P.underlying et = some (.int k)) : TyOK P t ⟨.list e, eb, [], false, true⟩ := by
  obtain ⟨i, h1, h2, h3⟩ := infoOf_ex h
  obtain ⟨ie, g1, g2, g3, g4⟩ := infoOf3_ex he
  exact ⟨⟨i, h1, h2, h3⟩, ⟨et, hu, ⟨⟨ie, g1, g2, g3, g4⟩, by simpa [Nat.blt_eq] using hp, by simpa [Nat.blt_eq] using hb, hw, hi⟩⟩, by simp⟩
def fieldsOf' (P : Program) (t : TypeId) : Array Field := match P.underlying t with
  | some (.struct fs) => fs
  | _ => #[]
def fldRow (P : Program) (fd : Field) : Nat × Option Nat × Option Bool := (fd.offset, (P.info? fd.type).map (·.size), aggB P fd.type)
def fldsB (n : Nat) : List (Nat × Ty) → Bool
  | [] => true
  | p :: l => Nat.ble (p.1 + p.2.size) n && (isSt p.2 || Nat.beq p.2.size 1) && Nat.blt 0 p.2.size && fldsB n l
theorem tySt {t : TypeId} {f : Ty} {fs : Array Field} {flds : List (Nat × Ty)} (h : infoOf P t = some (f.size, some (.agg (zeroVals f).toArray))) (hu : P.underlying t = some (.struct fs)) (hf : fs.toList.map (fldRow P) = flds.map fun p => (p.1, some p.2.size, some (isSt p.2))) (hb : fldsB f.size flds = true) :
    TyOK P t ⟨.st f, 0, flds, false, true⟩ := by
  obtain ⟨i, h1, h2, h3⟩ := infoOf_ex h
  refine ⟨⟨i, h1, h2, h3⟩, ⟨fs, hu, ?_, fun j p hp => ?_⟩, by simp⟩
  · have := congrArg List.length hf
    simpa using this
  · have hj : (fs.toList.map (fldRow P))[j]? = some (p.1, some p.2.size, some (isSt p.2)) := by
      rw [hf, List.getElem?_map]
      show Option.map _ flds[j]? = _
      have : flds[j]? = some p := hp
      rw [this]; rfl
    rw [List.getElem?_map, Option.map_eq_some_iff] at hj
    obtain ⟨fd, hfd, hrow⟩ := hj
    unfold fldRow at hrow
    simp only [Prod.mk.injEq] at hrow
    obtain ⟨r1, r2, r3⟩ := hrow
    have hchk : ∀ (l : List (Nat × Ty)), fldsB f.size l = true → ∀ p ∈ l, p.1 + p.2.size ≤ f.size ∧ (isSt p.2 = false → p.2.size = 1) ∧ 0 < p.2.size := by
      intro l
      induction l with
      | nil => intro _ p hp; simp at hp
      | cons q l ih =>
        intro hl p hp
        simp only [fldsB, Bool.and_eq_true, Bool.or_eq_true] at hl
        rcases List.mem_cons.1 hp with hpq | hp
        · subst hpq
          exact ⟨Nat.le_of_ble_eq_true hl.1.1.1, fun hs => Nat.eq_of_beq_eq_true (hl.1.1.2.resolve_left (by rw [hs]; simp)), by simpa [Nat.blt_eq] using hl.1.2⟩
        · exact ih hl.2 p hp
    obtain ⟨c1, c2, c3⟩ := hchk flds hb p (List.mem_of_getElem? hp)
    refine ⟨fd, by rw [← Array.getElem?_toList]; exact hfd, ⟨r1, ?_, r3, c1, c2, c3⟩⟩
    rw [Option.map_eq_some_iff] at r2
    obtain ⟨fi, hfi, hsz⟩ := r2
    exact ⟨fi, hfi, hsz⟩
def fldInt (P : Program) (fd : Field) : Bool := (fd.name != "_") && (match P.underlying fd.type with
  | some (.int _) => true
  | _ => false)
def offs (o : Nat) : List Field → Bool
  | [] => true
  | f :: l => Nat.beq f.offset o && offs (o + 1) l
theorem run_part_int {w : World} {e : TypeId} {k : IntKind} (hu : P.underlying e = some (.int k)) {xs : Array Value} {off : Nat} {v : Value} (hx : xs[off]? = some v) : (part e xs off).run P w = .ok v w := by
  simp [part, isAgg, run_underlying' hu, hx]
theorem run_eqInts (w : World) (d : Nat) {xs ys : Array Value} : ∀ (fs : List Field) (o : Nat) (vs us : List Value) (b : Bool), fs.all (fldInt P) = true → offs o fs = true → fs.length = vs.length → xs.toList.drop o = vs → ys.toList.drop o = us → eqVals vs us = some b →
    (Op.eqFields (d + 1) xs ys fs).run P w = .ok b w := by
  intro fs
  induction fs with
  | nil =>
    intro o vs us b _ _ hl _ _ he
    cases vs with
    | nil =>
      cases us with
      | nil => simp [eqVals] at he; subst he; simp [Op.eqFields]
      | cons u us => simp [eqVals] at he
    | cons v vs => simp at hl
  | cons f fs ih =>
    intro o vs us b hall hof hl hx hy he
    simp only [List.all_cons, Bool.and_eq_true] at hall
    simp only [offs, Bool.and_eq_true] at hof
    have ho : f.offset = o := Nat.eq_of_beq_eq_true hof.1
    cases vs with
    | nil => simp at hl
    | cons v vs =>
      cases us with
      | nil => simp [eqVals] at he
      | cons u us =>
        have hx0 : xs[o]? = some v := by
          have := congrArg (·[0]?) hx
          simpa using this
        have hy0 : ys[o]? = some u := by
          have := congrArg (·[0]?) hy
          simpa using this
        have hx1 : xs.toList.drop (o + 1) = vs := by rw [← List.drop_drop, hx]; simp
        have hy1 : ys.toList.drop (o + 1) = us := by rw [← List.drop_drop, hy]; simp
        simp only [eqVals] at he
        cases hv : eqVal v u with
        | none => simp [hv] at he
        | some x =>
          cases hr : eqVals vs us with
          | none => simp [hv, hr] at he
          | some y =>
            simp only [hv, hr, Option.some.injEq] at he
            subst he
            have hrest := ih (o + 1) vs us y hall.2 hof.2 (by simpa using hl) hx1 hy1 hr
            have hf := hall.1
            unfold fldInt at hf
            simp only [Bool.and_eq_true, bne_iff_ne, ne_eq] at hf
            cases hu : P.underlying f.type with
            | none => rw [hu] at hf; simp at hf
            | some dsc =>
              cases dsc with
              | int k =>
                unfold eqVal at hv
                split at hv
                · rename_i k1 a1 k2 a2
                  by_cases hk : k1 = k2
                  · subst hk
                    simp only [decide_true, cond_true, Option.some.injEq] at hv
                    subst hv
                    have hn : f.name ≠ "_" := hf.1
                    rw [ho.symm] at hx0 hy0
                    simp only [Op.eqFields, hn, ne_eq, not_false_eq_true, if_true, Sem.run_bind, run_part_int hu hx0, run_part_int hu hy0, Result.andThen_ok, run_equalIn_int w d f.type k1 k a1 a2 hu]
                    cases hb : a1 == a2 with
                    | true => simpa using hrest
                    | false => simp
                  · simp [hk] at hv
                · cases hv
              | _ => rw [hu] at hf; simp at hf
theorem tyStE {t : TypeId} {f : Ty} {fs : Array Field} {flds : List (Nat × Ty)} (h : infoOf P t = some (f.size, some (.agg (zeroVals f).toArray))) (hu : P.underlying t = some (.struct fs)) (hf : fs.toList.map (fldRow P) = flds.map fun p => (p.1, some p.2.size, some (isSt p.2))) (hb : fldsB f.size flds = true)
    (hp : P.stoodInHeld t = false) (hg : P.eqGuardType P.depth t = false) (hof : offs 0 fs.toList = true) (hall : fs.toList.all (fldInt P) = true) (hsz : fs.toList.length = f.size) :
    TyOK P t ⟨.st f, 0, flds, true, true⟩ := by
  have h0 := tySt h hu hf hb
  refine ⟨h0.info, h0.desc, fun _ vs us b w x y he h1 h2 => ?_⟩
  have hfo : P.fieldsOf t = fs := by simp [Program.fieldsOf, hu]
  have hq : (Op.equal t (.agg vs.toArray) (.agg us.toArray)).run P w = .ok b w := by
    show (Op.equalIn (9998 + 1 + 1) t _ _).run P w = _
    rw [run_equalIn_struct w (9998 + 1) t _ _ (by rw [hfo]; exact hu) hp, hfo]
    exact run_eqInts w 9998 fs.toList 0 vs us b hall hof (by rw [hsz, h1]; rfl) (by simp) (by simp) he
  constructor
  · simp [eqGuard, hg, binOp, hq]
  · simp [eqGuard, hg, binOp, hq]
theorem types_ok {rows : List (Nat × TI)} (h : ∀ p ∈ rows, TyOK P p.1 p.2) : TypesOK P (tiOf rows) := by
  intro t hon
  induction rows with
  | nil => cases hon
  | cons p rows ih =>
    simp only [tiOf] at hon ⊢
    cases hq : Nat.beq p.1 t with
    | true =>
      have := Nat.eq_of_beq_eq_true hq
      subst this
      simp only [cond_true]
      exact h p (by simp)
    | false =>
      rw [hq] at hon
      simp only [cond_false] at hon ⊢
      exact ih (fun q hq => h q (by simp [hq])) hon
end
end Go.Ev
set_option linter.unusedVariables false
namespace Go.Ev
open Go
section
variable {P : Program} {n : Nat} {R0 : Type} {fin : St → Option R0}
theorem annOK_nil : ∀ (c : Code), AnnOK P n fin c .nil := by
  intro c
  induction c with
  | seq x y ihx ihy => exact ⟨ihx, ihy⟩
  | cond c x y ihx ihy => exact ⟨ihx, ihy⟩
  | block id x ih => exact ih
  | _ => trivial
theorem annOK_seq {x y : Code} {u v : Ann R0} (hx : AnnOK P n fin x u) (hy : AnnOK P n fin y v) : AnnOK P n fin (.seq x y) (.seq u v) := ⟨hx, hy⟩
theorem annOK_jseq {x y : Code} {O : Mrk} {u v : Ann R0} (hx : AnnOK P n fin x u) (hy : AnnOK P n fin y v) : AnnOK P n fin (.seq x y) (.jseq O u v) := ⟨hx, hy⟩
theorem annOK_cond {c : Operand} {x y : Code} {u v : Ann R0} (hx : AnnOK P n fin x u) (hy : AnnOK P n fin y v) : AnnOK P n fin (.cond c x y) (.cond u v) := ⟨hx, hy⟩
theorem annOK_block {id : Nat} {x : Code} {u : Ann R0} (hx : AnnOK P n fin x u) : AnnOK P n fin (.block id x) (.block u) := hx
theorem annOK_loop {body : Code} {M O : Mrk} {id : Nat} {run : M.den → Option (O.den ⊕ R0)} (h : LoopOK P n fin body M O id run) : AnnOK P n fin (.loop body) (.loop M O id run) := h
theorem name_ne {s t : String} (h : (s == t) = false) : s ≠ t := by simpa using h
theorem forall_cons {α : Type} {p : α → Prop} {a : α} {l : List α} (h : p a) (hl : ∀ x ∈ l, p x) : ∀ x ∈ a :: l, p x := by
  intro x hx
  rcases List.mem_cons.1 hx with rfl | hx
  · exact h
  · exact hl x hx
theorem forall_nil {α : Type} {p : α → Prop} : ∀ x ∈ ([] : List α), p x := by intro x hx; simp at hx
end
end Go.Ev
set_option linter.unusedVariables false
namespace Go.Ev
open Go
section
variable {P : Program} {T : TypeId → TI}
def runC {R0 : Type} (T : TypeId → TI) (tab : List Entry) (n : Nat) (fin : St → Option R0) (c : Code) (S : St) : Option St := evalC T tab n fin c .nil (fun e S => match e with
  | .normal => some S
  | _ => none) (fun _ => none) S
def stOf (o : Option St) : St := match o with
  | some S => S
  | none => St.empty
def endF {R0 : Type} (fin : St → Option R0) (e : Exit) (S : St) : Option R0 := match e with
  | .normal => fin S
  | _ => none
theorem run_equalIn_nil {w : World} (k : Nat) {t et : TypeId} (hu : P.underlying t = some (.slice et)) {b : Option Addr} {n c : Nat} : (Op.equalIn (k + 1) t (.slice b n c) (.slice none 0 0)).run P w = .ok b.isNone w := by
  cases b with
  | none => simp [Op.equalIn, run_underlying' hu]
  | some a => simp [Op.equalIn, run_underlying' hu]
theorem run_eql_nil {w : World} {t et : TypeId} {x y : Operand} (hu : P.underlying t = some (.slice et)) {b : Option Addr} {n c : Nat} :
    (do eqGuard .eql t x y (.slice b n c) (.slice none 0 0); binOp .eql t (.slice b n c) (.slice none 0 0) : Sem Value).run P w = .ok (.bool b.isNone) w := by
  have hq : (Op.equal t (.slice b n c) (.slice none 0 0)).run P w = .ok b.isNone w := run_equalIn_nil 9999 hu
  simp [eqGuard, binOp, hq]
theorem clone_ok (TK : TypesOK P T) (hm : P.follows .mixedOrders = true) {f : FuncId} {fn : Func} {c0 c1 c2 : Code} {id : Nat} {o1 o2 : Oper} {t t' et : TypeId} {e : Ty} {d s : Tmp} {run : List e.den → Option (List e.den)} (hf : P.funcs[f]? = some fn)
    (hb : fn.body = some (.seq c0 (.seq (.seq (.region id #[o1, o2] false) c1) c2))) (hname : fn.name ≠ "runtime.NumGoroutine")
    (ho2 : o2 = { o2 with op := .binOp .eql t (.tmp s) (.const (.slice none 0 0)) t', dst := some d, guard := none }) (hu : P.underlying t = some (.slice et)) (hdn : Nat.blt d fn.ntmps = true) (hn : Nat.ble 1 fn.ntmps = true)
    (hw2 : ∀ fr, wantOf fr [o1, o2] o2 = .yes)
    {S1 S2 : List e.den → St}
    (h0 : ∀ x, runC T [] fn.ntmps (finOf T [.own e] fn.results.toList) c0 (initAs 0 St.empty [.dat (.list e)] x) = some (S1 x))
    (h1 : ∀ x, evalOps T [] fn.ntmps false [o1, o2] [o1] [] [] (S1 x) some = some (S2 x))
    (hs : ∀ x, (S2 x).fr s = .one (.dat (.list e) x))
    (hT : evalC T [] fn.ntmps (finOf T [.own e] fn.results.toList) (.seq c1 c2) .nil (endF (finOf T [.own e] fn.results.toList)) some ((S2 []).put (some d) (boolv true) []) = some ([] : denB [.own e]))
    (hF : ∀ x : List e.den, evalC T [] fn.ntmps (finOf T [.own e] fn.results.toList) (.seq c1 c2) .nil (endF (finOf T [.own e] fn.results.toList)) some ((S2 x).put (some d) (boolv false) []) = run x) (hid : ∀ x y, run x = some y → y = x) :
    SpecOK P ⟨f, [.dat (.list e)], [.own e], fun x => run x⟩ where
  run := fun x y w R args hrun hargs hlt hpw => by
    have hyx := hid x y hrun
    replace hrun : run x = some x := hyx ▸ hrun
    subst y
    refine calls_of_wp hf hb ?_
    have hrel := init_rel (n := fn.ntmps) hargs hlt hpw (Nat.le_of_ble_eq_true hn) (argsR_len hargs)
    have hfin : ∀ {S : St} {a : Act} {w' : World}, Rel (ctxOf w R [.dat (.list e)] args) fn.ntmps S a w' → finOf T [.own e] fn.results.toList S = some (x : denB [.own e]) → a.defers = [] ∧ ∃ v, (results fn a.tmps).run P w' = .ok v w' ∧ CallPost w R [.dat (.list e)] [.own e] args (x : denB [.own e]) v w' := fun h hy => fin_post TK rfl h hy
    generalize finOf T [.own e] fn.results.toList = fin at *
    have hnp : (ctxOf w R [.dat (.list e)] args).np ≤ 1000 := by simp [ctxOf]
    have h0x := h0 x
    unfold runC at h0x
    refine wp_seq (wp_mono (evalC_sound TK (forall_nil) hm (C := ctxOf w R _ args) hnp c0 .nil _ _ _ _ _ w h0x (annOK_nil _) hrel) fun e0 a1 w1 hp => ?_)
    have hR1 : e0 = .normal ∧ Rel (ctxOf w R [.dat (.list e)] args) fn.ntmps (S1 x) a1 w1 := by
      rcases hp with ⟨S', hk, hR1⟩ | ⟨rfl, S', r0, g1, g2, hR1⟩
      · cases e0 <;> simp only [Option.some.injEq, reduceCtorEq] at hk
        subst hk; exact ⟨rfl, hR1⟩
      · cases g2
    clear hp
    obtain ⟨rfl, hR1⟩ := hR1
    refine wp_seq (wp_seq (wp_region ?_))
    obtain ⟨tr, e1, e2, e3, _⟩ := evalOps_inv _ _ _ _ (h1 x)
    obtain ⟨t1, rfl⟩ : ∃ t1, tr = [t1] := List.length_eq_one_iff.1 (by simpa using congrArg List.length e1)
    simp only [List.map_cons, List.map_nil, List.cons.injEq, and_true] at e1
    simp only [execAll, Option.some.injEq] at e3
    show wpOps P #[o1, o2] _ [0, 1] a1 w1
    rw [wpOps_cons]
    refine step_wp (all := [o1, o2]) TK (forall_nil) e2.1 hR1 (by simp [e1]) fun v1 w2 hR2 => ?_
    rw [e3] at hR2
    generalize a1.put t1.o.dst v1 = a2 at *
    rw [wpOps_cons]
    obtain ⟨R2, ρ2, hR2⟩ := hR2
    unfold wpOp
    simp only [List.getElem?_toArray, List.getElem?_cons_succ, List.getElem?_cons_zero]
    have hyes := want_yes (all := [o1, o2]) hR2 (hw2 _)
    simp only [hyes, if_true]
    left
    -- the slice that is held against nil
    have hv : ∃ b nn cc, a2.eval (.tmp s) = .slice b nn cc ∧ (b.isNone = true → x = []) := by
      have h2 := hR2.opnd (.tmp s)
      simp only [opnd, hs] at h2
      have h3 : CR w2 R2 (.list e) x [a2.eval (.tmp s)] := h2
      obtain ⟨v, hv, hsl⟩ := h3
      simp only [List.cons.injEq, and_true] at hv
      rcases hsl with ⟨h4, h5⟩ | ⟨b, off, cap, cs, T', fz, h4, _⟩
      · exact ⟨none, 0, 0, hv.trans h4, fun _ => h5⟩
      · exact ⟨_, _, _, hv.trans h4, fun h => by cases h⟩
    obtain ⟨b, nn, cc, hv, hnil⟩ := hv
    have hop : o2.op = .binOp .eql t (.tmp s) (.const (.slice none 0 0)) t' := by rw [ho2]
    have hds : o2.dst = some d := by rw [ho2]
    have hrun2 : (execOp a2.eval o2).run P w2 = .ok (.value (.bool b.isNone)) w2 := by
      have e : (execOp a2.eval o2).run P w2 = ((do eqGuard .eql t (.tmp s) (.const (.slice none 0 0)) (a2.eval (.tmp s)) (a2.eval (.const (.slice none 0 0))); binOp .eql t (a2.eval (.tmp s)) (a2.eval (.const (.slice none 0 0))) : Sem Value).run P w2).andThen fun v w => .ok (.value v) w := by
        simp only [execOp, hop, Sem.run_bind, Sem.run_pure]
      rw [e, hv, show a2.eval (.const (.slice none 0 0)) = .slice none 0 0 from rfl, run_eql_nil hu]; rfl
    have hdone : Done P (ctxOf w R [.dat (.list e)] args) fn.ntmps (S2 x) o2 a2 w2 (boolv b.isNone) [] := done_value hR2 (dstIn_dIn (o := o2) (by unfold dstIn; rw [hds]; exact hdn)) hrun2 (of_bool _) (by simp [boolv, AV.ids, Cel.ids])
    refine hdone.wp _ _ fun v3 w3 hR3 => ?_
    generalize a2.put o2.dst v3 = a3 at *
    rw [hds] at hR3
    show Exit.then _ _ .normal a3 w3
    have hev : evalC T [] fn.ntmps fin (.seq c1 c2) .nil (endF fin) some ((S2 x).put (some d) (boolv b.isNone) []) = some x := by
      cases hb' : b.isNone with
      | true => have := hnil hb'; subst this; exact hT
      | false => exact (hF x).trans hrun
    have hev' : evalC T [] fn.ntmps fin c1 .nil (fun e S => match e with
        | .normal => evalC T [] fn.ntmps fin c2 .nil (endF fin) some S
        | e => endF fin e S) some ((S2 x).put (some d) (boolv b.isNone) []) = some x := hev
    refine wp_mono (evalC_sound TK (forall_nil) hm hnp c1 .nil _ _ _ _ _ w3 hev' (annOK_nil _) hR3) fun e4 a4 w4 hp => ?_
    rcases hp with ⟨S', hk, hR4⟩ | ⟨rfl, S', r0, g1, g2, hR4⟩
    · cases e4 with
      | normal =>
        refine wp_mono (evalC_sound TK (forall_nil) hm hnp c2 .nil _ _ _ _ _ w4 hk (annOK_nil _) hR4) fun e5 a5 w5 hp => ?_
        rcases hp with ⟨S', hk, hR5⟩ | ⟨rfl, S', r0, g1, g2, hR5⟩
        · cases e5 with
          | normal => exact hfin hR5 hk
          | _ => cases hk
        · cases g2; exact hfin hR5 g1
      | _ => cases hk
    · cases g2; exact hfin hR4 g1
  fn := ⟨fn, hf, hname, by rw [hb]; rfl⟩
  wf := rfl
def cloneS1 (T : TypeId → TI) (fn : Func) (e : Ty) (c0 : Code) (x : List e.den) : St := stOf (runC T [] fn.ntmps (finOf T [.own e] fn.results.toList) c0 (initAs 0 St.empty [.dat (.list e)] x))
def cloneS2 (T : TypeId → TI) (fn : Func) (e : Ty) (c0 : Code) (o1 o2 : Oper) (x : List e.den) : St := stOf (evalOps T [] fn.ntmps false [o1, o2] [o1] [] [] (cloneS1 T fn e c0 x) some)
theorem clone_ok' (TK : TypesOK P T) (hm : P.follows .mixedOrders = true) {f : FuncId} {fn : Func} {c0 c1 c2 : Code} {id : Nat} {o1 o2 : Oper} {t t' et : TypeId} {e : Ty} {d s : Tmp} {run : List e.den → Option (List e.den)} (hf : P.funcs[f]? = some fn)
    (hb : fn.body = some (.seq c0 (.seq (.seq (.region id #[o1, o2] false) c1) c2))) (hname : fn.name ≠ "runtime.NumGoroutine")
    (ho2 : o2 = { o2 with op := .binOp .eql t (.tmp s) (.const (.slice none 0 0)) t', dst := some d, guard := none }) (hu : P.underlying t = some (.slice et)) (hdn : Nat.blt d fn.ntmps = true) (hn : Nat.ble 1 fn.ntmps = true)
    (hw2 : ∀ fr, wantOf fr [o1, o2] o2 = .yes)
    (h0 : ∀ x, runC T [] fn.ntmps (finOf T [.own e] fn.results.toList) c0 (initAs 0 St.empty [.dat (.list e)] x) = some (cloneS1 T fn e c0 x))
    (h1 : ∀ x, evalOps T [] fn.ntmps false [o1, o2] [o1] [] [] (cloneS1 T fn e c0 x) some = some (cloneS2 T fn e c0 o1 o2 x))
    (hs : ∀ x, (cloneS2 T fn e c0 o1 o2 x).fr s = .one (.dat (.list e) x))
    (hT : evalC T [] fn.ntmps (finOf T [.own e] fn.results.toList) (.seq c1 c2) .nil (endF (finOf T [.own e] fn.results.toList)) some ((cloneS2 T fn e c0 o1 o2 []).put (some d) (boolv true) []) = some ([] : denB [.own e]))
    (hF : ∀ x : List e.den, evalC T [] fn.ntmps (finOf T [.own e] fn.results.toList) (.seq c1 c2) .nil (endF (finOf T [.own e] fn.results.toList)) some ((cloneS2 T fn e c0 o1 o2 x).put (some d) (boolv false) []) = run x) (hid : ∀ x y, run x = some y → y = x) :
    SpecOK P ⟨f, [.dat (.list e)], [.own e], fun x => run x⟩ := clone_ok TK hm hf hb hname ho2 hu hdn hn hw2 h0 h1 hs hT hF hid
theorem clone_id {α : Type} {run : List α → Option (List α)} {b : Nat} (h : ∀ x, run x = bif fitsB (0 + x.length) b then some x else none) (x y : List α) (hr : run x = some y) : y = x := by
  rw [h] at hr
  cases hb : fitsB (0 + x.length) b with
  | true => rw [hb] at hr; simp at hr; exact hr.symm
  | false => rw [hb] at hr; simp at hr
end
end Go.Ev
set_option linter.unusedVariables false
namespace Go.Ev
open Go
def ebLow : Ty → Nat
  | .int k => k.bits / 8
  | .bool => 1
  | .str => 16
  | .list _ => 24
  | _ => 1
def Wf : (t : Ty) → t.den → Prop
  | .int k, (x : Int) => k.min ≤ x ∧ x ≤ k.max
  | .bool, _ => True
  | .str, (s : ByteArray) => s.size ≤ reachBytes
  | .list e, (l : List e.den) => l.length * ebLow e ≤ reachBytes ∧ ∀ x ∈ l, Wf e x
  | .st t, x => Wf t x
  | .pair a b, x => Wf a x.1 ∧ Wf b x.2
  | .unit, _ => True
  | .ptr _, _ => True
def oneF (P : Program) (h : TypeId → Bool) (s : Nat) (o : Nat) (l : List Field) : Bool := match l with
  | [f] => h f.type && Nat.beq f.offset o && Nat.beq (P.cellsOf f.type) s
  | _ => false
def rdInt (P : Program) (k : IntKind) (t : TypeId) : Bool := match P.underlying t with
  | some (.int k') => decide (k' = k)
  | _ => false
def rdBool (P : Program) (t : TypeId) : Bool := match P.underlying t with
  | some .bool => true
  | _ => false
def rdStr (P : Program) (t : TypeId) : Bool := match P.underlying t with
  | some .string => true
  | _ => false
def rdList (P : Program) (h : TypeId → Bool) (e : Ty) (t : TypeId) : Bool := match P.underlying t with
  | some (.slice et) => h et && Nat.beq (P.cellsOf et) e.size && Nat.ble (ebLow e) (P.bytesOf et) && !hasList e
  | _ => false
def rdSt (P : Program) (h : Nat → List Field → Bool) (s : Nat) (t : TypeId) : Bool := match P.underlying t with
  | some (.struct fs) => h 0 fs.toList && Nat.beq (P.cellsOf t) s
  | _ => false
def rdPair (P : Program) (h : TypeId → Bool) (s : Nat) (g : Nat → List Field → Bool) (o : Nat) (l : List Field) : Bool := match l with
  | f :: fs => h f.type && Nat.beq f.offset o && Nat.beq (P.cellsOf f.type) s && g (o + s) fs
  | _ => false
def rdP (P : Program) : Ty → (TypeId → Bool) × (Nat → List Field → Bool)
  | .int k => (rdInt P k, oneF P (rdInt P k) 1)
  | .bool => (rdBool P, oneF P (rdBool P) 1)
  | .str => (rdStr P, oneF P (rdStr P) 1)
  | .list e => (rdList P (rdP P e).1 e, oneF P (rdList P (rdP P e).1 e) 1)
  | .st f => (rdSt P (rdP P f).2 f.size, oneF P (rdSt P (rdP P f).2 f.size) f.size)
  | .pair a b => (fun _ => false, rdPair P (rdP P a).1 a.size (rdP P b).2)
  | .unit => (fun _ => false, fun _ l => l.isEmpty)
  | .ptr _ => (fun _ => false, fun _ _ => false)
def HasAll (W : World) (cs : List Value) : Prop := ∀ v ∈ cs, ∀ a len cap, v = .slice (some a) len cap → a.spot = none ∧ ∃ c row fz, W.heap[a.block]? = some (.cells c row fz) ∧ a.off ≤ c.size
theorem HasAll.sub {W : World} {cs ds : List Value} (h : HasAll W cs) (hs : ∀ v ∈ ds, v ∈ cs) : HasAll W ds := fun v hv => h v (hs v hv)
theorem list_of {α : Type} {n : Nat} {Q : Nat → α → Prop} (h : ∀ i, i < n → ∃ y, Q i y) : ∃ l : List α, l.length = n ∧ ∀ i (hi : i < l.length), Q i l[i] := by
  refine ⟨List.ofFn fun i : Fin n => Classical.choose (h i i.2), by simp, fun i hi => ?_⟩
  have hi' : i < n := by simpa using hi
  simpa using Classical.choose_spec (h i hi')
section
variable {P : Program} {H : Type} {enc : TypeId × Value → H} {W : World}
theorem add_none {a : Addr} (h : a.spot = none) (n : Nat) : a.add n = ⟨a.block, a.off + n, none⟩ := by
  obtain ⟨b, o, s⟩ := a
  simp only at h; subst h
  unfold Addr.add
  split
  · rename_i h; simp [h]
  · rfl
theorem chunk_of {a : Addr} {c : Array Value} {row : TypeId} {fz : Nat × Nat} (hs : a.spot = none) (hh : W.heap[a.block]? = some (.cells c row fz)) {m C : Nat} {ci : List Value} (h : W.cells? 0 (a.add m) C = some ci) :
    ci = (c.toList.drop (a.off + m)).take C ∧ (0 < C → a.off + m + C ≤ c.size) := by
  obtain ⟨_, hl, hg⟩ := World.cells?_some h
  have hcell : ∀ j, W.cell? ⟨a.block, j, none⟩ = c[j]? := by
    intro j; simp [World.cell?, hh]
  have hg' : ∀ i, i < C → c[a.off + m + i]? = ci[i]? := by
    intro i hi
    rw [← hg i hi, add_none hs, add_none (a := ⟨a.block, a.off + m, none⟩) rfl, hcell]
  constructor
  · apply List.ext_getElem?
    intro i
    rcases Nat.lt_or_ge i C with hi | hi
    · rw [List.getElem?_take_of_lt hi, List.getElem?_drop, ← hg' i hi]; simp
    · rw [List.getElem?_eq_none (by omega), List.getElem?_eq_none (by simp only [List.length_take]; omega)]
  · intro hC
    have := hg' (C - 1) (by omega)
    rw [List.getElem?_eq_getElem (by omega)] at this
    have := (Array.getElem?_eq_some_iff.1 this).1
    omega
theorem weightsAll_mem {e : TypeId} : ∀ {l : List (DataW H)} {i : Nat} {d : DataW H}, l[i]? = some d → ∀ n ∈ d.weights P e, n ∈ DataW.weightsAll P e l
  | d0 :: l, 0, d, h, n, hn => by
    simp only [List.getElem?_cons_zero, Option.some.injEq] at h
    subst h
    simp only [DataW.weightsAll, List.mem_append]; exact .inl hn
  | d0 :: l, i + 1, d, h, n, hn => by
    simp only [List.getElem?_cons_succ] at h
    simp only [DataW.weightsAll, List.mem_append]; exact .inr (weightsAll_mem h n hn)
  | [], i, d, h, _, _ => by simp at h
abbrev Rall (W : World) : Nat → Prop := fun b => b < W.heap.size
def ReadA (P : Program) (enc : TypeId × Value → H) (W : World) (t : Ty) : Prop :=
  ∀ (tid : TypeId) (fuel : Nat) (cs : List Value) (x : DataW H × List MemPlace), (rdP P t).1 tid = true → DataW.trod enc P W 0 (fun _ => true) true fuel tid cs = some x → (∀ n ∈ x.1.weights P tid, n ≤ reachBytes) → (hasList t = true → HasAll W cs) →
    ∃ y : t.den, CR W (Rall W) t y cs ∧ Wf t y
def ReadF (P : Program) (enc : TypeId × Value → H) (W : World) (t : Ty) : Prop :=
  ∀ (o : Nat) (fs : List Field) (n : Nat) (cs : List Value) (xs : List (DataW H × List MemPlace)), (rdP P t).2 o fs = true → xs.length = fs.length → (∀ (i : Nat) (f : Field), fs[i]? = some f → DataW.trod enc P W 0 (fun _ => true) true n f.type ((cs.drop f.offset).take (P.cellsOf f.type)) = xs[i]?) →
    (∀ m ∈ DataW.weightsEach P (fs.map (·.type)) (xs.map (·.1)), m ≤ reachBytes) → (hasList t = true → HasAll W cs) → ∃ y : t.den, CR W (Rall W) t y ((cs.drop o).take t.size) ∧ Wf t y
theorem chunk_sub {cs : List Value} (h : HasAll W cs) (o n : Nat) : HasAll W ((cs.drop o).take n) := h.sub fun v hv => List.mem_of_mem_drop (List.mem_of_mem_take hv)
theorem one_read {t : Ty} {s : Nat} (h : TypeId → Bool) (hs : s = t.size) (h1 : (rdP P t).1 = h) (h2 : (rdP P t).2 = oneF P h s) (hr : ReadA P enc W t) : ReadF P enc W t := by
  intro o fs n cs xs hf hl hx hw hh
  rw [h2] at hf
  unfold oneF at hf
  split at hf
  · rename_i f
    simp only [Bool.and_eq_true] at hf
    have e1 : f.offset = o := Nat.eq_of_beq_eq_true hf.1.2
    have e2 : P.cellsOf f.type = s := Nat.eq_of_beq_eq_true hf.2
    have := hx 0 f rfl
    rw [e1, e2, hs] at this
    match xs, hl with
    | [x], _ =>
      simp only [List.getElem?_cons_zero] at this
      refine hr f.type n _ x (by rw [h1]; exact hf.1.1) this (fun m hm => hw m ?_) fun hlst => chunk_sub (hh hlst) _ _
      simp only [List.map_cons, List.map_nil, DataW.weightsEach, List.append_nil]; exact hm
  · cases hf
theorem read_list {e : Ty} (ih : ReadA P enc W e) : ReadA P enc W (.list e) := by
  intro tid fuel cs x hr ht hw hh
  simp only [rdP, rdList] at hr
  split at hr
  · rename_i et hu
    simp only [Bool.and_eq_true, Bool.not_eq_true'] at hr
    obtain ⟨⟨⟨r1, r2⟩, r3⟩, r4⟩ := hr
    have hC : P.cellsOf et = e.size := Nat.eq_of_beq_eq_true r2
    have hB : ebLow e ≤ P.bytesOf et := Nat.le_of_ble_eq_true r3
    rcases DataW.trod_slice hu ht with ⟨rfl, rfl⟩ | ⟨a, len, cap, elems, rest, n, _, rfl, rfl, _, hlc, _, hlen, hel, hsp, _⟩
    · exact ⟨[], ⟨_, rfl, .inl ⟨rfl, rfl⟩⟩, by simp [Wf]⟩
    · obtain ⟨hs, c, row, fz, hheap, hoff⟩ := hh rfl _ (List.mem_singleton.2 rfl) a len cap rfl
      obtain ⟨hrl, hrest⟩ := hsp rfl
      rw [hC] at hel hrest
      simp only [DataW.weights, hu, List.length_map, List.mem_cons, List.mem_append] at hw
      have hget : ∀ i, i < len → ∃ (ci : List Value) (z : DataW H × List MemPlace), W.cells? 0 (a.add (i * e.size)) e.size = some ci ∧ DataW.trod enc P W 0 (fun _ => true) true n et ci = some z ∧ elems[i]? = some z := by
        intro i hi
        have h1 := hel i hi
        have h2 : ∃ z, elems[i]? = some z := ⟨elems[i]'(by omega), List.getElem?_eq_getElem (by omega)⟩
        obtain ⟨z, hz⟩ := h2
        rw [hz, Option.bind_eq_some_iff] at h1
        obtain ⟨ci, g1, g2⟩ := h1
        exact ⟨ci, z, g1, g2, hz⟩
      have hsize : a.off + cap * e.size ≤ c.size := by
        rcases Nat.eq_zero_or_pos (cap * e.size) with h0 | h0
        · omega
        · have hcp : 0 < cap := Nat.pos_of_mul_pos_right h0
          have hep : 0 < e.size := Nat.pos_of_mul_pos_left h0
          have : ∃ ci, W.cells? 0 (a.add ((cap - 1) * e.size)) e.size = some ci := by
            rcases Nat.lt_or_ge (cap - 1) len with hlt | hge
            · obtain ⟨ci, z, g1, _⟩ := hget _ hlt; exact ⟨ci, g1⟩
            · have h1 := hrest (cap - 1 - len) (by omega)
              have h2 : rest[cap - 1 - len]? = some (rest[cap - 1 - len]'(by omega)) := List.getElem?_eq_getElem (by omega)
              rw [h2, Option.bind_eq_some_iff] at h1
              obtain ⟨ci, g1, _⟩ := h1
              exact ⟨ci, by rw [show cap - 1 = len + (cap - 1 - len) by omega]; exact g1⟩
          obtain ⟨ci, g1⟩ := this
          have := (chunk_of hs hheap g1).2 hep
          have e1 : (cap - 1) * e.size + e.size = cap * e.size := by
            rw [← Nat.succ_mul]; congr 1; omega
          omega
      obtain ⟨l, hl, hq⟩ := list_of (n := len) (Q := fun i (y : e.den) => CR W (Rall W) e y ((c.toList.drop (a.off + i * e.size)).take e.size) ∧ Wf e y) (fun i hi => by
        obtain ⟨ci, z, g1, g2, g3⟩ := hget i hi
        have hci := (chunk_of hs hheap g1).1
        rw [← hci]
        refine ih et n ci z r1 g2 (fun m hm => hw m (.inr (.inl ?_))) (fun h => by rw [r4] at h; cases h)
        exact weightsAll_mem (i := i) (by rw [List.getElem?_map, g3]; rfl) m hm)
      refine ⟨l, ⟨_, rfl, .inr ⟨a.block, a.off, cap, c, row, fz, ?_, by omega, (Array.getElem?_eq_some_iff.1 hheap).1, hheap, hsize, fun i hi => (hq i hi).1⟩⟩, ?_, fun x hx => ?_⟩
      · obtain ⟨b, o, s⟩ := a
        simp only at hs; subst hs; rw [hl]
      · have := hw _ (.inl rfl)
        refine Nat.le_trans ?_ this
        exact Nat.mul_le_mul (by omega) hB
      · obtain ⟨i, hi, rfl⟩ := List.getElem_of_mem hx
        exact (hq i hi).2
  · cases hr
theorem read_ok : ∀ t : Ty, ReadA P enc W t ∧ ReadF P enc W t := by
  have leaf : ∀ {t : Ty} {s : Nat} (h : TypeId → Bool), s = t.size → (rdP P t).1 = h → (rdP P t).2 = oneF P h s → ReadA P enc W t → ReadA P enc W t ∧ ReadF P enc W t :=
    fun h hs h1 h2 hr => ⟨hr, one_read h hs h1 h2 hr⟩
  intro t
  induction t with
  | int k =>
    refine leaf (rdInt P k) (s := 1) rfl rfl rfl fun tid fuel cs x hr ht hw hh => ?_
    simp only [rdP, rdInt] at hr
    split at hr
    · rename_i k' hu
      have := of_decide_eq_true hr; subst this
      obtain ⟨n, rfl, rfl, hwf⟩ := DataW.trod_int hu ht
      simp only [Lit.wf, Bool.and_eq_true, decide_eq_true_eq] at hwf
      exact ⟨n, rfl, hwf⟩
    · cases hr
  | bool =>
    refine leaf (rdBool P) (s := 1) rfl rfl rfl fun tid fuel cs x hr ht hw hh => ?_
    simp only [rdP, rdBool] at hr
    split at hr
    · rename_i hu
      obtain ⟨b, rfl, rfl⟩ := DataW.trod_bool hu ht
      exact ⟨b, rfl, trivial⟩
    · cases hr
  | str =>
    refine leaf (rdStr P) (s := 1) rfl rfl rfl fun tid fuel cs x hr ht hw hh => ?_
    simp only [rdP, rdStr] at hr
    split at hr
    · rename_i hu
      obtain ⟨s, rfl, rfl, _⟩ := DataW.trod_string hu ht
      refine ⟨s, rfl, ?_⟩
      have := hw s.data.toList.length (by simp [DataW.weights])
      have h2 : s.size ≤ reachBytes := by simpa using this
      exact h2
    · cases hr
  | list e ih => exact leaf _ (s := 1) rfl rfl rfl (read_list ih.1)
  | st f ih =>
    refine leaf (rdSt P (rdP P f).2 f.size) (s := f.size) rfl rfl rfl fun tid fuel cs x hr ht hw hh => ?_
    simp only [rdP, rdSt] at hr
    split at hr
    · rename_i fs hu
      simp only [Bool.and_eq_true] at hr
      obtain ⟨xs, n, _, rfl, hl, hxl, hx⟩ := DataW.trod_struct hu ht
      have hsz : P.cellsOf tid = f.size := Nat.eq_of_beq_eq_true hr.2
      simp only [DataW.weights, hu] at hw
      obtain ⟨y, h1, h2⟩ := ih.2 0 fs.toList n cs xs hr.1 (by simpa using hxl) (fun i fd hfd => hx i fd (by simpa using hfd)) hw hh
      rw [List.drop_zero, List.take_of_length_le (by omega)] at h1
      exact ⟨y, h1, h2⟩
    · cases hr
  | pair a b iha ihb =>
    refine ⟨fun tid fuel cs x hr => by simp [rdP] at hr, fun o fs n cs xs hf hl hx hw hh => ?_⟩
    simp only [rdP, rdPair] at hf
    split at hf
    · rename_i f fs
      simp only [Bool.and_eq_true] at hf
      obtain ⟨⟨⟨f1, f2⟩, f3⟩, f4⟩ := hf
      have e1 : f.offset = o := Nat.eq_of_beq_eq_true f2
      have e2 : P.cellsOf f.type = a.size := Nat.eq_of_beq_eq_true f3
      match xs, hl with
      | x :: xs, hl =>
        have h0 := hx 0 f rfl
        rw [e1, e2] at h0
        simp only [List.getElem?_cons_zero] at h0
        simp only [List.map_cons, DataW.weightsEach, List.mem_append] at hw
        obtain ⟨y, y1, y2⟩ := iha.1 f.type n _ x f1 h0 (fun m hm => hw m (.inl hm)) fun h => chunk_sub (hh (by simp [hasList, h])) _ _
        obtain ⟨z, z1, z2⟩ := ihb.2 (o + a.size) fs n cs xs f4 (by simpa using hl) (fun i fd hfd => by have := hx (i + 1) fd (by simpa using hfd); simpa using this) (fun m hm => hw m (.inr hm)) fun h => hh (by simp [hasList, h])
        refine ⟨(y, z), ⟨_, _, ?_, y1, z1⟩, y2, z2⟩
        show (cs.drop o).take (a.size + b.size) = _
        rw [List.take_add, List.drop_drop]
    · cases hf
  | unit =>
    refine ⟨fun tid fuel cs x hr => by simp [rdP] at hr, fun o fs n cs xs hf hl hx hw hh => ⟨(), ?_, trivial⟩⟩
    show (cs.drop o).take 0 = []
    simp
  | ptr t _ => exact ⟨fun tid fuel cs x hr => by simp [rdP] at hr, fun o fs n cs xs hf => by simp [rdP] at hf⟩
end
end Go.Ev
set_option linter.unusedVariables false
namespace Go.Ev
open Go Go.ChangeShapes Go.RowKit
section
variable {P : Program} {H : Type} {enc : TypeId × Value → H} {W : World}
theorem rowAt_off {p : Program} {fits : TypeId → Bool} : ∀ {d : Nat} {e : TypeId} {count off n N : Nat}, rowAt p fits d e count off n = true → count * p.cellsOf e ≤ N → off ≤ N := by
  intro d e count off n N h hN
  cases d with
  | zero => simp [rowAt] at h
  | succ d =>
    unfold rowAt at h
    by_cases hs : p.cellsOf e = 0
    · simp [hs] at h
    · simp only [hs, if_false, Bool.or_eq_true, Bool.and_eq_true, beq_iff_eq, decide_eq_true_eq] at h
      have hd := Nat.div_add_mod off (p.cellsOf e)
      have hm := Nat.mod_lt off (Nat.pos_of_ne_zero hs)
      rcases h with h | h
      · have h1 : off / p.cellsOf e ≤ count := by omega
        have h2 := Nat.mul_le_mul_left (p.cellsOf e) h1
        rw [Nat.mul_comm (p.cellsOf e) count] at h2
        omega
      · have h1 : off / p.cellsOf e + 1 ≤ count := h.1
        have h2 := Nat.mul_le_mul_left (p.cellsOf e) h1
        rw [Nat.mul_comm (p.cellsOf e) count, Nat.mul_add] at h2
        omega
theorem liesAt_off {p : Program} : ∀ {d : Nat} {e : TypeId} {count off : Nat} {u : TypeId} {n N : Nat}, liesAt p d e count off u n = true → count * p.cellsOf e ≤ N → off ≤ N := by
  intro d
  induction d with
  | zero => intro e count off u n N h; simp [liesAt] at h
  | succ d ih =>
    intro e count off u n N h hN
    unfold liesAt at h
    simp only [Bool.or_eq_true] at h
    rcases h with h | h
    · exact rowAt_off h hN
    · split at h
      · exact ih h hN
      · cases h
theorem cell_has {r : Reach} {base : Nat} {u : TypeId} {a : Addr} {len cap : Nat} (h : Cell.okWide P W r base u (.slice (some a) len cap)) : a.spot = none ∧ ∃ c row fz, W.heap[a.block]? = some (.cells c row fz) ∧ a.off ≤ c.size := by
  have h' : Cell.ok P W r base u (.slice (some a) len cap) := by
    unfold Cell.okWide at h
    split at h <;> simp_all
  unfold Cell.ok at h'
  split at h' <;> simp_all
  obtain ⟨_, _, _, hs, row, cells, hsh, hl⟩ := h'
  refine ⟨hs, ?_⟩
  unfold World.shape? at hsh
  split at hsh
  · rename_i c el fz hh
    simp only [Option.some.injEq, Prod.mk.injEq] at hsh
    obtain ⟨rfl, rfl⟩ := hsh
    exact ⟨c, ⟨_, fz.1, fz.2, hh⟩, liesAt_off hl (Nat.div_mul_le_self _ _)⟩
  · cases hsh
theorem cells_one {v : Value} (h : ∀ cs, v ≠ .agg cs) : v.cells = #[v] := by
  cases v <;> first | rfl | exact absurd rfl (h _)
theorem ok_noAgg {r : Reach} {base : Nat} {t : TypeId} {cs : Array Value} (h : Cell.okWide P W r base t (.agg cs)) : False := by
  have h' : Cell.ok P W r base t (.agg cs) := by
    unfold Cell.okWide at h
    split at h <;> simp_all
  unfold Cell.ok at h'
  split at h' <;> simp_all
theorem has_of_ok {r : Reach} {base : Nat} {t : TypeId} {v : Value} (h : Value.okWide P W r base t v) : HasAll W v.cells.toList := by
  have one : Cell.okWide P W r base t v → HasAll W v.cells.toList := by
    intro h
    have hv : ∀ cs, v ≠ .agg cs := fun cs e => by subst e; exact ok_noAgg h
    rw [cells_one hv]
    intro c hc a len cap e
    simp only [List.mem_singleton] at hc
    subst hc; subst e
    exact cell_has h
  have row : (∃ cs, v = .agg cs ∧ cs.size = P.cellsOf t ∧ Row.okWide P W r base t cs) → HasAll W v.cells.toList := by
    rintro ⟨cs, rfl, _, ts, _, _, hrow⟩ c hc a len cap e
    subst e
    obtain ⟨i, hi⟩ := List.mem_iff_getElem?.1 hc
    obtain ⟨u, _, hu⟩ := hrow i _ (by simpa [Value.cells] using hi)
    exact cell_has hu
  unfold Value.okWide at h
  split at h
  · exact row h
  · exact row h
  · exact one h
def readsA (P : Program) : List PSh → List TypeId → Bool
  | [], [] => true
  | .dat t :: A, tid :: ts => (rdP P t).1 tid && readsA P A ts
  | _, _ => false
def WfP : (p : PSh) → p.den → Prop
  | .dat t, x => Wf t x
  | _, _ => True
def WfA : (A : List PSh) → denA A → Prop
  | [], _ => True
  | p :: A, x => WfP p (hdA x) ∧ WfA A (tlA x)
theorem vr_of {t : Ty} {tid : TypeId} {r : Reach} {base : Nat} {v : Value} {y : t.den} (hr : (rdP P t).1 tid = true) (hok : Value.okWide P W r base tid v) (h : CR W (Rall W) t y v.cells.toList) : VR W (Rall W) t y v := by
  unfold VR
  cases t with
  | st f =>
    simp only [isSt, cond_true]
    simp only [rdP, rdSt] at hr
    split at hr
    · rename_i fs hu
      unfold Value.okWide at hok
      rw [hu] at hok
      obtain ⟨cs, rfl, _, _⟩ := hok
      exact ⟨cs.toList, by simp, h⟩
    · cases hr
  | pair a b => simp [rdP] at hr
  | unit => simp [rdP] at hr
  | ptr t => simp [rdP] at hr
  | int k =>
    simp only [isSt, cond_false]
    simp only [rdP, rdInt] at hr
    split at hr
    · rename_i hu
      unfold Value.okWide at hok
      rw [hu] at hok
      rwa [cells_one fun cs e => by subst e; exact ok_noAgg hok] at h
    · cases hr
  | bool =>
    simp only [isSt, cond_false]
    simp only [rdP, rdBool] at hr
    split at hr
    · rename_i hu
      unfold Value.okWide at hok
      rw [hu] at hok
      rwa [cells_one fun cs e => by subst e; exact ok_noAgg hok] at h
    · cases hr
  | str =>
    simp only [isSt, cond_false]
    simp only [rdP, rdStr] at hr
    split at hr
    · rename_i hu
      unfold Value.okWide at hok
      rw [hu] at hok
      rwa [cells_one fun cs e => by subst e; exact ok_noAgg hok] at h
    · cases hr
  | list e =>
    simp only [isSt, cond_false]
    simp only [rdP, rdList] at hr
    split at hr
    · rename_i hu
      unfold Value.okWide at hok
      rw [hu] at hok
      rwa [cells_one fun cs e => by subst e; exact ok_noAgg hok] at h
    · cases hr
theorem args_ok {r : Reach} {base : Nat} : ∀ {A : List PSh} {ts : List TypeId} {vs : List Value} {ds : List (DataW H)} {ps : List MemPlace}, readsA P A ts = true → DataW.TrodAll enc P W 0 (fun _ => true) true ts vs ds ps →
    (∀ (j : Nat) t v, ts[j]? = some t → vs[j]? = some v → Value.okWide P W r base t v) → (∀ n ∈ DataW.weightsEach P ts ds, n ≤ reachBytes) → ∃ x : denA A, ArgsR W (Rall W) A x vs ∧ WfA A x := by
  intro A
  induction A with
  | nil =>
    intro ts vs ds ps hr ht _ _
    cases ts with
    | nil => obtain ⟨rfl, _, _⟩ := trodAll_nil ht; exact ⟨(), rfl, trivial⟩
    | cons t ts => simp [readsA] at hr
  | cons p A ih =>
    intro ts vs ds ps hr ht hok hw
    cases p with
    | dat t =>
      cases ts with
      | nil => simp [readsA] at hr
      | cons tid ts =>
        simp only [readsA, Bool.and_eq_true] at hr
        obtain ⟨v, vs, d, ds, p, q, rfl, rfl, rfl, h1, h2⟩ := trodAll_cons ht
        simp only [DataW.weightsEach, List.mem_append] at hw
        obtain ⟨fuel, h1⟩ := h1
        have hv := hok 0 tid v rfl rfl
        obtain ⟨y, y1, y2⟩ := (read_ok t).1 tid fuel _ _ hr.1 h1 (fun n hn => hw n (.inl hn)) fun _ => has_of_ok hv
        obtain ⟨x, x1, x2⟩ := ih hr.2 h2 (fun j t v hj hv => hok (j + 1) t v (by simpa using hj) (by simpa using hv)) fun n hn => hw n (.inr hn)
        have hvr := vr_of hr.1 hv y1
        cases A with
        | nil => exact ⟨y, ⟨v, vs, rfl, hvr, x1⟩, y2, x2⟩
        | cons q A => exact ⟨(y, x), ⟨v, vs, rfl, hvr, x1⟩, y2, x2⟩
    | _ => simp [readsA] at hr
theorem wins_dat : ∀ {A : List PSh} {ts : List TypeId} {vs : List Value}, readsA P A ts = true → wins A vs = [] := by
  intro A
  induction A with
  | nil => intro ts vs _; cases vs <;> rfl
  | cons p A ih =>
    intro ts vs h
    cases p with
    | dat t =>
      cases ts with
      | nil => simp [readsA] at h
      | cons tid ts =>
        simp only [readsA, Bool.and_eq_true] at h
        cases vs with
        | nil => rfl
        | cons v vs => simp [wins, winOf, ih h.2]
    | _ => simp [readsA] at h
theorem trodAll_below (hl : laidOutB P = true) {W' : World} (hb : Below W.heap.size W W') : ∀ {ts : List TypeId} {vs : List Value} {ds : List (DataW H)} {ps : List MemPlace}, (∀ t ∈ ts, P.readableRec t = true ∧ t < P.types.size) →
    DataW.TrodAll enc P W 0 (fun _ => true) true ts vs ds ps → (∀ x ∈ ps, x.block < W.heap.size) → DataW.TrodAll enc P W' 0 (fun b => decide (b < W.heap.size)) true ts vs ds ps := by
  intro ts
  induction ts with
  | nil => intro vs ds ps _ h _; obtain ⟨rfl, rfl, rfl⟩ := trodAll_nil h; exact trodAll_mk0
  | cons t ts ih =>
    intro vs ds ps hr h hlt
    obtain ⟨v, vs, d, ds, p, q, rfl, rfl, rfl, h1, h2⟩ := trodAll_cons h
    obtain ⟨r1, r2⟩ := hr t (by simp)
    exact trodAll_cons_mk (Below.trod hl r1 r2 h1 hb fun x hx => hlt x (by simp [hx])) (ih (fun t ht => hr t (by simp [ht])) h2 fun x hx => hlt x (by simp [hx]))
theorem shut_true {base : Nat} {sp : Nat → Bool} {held : Bool} {t : TypeId} (ht : P.underlying t = some .bool) (b : Bool) : DataW.Trod enc P W base sp held t (.bool b) (.lit (.bool b)) [] := by
  refine ⟨1, ?_⟩
  simp [DataW.trod, ht, Value.cells]
end
section
variable {H : Type} {enc : TypeId × Value → H}
end
end Go.Ev
