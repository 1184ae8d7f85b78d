/- Orders of elements: the inverse, the rearranged list, the reference's look at an order.  Conditions: those that each theorem names. -/
import Derived.Test.YtjdambgnmphakaaPlA
import Derived.Test.YtjdambgnmphakaaShX
import Derived.Test.YtjdambgnmphakaaE4
import Derived.KernelRfl
set_option linter.unusedVariables false
set_option linter.unusedSimpArgs false
set_option maxHeartbeats 0
namespace Go.Pl
open Go Go.Ev Go.Sh
theorem rdN (l : List Int) (i : Nat) : rd l (i : Int) = l.getD i 0 := rfl
theorem toN (n : Nat) : (n : Int).toNat = n := by omega
theorem incN {i : Nat} (h : (i : Int) ≤ 100000000000000) : w64 ((i : Int) + 1) = ((i + 1 : Nat) : Int) := by rw [w64_id (by omega) (by omega)]; omega
theorem rd_set {l : List Int} {p q v : Int} (hp : 0 ≤ p) (hl : p < l.length) (hq : 0 ≤ q) : rd (l.set p.toNat v) q = if p = q then v else rd l q := by
  obtain ⟨a, rfl⟩ : ∃ a : Nat, p = a := ⟨p.toNat, by omega⟩
  obtain ⟨b, rfl⟩ : ∃ b : Nat, q = b := ⟨q.toNat, by omega⟩
  rw [rdN, rdN, toN]
  rw [List.getD_eq_getElem?_getD, List.getD_eq_getElem?_getD, List.getElem?_set]
  by_cases h : a = b
  · subst h
    rw [if_pos rfl, if_pos (by omega), if_pos rfl]; rfl
  · rw [if_neg h, if_neg (by omega)]
theorem rd_mem {l : List Int} {i : Nat} (h : i < l.length) : rd l (i : Int) ∈ l := by
  rw [rdN, List.getD_eq_getElem?_getD, List.getElem?_eq_getElem h]
  exact List.getElem_mem h
theorem mem_rd {l : List Int} {v : Int} (h : v ∈ l) : ∃ i : Nat, i < l.length ∧ rd l (i : Int) = v := by
  obtain ⟨i, hi, he⟩ := List.mem_iff_getElem.1 h
  exact ⟨i, hi, by rw [rdN, List.getD_eq_getElem?_getD, List.getElem?_eq_getElem hi]; exact he⟩
theorem take_one {l : List Int} {i : Nat} (h : i < l.length) : l.take (i + 1) = l.take i ++ [rd l (i : Int)] := by
  rw [rdN, List.getD_eq_getElem?_getD, List.getElem?_eq_getElem h, List.take_add_one, List.getElem?_eq_getElem h]; rfl
theorem ext_rd {a b : List Int} (h : a.length = b.length) (hr : ∀ i : Nat, i < a.length → rd a (i : Int) = rd b (i : Int)) : a = b := by
  apply List.ext_getElem h
  intro i h1 h2
  have := hr i h1
  rw [rdN, rdN, List.getD_eq_getElem?_getD, List.getD_eq_getElem?_getD, List.getElem?_eq_getElem h1, List.getElem?_eq_getElem h2] at this
  exact this
theorem Numb_l0 (k : Nat) {a b : List Int} (hl : a.length = b.length) (hn : (a.length : Int) ≤ 100000000000000) : ∀ (m i : Nat), i ≤ a.length → a.length - i < m → a.take i = b.take i → brindlewoodref3_Numbers.l0 k m a b i = some (if a = b then .inl () else .inr false) := by
  intro m
  induction m with
  | zero => intro i _ h; omega
  | succ m ih =>
    intro i h1 h2 h3
    simp only [brindlewoodref3_Numbers.l0, brindlewoodref3_Numbers.b0]
    by_cases h : i < a.length
    · rw [dlt_t (by omega), inR_t (by omega) (by omega), inR_t (by omega) (by omega), incN (by omega)]
      simp only [cond_true]
      by_cases he : rd a (i : Int) = rd b (i : Int)
      · rw [bne_f he]
        exact ih (i + 1) (by omega) (by omega) (by rw [take_one h, take_one (by omega), h3, he])
      · rw [bne_t he, if_neg (fun e => he (by rw [e]))]; rfl
    · have : i = a.length := by omega
      subst this
      rw [dlt_f (by omega), if_pos (by rw [List.take_length, hl, List.take_length] at h3; exact h3)]; rfl
theorem Numb_ok {k : Nat} {a b : List Int} (ha : (a.length : Int) ≤ 100000000000000) (hk : 100000000000001 < k) : brindlewoodref3_Numbers k a b = some (decide (a = b)) := by
  unfold brindlewoodref3_Numbers
  by_cases hl : a.length = b.length
  · have h := Numb_l0 k hl ha k 0 (by omega) (by omega) rfl
    have h' : brindlewoodref3_Numbers.l0 k k a b 0 = _ := h
    rw [bne_f (by omega), h']
    by_cases he : a = b
    · rw [if_pos he, decide_eq_true he]; rfl
    · rw [if_neg he, decide_eq_false he]; rfl
  · rw [bne_t (by omega), decide_eq_false (fun e => hl (by rw [e]))]; rfl
def badAt (o : List Int) (i : Nat) : Int := if rd o (i : Int) < 0 ∨ (o.length : Int) ≤ rd o (i : Int) then 4 else if rd o (i : Int) ∈ o.take i then 8 else 0
def badFrom (o : List Int) : Nat → Nat → Int × Int
  | 0, _ => (0, 0)
  | m + 1, i => if badAt o i = 0 then badFrom o m (i + 1) else (badAt o i, i)
theorem badFrom_at {o : List Int} {i : Nat} (h : i < o.length) : badFrom o (o.length - i) i = if badAt o i = 0 then badFrom o (o.length - (i + 1)) (i + 1) else (badAt o i, (i : Int)) := by
  rw [show o.length - i = (o.length - (i + 1)) + 1 by omega]; rfl
theorem badFrom_none {o : List Int} : ∀ (m i : Nat), (badFrom o m i).1 = 0 → ∀ j, i ≤ j → j < i + m → badAt o j = 0 := by
  intro m
  induction m with
  | zero => intro i _ j h1 h2; omega
  | succ m ih =>
    intro i h j h1 h2
    simp only [badFrom] at h
    by_cases hb : badAt o i = 0
    · rw [if_pos hb] at h
      by_cases hj : j = i
      · subst hj; exact hb
      · exact ih (i + 1) h j (by omega) (by omega)
    · rw [if_neg hb] at h
      exact absurd h hb
theorem badFrom_zero {o : List Int} : ∀ (m i : Nat), (∀ j, i ≤ j → j < i + m → badAt o j = 0) → badFrom o m i = (0, 0) := by
  intro m
  induction m with
  | zero => intro i _; rfl
  | succ m ih =>
    intro i h
    simp only [badFrom]
    rw [if_pos (h i (by omega) (by omega))]
    exact ih (i + 1) fun j h1 h2 => h j (by omega) (by omega)
theorem badFrom_eq {o : List Int} : ∀ (m i : Nat), (badFrom o m i).1 = 0 → badFrom o m i = (0, 0) := fun m i h => badFrom_zero m i (badFrom_none m i h)
structure Good (o : List Int) : Prop where
  rng : ∀ i : Nat, i < o.length → 0 ≤ rd o (i : Int) ∧ rd o (i : Int) < o.length
  inj : ∀ i j : Nat, i < o.length → j < o.length → rd o (i : Int) = rd o (j : Int) → i = j
theorem bad_good {o : List Int} (h : ∀ j, j < o.length → badAt o j = 0) : Good o := by
  have hr : ∀ i : Nat, i < o.length → 0 ≤ rd o (i : Int) ∧ rd o (i : Int) < o.length := by
    intro i hi
    have := h i hi
    unfold badAt at this
    split at this
    · cases this
    · omega
  have hn : ∀ i j : Nat, i < j → j < o.length → rd o (i : Int) ≠ rd o (j : Int) := by
    intro i j hij hj e
    have := h j hj
    have hm : rd o (j : Int) ∈ o.take j := by
      rw [← e]
      have := rd_mem (l := o.take j) (i := i) (by rw [List.length_take]; omega)
      rw [rdN, List.getD_eq_getElem?_getD, List.getElem?_take, if_pos hij] at this
      rw [rdN, List.getD_eq_getElem?_getD]; exact this
    unfold badAt at this
    split at this
    · cases this
    · first
        | (rw [if_pos hm] at this; cases this)
        | cases this
  refine ⟨hr, fun i j hi hj e => ?_⟩
  by_cases h1 : i = j
  · exact h1
  · by_cases h2 : i < j
    · exact absurd e (hn i j h2 hj)
    · exact absurd e.symm (hn j i (by omega) hi)
theorem good_bad {o : List Int} (h : Good o) : ∀ j, j < o.length → badAt o j = 0 := by
  intro j hj
  have h1 := h.rng j hj
  unfold badAt
  rw [if_neg (by omega), if_neg]
  intro hm
  obtain ⟨i, hi, he⟩ := mem_rd hm
  rw [List.length_take] at hi
  have e : rd (o.take j) (i : Int) = rd o (i : Int) := by
    rw [rdN, rdN, List.getD_eq_getElem?_getD, List.getD_eq_getElem?_getD, List.getElem?_take, if_pos (by omega)]
  rw [e] at he
  have := h.inj i j (by omega) hj he
  omega
theorem nodup_len : ∀ (n : Nat) (l : List Int), l.Nodup → (∀ x ∈ l, 0 ≤ x ∧ x < n) → l.length ≤ n := by
  intro n
  induction n with
  | zero =>
    intro l _ h
    cases l with
    | nil => simp
    | cons x l => have := h x (by simp); omega
  | succ n ih =>
    intro l hn h
    have h1 := ih (l.erase (n : Int)) (hn.erase _) (fun x hx => by
      obtain ⟨h2, h3⟩ := (List.Nodup.mem_erase_iff hn).1 hx
      have := h x h3
      omega)
    have h2 := List.length_erase (a := (n : Int)) (l := l)
    split at h2 <;> omega
theorem good_nodup {o : List Int} (h : Good o) : o.Nodup := by
  refine List.pairwise_iff_getElem.2 fun i j hi hj hij e => ?_
  have := h.inj i j hi hj (by rw [rdN, rdN, List.getD_eq_getElem?_getD, List.getD_eq_getElem?_getD, List.getElem?_eq_getElem hi, List.getElem?_eq_getElem hj, e])
  omega
theorem good_onto {o : List Int} (h : Good o) {v : Nat} (hv : v < o.length) : ∃ j : Nat, j < o.length ∧ rd o (j : Int) = v := by
  by_cases hm : (v : Int) ∈ o
  · exact mem_rd hm
  · exfalso
    have := nodup_len o.length ((v : Int) :: o) (List.nodup_cons.2 ⟨hm, good_nodup h⟩) (fun x hx => by
      rcases List.mem_cons.1 hx with rfl | hx
      · omega
      · obtain ⟨i, hi, rfl⟩ := mem_rd hx
        exact h.rng i hi)
    rw [List.length_cons] at this; omega
def invL (o : List Int) (i : Nat) : List Int := (List.range i).foldl (fun out (j : Nat) => out.set (rd o (j : Int)).toNat (j : Int)) (List.replicate o.length 0)
theorem invL_succ (o : List Int) (i : Nat) : invL o (i + 1) = (invL o i).set (rd o (i : Int)).toNat (i : Int) := by
  unfold invL
  rw [List.range_succ, List.foldl_append]; rfl
theorem invL_length (o : List Int) : ∀ i : Nat, (invL o i).length = o.length := by
  intro i
  induction i with
  | zero => simp [invL]
  | succ i ih => rw [invL_succ, List.length_set, ih]
theorem invL_rd {o : List Int} (h : Good o) : ∀ i : Nat, i ≤ o.length → ∀ j : Nat, j < i → rd (invL o i) (rd o (j : Int)) = j := by
  intro i
  induction i with
  | zero => intro _ j hj; omega
  | succ i ih =>
    intro hi j hj
    have h1 := h.rng i (by omega)
    have h2 := h.rng j (by omega)
    rw [invL_succ, rd_set h1.1 (by rw [invL_length]; exact h1.2) h2.1]
    by_cases e : i = j
    · subst e; rw [if_pos rfl]
    · rw [if_neg (fun e' => e (h.inj i j (by omega) (by omega) e'))]
      exact ih (by omega) j (by omega)
theorem inv_good {o : List Int} (h : Good o) : Good (invL o o.length) := by
  have hl := invL_length o o.length
  have key : ∀ i : Nat, i < o.length → ∃ j : Nat, j < o.length ∧ rd o (j : Int) = i ∧ rd (invL o o.length) (i : Int) = j := by
    intro i hi
    obtain ⟨j, hj, e⟩ := good_onto h hi
    refine ⟨j, hj, e, ?_⟩
    rw [← e]
    exact invL_rd h o.length (Nat.le_refl _) j hj
  refine ⟨fun i hi => ?_, fun i j hi hj e => ?_⟩
  · obtain ⟨j, hj, _, e⟩ := key i (by omega)
    rw [e]; omega
  · obtain ⟨a, ha, e1, e2⟩ := key i (by omega)
    obtain ⟨b, hb, e3, e4⟩ := key j (by omega)
    rw [e2, e4] at e
    have : a = b := by omega
    subst this
    omega
theorem hasK_iff {K : List Int} {v : Int} : hasK K v = true ↔ v ∈ K := by
  unfold hasK
  rw [List.any_eq_true]
  constructor
  · rintro ⟨x, hx, he⟩
    have : x = v := by simpa using he
    rw [← this]; exact hx
  · intro h
    exact ⟨v, h, by simp⟩
theorem mem_addK {K : List Int} {n v : Int} : v ∈ addK K n ↔ v ∈ K ∨ v = n := by
  unfold addK
  cases h : hasK K n
  · simp
  · simp only [cond_true]
    constructor
    · exact .inl
    · rintro (h1 | rfl)
      · exact h1
      · exact hasK_iff.1 h
theorem Inverse_l0 (k : Nat) {o : List Int} (hn : (o.length : Int) ≤ 50000000000000) (f : Int × Int) : ∀ (m i : Nat) (K : List Int), i ≤ o.length → o.length - i < m → (∀ v, v ∈ K ↔ v ∈ o.take i) →
    ordering_Inverse.l0 k m o f (invL o i) K o o.length i = some (if (badFrom o (o.length - i) i).1 = 0 then .inl (f, invL o o.length) else .inr ([], badFrom o (o.length - i) i)) := by
  have hat : ∀ a b : Int, ordering_at a b = some (a, b) := fun _ _ => rfl
  intro m
  induction m with
  | zero => intro i K _ h; omega
  | succ m ih =>
    intro i K h1 h2 hK
    simp only [ordering_Inverse.l0, ordering_Inverse.b0]
    by_cases h : i < o.length
    · rw [dlt_t (by omega), inR_t (by omega) (by omega), badFrom_at h]
      simp only [cond_true]
      by_cases hneg : rd o (i : Int) < 0
      · have hb : badAt o i = 4 := by unfold badAt; rw [if_pos (.inl hneg)]
        rw [dlt_t hneg, hb]; rfl
      · rw [dlt_f (by omega)]
        simp only [cond_false]
        by_cases hbig : (o.length : Int) ≤ rd o (i : Int)
        · have hb : badAt o i = 4 := by unfold badAt; rw [if_pos (.inr hbig)]
          rw [dle_t hbig, hb]; rfl
        · rw [decide_eq_false hbig]
          simp only [cond_false, joinB_inl]
          by_cases hm : rd o (i : Int) ∈ o.take i
          · have hb : badAt o i = 8 := by unfold badAt; rw [if_neg (by omega), if_pos hm]
            rw [hasK_iff.2 ((hK _).2 hm), hb]; rfl
          · have hb : badAt o i = 0 := by unfold badAt; rw [if_neg (by omega), if_neg hm]
            have hf : hasK K (rd o (i : Int)) = false := by
              cases hc : hasK K (rd o (i : Int)) with
              | false => rfl
              | true => exact absurd ((hK _).1 (hasK_iff.1 hc)) hm
            rw [hf, inR_t (by omega) (by rw [invL_length]; omega), if_pos hb, incN (by omega), ← invL_succ]
            simp only [cond_false, cond_true]
            exact ih (i + 1) _ (by omega) (by omega) (fun v => by rw [mem_addK, hK, take_one h]; simp)
    · have : i = o.length := by omega
      subst this
      rw [dlt_f (by omega), Nat.sub_self]; rfl
theorem Inverse_ok {k : Nat} (hk : 100000000000001 < k) {o : List Int} (hn : o.length ≤ 17592186043904) : ordering_Inverse k o = some (if (badFrom o o.length 0).1 = 0 then (invL o o.length, 0, 0) else ([], badFrom o o.length 0)) := by
  have h := Inverse_l0 k (o := o) (by omega) (0, 0) k 0 [] (by omega) (by omega) (fun v => by simp)
  have h' : ordering_Inverse.l0 k k o (0, 0) (List.replicate o.length (0 : Int)) [] o o.length 0 = _ := h
  unfold ordering_Inverse
  rw [dle_t (show (0 : Int) ≤ (o.length : Int) by omega), dle_t (Int.le_refl (o.length : Int)), toN, fits_t (by omega)]
  simp only [Bool.and_self, cond_true]
  rw [h', Nat.sub_zero]
  by_cases hb : (badFrom o o.length 0).1 = 0
  · rw [if_pos hb, if_pos hb]; rfl
  · rw [if_neg hb, if_neg hb]; rfl
def perm (l o : List Int) : List Int := o.map fun i => rd l i
theorem perm_length (l o : List Int) : (perm l o).length = o.length := by simp [perm]
theorem perm_rd {l o : List Int} {i : Nat} (h : i < o.length) : rd (perm l o) (i : Int) = rd l (rd o (i : Int)) := by
  show (perm l o).getD (i : Int).toNat 0 = rd l (o.getD (i : Int).toNat 0)
  rw [toN, List.getD_eq_getElem?_getD, List.getD_eq_getElem?_getD]
  unfold perm
  rw [List.getElem?_map, List.getElem?_eq_getElem h]; rfl
theorem Permute_l0 (k : Nat) {l o : List Int} (hn : o.length ≤ 17592186043904) (hg : ∀ i : Nat, i < o.length → 0 ≤ rd o (i : Int) ∧ rd o (i : Int) < l.length) (f : Int × Int) : ∀ (m i : Nat), i ≤ o.length → o.length - i < m →
    ordering_Permute_int.l0 k m l f (perm l (o.take i)) o o.length i = some (.inl (f, perm l o)) := by
  intro m
  induction m with
  | zero => intro i _ h; omega
  | succ m ih =>
    intro i h1 h2
    simp only [ordering_Permute_int.l0, ordering_Permute_int.b0]
    by_cases h : i < o.length
    · obtain ⟨g1, g2⟩ := hg i h
      have e : perm l (o.take i) ++ [rd l (rd o (i : Int))] = perm l (o.take (i + 1)) := by
        rw [take_one h]; simp [perm]
      rw [dlt_t (by omega), inR_t (by omega) (by omega), inR_t g1 g2, fits_t (by rw [perm_length, List.length_take, List.length_singleton]; omega), e, incN (by omega)]
      simp only [cond_true]
      exact ih (i + 1) (by omega) (by omega)
    · have : i = o.length := by omega
      subst this
      rw [dlt_f (by omega), List.take_length]; rfl
theorem Permute_ok {k : Nat} (hk : 100000000000001 < k) {l o : List Int} (hn : o.length ≤ 17592186043904) : ordering_Permute_int k l o = some (if o.length ≠ l.length then ([], 9, -2) else if (badFrom o o.length 0).1 = 0 then (perm l o, 0, 0) else ([], badFrom o o.length 0)) := by
  unfold ordering_Permute_int
  by_cases hl : o.length = l.length
  · rw [bne_f (by omega), if_neg (fun h => h hl), Inverse_ok hk hn]
    simp only [cond_false, Option.bind_some]
    by_cases hb : (badFrom o o.length 0).1 = 0
    · rw [if_pos hb, if_pos hb]
      have hg := bad_good (fun j hj => badFrom_none _ _ hb j (by omega) (by omega))
      have h := Permute_l0 k (l := l) hn (fun i hi => by have := hg.rng i hi; omega) (0, 0) k 0 (by omega) (by omega)
      have h' : ordering_Permute_int.l0 k k l (0, 0) [] o o.length 0 = _ := h
      simp only [bne_self_eq_false, cond_false]
      rw [h']; rfl
    · rw [if_neg hb, if_neg hb]
      simp only
      rw [bne_t hb]; rfl
  · rw [bne_t (by omega), if_pos hl]; rfl
theorem perm_back {l o : List Int} (h : Good o) (hl : o.length = l.length) : perm (perm l o) (invL o o.length) = l := by
  apply ext_rd
  · rw [perm_length, invL_length, hl]
  · intro i hi
    rw [perm_length, invL_length] at hi
    rw [perm_rd (by rw [invL_length]; exact hi)]
    obtain ⟨j, hj, e⟩ := good_onto h hi
    have e2 := invL_rd h o.length (Nat.le_refl _) j hj
    rw [e] at e2
    rw [e2, perm_rd hj, e]
theorem Inl_l0 (k : Nat) {l : List Int} (hn : (l.length : Int) ≤ 50000000000000) (v : Int) : ∀ (m i : Nat), i ≤ l.length → l.length - i < m → v ∉ l.take i →
    brindlewoodref3_In.l0 k m l v i = some (if v ∈ l then .inr true else .inl ()) := by
  intro m
  induction m with
  | zero => intro i _ h; omega
  | succ m ih =>
    intro i h1 h2 h3
    simp only [brindlewoodref3_In.l0, brindlewoodref3_In.b0]
    by_cases h : i < l.length
    · rw [dlt_t (by omega), inR_t (by omega) (by omega), incN (by omega)]
      simp only [cond_true]
      by_cases he : rd l (i : Int) = v
      · rw [beq_t he, if_pos (by rw [← he]; exact rd_mem h)]; rfl
      · rw [beq_f he]
        exact ih (i + 1) (by omega) (by omega) (by
          rw [take_one h, List.mem_append]
          rintro (h4 | h4)
          · exact h3 h4
          · exact he (List.mem_singleton.1 h4).symm)
    · have : i = l.length := by omega
      subst this
      rw [List.take_length] at h3
      rw [dlt_f (by omega), if_neg h3]; rfl
theorem Inl_ok {k : Nat} (hk : 100000000000001 < k) {l : List Int} (hn : (l.length : Int) ≤ 50000000000000) (v : Int) : brindlewoodref3_In k l v = some (decide (v ∈ l)) := by
  have h := Inl_l0 k hn v k 0 (by omega) (by omega) (by simp)
  have h' : brindlewoodref3_In.l0 k k l v 0 = _ := h
  unfold brindlewoodref3_In
  rw [h']
  by_cases hm : v ∈ l
  · rw [if_pos hm, decide_eq_true hm]; rfl
  · rw [if_neg hm, decide_eq_false hm]; rfl
end Go.Pl
