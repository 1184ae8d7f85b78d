/- OrderingInserted: its plain function answers true.  Conditions: lists no longer than memory. -/
import Derived.Test.YtjdambgnmphakaaOrD
set_option linter.unusedVariables false
set_option linter.unusedSimpArgs false
set_option maxHeartbeats 0
namespace Go.Pl
open Go Go.Ev Go.Sh
theorem sorts_ok2 : brindlewoodlaw3_sorts 1000000000000000000 = some true := by kernel_rfl
def Asc (a : List Int) : Prop := a.Pairwise fun x y => x ≤ y
theorem asc_rd {a : List Int} (h : Asc a) {i j : Nat} (hij : i ≤ j) (hj : j < a.length) : rd a (i : Int) ≤ rd a (j : Int) := by
  by_cases e : i = j
  · subst e; exact Int.le_refl _
  · rw [rdN, rdN, List.getD_eq_getElem?_getD, List.getD_eq_getElem?_getD, List.getElem?_eq_getElem (show i < a.length by omega), List.getElem?_eq_getElem hj]
    exact List.pairwise_iff_getElem.1 h i j (by omega) hj (by omega)
theorem Less_ok (x y : Int) : brindlewoodlaw3_OrderingInserted_1 x y = some (decide (x < y)) := rfl
theorem Sort_l0 (k : Nat) (hk : 20000 < k) {l : List Int} {n : Nat} (hl : l.length = n) (hn : n ≤ 1000) : ∀ (m e : Nat) (o : List Int) (W F a b : Nat) (g : List Int) (i j : Int) (more : Bool), W = 2 ^ e → PI (fun i => rd l i) n o W F a b g → Open n W F a b →
    ordering_Plan_Ask (pt o W F a b g) = some (i, j, more) → 12 * n + 12 - (e * n + F + a + b) < m →
    ∃ p : PT, p.1.Perm (iota n) ∧ Srt (fun i => rd l i) p.1 ∧ ordering_Sort_int_dFbrindlewoodlaw3_OrderingInserted_1.l0 k m l () (0, 0) (pt o W F a b g) i j more = some (.inl (l, (0, 0), p)) := by
  intro m
  induction m with
  | zero => intro e o W F a b g i j more _ _ _ _ h; omega
  | succ m ih =>
    intro e o W F a b g i j more hWe h ho hA hm
    by_cases hW : W < n
    · rw [Ask_yes hn h hW ho] at hA
      simp only [Option.some.injEq, Prod.mk.injEq] at hA
      obtain ⟨rfl, rfl, rfl⟩ := hA
      obtain ⟨o1, o2⟩ := ho hW
      have hmf := mid_le n F W
      have he := pow_small hn (hWe ▸ hW)
      have hol := h.len
      have hgd := iota_good h.perm
      have r1 := hgd.rng (mid n F W + b) (by omega)
      have r2 := hgd.rng (F + a) (by omega)
      obtain ⟨e', o', W', F', a', b', g', g1, g2, g3, g4, g5⟩ := Tell_ok hk hn hWe h hW ho
      have hA' : ∃ i' j' more', ordering_Plan_Ask (pt o' W' F' a' b' g') = some (i', j', more') := by
        by_cases hW' : W' < n
        · exact ⟨_, _, _, Ask_yes hn g2 hW' g3⟩
        · exact ⟨_, _, _, Ask_no g2 (by omega)⟩
      obtain ⟨i', j', more', hA'⟩ := hA'
      have e3 : e * n ≤ 9 * n := Nat.mul_le_mul_right _ he
      have hm' : 12 * n + 12 - (e' * n + F' + a' + b') < m := by omega
      obtain ⟨p, p1, p2, p3⟩ := ih e' o' W' F' a' b' g' i' j' more' g1 g2 g3 hA' hm'
      refine ⟨p, p1, p2, ?_⟩
      rw [ordering_Sort_int_dFbrindlewoodlaw3_OrderingInserted_1.l0, ordering_Sort_int_dFbrindlewoodlaw3_OrderingInserted_1.b0]
      rw [inR_t r1.1 (by omega), inR_t r2.1 (by omega), Less_ok]
      simp only [cond_true, Option.bind_some]
      rw [g5]
      simp only [Option.bind_some]
      rw [hA']
      simp only [Option.bind_some]
      exact p3
    · rw [Ask_no h (by omega)] at hA
      simp only [Option.some.injEq, Prod.mk.injEq] at hA
      obtain ⟨rfl, rfl, rfl⟩ := hA
      exact ⟨_, h.perm, h.done (by omega), rfl⟩
theorem Sort_ok {k : Nat} (hk : 100000000000001 < k) {l : List Int} (hn : l.length ≤ 1000) : ∃ a, ordering_Sort_int_dFbrindlewoodlaw3_OrderingInserted_1 k l () = some (a, 0, 0) ∧ a.length = l.length ∧ Asc a := by
  obtain ⟨e, o, W, F, a, b, g, g1, g2, g3, g4⟩ := Start_ok (k := k) (v := fun i => rd l i) (by omega) hn
  have hA' : ∃ i' j' more', ordering_Plan_Ask (pt o W F a b g) = some (i', j', more') := by
    by_cases hW' : W < l.length
    · exact ⟨_, _, _, Ask_yes hn g2 hW' g3⟩
    · exact ⟨_, _, _, Ask_no g2 (by omega)⟩
  obtain ⟨i, j, more, hA⟩ := hA'
  obtain ⟨p, p1, p2, p3⟩ := Sort_l0 k (by omega) (l := l) rfl hn k e o W F a b g i j more g1 g2 g3 hA (by omega)
  have hpl : p.1.length = l.length := by rw [p1.length_eq, iota_length]
  refine ⟨perm l p.1, ?_, by rw [perm_length, hpl], ?_⟩
  · unfold ordering_Sort_int_dFbrindlewoodlaw3_OrderingInserted_1
    rw [g4]
    simp only [Option.bind_some, bne_self_eq_false, cond_false]
    rw [hA]
    simp only [Option.bind_some]
    rw [p3]
    simp only [joinB_inl]
    rw [Permute_ok hk (by omega), if_neg (fun h => h hpl), if_pos]
    · rfl
    · have := badFrom_zero (o := p.1) p.1.length 0 (fun j _ hj => good_bad (iota_good p1) j (by omega))
      rw [this]
  · unfold Asc perm
    rw [List.pairwise_map]
    exact p2
def sideB (x : Int) (behind : Bool) (y : Int) : Bool := bif behind then !decide (x < y) else decide (y < x)
theorem side_mono {x : Int} {behind : Bool} {y y' : Int} (h : y ≤ y') (hs : sideB x behind y' = true) : sideB x behind y = true := by
  unfold sideB at *
  cases behind
  · simp only [cond_false, decide_eq_true_eq] at *; omega
  · simp only [cond_true, Bool.not_eq_true', decide_eq_false_iff_not] at *; omega
theorem Search_l0 (k : Nat) {l : List Int} (hn : l.length ≤ 1000) (ha : Asc l) (x : Int) (behind : Bool) : ∀ (m lo hi : Nat), lo ≤ hi → hi ≤ l.length → hi - lo < m → (∀ i : Nat, i < lo → sideB x behind (rd l (i : Int)) = true) → (∀ i : Nat, hi ≤ i → i < l.length → sideB x behind (rd l (i : Int)) = false) →
    ∃ p : Nat, p ≤ l.length ∧ (∀ i : Nat, i < p → sideB x behind (rd l (i : Int)) = true) ∧ (∀ i : Nat, p ≤ i → i < l.length → sideB x behind (rd l (i : Int)) = false) ∧ ordering_Search_int_ddFbrindlewoodlaw3_OrderingInserted_1d.l0 k m l x () behind lo hi = some (.inl (p : Int)) := by
  intro m
  induction m with
  | zero => intro lo hi _ _ h; omega
  | succ m ih =>
    intro lo hi h1 h2 h3 hA hB
    by_cases h : lo < hi
    · have hmid : w64 (Int.tdiv (w64 ((lo : Int) + (hi : Int))) 2) = (((lo + hi) / 2 : Nat) : Int) := by
        rw [w64_id (n := (lo : Int) + (hi : Int)) (by omega) (by omega), Int.tdiv_eq_ediv_of_nonneg (by omega), w64_id (by omega) (by omega)]; omega
      generalize hc : (lo + hi) / 2 = c at hmid
      have c1 : lo ≤ c := by omega
      have c2 : c < hi := by omega
      have hstep : ordering_Search_int_ddFbrindlewoodlaw3_OrderingInserted_1d.l0 k (m + 1) l x () behind lo hi = if sideB x behind (rd l (c : Int)) = true then ordering_Search_int_ddFbrindlewoodlaw3_OrderingInserted_1d.l0 k m l x () behind ((c + 1 : Nat) : Int) hi else ordering_Search_int_ddFbrindlewoodlaw3_OrderingInserted_1d.l0 k m l x () behind lo c := by
        rw [ordering_Search_int_ddFbrindlewoodlaw3_OrderingInserted_1d.l0, ordering_Search_int_ddFbrindlewoodlaw3_OrderingInserted_1d.b0]
        rw [dlt_t (show (lo : Int) < (hi : Int) by omega), hmid]
        simp only [cond_true]
        rw [inR_t (by omega) (show (c : Int) < (l.length : Int) by omega), Less_ok, Less_ok, incN (by omega)]
        simp only [Option.bind_some]
        cases behind
        · show (bif decide (rd l (c : Int) < x) then _ else _) = _
          unfold sideB
          simp only [cond_false, decide_eq_true_eq]
          by_cases hs : rd l (c : Int) < x
          · rw [decide_eq_true hs, if_pos hs]; rfl
          · rw [decide_eq_false hs, if_neg hs]; rfl
        · show (bif (!decide (x < rd l (c : Int))) then _ else _) = _
          unfold sideB
          simp only [cond_true]
          cases hs : (!decide (x < rd l (c : Int))) with
          | true => rw [if_pos rfl]; rfl
          | false => rw [if_neg (by simp)]; rfl
      rw [hstep]
      by_cases hs : sideB x behind (rd l (c : Int)) = true
      · rw [if_pos hs]
        exact ih (c + 1) hi (by omega) h2 (by omega) (fun i hi' => side_mono (asc_rd ha (show i ≤ c by omega) (by omega)) hs) hB
      · rw [if_neg hs]
        refine ih lo c c1 (by omega) (by omega) hA (fun i hi' hil => ?_)
        cases hq : sideB x behind (rd l (i : Int)) with
        | false => rfl
        | true => exact absurd (side_mono (asc_rd ha hi' hil) hq) hs
    · have : lo = hi := by omega
      subst this
      refine ⟨lo, h2, hA, hB, ?_⟩
      rw [ordering_Search_int_ddFbrindlewoodlaw3_OrderingInserted_1d.l0, ordering_Search_int_ddFbrindlewoodlaw3_OrderingInserted_1d.b0, dlt_f (Int.le_refl _)]; rfl
theorem Search_ok {k : Nat} (hk : 20000 < k) {l : List Int} (hn : l.length ≤ 1000) (ha : Asc l) (x : Int) (behind : Bool) :
    ∃ p : Nat, p ≤ l.length ∧ (∀ i : Nat, i < p → sideB x behind (rd l (i : Int)) = true) ∧ (∀ i : Nat, p ≤ i → i < l.length → sideB x behind (rd l (i : Int)) = false) ∧ ordering_Search_int_ddFbrindlewoodlaw3_OrderingInserted_1d k l x () behind = some (p : Int) := by
  obtain ⟨p, p1, p2, p3, p4⟩ := Search_l0 k hn ha x behind k 0 l.length (by omega) (Nat.le_refl _) (by omega) (fun i hi => by omega) (fun i h1 h2 => by omega)
  refine ⟨p, p1, p2, p3, ?_⟩
  have p4' : ordering_Search_int_ddFbrindlewoodlaw3_OrderingInserted_1d.l0 k k l x () behind 0 (l.length : Int) = _ := p4
  unfold ordering_Search_int_ddFbrindlewoodlaw3_OrderingInserted_1d
  rw [p4']; rfl
theorem sub_tail (x : Int) (l : List Int) : Ev.sub (x :: l) 1 (((x :: l).length : Int) - 1) = l := by
  show ((x :: l).drop 1).take (((x :: l).length : Int) - 1).toNat = l
  rw [List.drop_one, List.tail_cons, List.take_of_length_le (by rw [List.length_cons]; omega)]
theorem Merge_l0 (k : Nat) : ∀ (m : Nat) (a b out : List Int), a.length + b.length < m → out.length + a.length + b.length ≤ 2000 → Asc a → Asc b → Asc out → (∀ u ∈ out, ∀ w ∈ a ++ b, u ≤ w) →
    ∃ a' b' out', ordering_Merge_int_ddFbrindlewoodlaw3_OrderingInserted_1.l0 k m a b () out = some (.inl (a', b', out')) ∧ out'.length + a'.length + b'.length = out.length + a.length + b.length ∧ Asc (out' ++ a' ++ b') := by
  intro m
  induction m with
  | zero => intro a b out h; omega
  | succ m ih =>
    intro a b out hm hlen ha hb ho hle
    cases a with
    | nil =>
      refine ⟨[], b, out, by rw [ordering_Merge_int_ddFbrindlewoodlaw3_OrderingInserted_1.l0, ordering_Merge_int_ddFbrindlewoodlaw3_OrderingInserted_1.b0]; rfl, rfl, ?_⟩
      rw [List.append_nil]
      exact List.pairwise_append.2 ⟨ho, hb, fun x hx y hy => hle x hx y (by simpa using hy)⟩
    | cons x a =>
      cases b with
      | nil =>
        refine ⟨x :: a, [], out, by rw [ordering_Merge_int_ddFbrindlewoodlaw3_OrderingInserted_1.l0, ordering_Merge_int_ddFbrindlewoodlaw3_OrderingInserted_1.b0, dlt_t (show (0 : Int) < ((x :: a).length : Int) by rw [List.length_cons]; omega)]; rfl, rfl, ?_⟩
        rw [List.append_nil]
        exact List.pairwise_append.2 ⟨ho, ha, fun u hu w hw => hle u hu w (by simpa using hw)⟩
      | cons y b =>
        have hxa := (List.pairwise_cons.1 ha)
        have hyb := (List.pairwise_cons.1 hb)
        simp only [List.length_cons] at hm hlen
        have hla : (0 : Int) < ((x :: a).length : Int) := by rw [List.length_cons]; omega
        have hlb : (0 : Int) < ((y :: b).length : Int) := by rw [List.length_cons]; omega
        have rx : rd (x :: a) 0 = x := rfl
        have ry : rd (y :: b) 0 = y := rfl
        have hstep : ordering_Merge_int_ddFbrindlewoodlaw3_OrderingInserted_1.l0 k (m + 1) (x :: a) (y :: b) () out = if y < x then ordering_Merge_int_ddFbrindlewoodlaw3_OrderingInserted_1.l0 k m (x :: a) b () (out ++ [y]) else ordering_Merge_int_ddFbrindlewoodlaw3_OrderingInserted_1.l0 k m a (y :: b) () (out ++ [x]) := by
          rw [ordering_Merge_int_ddFbrindlewoodlaw3_OrderingInserted_1.l0, ordering_Merge_int_ddFbrindlewoodlaw3_OrderingInserted_1.b0, dlt_t hla, dlt_t hlb, inR_t (Int.le_refl _) hla, inR_t (Int.le_refl _) hlb, rx, ry, Less_ok]
          simp only [cond_true, Option.bind_some]
          rw [fits_t (n := out.length + [y].length) (by rw [List.length_singleton]; omega), fits_t (n := out.length + [x].length) (by rw [List.length_singleton]; omega), sub_tail, sub_tail, dle_t (show (1 : Int) ≤ ((x :: a).length : Int) by omega), dle_t (show (1 : Int) ≤ ((y :: b).length : Int) by omega)]
          simp only [Int.le_refl, decide_true, Bool.and_true, cond_true]
          by_cases h : y < x
          · rw [decide_eq_true h, if_pos h]; rfl
          · rw [decide_eq_false h, if_neg h]; rfl
        rw [hstep]
        by_cases h : y < x
        · rw [if_pos h]
          obtain ⟨a', b', out', g1, g2, g3⟩ := ih (x :: a) b (out ++ [y]) (by simp only [List.length_cons]; omega) (by simp only [List.length_cons, List.length_append, List.length_nil]; omega) ha hyb.2
            (List.pairwise_append.2 ⟨ho, List.pairwise_singleton _ _, fun u hu w hw => by rw [List.mem_singleton.1 hw]; exact hle u hu y (by simp)⟩)
            (fun u hu w hw => by
              rcases List.mem_append.1 hu with hu | hu
              · refine hle u hu w ?_
                rcases List.mem_append.1 hw with hw | hw
                · exact List.mem_append.2 (.inl hw)
                · exact List.mem_append.2 (.inr (List.mem_cons_of_mem _ hw))
              · rw [List.mem_singleton.1 hu]
                rcases List.mem_append.1 hw with hw | hw
                · rcases List.mem_cons.1 hw with rfl | hw
                  · omega
                  · have := hxa.1 w hw; omega
                · exact hyb.1 w hw)
          exact ⟨a', b', out', g1, by rw [g2]; simp only [List.length_cons, List.length_append, List.length_nil]; omega, g3⟩
        · rw [if_neg h]
          obtain ⟨a', b', out', g1, g2, g3⟩ := ih a (y :: b) (out ++ [x]) (by simp only [List.length_cons]; omega) (by simp only [List.length_cons, List.length_append, List.length_nil]; omega) hxa.2 hb
            (List.pairwise_append.2 ⟨ho, List.pairwise_singleton _ _, fun u hu w hw => by rw [List.mem_singleton.1 hw]; exact hle u hu x (by simp)⟩)
            (fun u hu w hw => by
              rcases List.mem_append.1 hu with hu | hu
              · refine hle u hu w ?_
                rcases List.mem_append.1 hw with hw | hw
                · exact List.mem_append.2 (.inl (List.mem_cons_of_mem _ hw))
                · exact List.mem_append.2 (.inr hw)
              · rw [List.mem_singleton.1 hu]
                rcases List.mem_append.1 hw with hw | hw
                · exact hxa.1 w hw
                · rcases List.mem_cons.1 hw with rfl | hw
                  · omega
                  · have := hyb.1 w hw; omega)
          exact ⟨a', b', out', g1, by rw [g2]; simp only [List.length_cons, List.length_append, List.length_nil]; omega, g3⟩
theorem Merge_ok {k : Nat} (hk : 20000 < k) {a b : List Int} (hla : a.length ≤ 1000) (hlb : b.length ≤ 1000) (ha : Asc a) (hb : Asc b) : ∃ c, ordering_Merge_int_ddFbrindlewoodlaw3_OrderingInserted_1 k a b () = some c ∧ c.length = a.length + b.length ∧ Asc c := by
  obtain ⟨a', b', out', g1, g2, g3⟩ := Merge_l0 k k a b [] (by omega) (by simp only [List.length_nil]; omega) ha hb List.Pairwise.nil (fun u hu => by simp at hu)
  simp only [List.length_nil] at g2
  refine ⟨out' ++ a' ++ b', ?_, by rw [List.length_append, List.length_append]; omega, g3⟩
  unfold ordering_Merge_int_ddFbrindlewoodlaw3_OrderingInserted_1
  rw [g1]
  simp only [joinB_inl]
  rw [fits_t (n := out'.length + a'.length) (by omega), fits_t (n := (out' ++ a').length + b'.length) (by rw [List.length_append]; omega)]
  rfl
theorem Broken_l0 (k : Nat) {l : List Int} (hn : l.length ≤ 100000) (ha : Asc l) : ∀ (m i : Nat), 1 ≤ i → i ≤ l.length ∨ l.length = 0 → l.length + 1 - i < m → ordering_Broken_int_dFbrindlewoodlaw3_OrderingInserted_1.l0 k m l () i = some (.inl ()) := by
  intro m
  induction m with
  | zero => intro i _ _ h; omega
  | succ m ih =>
    intro i h1 h2 h3
    rw [ordering_Broken_int_dFbrindlewoodlaw3_OrderingInserted_1.l0, ordering_Broken_int_dFbrindlewoodlaw3_OrderingInserted_1.b0]
    by_cases h : i < l.length
    · have e : w64 ((i : Int) - 1) = ((i - 1 : Nat) : Int) := by rw [w64_id (by omega) (by omega)]; omega
      have hle := asc_rd ha (show i - 1 ≤ i by omega) h
      rw [dlt_t (by omega), e, inR_t (by omega) (by omega), inR_t (by omega) (by omega), Less_ok, dlt_f hle, incN (by omega)]
      simp only [cond_true, Option.bind_some, cond_false]
      exact ih (i + 1) (by omega) (by omega) (by omega)
    · rw [dlt_f (by omega)]; rfl
theorem Broken_ok {k : Nat} (hk : 200000 < k) {l : List Int} (hn : l.length ≤ 100000) (ha : Asc l) : ordering_Broken_int_dFbrindlewoodlaw3_OrderingInserted_1 k l () = some (-1) := by
  have h := Broken_l0 k hn ha k 1 (Nat.le_refl _) (by omega) (by omega)
  have h' : ordering_Broken_int_dFbrindlewoodlaw3_OrderingInserted_1.l0 k k l () 1 = _ := h
  unfold ordering_Broken_int_dFbrindlewoodlaw3_OrderingInserted_1
  rw [h']; rfl
theorem In_l0' (k : Nat) {a : List Int} (hn : a.length ≤ 1000) {x : Int} {lo hi : Nat} (hlh : lo ≤ hi) (h1 : ∀ i : Nat, i < lo → rd a (i : Int) < x) (h2 : ∀ i : Nat, lo ≤ i → i < hi → i < a.length → rd a (i : Int) = x) (h3 : ∀ i : Nat, hi ≤ i → i < a.length → x < rd a (i : Int)) : ∀ (m i : Nat), i ≤ a.length → a.length - i < m →
    brindlewoodlaw3_OrderingInserted.l0 k m x a lo hi i = some (.inl ()) := by
  intro m
  induction m with
  | zero => intro i _ h; omega
  | succ m ih =>
    intro i g1 g2
    rw [brindlewoodlaw3_OrderingInserted.l0, brindlewoodlaw3_OrderingInserted.b0]
    by_cases h : i < a.length
    · have hr := ih (i + 1) (by omega) (by omega)
      have hin : inR (i : Int) (a.length : Int) = true := inR_t (by omega) (by omega)
      rw [dlt_t (show (i : Int) < (a.length : Int) by omega), incN (by omega), hin]
      by_cases c1 : i < lo
      · have := h1 i c1
        rw [dlt_t (show (i : Int) < (lo : Int) by omega), decide_eq_false (show ¬ x ≤ rd a (i : Int) by omega), decide_eq_false (show ¬ (lo : Int) ≤ (i : Int) by omega), decide_eq_false (show ¬ (hi : Int) ≤ (i : Int) by omega)]
        exact hr
      · rw [dlt_f (show (lo : Int) ≤ (i : Int) by omega), dle_t (show (lo : Int) ≤ (i : Int) by omega)]
        by_cases c2 : i < hi
        · have := h2 i (by omega) c2 h
          rw [dlt_t (show (i : Int) < (hi : Int) by omega), bne_f this, decide_eq_false (show ¬ (hi : Int) ≤ (i : Int) by omega)]
          exact hr
        · have := h3 i (by omega) h
          rw [dlt_f (show (hi : Int) ≤ (i : Int) by omega), dle_t (show (hi : Int) ≤ (i : Int) by omega), decide_eq_false (show ¬ rd a (i : Int) ≤ x by omega)]
          exact hr
    · rw [dlt_f (by omega)]; rfl
theorem orderingInserted_ok {k : Nat} (hk : 100000000000001 < k) (hso : brindlewoodlaw3_sorts k = some true) (l m : List Int) (x : Int) : brindlewoodlaw3_OrderingInserted k l m x = some true := by
  unfold brindlewoodlaw3_OrderingInserted
  rw [hso]
  simp only [Option.bind_some, Bool.not_true, cond_false]
  by_cases hl : 1000 < (l.length : Int)
  · rw [dlt_t hl]; rfl
  rw [dlt_f (by omega)]
  by_cases hm : 1000 < (m.length : Int)
  · rw [dlt_t hm]; rfl
  rw [dlt_f (by omega)]
  simp only [cond_false, joinB_inl]
  obtain ⟨a, a1, a2, a3⟩ := Sort_ok hk (l := l) (by omega)
  obtain ⟨b, b1, b2, b3⟩ := Sort_ok hk (l := m) (by omega)
  rw [a1, b1]
  simp only [Option.bind_some, bne_self_eq_false, cond_false]
  rw [bne_f (show (a.length : Int) = l.length by omega), bne_f (show (b.length : Int) = m.length by omega)]
  simp only [cond_false, joinB_inl]
  obtain ⟨lo, p1, p2, p3, p4⟩ := Search_ok (k := k) (by omega) (l := a) (by omega) a3 x false
  obtain ⟨hi, q1, q2, q3, q4⟩ := Search_ok (k := k) (by omega) (l := a) (by omega) a3 x true
  obtain ⟨c, c1, c2, c3⟩ := Merge_ok (k := k) (by omega) (a := a) (b := b) (by omega) (by omega) a3 b3
  have hlh : lo ≤ hi := by
    refine Nat.le_of_not_lt fun h => ?_
    have e1 := p2 hi h
    have e2 := q3 hi (Nat.le_refl _) (by omega)
    simp only [sideB, cond_false, cond_true, Bool.not_eq_true', Bool.not_eq_false', decide_eq_false_iff_not, decide_eq_true_eq] at e1 e2
    omega
  rw [p4, q4, c1]
  simp only [Option.bind_some]
  rw [dlt_f (show (0 : Int) ≤ (lo : Int) by omega), dlt_f (show (lo : Int) ≤ (hi : Int) by omega), dlt_f (show (hi : Int) ≤ (a.length : Int) by omega), Broken_ok (by omega) (by omega) a3, Broken_ok (by omega) (by omega) c3]
  simp only [cond_false, Option.bind_some, bne_self_eq_false]
  rw [bne_f (show (c.length : Int) = w64 ((a.length : Int) + (b.length : Int)) by rw [w64_id (by omega) (by omega)]; omega)]
  simp only [cond_false, joinB_inl]
  have h := In_l0' k (a := a) (by omega) (x := x) hlh (fun i hi' => by have := p2 i hi'; simp only [sideB, cond_false, decide_eq_true_eq] at this; exact this) (fun i g1 g2 g3 => by
    have e1 := p3 i g1 g3
    have e2 := q2 i g2
    simp only [sideB, cond_false, cond_true, Bool.not_eq_true', Bool.not_eq_false', decide_eq_false_iff_not, decide_eq_true_eq] at e1 e2
    omega) (fun i g1 g2 => by have := q3 i g1 g2; simp only [sideB, cond_true, Bool.not_eq_false', decide_eq_true_eq] at this; exact this) k 0 (by omega) (by omega)
  have h' : brindlewoodlaw3_OrderingInserted.l0 k k x a lo hi 0 = _ := h
  rw [h']; rfl
theorem orderingInserted_plain (l m : List Int) (x : Int) : brindlewoodlaw3_OrderingInserted 1000000000000000000 l m x = some true := orderingInserted_ok (by decide) sorts_ok2 l m x
end Go.Pl
