/- OrderingPermutes: its plain function answers true.  Conditions: lists no longer than memory. -/
import Derived.Test.YtjdambgnmphakaaOrA
set_option linter.unusedVariables false
set_option linter.unusedSimpArgs false
set_option maxHeartbeats 0
namespace Go.Pl
open Go Go.Ev Go.Sh
theorem sorts_ok : brindlewoodlaw3_sorts 1000000000000000000 = some true := by kernel_rfl
section
variable (k : Nat) (l : List Int) {o : List Int} (a : List Int) (f : Int × Int) (b : List Int) (g : Int × Int)
theorem Po_l0 (hk : 100000000000001 < k) (hn : o.length ≤ 17592186043904) : ∀ (m i : Nat), i ≤ o.length → o.length - i + 1 < m →
    brindlewoodlaw3_OrderingPermutes.l0 k m l o a f b g (0, 0) i = some (.inl (l, o, a, f, b, g, badFrom o (o.length - i) i)) := by
  have hat : ∀ a b : Int, brindlewoodref3_At a b = some (a, b) := fun _ _ => rfl
  -- with a fault it ends
  have hend : ∀ (m i : Nat) (w : Int × Int), 0 < m → w.1 ≠ 0 → brindlewoodlaw3_OrderingPermutes.l0 k m l o a f b g w i = some (.inl (l, o, a, f, b, g, w)) := by
    intro m i w hm hw
    obtain ⟨m, rfl⟩ : ∃ p, m = p + 1 := ⟨m - 1, by omega⟩
    simp only [brindlewoodlaw3_OrderingPermutes.l0, brindlewoodlaw3_OrderingPermutes.b0]
    rw [beq_f hw]
    cases decide ((i : Int) < (o.length : Int)) <;> rfl
  intro m
  induction m with
  | zero => intro i _ h; omega
  | succ m ih =>
    intro i h1 h2
    simp only [brindlewoodlaw3_OrderingPermutes.l0, brindlewoodlaw3_OrderingPermutes.b0]
    by_cases h : i < o.length
    · rw [dlt_t (by omega), inR_t (by omega) (by omega), badFrom_at h]
      simp only [cond_true, beq_self_eq_true]
      by_cases hneg : rd o (i : Int) < 0
      · have hb : badAt o i = 4 := by unfold badAt; rw [if_pos (.inl hneg)]
        rw [dlt_t hneg, hb]
        simp only [cond_true, joinB_inl, hat, Option.bind_some]
        rw [incN (by omega)]
        exact hend m (i + 1) (4, (i : Int)) (by omega) (show (4 : Int) ≠ 0 by decide)
      · rw [dlt_f (by omega)]
        simp only [cond_false, joinB_inl]
        by_cases hbig : (o.length : Int) ≤ rd o (i : Int)
        · have hb : badAt o i = 4 := by unfold badAt; rw [if_pos (.inr hbig)]
          rw [dle_t hbig, hb]
          simp only [cond_true, hat, Option.bind_some]
          rw [incN (by omega)]
          exact hend m (i + 1) (4, (i : Int)) (by omega) (show (4 : Int) ≠ 0 by decide)
        · have es : Ev.sub o 0 ((i : Int) - 0) = o.take i := by
            show (o.drop 0).take ((i : Int) - 0).toNat = _
            rw [List.drop_zero, show ((i : Int) - 0).toNat = i by omega]
          rw [decide_eq_false hbig, dle_t (show (0 : Int) ≤ (i : Int) by omega), dle_t (show (i : Int) ≤ (o.length : Int) by omega), es, inR_t (by omega) (by omega), Inl_ok hk (by rw [List.length_take]; omega)]
          simp only [cond_false, Int.le_refl, decide_true, Bool.and_self, cond_true, Option.bind_some]
          by_cases hm : rd o (i : Int) ∈ o.take i
          · have hb : badAt o i = 8 := by unfold badAt; rw [if_neg (by omega), if_pos hm]
            rw [decide_eq_true hm, hb]
            simp only [cond_true, hat, Option.bind_some]
            rw [incN (by omega)]
            exact hend m (i + 1) (8, (i : Int)) (by omega) (show (8 : Int) ≠ 0 by decide)
          · have hb : badAt o i = 0 := by unfold badAt; rw [if_neg (by omega), if_neg hm]
            rw [decide_eq_false hm, if_pos hb, incN (by omega)]
            exact ih (i + 1) (by omega) (by omega)
    · have : i = o.length := by omega
      subst this
      rw [dlt_f (by omega), Nat.sub_self]; rfl
theorem Pc_l1 {b : List Int} (hn : o.length ≤ 17592186043904) (hl : o.length = l.length) (hg : Good o) (ha : a = perm l o) (hb : b = invL o o.length) : ∀ (m i : Nat), i ≤ o.length → o.length - i < m →
    brindlewoodlaw3_OrderingPermutes.l1 k m l o a b i = some (.inl (l, a, b)) := by
  intro m
  induction m with
  | zero => intro i _ h; omega
  | succ m ih =>
    intro i h1 h2
    simp only [brindlewoodlaw3_OrderingPermutes.l1, brindlewoodlaw3_OrderingPermutes.b1]
    by_cases h : i < o.length
    · obtain ⟨g1, g2⟩ := hg.rng i h
      have e1 : rd a (i : Int) = rd l (rd o (i : Int)) := by rw [ha, perm_rd h]
      have e2 : rd b (rd o (i : Int)) = i := by rw [hb]; exact invL_rd hg o.length (Nat.le_refl _) i h
      rw [dlt_t (by omega), inR_t (by omega) (show (i : Int) < a.length by rw [ha, perm_length]; omega), inR_t (by omega) (show (i : Int) < o.length by omega), inR_t g1 (show rd o (i : Int) < l.length by omega), inR_t g1 (show rd o (i : Int) < b.length by rw [hb, invL_length]; exact g2), bne_f e1, bne_f e2, incN (by omega)]
      simp only [cond_true, cond_false]
      exact ih (i + 1) (by omega) (by omega)
    · have : i = o.length := by omega
      subst this
      rw [dlt_f (by omega)]; rfl
end
theorem orderingPermutes_ok {k : Nat} (hk : 100000000000001 < k) (hso : brindlewoodlaw3_sorts k = some true) {l o : List Int} (hl : l.length ≤ 17592186043904) (hn : o.length ≤ 17592186043904) : brindlewoodlaw3_OrderingPermutes k l o = some true := by
  have hat : ∀ a b : Int, brindlewoodref3_At a b = some (a, b) := fun _ _ => rfl
  unfold brindlewoodlaw3_OrderingPermutes
  rw [Permute_ok hk hn]
  simp only [Option.bind_some]
  rw [Inverse_ok hk hn]
  simp only [Option.bind_some]
  generalize hF : badFrom o o.length 0 = F
  have h0 : ∀ (a : List Int) (f : Int × Int) (b : List Int) (g : Int × Int), brindlewoodlaw3_OrderingPermutes.l0 k k l o a f b g (0, 0) 0 = some (.inl (l, o, a, f, b, g, F)) := by
    intro a f b g
    have := Po_l0 k l a f b g hk hn k 0 (by omega) (by omega)
    rw [Nat.sub_zero, hF] at this
    exact this
  rw [h0]
  simp only [joinB_inl]
  rw [hso]
  simp only [Option.bind_some, Bool.not_true, cond_false]
  by_cases hb : F.1 = 0
  · have hF0 : F = (0, 0) := by rw [← hF]; exact badFrom_eq _ _ (by rw [hF]; exact hb)
    subst hF0
    have hg := bad_good (fun j hj => badFrom_none o.length 0 (by rw [hF]) j (by omega) (by omega))
    simp only [if_true, beq_self_eq_true, Bool.and_self, Bool.not_true, cond_false, bne_self_eq_false, joinB_inl]
    by_cases hlen : o.length = l.length
    · rw [if_neg (fun h => h hlen), bne_f (show (o.length : Int) = l.length by omega)]
      simp only [cond_false, joinB_inl, bne_self_eq_false]
      rw [bne_f (show ((perm l o).length : Int) = l.length by rw [perm_length]; omega), bne_f (show ((invL o o.length).length : Int) = l.length by rw [invL_length]; omega)]
      simp only [cond_false, joinB_inl]
      have h1 := Pc_l1 k l (o := o) (perm l o) (b := invL o o.length) hn hlen hg rfl rfl k 0 (by omega) (by omega)
      have h1' : brindlewoodlaw3_OrderingPermutes.l1 k k l o (perm l o) (invL o o.length) 0 = _ := h1
      rw [h1']
      simp only [joinB_inl]
      rw [Permute_ok hk (by rw [invL_length]; exact hn), invL_length, perm_length, if_neg (fun h => h rfl)]
      have hbi : badFrom (invL o o.length) o.length 0 = (0, 0) := badFrom_zero _ _ (fun j _ hj => good_bad (inv_good hg) j (by rw [invL_length]; omega))
      rw [hbi]
      simp only [if_true, Option.bind_some, beq_self_eq_true, cond_true]
      rw [perm_back hg hlen, Numb_ok (by omega) hk, decide_eq_true rfl]; rfl
    · rw [if_pos hlen, bne_t (show (o.length : Int) ≠ l.length by omega)]
      simp only [cond_true, hat, Option.bind_some, joinB_inl]
      rw [invL_length]
      simp [hat]
  · simp only [if_neg hb]
    have e0 : (F.1 != 0) = true := bne_t hb
    have hz : decide ((0 : Int) < ((0 : Nat) : Int)) = false := rfl
    simp only [beq_self_eq_true, Bool.and_self, Bool.not_true, cond_false, e0, cond_true, List.length_nil, hz, joinB_inl]
    by_cases hlen : o.length = l.length
    · rw [if_neg (fun h => h hlen), bne_f (show (o.length : Int) = l.length by omega)]
      simp only [cond_false, joinB_inl, e0, cond_true, beq_self_eq_true, Bool.and_self, List.length_nil]
      rfl
    · rw [if_pos hlen, bne_t (show (o.length : Int) ≠ l.length by omega)]
      simp only [cond_true, hat, Option.bind_some, joinB_inl, e0, beq_self_eq_true, Bool.and_self, List.length_nil]
      rfl
theorem orderingPermutes_plain {l o : List Int} (hl : Wf (.list (.int .i64)) l) (ho : Wf (.list (.int .i64)) o) : brindlewoodlaw3_OrderingPermutes 1000000000000000000 l o = some true := by
  have h1 : l.length * 8 ≤ 140737488351232 := hl.1
  have h2 : o.length * 8 ≤ 140737488351232 := ho.1
  exact orderingPermutes_ok (by decide) sorts_ok (by omega) (by omega)
end Go.Pl
