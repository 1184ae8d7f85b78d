/- And, Or, Xor and Not of package integer.  Conditions: those that each theorem names. -/
import Derived.Test.YtjimnjkgpdoacaaBtB
set_option linter.unusedVariables false
set_option linter.unusedSimpArgs false
set_option maxHeartbeats 0
namespace Go.Pl
open Go Go.Ev Go.Sh
theorem bitAnd_l0 (k : Nat) (r : Bool × List Int) (f : Int × Int) (N : Nat) (hN : (N : Int) ≤ 1000000) : ∀ (m : Nat) (A B X Y : List Int), A.length = B.length → X.length = Y.length → A.length + X.length = N → X.length < m →
    integer_bitwise_ddFinteger_And_1.l0 k m () r f (A ++ X) (B ++ Y) N A.length = some (.inl (r, f, A ++ List.zipWith (fun x y => bitsOp .and .u32 x y) X Y)) := by
  intro m
  induction m with
  | zero => intro A B X Y _ _ _ h; omega
  | succ m ih =>
    intro A B X Y h1 h2 h3 h4
    simp only [integer_bitwise_ddFinteger_And_1.l0, integer_bitwise_ddFinteger_And_1.b0]
    cases X with
    | nil =>
      cases Y with
      | nil => rw [dlt_f (by simp at h3; omega)]; rfl
      | cons y Y => simp at h2
    | cons x X =>
      cases Y with
      | nil => simp at h2
      | cons y Y =>
        simp only [List.length_cons] at h2 h3 h4
        have e1 : rd (A ++ x :: X) ((A.length : Nat) : Int) = x := by
          show (A ++ x :: X).getD A.length 0 = x
          simp [List.getD_eq_getElem?_getD]
        have e2 : rd (B ++ y :: Y) ((A.length : Nat) : Int) = y := by
          rw [h1]
          show (B ++ y :: Y).getD B.length 0 = y
          simp [List.getD_eq_getElem?_getD]
        have e3 : w64 ((A.length : Int) + 1) = (((A.length + 1 : Nat)) : Int) := by rw [w64_id (by omega) (by omega)]; omega
        have hop : integer_And_1 x y = some (bitsOp .and .u32 x y) := rfl
        have e4 : (A ++ x :: X).set A.length (bitsOp .and .u32 x y) = (A ++ [bitsOp .and .u32 x y]) ++ X := by
          rw [List.set_append_right _ _ (by omega), Nat.sub_self, List.append_assoc]; rfl
        have hih := ih (A ++ [bitsOp .and .u32 x y]) (B ++ [y]) X Y (by simp; omega) (by omega) (by simp; omega) (by omega)
        rw [dlt_t (by omega), inR_t (i := (A.length : Nat)) (n := ((A ++ x :: X).length : Nat)) (by omega) (by simp; omega), inR_t (i := (A.length : Nat)) (n := ((B ++ y :: Y).length : Nat)) (by omega) (by simp; omega), e1, e2, hop, natCast_toNat, e3]
        simp only [cond_true, Option.bind_some]
        rw [e4]
        rw [List.append_assoc B, List.length_append, List.length_singleton] at hih
        have hih' : integer_bitwise_ddFinteger_And_1.l0 k m () r f (A ++ [bitsOp .and .u32 x y] ++ X) (B ++ y :: Y) N ((A.length + 1 : Nat) : Int) = _ := hih
        rw [hih', List.append_assoc, List.zipWith_cons_cons]; rfl
theorem iAnd2_ok {k : Nat} (hk : 2000000 < k) {v w : Int} (hv : v.natAbs < ilim) (hw : w.natAbs < ilim) : integer_bitwise_ddFinteger_And_1 k (iz v) (iz w) () = some (ires (bwI gAnd v w)) := by
  have l1 := ilim_iff.2 hv
  have l2 := ilim_iff.2 hw
  obtain ⟨M, hM⟩ : ∃ M : Nat, mxI (((iz v).2.length : Nat) : Int) (((iz w).2.length : Nat) : Int) = M ∧ (dg 4294967296 v.natAbs).length ≤ M ∧ (dg 4294967296 w.natAbs).length ≤ M ∧ M ≤ 128 := by
    refine ⟨max (dg 4294967296 v.natAbs).length (dg 4294967296 w.natAbs).length, ?_, by omega, by omega, by omega⟩
    show mxI ((dg 4294967296 v.natAbs).length : Int) ((dg 4294967296 w.natAbs).length : Int) = _
    unfold mxI; split <;> omega
  obtain ⟨m1, m2, m3, m4⟩ := hM
  have e1 : w64 ((M : Int) + 1) = ((M + 1 : Nat) : Int) := by rw [w64_id (by omega) (by omega)]; omega
  obtain ⟨X, x1, x2, x3, x4⟩ := twos_iz (k := k) (N := M + 1) (v := v) (by omega) (by omega) (by omega)
  obtain ⟨Y, y1, y2, y3, y4⟩ := twos_iz (k := k) (N := M + 1) (v := w) (by omega) (by omega) (by omega)
  have hL := bitAnd_l0 k (false, []) (0, 0) (M + 1) (by omega) k [] [] X Y rfl (by omega) (by simp; omega) (by omega)
  obtain ⟨z1, z2⟩ := ev_zip gAnd (op := fun x y => bitsOp .and .u32 x y) (fun x y h1 h2 h3 h4 => and_nb h1 h2 h3 h4) X Y (by omega) x3 y3
  have hz : (List.zipWith (fun x y => bitsOp .and .u32 x y) X Y).length = M + 1 := by rw [List.length_zipWith]; omega
  rw [x2, x4, y4] at z2
  have hr := bwI_nb gAnd (limbs_rng m2) (limbs_rng m3)
  rw [show 32 * M + 31 + 1 = 32 * (M + 1) by omega] at hr
  have hB := back_ok (k := k) (N := M + 1) (by omega) (by omega) hk z1 hz z2
  unfold integer_bitwise_ddFinteger_And_1
  rw [check2 (by omega) hv hw]
  simp only [Option.bind_some, bne_self_eq_false, cond_false]
  rw [m1, e1, x1, y1]
  simp only [Option.bind_some]
  have hL' : integer_bitwise_ddFinteger_And_1.l0 k k () (false, []) (0, 0) X Y (X.length : Int) 0 = some (.inl ((false, []), (0, 0), List.zipWith (fun x y => bitsOp .and .u32 x y) X Y)) := by rw [x2]; exact hL
  rw [hL']
  simp only [joinB_inl, List.nil_append]
  rw [hB, ← hr]; rfl
theorem iAnd2_no {k : Nat} {a b : Bool × List Int} {f : Int × Int} (h : integer_check k [a, b] = some f) (hf : f.1 ≠ 0) : integer_bitwise_ddFinteger_And_1 k a b () = some ((false, []), f) := by
  unfold integer_bitwise_ddFinteger_And_1
  rw [h, Option.bind_some, bne_t hf]; rfl
theorem bitOr_l0 (k : Nat) (r : Bool × List Int) (f : Int × Int) (N : Nat) (hN : (N : Int) ≤ 1000000) : ∀ (m : Nat) (A B X Y : List Int), A.length = B.length → X.length = Y.length → A.length + X.length = N → X.length < m →
    integer_bitwise_ddFinteger_Or_1.l0 k m () r f (A ++ X) (B ++ Y) N A.length = some (.inl (r, f, A ++ List.zipWith (fun x y => bitsOp .or .u32 x y) X Y)) := by
  intro m
  induction m with
  | zero => intro A B X Y _ _ _ h; omega
  | succ m ih =>
    intro A B X Y h1 h2 h3 h4
    simp only [integer_bitwise_ddFinteger_Or_1.l0, integer_bitwise_ddFinteger_Or_1.b0]
    cases X with
    | nil =>
      cases Y with
      | nil => rw [dlt_f (by simp at h3; omega)]; rfl
      | cons y Y => simp at h2
    | cons x X =>
      cases Y with
      | nil => simp at h2
      | cons y Y =>
        simp only [List.length_cons] at h2 h3 h4
        have e1 : rd (A ++ x :: X) ((A.length : Nat) : Int) = x := by
          show (A ++ x :: X).getD A.length 0 = x
          simp [List.getD_eq_getElem?_getD]
        have e2 : rd (B ++ y :: Y) ((A.length : Nat) : Int) = y := by
          rw [h1]
          show (B ++ y :: Y).getD B.length 0 = y
          simp [List.getD_eq_getElem?_getD]
        have e3 : w64 ((A.length : Int) + 1) = (((A.length + 1 : Nat)) : Int) := by rw [w64_id (by omega) (by omega)]; omega
        have hop : integer_Or_1 x y = some (bitsOp .or .u32 x y) := rfl
        have e4 : (A ++ x :: X).set A.length (bitsOp .or .u32 x y) = (A ++ [bitsOp .or .u32 x y]) ++ X := by
          rw [List.set_append_right _ _ (by omega), Nat.sub_self, List.append_assoc]; rfl
        have hih := ih (A ++ [bitsOp .or .u32 x y]) (B ++ [y]) X Y (by simp; omega) (by omega) (by simp; omega) (by omega)
        rw [dlt_t (by omega), inR_t (i := (A.length : Nat)) (n := ((A ++ x :: X).length : Nat)) (by omega) (by simp; omega), inR_t (i := (A.length : Nat)) (n := ((B ++ y :: Y).length : Nat)) (by omega) (by simp; omega), e1, e2, hop, natCast_toNat, e3]
        simp only [cond_true, Option.bind_some]
        rw [e4]
        rw [List.append_assoc B, List.length_append, List.length_singleton] at hih
        have hih' : integer_bitwise_ddFinteger_Or_1.l0 k m () r f (A ++ [bitsOp .or .u32 x y] ++ X) (B ++ y :: Y) N ((A.length + 1 : Nat) : Int) = _ := hih
        rw [hih', List.append_assoc, List.zipWith_cons_cons]; rfl
theorem iOr2_ok {k : Nat} (hk : 2000000 < k) {v w : Int} (hv : v.natAbs < ilim) (hw : w.natAbs < ilim) : integer_bitwise_ddFinteger_Or_1 k (iz v) (iz w) () = some (ires (bwI gOr v w)) := by
  have l1 := ilim_iff.2 hv
  have l2 := ilim_iff.2 hw
  obtain ⟨M, hM⟩ : ∃ M : Nat, mxI (((iz v).2.length : Nat) : Int) (((iz w).2.length : Nat) : Int) = M ∧ (dg 4294967296 v.natAbs).length ≤ M ∧ (dg 4294967296 w.natAbs).length ≤ M ∧ M ≤ 128 := by
    refine ⟨max (dg 4294967296 v.natAbs).length (dg 4294967296 w.natAbs).length, ?_, by omega, by omega, by omega⟩
    show mxI ((dg 4294967296 v.natAbs).length : Int) ((dg 4294967296 w.natAbs).length : Int) = _
    unfold mxI; split <;> omega
  obtain ⟨m1, m2, m3, m4⟩ := hM
  have e1 : w64 ((M : Int) + 1) = ((M + 1 : Nat) : Int) := by rw [w64_id (by omega) (by omega)]; omega
  obtain ⟨X, x1, x2, x3, x4⟩ := twos_iz (k := k) (N := M + 1) (v := v) (by omega) (by omega) (by omega)
  obtain ⟨Y, y1, y2, y3, y4⟩ := twos_iz (k := k) (N := M + 1) (v := w) (by omega) (by omega) (by omega)
  have hL := bitOr_l0 k (false, []) (0, 0) (M + 1) (by omega) k [] [] X Y rfl (by omega) (by simp; omega) (by omega)
  obtain ⟨z1, z2⟩ := ev_zip gOr (op := fun x y => bitsOp .or .u32 x y) (fun x y h1 h2 h3 h4 => or_nb h1 h2 h3 h4) X Y (by omega) x3 y3
  have hz : (List.zipWith (fun x y => bitsOp .or .u32 x y) X Y).length = M + 1 := by rw [List.length_zipWith]; omega
  rw [x2, x4, y4] at z2
  have hr := bwI_nb gOr (limbs_rng m2) (limbs_rng m3)
  rw [show 32 * M + 31 + 1 = 32 * (M + 1) by omega] at hr
  have hB := back_ok (k := k) (N := M + 1) (by omega) (by omega) hk z1 hz z2
  unfold integer_bitwise_ddFinteger_Or_1
  rw [check2 (by omega) hv hw]
  simp only [Option.bind_some, bne_self_eq_false, cond_false]
  rw [m1, e1, x1, y1]
  simp only [Option.bind_some]
  have hL' : integer_bitwise_ddFinteger_Or_1.l0 k k () (false, []) (0, 0) X Y (X.length : Int) 0 = some (.inl ((false, []), (0, 0), List.zipWith (fun x y => bitsOp .or .u32 x y) X Y)) := by rw [x2]; exact hL
  rw [hL']
  simp only [joinB_inl, List.nil_append]
  rw [hB, ← hr]; rfl
theorem iOr2_no {k : Nat} {a b : Bool × List Int} {f : Int × Int} (h : integer_check k [a, b] = some f) (hf : f.1 ≠ 0) : integer_bitwise_ddFinteger_Or_1 k a b () = some ((false, []), f) := by
  unfold integer_bitwise_ddFinteger_Or_1
  rw [h, Option.bind_some, bne_t hf]; rfl
theorem bitXor_l0 (k : Nat) (r : Bool × List Int) (f : Int × Int) (N : Nat) (hN : (N : Int) ≤ 1000000) : ∀ (m : Nat) (A B X Y : List Int), A.length = B.length → X.length = Y.length → A.length + X.length = N → X.length < m →
    integer_bitwise_ddFinteger_Xor_1.l0 k m () r f (A ++ X) (B ++ Y) N A.length = some (.inl (r, f, A ++ List.zipWith (fun x y => bitsOp .xor .u32 x y) X Y)) := by
  intro m
  induction m with
  | zero => intro A B X Y _ _ _ h; omega
  | succ m ih =>
    intro A B X Y h1 h2 h3 h4
    simp only [integer_bitwise_ddFinteger_Xor_1.l0, integer_bitwise_ddFinteger_Xor_1.b0]
    cases X with
    | nil =>
      cases Y with
      | nil => rw [dlt_f (by simp at h3; omega)]; rfl
      | cons y Y => simp at h2
    | cons x X =>
      cases Y with
      | nil => simp at h2
      | cons y Y =>
        simp only [List.length_cons] at h2 h3 h4
        have e1 : rd (A ++ x :: X) ((A.length : Nat) : Int) = x := by
          show (A ++ x :: X).getD A.length 0 = x
          simp [List.getD_eq_getElem?_getD]
        have e2 : rd (B ++ y :: Y) ((A.length : Nat) : Int) = y := by
          rw [h1]
          show (B ++ y :: Y).getD B.length 0 = y
          simp [List.getD_eq_getElem?_getD]
        have e3 : w64 ((A.length : Int) + 1) = (((A.length + 1 : Nat)) : Int) := by rw [w64_id (by omega) (by omega)]; omega
        have hop : integer_Xor_1 x y = some (bitsOp .xor .u32 x y) := rfl
        have e4 : (A ++ x :: X).set A.length (bitsOp .xor .u32 x y) = (A ++ [bitsOp .xor .u32 x y]) ++ X := by
          rw [List.set_append_right _ _ (by omega), Nat.sub_self, List.append_assoc]; rfl
        have hih := ih (A ++ [bitsOp .xor .u32 x y]) (B ++ [y]) X Y (by simp; omega) (by omega) (by simp; omega) (by omega)
        rw [dlt_t (by omega), inR_t (i := (A.length : Nat)) (n := ((A ++ x :: X).length : Nat)) (by omega) (by simp; omega), inR_t (i := (A.length : Nat)) (n := ((B ++ y :: Y).length : Nat)) (by omega) (by simp; omega), e1, e2, hop, natCast_toNat, e3]
        simp only [cond_true, Option.bind_some]
        rw [e4]
        rw [List.append_assoc B, List.length_append, List.length_singleton] at hih
        have hih' : integer_bitwise_ddFinteger_Xor_1.l0 k m () r f (A ++ [bitsOp .xor .u32 x y] ++ X) (B ++ y :: Y) N ((A.length + 1 : Nat) : Int) = _ := hih
        rw [hih', List.append_assoc, List.zipWith_cons_cons]; rfl
theorem iXor2_ok {k : Nat} (hk : 2000000 < k) {v w : Int} (hv : v.natAbs < ilim) (hw : w.natAbs < ilim) : integer_bitwise_ddFinteger_Xor_1 k (iz v) (iz w) () = some (ires (bwI gXor v w)) := by
  have l1 := ilim_iff.2 hv
  have l2 := ilim_iff.2 hw
  obtain ⟨M, hM⟩ : ∃ M : Nat, mxI (((iz v).2.length : Nat) : Int) (((iz w).2.length : Nat) : Int) = M ∧ (dg 4294967296 v.natAbs).length ≤ M ∧ (dg 4294967296 w.natAbs).length ≤ M ∧ M ≤ 128 := by
    refine ⟨max (dg 4294967296 v.natAbs).length (dg 4294967296 w.natAbs).length, ?_, by omega, by omega, by omega⟩
    show mxI ((dg 4294967296 v.natAbs).length : Int) ((dg 4294967296 w.natAbs).length : Int) = _
    unfold mxI; split <;> omega
  obtain ⟨m1, m2, m3, m4⟩ := hM
  have e1 : w64 ((M : Int) + 1) = ((M + 1 : Nat) : Int) := by rw [w64_id (by omega) (by omega)]; omega
  obtain ⟨X, x1, x2, x3, x4⟩ := twos_iz (k := k) (N := M + 1) (v := v) (by omega) (by omega) (by omega)
  obtain ⟨Y, y1, y2, y3, y4⟩ := twos_iz (k := k) (N := M + 1) (v := w) (by omega) (by omega) (by omega)
  have hL := bitXor_l0 k (false, []) (0, 0) (M + 1) (by omega) k [] [] X Y rfl (by omega) (by simp; omega) (by omega)
  obtain ⟨z1, z2⟩ := ev_zip gXor (op := fun x y => bitsOp .xor .u32 x y) (fun x y h1 h2 h3 h4 => xor_nb h1 h2 h3 h4) X Y (by omega) x3 y3
  have hz : (List.zipWith (fun x y => bitsOp .xor .u32 x y) X Y).length = M + 1 := by rw [List.length_zipWith]; omega
  rw [x2, x4, y4] at z2
  have hr := bwI_nb gXor (limbs_rng m2) (limbs_rng m3)
  rw [show 32 * M + 31 + 1 = 32 * (M + 1) by omega] at hr
  have hB := back_ok (k := k) (N := M + 1) (by omega) (by omega) hk z1 hz z2
  unfold integer_bitwise_ddFinteger_Xor_1
  rw [check2 (by omega) hv hw]
  simp only [Option.bind_some, bne_self_eq_false, cond_false]
  rw [m1, e1, x1, y1]
  simp only [Option.bind_some]
  have hL' : integer_bitwise_ddFinteger_Xor_1.l0 k k () (false, []) (0, 0) X Y (X.length : Int) 0 = some (.inl ((false, []), (0, 0), List.zipWith (fun x y => bitsOp .xor .u32 x y) X Y)) := by rw [x2]; exact hL
  rw [hL']
  simp only [joinB_inl, List.nil_append]
  rw [hB, ← hr]; rfl
theorem iXor2_no {k : Nat} {a b : Bool × List Int} {f : Int × Int} (h : integer_check k [a, b] = some f) (hf : f.1 ≠ 0) : integer_bitwise_ddFinteger_Xor_1 k a b () = some ((false, []), f) := by
  unfold integer_bitwise_ddFinteger_Xor_1
  rw [h, Option.bind_some, bne_t hf]; rfl
theorem bitNot_l0 (k : Nat) (r : Bool × List Int) (f : Int × Int) (N : Nat) (hN : (N : Int) ≤ 1000000) : ∀ (m : Nat) (A B X Y : List Int), A.length = B.length → X.length = Y.length → A.length + X.length = N → X.length < m →
    integer_bitwise_ddFinteger_Not_1.l0 k m () r f (A ++ X) (B ++ Y) N A.length = some (.inl (r, f, A ++ List.zipWith (fun x y => bitsOp .xor .u32 (IntKind.max .u32) x) X Y)) := by
  intro m
  induction m with
  | zero => intro A B X Y _ _ _ h; omega
  | succ m ih =>
    intro A B X Y h1 h2 h3 h4
    simp only [integer_bitwise_ddFinteger_Not_1.l0, integer_bitwise_ddFinteger_Not_1.b0]
    cases X with
    | nil =>
      cases Y with
      | nil => rw [dlt_f (by simp at h3; omega)]; rfl
      | cons y Y => simp at h2
    | cons x X =>
      cases Y with
      | nil => simp at h2
      | cons y Y =>
        simp only [List.length_cons] at h2 h3 h4
        have e1 : rd (A ++ x :: X) ((A.length : Nat) : Int) = x := by
          show (A ++ x :: X).getD A.length 0 = x
          simp [List.getD_eq_getElem?_getD]
        have e2 : rd (B ++ y :: Y) ((A.length : Nat) : Int) = y := by
          rw [h1]
          show (B ++ y :: Y).getD B.length 0 = y
          simp [List.getD_eq_getElem?_getD]
        have e3 : w64 ((A.length : Int) + 1) = (((A.length + 1 : Nat)) : Int) := by rw [w64_id (by omega) (by omega)]; omega
        have hop : integer_Not_1 x y = some (bitsOp .xor .u32 (IntKind.max .u32) x) := rfl
        have e4 : (A ++ x :: X).set A.length (bitsOp .xor .u32 (IntKind.max .u32) x) = (A ++ [bitsOp .xor .u32 (IntKind.max .u32) x]) ++ X := by
          rw [List.set_append_right _ _ (by omega), Nat.sub_self, List.append_assoc]; rfl
        have hih := ih (A ++ [bitsOp .xor .u32 (IntKind.max .u32) x]) (B ++ [y]) X Y (by simp; omega) (by omega) (by simp; omega) (by omega)
        rw [dlt_t (by omega), inR_t (i := (A.length : Nat)) (n := ((A ++ x :: X).length : Nat)) (by omega) (by simp; omega), inR_t (i := (A.length : Nat)) (n := ((B ++ y :: Y).length : Nat)) (by omega) (by simp; omega), e1, e2, hop, natCast_toNat, e3]
        simp only [cond_true, Option.bind_some]
        rw [e4]
        rw [List.append_assoc B, List.length_append, List.length_singleton] at hih
        have hih' : integer_bitwise_ddFinteger_Not_1.l0 k m () r f (A ++ [bitsOp .xor .u32 (IntKind.max .u32) x] ++ X) (B ++ y :: Y) N ((A.length + 1 : Nat) : Int) = _ := hih
        rw [hih', List.append_assoc, List.zipWith_cons_cons]; rfl
theorem iNot2_ok {k : Nat} (hk : 2000000 < k) {v w : Int} (hv : v.natAbs < ilim) (hw : w.natAbs < ilim) : integer_bitwise_ddFinteger_Not_1 k (iz v) (iz w) () = some (ires (bwI gNot v w)) := by
  have l1 := ilim_iff.2 hv
  have l2 := ilim_iff.2 hw
  obtain ⟨M, hM⟩ : ∃ M : Nat, mxI (((iz v).2.length : Nat) : Int) (((iz w).2.length : Nat) : Int) = M ∧ (dg 4294967296 v.natAbs).length ≤ M ∧ (dg 4294967296 w.natAbs).length ≤ M ∧ M ≤ 128 := by
    refine ⟨max (dg 4294967296 v.natAbs).length (dg 4294967296 w.natAbs).length, ?_, by omega, by omega, by omega⟩
    show mxI ((dg 4294967296 v.natAbs).length : Int) ((dg 4294967296 w.natAbs).length : Int) = _
    unfold mxI; split <;> omega
  obtain ⟨m1, m2, m3, m4⟩ := hM
  have e1 : w64 ((M : Int) + 1) = ((M + 1 : Nat) : Int) := by rw [w64_id (by omega) (by omega)]; omega
  obtain ⟨X, x1, x2, x3, x4⟩ := twos_iz (k := k) (N := M + 1) (v := v) (by omega) (by omega) (by omega)
  obtain ⟨Y, y1, y2, y3, y4⟩ := twos_iz (k := k) (N := M + 1) (v := w) (by omega) (by omega) (by omega)
  have hL := bitNot_l0 k (false, []) (0, 0) (M + 1) (by omega) k [] [] X Y rfl (by omega) (by simp; omega) (by omega)
  obtain ⟨z1, z2⟩ := ev_zip gNot (op := fun x y => bitsOp .xor .u32 (IntKind.max .u32) x) (fun x y h1 h2 h3 h4 => not_nb h1 h2 h3 h4) X Y (by omega) x3 y3
  have hz : (List.zipWith (fun x y => bitsOp .xor .u32 (IntKind.max .u32) x) X Y).length = M + 1 := by rw [List.length_zipWith]; omega
  rw [x2, x4, y4] at z2
  have hr := bwI_nb gNot (limbs_rng m2) (limbs_rng m3)
  rw [show 32 * M + 31 + 1 = 32 * (M + 1) by omega] at hr
  have hB := back_ok (k := k) (N := M + 1) (by omega) (by omega) hk z1 hz z2
  unfold integer_bitwise_ddFinteger_Not_1
  rw [check2 (by omega) hv hw]
  simp only [Option.bind_some, bne_self_eq_false, cond_false]
  rw [m1, e1, x1, y1]
  simp only [Option.bind_some]
  have hL' : integer_bitwise_ddFinteger_Not_1.l0 k k () (false, []) (0, 0) X Y (X.length : Int) 0 = some (.inl ((false, []), (0, 0), List.zipWith (fun x y => bitsOp .xor .u32 (IntKind.max .u32) x) X Y)) := by rw [x2]; exact hL
  rw [hL']
  simp only [joinB_inl, List.nil_append]
  rw [hB, ← hr]; rfl
theorem iNot2_no {k : Nat} {a b : Bool × List Int} {f : Int × Int} (h : integer_check k [a, b] = some f) (hf : f.1 ≠ 0) : integer_bitwise_ddFinteger_Not_1 k a b () = some ((false, []), f) := by
  unfold integer_bitwise_ddFinteger_Not_1
  rw [h, Option.bind_some, bne_t hf]; rfl
theorem iAnd_ok {k : Nat} (hk : 2000000 < k) {v w : Int} (hv : v.natAbs < ilim) (hw : w.natAbs < ilim) : integer_And k (iz v) (iz w) = some (ires (bwI gAnd v w)) := by
  unfold integer_And; rw [iAnd2_ok hk hv hw]; rfl
theorem iOr_ok {k : Nat} (hk : 2000000 < k) {v w : Int} (hv : v.natAbs < ilim) (hw : w.natAbs < ilim) : integer_Or k (iz v) (iz w) = some (ires (bwI gOr v w)) := by
  unfold integer_Or; rw [iOr2_ok hk hv hw]; rfl
theorem iXor_ok {k : Nat} (hk : 2000000 < k) {v w : Int} (hv : v.natAbs < ilim) (hw : w.natAbs < ilim) : integer_Xor k (iz v) (iz w) = some (ires (bwI gXor v w)) := by
  unfold integer_Xor; rw [iXor2_ok hk hv hw]; rfl
theorem ilim_pos : 0 < ilim := ilim_iff.1 (by decide)
theorem iNot_ok {k : Nat} (hk : 2000000 < k) {v : Int} (hv : v.natAbs < ilim) : integer_Not k (iz v) = some (ires (-v - 1)) := by
  unfold integer_Not
  have := iNot2_ok hk (v := v) (w := 0) hv ilim_pos
  have h' : integer_bitwise_ddFinteger_Not_1 k (iz v) (false, []) () = _ := this
  rw [h', bwI_not]; rfl
theorem ibit_no {k : Nat} {a b : Bool × List Int} {f : Int × Int} (h : integer_check k [a, b] = some f) (hf : f.1 ≠ 0) : integer_And k a b = some ((false, []), f) ∧ integer_Or k a b = some ((false, []), f) ∧ integer_Xor k a b = some ((false, []), f) := by
  refine ⟨?_, ?_, ?_⟩
  · unfold integer_And; rw [iAnd2_no h hf]; rfl
  · unfold integer_Or; rw [iOr2_no h hf]; rfl
  · unfold integer_Xor; rw [iXor2_no h hf]; rfl
end Go.Pl
