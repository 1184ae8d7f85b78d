/- The functions keep their word, by wip/gen/gen.py.  Conditions: none. -/
import Derived.Test.YtpomnejenhgpkaaShE
import Derived.Test.YtpomnejenhgpkaaE4
import Derived.Test.YtpomnejenhgpkaaChecked
set_option linter.unusedVariables false
set_option maxRecDepth 100000
set_option maxHeartbeats 0
namespace Go.Sh
open Go Go.Ev

theorem tt_3 : TyOK Go.Proofs.Try.prog 3 ⟨.int .i64, 0, [], false, true⟩ := tyInt (by kernel_rfl) (by kernel_rfl)
theorem tt_4 : TyOK Go.Proofs.Try.prog 4 ⟨.bool, 0, [], false, true⟩ := tyBool (by kernel_rfl) (by kernel_rfl)
theorem tt_22 : TyOK Go.Proofs.Try.prog 22 ⟨.list (.int .i64), 8, [], false, true⟩ := tyList (et := 3) (by kernel_rfl) (by kernel_rfl) (by kernel_rfl) (by kernel_rfl) (by kernel_rfl) (by kernel_rfl) (fun k h => by cases h; kernel_rfl)
theorem tt_23 : TyOK Go.Proofs.Try.prog 23 ⟨.list (.int .u32), 4, [], false, true⟩ := tyList (et := 61) (by kernel_rfl) (by kernel_rfl) (by kernel_rfl) (by kernel_rfl) (by kernel_rfl) (by kernel_rfl) (fun k h => by cases h; kernel_rfl)
theorem tt_25 : TyOK Go.Proofs.Try.prog 25 ⟨.st (.pair (.bool) (.list (.int .u32))), 0, [(0, .bool), (1, .list (.int .u32))], false, true⟩ := tySt (fs := fieldsOf' Go.Proofs.Try.prog 25) (by kernel_rfl) (by kernel_rfl) (by kernel_rfl) (by kernel_rfl)
theorem tt_27 : TyOK Go.Proofs.Try.prog 27 ⟨.st (.pair (.st (.pair (.bool) (.list (.int .u32)))) (.pair (.st (.pair (.bool) (.list (.int .u32)))) (.pair (.st (.pair (.bool) (.list (.int .u32)))) (.pair (.bool) (.pair (.bool) (.bool)))))), 0, [(0, .st (.pair (.bool) (.list (.int .u32)))), (2, .st (.pair (.bool) (.list (.int .u32)))), (4, .st (.pair (.bool) (.list (.int .u32)))), (6, .bool), (7, .bool), (8, .bool)], false, true⟩ := tySt (fs := fieldsOf' Go.Proofs.Try.prog 27) (by kernel_rfl) (by kernel_rfl) (by kernel_rfl) (by kernel_rfl)
theorem tt_29 : TyOK Go.Proofs.Try.prog 29 ⟨.st (.pair (.int .i64) (.int .i64)), 0, [(0, .int .i64), (1, .int .i64)], true, true⟩ := tyStE (fs := fieldsOf' Go.Proofs.Try.prog 29) (by kernel_rfl) (by kernel_rfl) (by kernel_rfl) (by kernel_rfl) (by kernel_rfl) (by kernel_rfl) (by kernel_rfl) (by kernel_rfl) (by kernel_rfl)
theorem tt_46 : TyOK Go.Proofs.Try.prog 46 ⟨.ptr (.unit), 0, [], false, true⟩ := tyMp (kt := 3) (vt := 4) (by kernel_rfl) (by kernel_rfl) (by kernel_rfl) (by kernel_rfl)
theorem tt_48 : TyOK Go.Proofs.Try.prog 48 ⟨.list (.st (.pair (.bool) (.list (.int .u32)))), 32, [], false, true⟩ := tyList (et := 25) (by kernel_rfl) (by kernel_rfl) (by kernel_rfl) (by kernel_rfl) (by kernel_rfl) (by kernel_rfl) (fun k h => by cases h)
theorem tt_58 : TyOK Go.Proofs.Try.prog 58 ⟨.list (.list (.int .i64)), 24, [], false, true⟩ := tyList (et := 22) (by kernel_rfl) (by kernel_rfl) (by kernel_rfl) (by kernel_rfl) (by kernel_rfl) (by kernel_rfl) (fun k h => by cases h)
theorem tt_60 : TyOK Go.Proofs.Try.prog 60 ⟨.int .u64, 0, [], false, true⟩ := tyInt (by kernel_rfl) (by kernel_rfl)
theorem tt_61 : TyOK Go.Proofs.Try.prog 61 ⟨.int .u32, 0, [], false, true⟩ := tyInt (by kernel_rfl) (by kernel_rfl)
theorem tt_ok : TypesOK Go.Proofs.Try.prog tt := types_ok (rows := ttRows) (forall_cons tt_3 (forall_cons tt_4 (forall_cons tt_22 (forall_cons tt_23 (forall_cons tt_25 (forall_cons tt_27 (forall_cons tt_29 (forall_cons tt_46 (forall_cons tt_48 (forall_cons tt_58 (forall_cons tt_60 (forall_cons tt_61 forall_nil))))))))))))
theorem follows : Go.Proofs.Try.prog.follows .mixedOrders = true := by kernel_rfl

theorem integer_Of.tab_ok (k : Nat) : ∀ E ∈ integer_Of.tab k, SpecOK Go.Proofs.Try.prog E := forall_nil
theorem integer_Of.l0_ok (k : Nat) : LoopOK Go.Proofs.Try.prog Go.Proofs.Try.f18.ntmps (finOf tt integer_Of.B Go.Proofs.Try.f18.results.toList) (cAt [1, 1, 1, 1, 0, 0, 0] (bodyOf Go.Proofs.Try.f18)) integer_Of.M0 integer_Of.O0 0 (fun x => integer_Of.l0 k k x.1 x.2.1 x.2.2) :=
  loop_ok (R0 := denB integer_Of.B) (M := integer_Of.M0) (O := integer_Of.O0) (L := fun m (x : integer_Of.M0.den) => integer_Of.l0 k m x.1 x.2.1 x.2.2) tt_ok (integer_Of.tab_ok k) follows (ann := .nil) (annOK_nil _) (fun _ => rfl) (fun m x => integer_Of.l0_ev k m x) k
theorem integer_Of.spec (k : Nat) : SpecOK Go.Proofs.Try.prog (integer_Of.E k) :=
  fn_ok (c := bodyOf Go.Proofs.Try.f18) tt_ok (integer_Of.tab_ok k) follows Go.Proofs.Try.func18 rfl (name_ne (by kernel_rfl)) (by kernel_rfl) (Nat.le_of_ble_eq_true (by kernel_rfl)) (Nat.le_of_ble_eq_true (by kernel_rfl)) (annOK_seq (annOK_nil _) (annOK_seq (annOK_nil _) (annOK_jseq (annOK_nil _) (annOK_seq (annOK_nil _) (annOK_seq (annOK_block (annOK_loop (integer_Of.l0_ok k))) (annOK_nil _)))))) (integer_Of.ev k)

theorem integer_Valid.tab_ok  : ∀ E ∈ integer_Valid.tab, SpecOK Go.Proofs.Try.prog E := forall_nil
theorem integer_Valid.spec  : SpecOK Go.Proofs.Try.prog (integer_Valid.E) :=
  fn_ok (c := bodyOf Go.Proofs.Try.f39) tt_ok (integer_Valid.tab_ok) follows Go.Proofs.Try.func39 rfl (name_ne (by kernel_rfl)) (by kernel_rfl) (Nat.le_of_ble_eq_true (by kernel_rfl)) (Nat.le_of_ble_eq_true (by kernel_rfl)) (annOK_nil _) integer_Valid.ev

theorem slicing_part.tab_ok  : ∀ E ∈ slicing_part.tab, SpecOK Go.Proofs.Try.prog E := (forall_cons integer_Valid.spec forall_nil)
theorem slicing_part.spec  : SpecOK Go.Proofs.Try.prog (slicing_part.E) :=
  fn_ok (c := bodyOf Go.Proofs.Try.f32) tt_ok (slicing_part.tab_ok) follows Go.Proofs.Try.func32 rfl (name_ne (by kernel_rfl)) (by kernel_rfl) (Nat.le_of_ble_eq_true (by kernel_rfl)) (Nat.le_of_ble_eq_true (by kernel_rfl)) (annOK_nil _) slicing_part.ev

theorem slicing_at.tab_ok  : ∀ E ∈ slicing_at.tab, SpecOK Go.Proofs.Try.prog E := forall_nil
theorem slicing_at.spec  : SpecOK Go.Proofs.Try.prog (slicing_at.E) :=
  fn_ok (c := bodyOf Go.Proofs.Try.f15) tt_ok (slicing_at.tab_ok) follows Go.Proofs.Try.func15 rfl (name_ne (by kernel_rfl)) (by kernel_rfl) (Nat.le_of_ble_eq_true (by kernel_rfl)) (Nat.le_of_ble_eq_true (by kernel_rfl)) (annOK_nil _) slicing_at.ev

theorem slicing_Check.tab_ok  : ∀ E ∈ slicing_Check.tab, SpecOK Go.Proofs.Try.prog E := (forall_cons slicing_part.spec (forall_cons slicing_at.spec forall_nil))
theorem slicing_Check.spec  : SpecOK Go.Proofs.Try.prog (slicing_Check.E) :=
  fn_ok (c := bodyOf Go.Proofs.Try.f24) tt_ok (slicing_Check.tab_ok) follows Go.Proofs.Try.func24 rfl (name_ne (by kernel_rfl)) (by kernel_rfl) (Nat.le_of_ble_eq_true (by kernel_rfl)) (Nat.le_of_ble_eq_true (by kernel_rfl)) (annOK_seq (annOK_nil _) (annOK_jseq (annOK_nil _) (annOK_nil _))) slicing_Check.ev

theorem integer_at.tab_ok  : ∀ E ∈ integer_at.tab, SpecOK Go.Proofs.Try.prog E := forall_nil
theorem integer_at.spec  : SpecOK Go.Proofs.Try.prog (integer_at.E) :=
  fn_ok (c := bodyOf Go.Proofs.Try.f41) tt_ok (integer_at.tab_ok) follows Go.Proofs.Try.func41 rfl (name_ne (by kernel_rfl)) (by kernel_rfl) (Nat.le_of_ble_eq_true (by kernel_rfl)) (Nat.le_of_ble_eq_true (by kernel_rfl)) (annOK_nil _) integer_at.ev

theorem integer_check.tab_ok (k : Nat) : ∀ E ∈ integer_check.tab k, SpecOK Go.Proofs.Try.prog E := (forall_cons integer_Valid.spec (forall_cons integer_at.spec forall_nil))
theorem integer_check.l0_ok (k : Nat) : LoopOK Go.Proofs.Try.prog Go.Proofs.Try.f40.ntmps (finOf tt integer_check.B Go.Proofs.Try.f40.results.toList) (cAt [1, 0, 1, 0, 0] (bodyOf Go.Proofs.Try.f40)) integer_check.M0 integer_check.O0 0 (fun x => integer_check.l0 k k x.1 x.2.1 x.2.2.1 x.2.2.2) :=
  loop_ok (R0 := denB integer_check.B) (M := integer_check.M0) (O := integer_check.O0) (L := fun m (x : integer_check.M0.den) => integer_check.l0 k m x.1 x.2.1 x.2.2.1 x.2.2.2) tt_ok (integer_check.tab_ok k) follows (ann := .nil) (annOK_nil _) (fun _ => rfl) (fun m x => integer_check.l0_ev k m x) k
theorem integer_check.spec (k : Nat) : SpecOK Go.Proofs.Try.prog (integer_check.E k) :=
  fn_ok (c := bodyOf Go.Proofs.Try.f40) tt_ok (integer_check.tab_ok k) follows Go.Proofs.Try.func40 rfl (name_ne (by kernel_rfl)) (by kernel_rfl) (Nat.le_of_ble_eq_true (by kernel_rfl)) (Nat.le_of_ble_eq_true (by kernel_rfl)) (annOK_seq (annOK_nil _) (annOK_seq (annOK_seq (annOK_nil _) (annOK_block (annOK_loop (integer_check.l0_ok k)))) (annOK_nil _))) (integer_check.ev k)

theorem integer_Small.tab_ok (k : Nat) : ∀ E ∈ integer_Small.tab k, SpecOK Go.Proofs.Try.prog E := (forall_cons (integer_check.spec k) (forall_cons integer_at.spec forall_nil))
theorem integer_Small.l0_ok (k : Nat) : LoopOK Go.Proofs.Try.prog Go.Proofs.Try.f33.ntmps (finOf tt integer_Small.B Go.Proofs.Try.f33.results.toList) (cAt [1, 1, 1, 0, 1, 0, 0] (bodyOf Go.Proofs.Try.f33)) integer_Small.M0 integer_Small.O0 0 (fun x => integer_Small.l0 k k x.1 x.2.1 x.2.2.1 x.2.2.2.1 x.2.2.2.2.1 x.2.2.2.2.2) :=
  loop_ok (R0 := denB integer_Small.B) (M := integer_Small.M0) (O := integer_Small.O0) (L := fun m (x : integer_Small.M0.den) => integer_Small.l0 k m x.1 x.2.1 x.2.2.1 x.2.2.2.1 x.2.2.2.2.1 x.2.2.2.2.2) tt_ok (integer_Small.tab_ok k) follows (ann := .nil) (annOK_nil _) (fun _ => rfl) (fun m x => integer_Small.l0_ev k m x) k
theorem integer_Small.spec (k : Nat) : SpecOK Go.Proofs.Try.prog (integer_Small.E k) :=
  fn_ok (c := bodyOf Go.Proofs.Try.f33) tt_ok (integer_Small.tab_ok k) follows Go.Proofs.Try.func33 rfl (name_ne (by kernel_rfl)) (by kernel_rfl) (Nat.le_of_ble_eq_true (by kernel_rfl)) (Nat.le_of_ble_eq_true (by kernel_rfl)) (annOK_seq (annOK_nil _) (annOK_seq (annOK_nil _) (annOK_seq (annOK_nil _) (annOK_seq (annOK_seq (annOK_nil _) (annOK_block (annOK_loop (integer_Small.l0_ok k)))) (annOK_seq (annOK_nil _) (annOK_jseq (annOK_nil _) (annOK_nil _))))))) (integer_Small.ev k)

theorem slicing_bounded.tab_ok (k : Nat) : ∀ E ∈ slicing_bounded.tab k, SpecOK Go.Proofs.Try.prog E := (forall_cons (integer_Small.spec k) forall_nil)
theorem slicing_bounded.spec (k : Nat) : SpecOK Go.Proofs.Try.prog (slicing_bounded.E k) :=
  fn_ok (c := bodyOf Go.Proofs.Try.f25) tt_ok (slicing_bounded.tab_ok k) follows Go.Proofs.Try.func25 rfl (name_ne (by kernel_rfl)) (by kernel_rfl) (Nat.le_of_ble_eq_true (by kernel_rfl)) (Nat.le_of_ble_eq_true (by kernel_rfl)) (annOK_nil _) (slicing_bounded.ev k)

theorem slicing_end.tab_ok (k : Nat) : ∀ E ∈ slicing_end.tab k, SpecOK Go.Proofs.Try.prog E := (forall_cons (slicing_bounded.spec k) forall_nil)
theorem slicing_end.spec (k : Nat) : SpecOK Go.Proofs.Try.prog (slicing_end.E k) :=
  fn_ok (c := bodyOf Go.Proofs.Try.f26) tt_ok (slicing_end.tab_ok k) follows Go.Proofs.Try.func26 rfl (name_ne (by kernel_rfl)) (by kernel_rfl) (Nat.le_of_ble_eq_true (by kernel_rfl)) (Nat.le_of_ble_eq_true (by kernel_rfl)) (annOK_nil _) (slicing_end.ev k)

theorem slicing_Resolve.tab_ok (k : Nat) : ∀ E ∈ slicing_Resolve.tab k, SpecOK Go.Proofs.Try.prog E := (forall_cons slicing_Check.spec (forall_cons slicing_at.spec (forall_cons (slicing_bounded.spec k) (forall_cons (slicing_end.spec k) forall_nil))))
theorem slicing_Resolve.spec (k : Nat) : SpecOK Go.Proofs.Try.prog (slicing_Resolve.E k) :=
  fn_ok (c := bodyOf Go.Proofs.Try.f14) tt_ok (slicing_Resolve.tab_ok k) follows Go.Proofs.Try.func14 rfl (name_ne (by kernel_rfl)) (by kernel_rfl) (Nat.le_of_ble_eq_true (by kernel_rfl)) (Nat.le_of_ble_eq_true (by kernel_rfl)) (annOK_seq (annOK_nil _) (annOK_seq (annOK_nil _) (annOK_jseq (annOK_nil _) (annOK_seq (annOK_nil _) (annOK_jseq (annOK_nil _) (annOK_seq (annOK_nil _) (annOK_jseq (annOK_nil _) (annOK_seq (annOK_nil _) (annOK_jseq (annOK_nil _) (annOK_jseq (annOK_nil _) (annOK_jseq (annOK_nil _) (annOK_nil _)))))))))))) (slicing_Resolve.ev k)

theorem slices_Grow_intint_nd.tab_ok  : ∀ E ∈ slices_Grow_intint_nd.tab, SpecOK Go.Proofs.Try.prog E := forall_nil
theorem slices_Grow_intint_nd.spec  : SpecOK Go.Proofs.Try.prog (slices_Grow_intint_nd.E) :=
  fn_ok (c := bodyOf Go.Proofs.Try.f27) tt_ok (slices_Grow_intint_nd.tab_ok) follows Go.Proofs.Try.func27 rfl (name_ne (by kernel_rfl)) (by kernel_rfl) (Nat.le_of_ble_eq_true (by kernel_rfl)) (Nat.le_of_ble_eq_true (by kernel_rfl)) (annOK_nil _) slices_Grow_intint_nd.ev

theorem slices_Concat_intint.tab_ok (k : Nat) : ∀ E ∈ slices_Concat_intint.tab k, SpecOK Go.Proofs.Try.prog E := (forall_cons slices_Grow_intint_nd.spec forall_nil)
theorem slices_Concat_intint.l1_ok (k : Nat) : LoopOK Go.Proofs.Try.prog Go.Proofs.Try.f16.ntmps (finOf tt slices_Concat_intint.B Go.Proofs.Try.f16.results.toList) (cAt [1, 1, 1, 1, 0, 1, 0, 0] (bodyOf Go.Proofs.Try.f16)) slices_Concat_intint.M1 slices_Concat_intint.O1 2 (fun x => slices_Concat_intint.l1 k k x.1 x.2.1 x.2.2.1 x.2.2.2) :=
  loop_ok (R0 := denB slices_Concat_intint.B) (M := slices_Concat_intint.M1) (O := slices_Concat_intint.O1) (L := fun m (x : slices_Concat_intint.M1.den) => slices_Concat_intint.l1 k m x.1 x.2.1 x.2.2.1 x.2.2.2) tt_ok (slices_Concat_intint.tab_ok k) follows (ann := .nil) (annOK_nil _) (fun _ => rfl) (fun m x => slices_Concat_intint.l1_ev k m x) k
theorem slices_Concat_intint.l0_ok (k : Nat) : LoopOK Go.Proofs.Try.prog Go.Proofs.Try.f16.ntmps (finOf tt slices_Concat_intint.B Go.Proofs.Try.f16.results.toList) (cAt [1, 1, 0, 1, 0, 0] (bodyOf Go.Proofs.Try.f16)) slices_Concat_intint.M0 slices_Concat_intint.O0 0 (fun x => slices_Concat_intint.l0 k k x.1 x.2.1 x.2.2.1 x.2.2.2.1 x.2.2.2.2) :=
  loop_ok (R0 := denB slices_Concat_intint.B) (M := slices_Concat_intint.M0) (O := slices_Concat_intint.O0) (L := fun m (x : slices_Concat_intint.M0.den) => slices_Concat_intint.l0 k m x.1 x.2.1 x.2.2.1 x.2.2.2.1 x.2.2.2.2) tt_ok (slices_Concat_intint.tab_ok k) follows (ann := .nil) (annOK_nil _) (fun _ => rfl) (fun m x => slices_Concat_intint.l0_ev k m x) k
theorem slices_Concat_intint.spec (k : Nat) : SpecOK Go.Proofs.Try.prog (slices_Concat_intint.E k) :=
  fn_ok (c := bodyOf Go.Proofs.Try.f16) tt_ok (slices_Concat_intint.tab_ok k) follows Go.Proofs.Try.func16 rfl (name_ne (by kernel_rfl)) (by kernel_rfl) (Nat.le_of_ble_eq_true (by kernel_rfl)) (Nat.le_of_ble_eq_true (by kernel_rfl)) (annOK_seq (annOK_nil _) (annOK_seq (annOK_nil _) (annOK_seq (annOK_seq (annOK_nil _) (annOK_block (annOK_loop (slices_Concat_intint.l0_ok k)))) (annOK_seq (annOK_nil _) (annOK_seq (annOK_seq (annOK_nil _) (annOK_block (annOK_loop (slices_Concat_intint.l1_ok k)))) (annOK_nil _)))))) (slices_Concat_intint.ev k)

theorem slices_Clone_intint.spec : SpecOK Go.Proofs.Try.prog slices_Clone_intint.E :=
  clone_ok' (f := 17) (fn := Go.Proofs.Try.f17) (T := tt) (e := .int .i64) (t := 22) (et := 3) (run := slices_Clone_intint) tt_ok follows Go.Proofs.Try.func17 rfl (name_ne (by kernel_rfl)) rfl (by kernel_rfl) (by kernel_rfl) (by kernel_rfl) (fun x => by kernel_rfl) (fun x => by kernel_rfl) (fun x => by kernel_rfl) (fun x => by kernel_rfl) (by kernel_rfl) (fun x => by kernel_rfl) (clone_id slices_Clone_intint.eq_1)

theorem slicing_Put_int.tab_ok (k : Nat) : ∀ E ∈ slicing_Put_int.tab k, SpecOK Go.Proofs.Try.prog E := (forall_cons (slicing_Resolve.spec k) (forall_cons slicing_at.spec (forall_cons (slices_Concat_intint.spec k) (forall_cons slices_Clone_intint.spec forall_nil))))
theorem slicing_Put_int.l0_ok (k : Nat) : LoopOK Go.Proofs.Try.prog Go.Proofs.Try.f6.ntmps (finOf tt slicing_Put_int.B Go.Proofs.Try.f6.results.toList) (cAt [1, 1, 1, 1, 0, 1, 0, 0] (bodyOf Go.Proofs.Try.f6)) slicing_Put_int.M0 slicing_Put_int.O0 1 (fun x => slicing_Put_int.l0 k k x.1 x.2.1 x.2.2.1 x.2.2.2.1 x.2.2.2.2.1 x.2.2.2.2.2.1 x.2.2.2.2.2.2) :=
  loop_ok (R0 := denB slicing_Put_int.B) (M := slicing_Put_int.M0) (O := slicing_Put_int.O0) (L := fun m (x : slicing_Put_int.M0.den) => slicing_Put_int.l0 k m x.1 x.2.1 x.2.2.1 x.2.2.2.1 x.2.2.2.2.1 x.2.2.2.2.2.1 x.2.2.2.2.2.2) tt_ok (slicing_Put_int.tab_ok k) follows (ann := .nil) (annOK_nil _) (fun _ => rfl) (fun m x => slicing_Put_int.l0_ev k m x) k
theorem slicing_Put_int.spec (k : Nat) : SpecOK Go.Proofs.Try.prog (slicing_Put_int.E k) :=
  fn_ok (c := bodyOf Go.Proofs.Try.f6) tt_ok (slicing_Put_int.tab_ok k) follows Go.Proofs.Try.func6 rfl (name_ne (by kernel_rfl)) (by kernel_rfl) (Nat.le_of_ble_eq_true (by kernel_rfl)) (Nat.le_of_ble_eq_true (by kernel_rfl)) (annOK_seq (annOK_nil _) (annOK_seq (annOK_nil _) (annOK_seq (annOK_block (annOK_seq (annOK_nil _) (annOK_cond (annOK_nil _) (annOK_jseq (annOK_nil _) (annOK_nil _))))) (annOK_seq (annOK_nil _) (annOK_seq (annOK_seq (annOK_nil _) (annOK_block (annOK_loop (slicing_Put_int.l0_ok k)))) (annOK_nil _)))))) (slicing_Put_int.ev k)

theorem brindlewoodref3_Numbers.tab_ok (k : Nat) : ∀ E ∈ brindlewoodref3_Numbers.tab k, SpecOK Go.Proofs.Try.prog E := forall_nil
theorem brindlewoodref3_Numbers.l0_ok (k : Nat) : LoopOK Go.Proofs.Try.prog Go.Proofs.Try.f9.ntmps (finOf tt brindlewoodref3_Numbers.B Go.Proofs.Try.f9.results.toList) (cAt [1, 1, 0, 1, 0, 0] (bodyOf Go.Proofs.Try.f9)) brindlewoodref3_Numbers.M0 brindlewoodref3_Numbers.O0 0 (fun x => brindlewoodref3_Numbers.l0 k k x.1 x.2.1 x.2.2) :=
  loop_ok (R0 := denB brindlewoodref3_Numbers.B) (M := brindlewoodref3_Numbers.M0) (O := brindlewoodref3_Numbers.O0) (L := fun m (x : brindlewoodref3_Numbers.M0.den) => brindlewoodref3_Numbers.l0 k m x.1 x.2.1 x.2.2) tt_ok (brindlewoodref3_Numbers.tab_ok k) follows (ann := .nil) (annOK_nil _) (fun _ => rfl) (fun m x => brindlewoodref3_Numbers.l0_ev k m x) k
theorem brindlewoodref3_Numbers.spec (k : Nat) : SpecOK Go.Proofs.Try.prog (brindlewoodref3_Numbers.E k) :=
  fn_ok (c := bodyOf Go.Proofs.Try.f9) tt_ok (brindlewoodref3_Numbers.tab_ok k) follows Go.Proofs.Try.func9 rfl (name_ne (by kernel_rfl)) (by kernel_rfl) (Nat.le_of_ble_eq_true (by kernel_rfl)) (Nat.le_of_ble_eq_true (by kernel_rfl)) (annOK_seq (annOK_nil _) (annOK_seq (annOK_nil _) (annOK_seq (annOK_seq (annOK_nil _) (annOK_block (annOK_loop (brindlewoodref3_Numbers.l0_ok k)))) (annOK_nil _)))) (brindlewoodref3_Numbers.ev k)

theorem brindlewoodlaw3_cuts.tab_ok (k : Nat) : ∀ E ∈ brindlewoodlaw3_cuts.tab k, SpecOK Go.Proofs.Try.prog E := (forall_cons (integer_Of.spec k) (forall_cons (slicing_Resolve.spec k) (forall_cons (slicing_Put_int.spec k) (forall_cons (brindlewoodref3_Numbers.spec k) forall_nil))))
theorem brindlewoodlaw3_cuts.spec (k : Nat) : SpecOK Go.Proofs.Try.prog (brindlewoodlaw3_cuts.E k) :=
  fn_ok (c := bodyOf Go.Proofs.Try.f8) tt_ok (brindlewoodlaw3_cuts.tab_ok k) follows Go.Proofs.Try.func8 rfl (name_ne (by kernel_rfl)) (by kernel_rfl) (Nat.le_of_ble_eq_true (by kernel_rfl)) (Nat.le_of_ble_eq_true (by kernel_rfl)) (annOK_nil _) (brindlewoodlaw3_cuts.ev k)

theorem slicing_Take_int.tab_ok (k : Nat) : ∀ E ∈ slicing_Take_int.tab k, SpecOK Go.Proofs.Try.prog E := (forall_cons (slicing_Resolve.spec k) forall_nil)
theorem slicing_Take_int.l0_ok (k : Nat) : LoopOK Go.Proofs.Try.prog Go.Proofs.Try.f5.ntmps (finOf tt slicing_Take_int.B Go.Proofs.Try.f5.results.toList) (cAt [1, 1, 1, 1, 0, 1, 0, 0] (bodyOf Go.Proofs.Try.f5)) slicing_Take_int.M0 slicing_Take_int.O0 0 (fun x => slicing_Take_int.l0 k k x.1 x.2.1 x.2.2.1 x.2.2.2.1 x.2.2.2.2.1 x.2.2.2.2.2.1 x.2.2.2.2.2.2) :=
  loop_ok (R0 := denB slicing_Take_int.B) (M := slicing_Take_int.M0) (O := slicing_Take_int.O0) (L := fun m (x : slicing_Take_int.M0.den) => slicing_Take_int.l0 k m x.1 x.2.1 x.2.2.1 x.2.2.2.1 x.2.2.2.2.1 x.2.2.2.2.2.1 x.2.2.2.2.2.2) tt_ok (slicing_Take_int.tab_ok k) follows (ann := .nil) (annOK_nil _) (fun _ => rfl) (fun m x => slicing_Take_int.l0_ev k m x) k
theorem slicing_Take_int.spec (k : Nat) : SpecOK Go.Proofs.Try.prog (slicing_Take_int.E k) :=
  fn_ok (c := bodyOf Go.Proofs.Try.f5) tt_ok (slicing_Take_int.tab_ok k) follows Go.Proofs.Try.func5 rfl (name_ne (by kernel_rfl)) (by kernel_rfl) (Nat.le_of_ble_eq_true (by kernel_rfl)) (Nat.le_of_ble_eq_true (by kernel_rfl)) (annOK_seq (annOK_nil _) (annOK_seq (annOK_nil _) (annOK_seq (annOK_nil _) (annOK_seq (annOK_nil _) (annOK_seq (annOK_seq (annOK_nil _) (annOK_block (annOK_loop (slicing_Take_int.l0_ok k)))) (annOK_nil _)))))) (slicing_Take_int.ev k)

theorem slicing_Drop_int.tab_ok (k : Nat) : ∀ E ∈ slicing_Drop_int.tab k, SpecOK Go.Proofs.Try.prog E := (forall_cons (slicing_Resolve.spec k) forall_nil)
theorem slicing_Drop_int.l1_ok (k : Nat) : LoopOK Go.Proofs.Try.prog Go.Proofs.Try.f7.ntmps (finOf tt slicing_Drop_int.B Go.Proofs.Try.f7.results.toList) (cAt [1, 1, 1, 1, 1, 1, 0, 1, 0, 0] (bodyOf Go.Proofs.Try.f7)) slicing_Drop_int.M1 slicing_Drop_int.O1 2 (fun x => slicing_Drop_int.l1 k k x.1 x.2.1 x.2.2.1 x.2.2.2.1 x.2.2.2.2.1 x.2.2.2.2.2) :=
  loop_ok (R0 := denB slicing_Drop_int.B) (M := slicing_Drop_int.M1) (O := slicing_Drop_int.O1) (L := fun m (x : slicing_Drop_int.M1.den) => slicing_Drop_int.l1 k m x.1 x.2.1 x.2.2.1 x.2.2.2.1 x.2.2.2.2.1 x.2.2.2.2.2) tt_ok (slicing_Drop_int.tab_ok k) follows (ann := .nil) (annOK_nil _) (fun _ => rfl) (fun m x => slicing_Drop_int.l1_ev k m x) k
theorem slicing_Drop_int.l0_ok (k : Nat) : LoopOK Go.Proofs.Try.prog Go.Proofs.Try.f7.ntmps (finOf tt slicing_Drop_int.B Go.Proofs.Try.f7.results.toList) (cAt [1, 1, 1, 1, 0, 1, 0, 0] (bodyOf Go.Proofs.Try.f7)) slicing_Drop_int.M0 slicing_Drop_int.O0 0 (fun x => slicing_Drop_int.l0 k k x.1 x.2.1 x.2.2.1 x.2.2.2.1 x.2.2.2.2.1 x.2.2.2.2.2.1 x.2.2.2.2.2.2) :=
  loop_ok (R0 := denB slicing_Drop_int.B) (M := slicing_Drop_int.M0) (O := slicing_Drop_int.O0) (L := fun m (x : slicing_Drop_int.M0.den) => slicing_Drop_int.l0 k m x.1 x.2.1 x.2.2.1 x.2.2.2.1 x.2.2.2.2.1 x.2.2.2.2.2.1 x.2.2.2.2.2.2) tt_ok (slicing_Drop_int.tab_ok k) follows (ann := .nil) (annOK_nil _) (fun _ => rfl) (fun m x => slicing_Drop_int.l0_ev k m x) k
theorem slicing_Drop_int.spec (k : Nat) : SpecOK Go.Proofs.Try.prog (slicing_Drop_int.E k) :=
  fn_ok (c := bodyOf Go.Proofs.Try.f7) tt_ok (slicing_Drop_int.tab_ok k) follows Go.Proofs.Try.func7 rfl (name_ne (by kernel_rfl)) (by kernel_rfl) (Nat.le_of_ble_eq_true (by kernel_rfl)) (Nat.le_of_ble_eq_true (by kernel_rfl)) (annOK_seq (annOK_nil _) (annOK_seq (annOK_nil _) (annOK_seq (annOK_nil _) (annOK_seq (annOK_nil _) (annOK_seq (annOK_seq (annOK_nil _) (annOK_block (annOK_loop (slicing_Drop_int.l0_ok k)))) (annOK_seq (annOK_nil _) (annOK_seq (annOK_seq (annOK_nil _) (annOK_block (annOK_loop (slicing_Drop_int.l1_ok k)))) (annOK_nil _)))))))) (slicing_Drop_int.ev k)

theorem brindlewoodref3_At.tab_ok  : ∀ E ∈ brindlewoodref3_At.tab, SpecOK Go.Proofs.Try.prog E := forall_nil
theorem brindlewoodref3_At.spec  : SpecOK Go.Proofs.Try.prog (brindlewoodref3_At.E) :=
  fn_ok (c := bodyOf Go.Proofs.Try.f11) tt_ok (brindlewoodref3_At.tab_ok) follows Go.Proofs.Try.func11 rfl (name_ne (by kernel_rfl)) (by kernel_rfl) (Nat.le_of_ble_eq_true (by kernel_rfl)) (Nat.le_of_ble_eq_true (by kernel_rfl)) (annOK_nil _) brindlewoodref3_At.ev

theorem brindlewoodlaw3_SlicingBack.tab_ok (k : Nat) : ∀ E ∈ brindlewoodlaw3_SlicingBack.tab k, SpecOK Go.Proofs.Try.prog E := (forall_cons (brindlewoodlaw3_cuts.spec k) (forall_cons (slicing_Take_int.spec k) (forall_cons (slicing_Put_int.spec k) (forall_cons (slicing_Drop_int.spec k) (forall_cons (slicing_Resolve.spec k) (forall_cons (brindlewoodref3_Numbers.spec k) (forall_cons brindlewoodref3_At.spec forall_nil)))))))
theorem brindlewoodlaw3_SlicingBack.spec (k : Nat) : SpecOK Go.Proofs.Try.prog (brindlewoodlaw3_SlicingBack.E k) :=
  fn_ok (c := bodyOf Go.Proofs.Try.f4) tt_ok (brindlewoodlaw3_SlicingBack.tab_ok k) follows Go.Proofs.Try.func4 rfl (name_ne (by kernel_rfl)) (by kernel_rfl) (Nat.le_of_ble_eq_true (by kernel_rfl)) (Nat.le_of_ble_eq_true (by kernel_rfl)) (annOK_seq (annOK_nil _) (annOK_jseq (annOK_nil _) (annOK_seq (annOK_nil _) (annOK_seq (annOK_nil _) (annOK_seq (annOK_nil _) (annOK_seq (annOK_nil _) (annOK_seq (annOK_nil _) (annOK_jseq (annOK_nil _) (annOK_nil _))))))))) (brindlewoodlaw3_SlicingBack.ev k)
end Go.Sh
