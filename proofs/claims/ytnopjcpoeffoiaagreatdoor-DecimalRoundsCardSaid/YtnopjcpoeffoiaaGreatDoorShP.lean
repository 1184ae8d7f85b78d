/- The functions keep their word, by wip/gen/gen.py.  Conditions: none. -/
import Derived.Test.YtnopjcpoeffoiaaGreatDoorShE
import Derived.Test.YtnopjcpoeffoiaaGreatDoorE4
import Derived.Test.YtnopjcpoeffoiaaGreatDoorChecked
import Derived.Test.YtnopjcpoeffoiaaGreatDoorGiA
set_option linter.unusedVariables false
set_option maxRecDepth 100000
set_option maxHeartbeats 0
namespace Go.Sh
open Go Go.Ev

theorem tt_3 : TyOK Go.Proofs.Tryz.prog 3 ⟨.int .i64, 0, [], false, true⟩ := tyInt (by kernel_rfl) (by kernel_rfl)
theorem tt_4 : TyOK Go.Proofs.Tryz.prog 4 ⟨.bool, 0, [], false, true⟩ := tyBool (by kernel_rfl) (by kernel_rfl)
theorem tt_5 : TyOK Go.Proofs.Tryz.prog 5 ⟨.int .u8, 0, [], false, true⟩ := tyInt (by kernel_rfl) (by kernel_rfl)
theorem tt_9 : TyOK Go.Proofs.Tryz.prog 9 ⟨.str, 0, [], false, true⟩ := tyStr (by kernel_rfl) (by kernel_rfl)
theorem tt_22 : TyOK Go.Proofs.Tryz.prog 22 ⟨.list (.int .u32), 4, [], false, true⟩ := tyList (et := 121) (by kernel_rfl) (by kernel_rfl) (by kernel_rfl) (by kernel_rfl) (by kernel_rfl) (by kernel_rfl) (fun k h => by cases h; kernel_rfl)
theorem tt_24 : TyOK Go.Proofs.Tryz.prog 24 ⟨.st (.pair (.bool) (.list (.int .u32))), 0, [(0, .bool), (1, .list (.int .u32))], false, true⟩ := tySt (fs := fieldsOf' Go.Proofs.Tryz.prog 24) (by kernel_rfl) (by kernel_rfl) (by kernel_rfl) (by kernel_rfl)
theorem tt_26 : TyOK Go.Proofs.Tryz.prog 26 ⟨.st (.pair (.int .i64) (.pair (.bool) (.pair (.st (.pair (.bool) (.list (.int .u32)))) (.int .i64)))), 0, [(0, .int .i64), (1, .bool), (2, .st (.pair (.bool) (.list (.int .u32)))), (4, .int .i64)], false, true⟩ := tySt (fs := fieldsOf' Go.Proofs.Tryz.prog 26) (by kernel_rfl) (by kernel_rfl) (by kernel_rfl) (by kernel_rfl)
theorem tt_28 : TyOK Go.Proofs.Tryz.prog 28 ⟨.st (.pair (.int .i64) (.int .i64)), 0, [(0, .int .i64), (1, .int .i64)], true, true⟩ := tyStE (fs := fieldsOf' Go.Proofs.Tryz.prog 28) (by kernel_rfl) (by kernel_rfl) (by kernel_rfl) (by kernel_rfl) (by kernel_rfl) (by kernel_rfl) (by kernel_rfl) (by kernel_rfl) (by kernel_rfl)
theorem tt_40 : TyOK Go.Proofs.Tryz.prog 40 ⟨.st (.pair (.int .i64) (.pair (.int .i64) (.pair (.int .i64) (.int .i64)))), 0, [(0, .int .i64), (1, .int .i64), (2, .int .i64), (3, .int .i64)], false, true⟩ := tySt (fs := fieldsOf' Go.Proofs.Tryz.prog 40) (by kernel_rfl) (by kernel_rfl) (by kernel_rfl) (by kernel_rfl)
theorem tt_66 : TyOK Go.Proofs.Tryz.prog 66 ⟨.list (.int .i64), 8, [], false, true⟩ := tyList (et := 3) (by kernel_rfl) (by kernel_rfl) (by kernel_rfl) (by kernel_rfl) (by kernel_rfl) (by kernel_rfl) (fun k h => by cases h; kernel_rfl)
theorem tt_67 : TyOK Go.Proofs.Tryz.prog 67 ⟨.list (.int .i64), 8, [], false, true⟩ := tyList (et := 3) (by kernel_rfl) (by kernel_rfl) (by kernel_rfl) (by kernel_rfl) (by kernel_rfl) (by kernel_rfl) (fun k h => by cases h; kernel_rfl)
theorem tt_82 : TyOK Go.Proofs.Tryz.prog 82 ⟨.st (.pair (.bool) (.pair (.list (.int .i64)) (.pair (.list (.int .i64)) (.int .i64)))), 0, [(0, .bool), (1, .list (.int .i64)), (2, .list (.int .i64)), (3, .int .i64)], false, true⟩ := tySt (fs := fieldsOf' Go.Proofs.Tryz.prog 82) (by kernel_rfl) (by kernel_rfl) (by kernel_rfl) (by kernel_rfl)
theorem tt_84 : TyOK Go.Proofs.Tryz.prog 84 ⟨.list (.st (.pair (.int .i64) (.pair (.bool) (.pair (.st (.pair (.bool) (.list (.int .u32)))) (.int .i64))))), 56, [], false, true⟩ := tyList (et := 26) (by kernel_rfl) (by kernel_rfl) (by kernel_rfl) (by kernel_rfl) (by kernel_rfl) (by kernel_rfl) (fun k h => by cases h)
theorem tt_116 : TyOK Go.Proofs.Tryz.prog 116 ⟨.st (.pair (.bool) (.pair (.list (.int .u32)) (.pair (.list (.int .u32)) (.int .i64)))), 0, [(0, .bool), (1, .list (.int .u32)), (2, .list (.int .u32)), (3, .int .i64)], false, true⟩ := tySt (fs := fieldsOf' Go.Proofs.Tryz.prog 116) (by kernel_rfl) (by kernel_rfl) (by kernel_rfl) (by kernel_rfl)
theorem tt_121 : TyOK Go.Proofs.Tryz.prog 121 ⟨.int .u32, 0, [], false, true⟩ := tyInt (by kernel_rfl) (by kernel_rfl)
theorem tt_153 : TyOK Go.Proofs.Tryz.prog 153 ⟨.list (.bool), 1, [], false, true⟩ := tyList (et := 4) (by kernel_rfl) (by kernel_rfl) (by kernel_rfl) (by kernel_rfl) (by kernel_rfl) (by kernel_rfl) (fun k h => by cases h)
theorem tt_163 : TyOK Go.Proofs.Tryz.prog 163 ⟨.list (.int .u8), 1, [], false, true⟩ := tyList (et := 5) (by kernel_rfl) (by kernel_rfl) (by kernel_rfl) (by kernel_rfl) (by kernel_rfl) (by kernel_rfl) (fun k h => by cases h; kernel_rfl)
theorem tt_202 : TyOK Go.Proofs.Tryz.prog 202 ⟨.list (.st (.pair (.bool) (.list (.int .u32)))), 32, [], false, true⟩ := tyList (et := 24) (by kernel_rfl) (by kernel_rfl) (by kernel_rfl) (by kernel_rfl) (by kernel_rfl) (by kernel_rfl) (fun k h => by cases h)
theorem tt_212 : TyOK Go.Proofs.Tryz.prog 212 ⟨.int .u64, 0, [], false, true⟩ := tyInt (by kernel_rfl) (by kernel_rfl)
theorem tt_ok : TypesOK Go.Proofs.Tryz.prog tt := types_ok (rows := ttRows) (forall_cons tt_3 (forall_cons tt_4 (forall_cons tt_5 (forall_cons tt_9 (forall_cons tt_22 (forall_cons tt_24 (forall_cons tt_26 (forall_cons tt_28 (forall_cons tt_40 (forall_cons tt_66 (forall_cons tt_67 (forall_cons tt_82 (forall_cons tt_84 (forall_cons tt_116 (forall_cons tt_121 (forall_cons tt_153 (forall_cons tt_163 (forall_cons tt_202 (forall_cons tt_212 forall_nil)))))))))))))))))))
theorem follows : Go.Proofs.Tryz.prog.follows .mixedOrders = true := by kernel_rfl

theorem brindlewoodref3_ContextOk.tab_ok  : ∀ E ∈ brindlewoodref3_ContextOk.tab, SpecOK Go.Proofs.Tryz.prog E := forall_nil
theorem brindlewoodref3_ContextOk.spec  : SpecOK Go.Proofs.Tryz.prog (brindlewoodref3_ContextOk.E) :=
  fn_ok (c := bodyOf Go.Proofs.Tryz.f41) tt_ok (brindlewoodref3_ContextOk.tab_ok) follows Go.Proofs.Tryz.func41 rfl (name_ne (by kernel_rfl)) (by kernel_rfl) (Nat.le_of_ble_eq_true (by kernel_rfl)) (Nat.le_of_ble_eq_true (by kernel_rfl)) (annOK_nil _) brindlewoodref3_ContextOk.ev

theorem brindlewoodref3_At.tab_ok  : ∀ E ∈ brindlewoodref3_At.tab, SpecOK Go.Proofs.Tryz.prog E := forall_nil
theorem brindlewoodref3_At.spec  : SpecOK Go.Proofs.Tryz.prog (brindlewoodref3_At.E) :=
  fn_ok (c := bodyOf Go.Proofs.Tryz.f17) tt_ok (brindlewoodref3_At.tab_ok) follows Go.Proofs.Tryz.func17 rfl (name_ne (by kernel_rfl)) (by kernel_rfl) (Nat.le_of_ble_eq_true (by kernel_rfl)) (Nat.le_of_ble_eq_true (by kernel_rfl)) (annOK_nil _) brindlewoodref3_At.ev

theorem brindlewoodref3_IntOk.tab_ok  : ∀ E ∈ brindlewoodref3_IntOk.tab, SpecOK Go.Proofs.Tryz.prog E := forall_nil
theorem brindlewoodref3_IntOk.spec  : SpecOK Go.Proofs.Tryz.prog (brindlewoodref3_IntOk.E) :=
  fn_ok (c := bodyOf Go.Proofs.Tryz.f76) tt_ok (brindlewoodref3_IntOk.tab_ok) follows Go.Proofs.Tryz.func76 rfl (name_ne (by kernel_rfl)) (by kernel_rfl) (Nat.le_of_ble_eq_true (by kernel_rfl)) (Nat.le_of_ble_eq_true (by kernel_rfl)) (annOK_nil _) brindlewoodref3_IntOk.ev

theorem brindlewoodref3_trim_v.tab_ok (k : Nat) : ∀ E ∈ brindlewoodref3_trim_v.tab k, SpecOK Go.Proofs.Tryz.prog E := forall_nil
theorem brindlewoodref3_trim_v.l0_ok (k : Nat) : LoopOK Go.Proofs.Tryz.prog Go.Proofs.Tryz.f138.ntmps (finOf tt brindlewoodref3_trim_v.B Go.Proofs.Tryz.f138.results.toList) (cAt [1, 0, 0, 0] (bodyOf Go.Proofs.Tryz.f138)) brindlewoodref3_trim_v.M0 brindlewoodref3_trim_v.O0 0 (fun x => brindlewoodref3_trim_v.l0 k k x.1 x.2) :=
  loop_ok (R0 := denB brindlewoodref3_trim_v.B) (M := brindlewoodref3_trim_v.M0) (O := brindlewoodref3_trim_v.O0) (L := fun m (x : brindlewoodref3_trim_v.M0.den) => brindlewoodref3_trim_v.l0 k m x.1 x.2) tt_ok (brindlewoodref3_trim_v.tab_ok k) follows (ann := .nil) (annOK_nil _) (fun _ => rfl) (fun m x => brindlewoodref3_trim_v.l0_ev k m x) k
theorem brindlewoodref3_trim_v.spec (k : Nat) : SpecOK Go.Proofs.Tryz.prog (brindlewoodref3_trim_v.E k) :=
  fn_ok (c := bodyOf Go.Proofs.Tryz.f138) tt_ok (brindlewoodref3_trim_v.tab_ok k) follows Go.Proofs.Tryz.func138 rfl (name_ne (by kernel_rfl)) (by kernel_rfl) (Nat.le_of_ble_eq_true (by kernel_rfl)) (Nat.le_of_ble_eq_true (by kernel_rfl)) (annOK_seq (annOK_nil _) (annOK_seq (annOK_block (annOK_loop (brindlewoodref3_trim_v.l0_ok k))) (annOK_nil _))) (brindlewoodref3_trim_v.ev k)

theorem brindlewoodref3_Of.tab_ok (k : Nat) : ∀ E ∈ brindlewoodref3_Of.tab k, SpecOK Go.Proofs.Tryz.prog E := (forall_cons (brindlewoodref3_trim_v.spec k) forall_nil)
theorem brindlewoodref3_Of.l0_ok (k : Nat) : LoopOK Go.Proofs.Tryz.prog Go.Proofs.Tryz.f78.ntmps (finOf tt brindlewoodref3_Of.B Go.Proofs.Tryz.f78.results.toList) (cAt [1, 1, 0, 1, 0, 0] (bodyOf Go.Proofs.Tryz.f78)) brindlewoodref3_Of.M0 brindlewoodref3_Of.O0 0 (fun x => brindlewoodref3_Of.l0 k k x.1 x.2.1 x.2.2) :=
  loop_ok (R0 := denB brindlewoodref3_Of.B) (M := brindlewoodref3_Of.M0) (O := brindlewoodref3_Of.O0) (L := fun m (x : brindlewoodref3_Of.M0.den) => brindlewoodref3_Of.l0 k m x.1 x.2.1 x.2.2) tt_ok (brindlewoodref3_Of.tab_ok k) follows (ann := .nil) (annOK_nil _) (fun _ => rfl) (fun m x => brindlewoodref3_Of.l0_ev k m x) k
theorem brindlewoodref3_Of.spec (k : Nat) : SpecOK Go.Proofs.Tryz.prog (brindlewoodref3_Of.E k) :=
  fn_ok (c := bodyOf Go.Proofs.Tryz.f78) tt_ok (brindlewoodref3_Of.tab_ok k) follows Go.Proofs.Tryz.func78 rfl (name_ne (by kernel_rfl)) (by kernel_rfl) (Nat.le_of_ble_eq_true (by kernel_rfl)) (Nat.le_of_ble_eq_true (by kernel_rfl)) (annOK_seq (annOK_nil _) (annOK_seq (annOK_nil _) (annOK_seq (annOK_seq (annOK_nil _) (annOK_block (annOK_loop (brindlewoodref3_Of.l0_ok k)))) (annOK_nil _)))) (brindlewoodref3_Of.ev k)

theorem brindlewoodref3_Halve.tab_ok (k : Nat) : ∀ E ∈ brindlewoodref3_Halve.tab k, SpecOK Go.Proofs.Tryz.prog E := (forall_cons (brindlewoodref3_trim_v.spec k) forall_nil)
theorem brindlewoodref3_Halve.l0_ok (k : Nat) : LoopOK Go.Proofs.Tryz.prog Go.Proofs.Tryz.f102.ntmps (finOf tt brindlewoodref3_Halve.B Go.Proofs.Tryz.f102.results.toList) (cAt [1, 1, 1, 0, 1, 0, 0] (bodyOf Go.Proofs.Tryz.f102)) brindlewoodref3_Halve.M0 brindlewoodref3_Halve.O0 0 (fun x => brindlewoodref3_Halve.l0 k k x.1 x.2.1 x.2.2.1 x.2.2.2.1 x.2.2.2.2) :=
  loop_ok (R0 := denB brindlewoodref3_Halve.B) (M := brindlewoodref3_Halve.M0) (O := brindlewoodref3_Halve.O0) (L := fun m (x : brindlewoodref3_Halve.M0.den) => brindlewoodref3_Halve.l0 k m x.1 x.2.1 x.2.2.1 x.2.2.2.1 x.2.2.2.2) tt_ok (brindlewoodref3_Halve.tab_ok k) follows (ann := .nil) (annOK_nil _) (fun _ => rfl) (fun m x => brindlewoodref3_Halve.l0_ev k m x) k
theorem brindlewoodref3_Halve.spec (k : Nat) : SpecOK Go.Proofs.Tryz.prog (brindlewoodref3_Halve.E k) :=
  fn_ok (c := bodyOf Go.Proofs.Tryz.f102) tt_ok (brindlewoodref3_Halve.tab_ok k) follows Go.Proofs.Tryz.func102 rfl (name_ne (by kernel_rfl)) (by kernel_rfl) (Nat.le_of_ble_eq_true (by kernel_rfl)) (Nat.le_of_ble_eq_true (by kernel_rfl)) (annOK_seq (annOK_nil _) (annOK_seq (annOK_nil _) (annOK_seq (annOK_nil _) (annOK_seq (annOK_seq (annOK_nil _) (annOK_block (annOK_loop (brindlewoodref3_Halve.l0_ok k)))) (annOK_nil _))))) (brindlewoodref3_Halve.ev k)

theorem brindlewoodref3_Figures.tab_ok (k : Nat) : ∀ E ∈ brindlewoodref3_Figures.tab k, SpecOK Go.Proofs.Tryz.prog E := (forall_cons (brindlewoodref3_Halve.spec k) forall_nil)
theorem brindlewoodref3_Figures.l1_ok (k : Nat) : LoopOK Go.Proofs.Tryz.prog Go.Proofs.Tryz.f77.ntmps (finOf tt brindlewoodref3_Figures.B Go.Proofs.Tryz.f77.results.toList) (cAt [1, 1, 1, 1, 0, 1, 0, 0] (bodyOf Go.Proofs.Tryz.f77)) brindlewoodref3_Figures.M1 brindlewoodref3_Figures.O1 2 (fun x => brindlewoodref3_Figures.l1 k k x.1 x.2.1 x.2.2) :=
  loop_ok (R0 := denB brindlewoodref3_Figures.B) (M := brindlewoodref3_Figures.M1) (O := brindlewoodref3_Figures.O1) (L := fun m (x : brindlewoodref3_Figures.M1.den) => brindlewoodref3_Figures.l1 k m x.1 x.2.1 x.2.2) tt_ok (brindlewoodref3_Figures.tab_ok k) follows (ann := .nil) (annOK_nil _) (fun _ => rfl) (fun m x => brindlewoodref3_Figures.l1_ev k m x) k
theorem brindlewoodref3_Figures.l0_ok (k : Nat) : LoopOK Go.Proofs.Tryz.prog Go.Proofs.Tryz.f77.ntmps (finOf tt brindlewoodref3_Figures.B Go.Proofs.Tryz.f77.results.toList) (cAt [1, 1, 0, 0, 0] (bodyOf Go.Proofs.Tryz.f77)) brindlewoodref3_Figures.M0 brindlewoodref3_Figures.O0 0 (fun x => brindlewoodref3_Figures.l0 k k x.1 x.2.1 x.2.2) :=
  loop_ok (R0 := denB brindlewoodref3_Figures.B) (M := brindlewoodref3_Figures.M0) (O := brindlewoodref3_Figures.O0) (L := fun m (x : brindlewoodref3_Figures.M0.den) => brindlewoodref3_Figures.l0 k m x.1 x.2.1 x.2.2) tt_ok (brindlewoodref3_Figures.tab_ok k) follows (ann := .nil) (annOK_nil _) (fun _ => rfl) (fun m x => brindlewoodref3_Figures.l0_ev k m x) k
theorem brindlewoodref3_Figures.spec (k : Nat) : SpecOK Go.Proofs.Tryz.prog (brindlewoodref3_Figures.E k) :=
  fn_ok (c := bodyOf Go.Proofs.Tryz.f77) tt_ok (brindlewoodref3_Figures.tab_ok k) follows Go.Proofs.Tryz.func77 rfl (name_ne (by kernel_rfl)) (by kernel_rfl) (Nat.le_of_ble_eq_true (by kernel_rfl)) (Nat.le_of_ble_eq_true (by kernel_rfl)) (annOK_seq (annOK_nil _) (annOK_seq (annOK_nil _) (annOK_seq (annOK_block (annOK_loop (brindlewoodref3_Figures.l0_ok k))) (annOK_seq (annOK_nil _) (annOK_seq (annOK_seq (annOK_nil _) (annOK_block (annOK_loop (brindlewoodref3_Figures.l1_ok k)))) (annOK_nil _)))))) (brindlewoodref3_Figures.ev k)

theorem brindlewoodref3_NoInt.tab_ok  : ∀ E ∈ brindlewoodref3_NoInt.tab, SpecOK Go.Proofs.Tryz.prog E := forall_nil
theorem brindlewoodref3_NoInt.spec  : SpecOK Go.Proofs.Tryz.prog (brindlewoodref3_NoInt.E) :=
  fn_ok (c := bodyOf Go.Proofs.Tryz.f36) tt_ok (brindlewoodref3_NoInt.tab_ok) follows Go.Proofs.Tryz.func36 rfl (name_ne (by kernel_rfl)) (by kernel_rfl) (Nat.le_of_ble_eq_true (by kernel_rfl)) (Nat.le_of_ble_eq_true (by kernel_rfl)) (annOK_nil _) brindlewoodref3_NoInt.ev

theorem brindlewoodref3_DecimalOk.tab_ok (k : Nat) : ∀ E ∈ brindlewoodref3_DecimalOk.tab k, SpecOK Go.Proofs.Tryz.prog E := (forall_cons brindlewoodref3_IntOk.spec (forall_cons (brindlewoodref3_Of.spec k) (forall_cons (brindlewoodref3_Figures.spec k) (forall_cons brindlewoodref3_NoInt.spec forall_nil))))
theorem brindlewoodref3_DecimalOk.spec (k : Nat) : SpecOK Go.Proofs.Tryz.prog (brindlewoodref3_DecimalOk.E k) :=
  fn_ok (c := bodyOf Go.Proofs.Tryz.f16) tt_ok (brindlewoodref3_DecimalOk.tab_ok k) follows Go.Proofs.Tryz.func16 rfl (name_ne (by kernel_rfl)) (by kernel_rfl) (Nat.le_of_ble_eq_true (by kernel_rfl)) (Nat.le_of_ble_eq_true (by kernel_rfl)) (annOK_nil _) (brindlewoodref3_DecimalOk.ev k)

theorem brindlewoodref3_DecimalFaults.tab_ok (k : Nat) : ∀ E ∈ brindlewoodref3_DecimalFaults.tab k, SpecOK Go.Proofs.Tryz.prog E := (forall_cons brindlewoodref3_ContextOk.spec (forall_cons brindlewoodref3_At.spec (forall_cons (brindlewoodref3_DecimalOk.spec k) forall_nil)))
theorem brindlewoodref3_DecimalFaults.l0_ok (k : Nat) : LoopOK Go.Proofs.Tryz.prog Go.Proofs.Tryz.f21.ntmps (finOf tt brindlewoodref3_DecimalFaults.B Go.Proofs.Tryz.f21.results.toList) (cAt [1, 1, 0, 1, 0, 0] (bodyOf Go.Proofs.Tryz.f21)) brindlewoodref3_DecimalFaults.M0 brindlewoodref3_DecimalFaults.O0 0 (fun x => brindlewoodref3_DecimalFaults.l0 k k x.1 x.2.1 x.2.2) :=
  loop_ok (R0 := denB brindlewoodref3_DecimalFaults.B) (M := brindlewoodref3_DecimalFaults.M0) (O := brindlewoodref3_DecimalFaults.O0) (L := fun m (x : brindlewoodref3_DecimalFaults.M0.den) => brindlewoodref3_DecimalFaults.l0 k m x.1 x.2.1 x.2.2) tt_ok (brindlewoodref3_DecimalFaults.tab_ok k) follows (ann := .nil) (annOK_nil _) (fun _ => rfl) (fun m x => brindlewoodref3_DecimalFaults.l0_ev k m x) k
theorem brindlewoodref3_DecimalFaults.spec (k : Nat) : SpecOK Go.Proofs.Tryz.prog (brindlewoodref3_DecimalFaults.E k) :=
  fn_ok (c := bodyOf Go.Proofs.Tryz.f21) tt_ok (brindlewoodref3_DecimalFaults.tab_ok k) follows Go.Proofs.Tryz.func21 rfl (name_ne (by kernel_rfl)) (by kernel_rfl) (Nat.le_of_ble_eq_true (by kernel_rfl)) (Nat.le_of_ble_eq_true (by kernel_rfl)) (annOK_seq (annOK_nil _) (annOK_seq (annOK_nil _) (annOK_seq (annOK_seq (annOK_nil _) (annOK_block (annOK_loop (brindlewoodref3_DecimalFaults.l0_ok k)))) (annOK_nil _)))) (brindlewoodref3_DecimalFaults.ev k)

theorem decimal_Check.tab_ok  : ∀ E ∈ decimal_Check.tab, SpecOK Go.Proofs.Tryz.prog E := forall_nil
theorem decimal_Check.spec  : SpecOK Go.Proofs.Tryz.prog (decimal_Check.E) :=
  fn_ok (c := bodyOf Go.Proofs.Tryz.f57) tt_ok (decimal_Check.tab_ok) follows Go.Proofs.Tryz.func57 rfl (name_ne (by kernel_rfl)) (by kernel_rfl) (Nat.le_of_ble_eq_true (by kernel_rfl)) (Nat.le_of_ble_eq_true (by kernel_rfl)) (annOK_nil _) decimal_Check.ev

theorem decimal_at.tab_ok  : ∀ E ∈ decimal_at.tab, SpecOK Go.Proofs.Tryz.prog E := forall_nil
theorem decimal_at.spec  : SpecOK Go.Proofs.Tryz.prog (decimal_at.E) :=
  fn_ok (c := bodyOf Go.Proofs.Tryz.f64) tt_ok (decimal_at.tab_ok) follows Go.Proofs.Tryz.func64 rfl (name_ne (by kernel_rfl)) (by kernel_rfl) (Nat.le_of_ble_eq_true (by kernel_rfl)) (Nat.le_of_ble_eq_true (by kernel_rfl)) (annOK_nil _) decimal_at.ev

theorem integer_Valid.tab_ok  : ∀ E ∈ integer_Valid.tab, SpecOK Go.Proofs.Tryz.prog E := forall_nil
theorem integer_Valid.spec  : SpecOK Go.Proofs.Tryz.prog (integer_Valid.E) :=
  fn_ok (c := bodyOf Go.Proofs.Tryz.f133) tt_ok (integer_Valid.tab_ok) follows Go.Proofs.Tryz.func133 rfl (name_ne (by kernel_rfl)) (by kernel_rfl) (Nat.le_of_ble_eq_true (by kernel_rfl)) (Nat.le_of_ble_eq_true (by kernel_rfl)) (annOK_nil _) integer_Valid.ev

theorem natural_Valid.tab_ok  : ∀ E ∈ natural_Valid.tab, SpecOK Go.Proofs.Tryz.prog E := forall_nil
theorem natural_Valid.spec  : SpecOK Go.Proofs.Tryz.prog (natural_Valid.E) :=
  fn_ok (c := bodyOf Go.Proofs.Tryz.f183) tt_ok (natural_Valid.tab_ok) follows Go.Proofs.Tryz.func183 rfl (name_ne (by kernel_rfl)) (by kernel_rfl) (Nat.le_of_ble_eq_true (by kernel_rfl)) (Nat.le_of_ble_eq_true (by kernel_rfl)) (annOK_nil _) natural_Valid.ev

theorem natural_at.tab_ok  : ∀ E ∈ natural_at.tab, SpecOK Go.Proofs.Tryz.prog E := forall_nil
theorem natural_at.spec  : SpecOK Go.Proofs.Tryz.prog (natural_at.E) :=
  fn_ok (c := bodyOf Go.Proofs.Tryz.f164) tt_ok (natural_at.tab_ok) follows Go.Proofs.Tryz.func164 rfl (name_ne (by kernel_rfl)) (by kernel_rfl) (Nat.le_of_ble_eq_true (by kernel_rfl)) (Nat.le_of_ble_eq_true (by kernel_rfl)) (annOK_nil _) natural_at.ev

theorem natural_check.tab_ok  : ∀ E ∈ natural_check.tab, SpecOK Go.Proofs.Tryz.prog E := (forall_cons natural_Valid.spec (forall_cons natural_at.spec forall_nil))
theorem natural_check.spec  : SpecOK Go.Proofs.Tryz.prog (natural_check.E) :=
  fn_ok (c := bodyOf Go.Proofs.Tryz.f163) tt_ok (natural_check.tab_ok) follows Go.Proofs.Tryz.func163 rfl (name_ne (by kernel_rfl)) (by kernel_rfl) (Nat.le_of_ble_eq_true (by kernel_rfl)) (Nat.le_of_ble_eq_true (by kernel_rfl)) (annOK_nil _) natural_check.ev

theorem natural_trim_v.tab_ok (k : Nat) : ∀ E ∈ natural_trim_v.tab k, SpecOK Go.Proofs.Tryz.prog E := forall_nil
theorem natural_trim_v.l0_ok (k : Nat) : LoopOK Go.Proofs.Tryz.prog Go.Proofs.Tryz.f199.ntmps (finOf tt natural_trim_v.B Go.Proofs.Tryz.f199.results.toList) (cAt [1, 0, 0, 0] (bodyOf Go.Proofs.Tryz.f199)) natural_trim_v.M0 natural_trim_v.O0 0 (fun x => natural_trim_v.l0 k k x.1 x.2) :=
  loop_ok (R0 := denB natural_trim_v.B) (M := natural_trim_v.M0) (O := natural_trim_v.O0) (L := fun m (x : natural_trim_v.M0.den) => natural_trim_v.l0 k m x.1 x.2) tt_ok (natural_trim_v.tab_ok k) follows (ann := .nil) (annOK_nil _) (fun _ => rfl) (fun m x => natural_trim_v.l0_ev k m x) k
theorem natural_trim_v.spec (k : Nat) : SpecOK Go.Proofs.Tryz.prog (natural_trim_v.E k) :=
  fn_ok (c := bodyOf Go.Proofs.Tryz.f199) tt_ok (natural_trim_v.tab_ok k) follows Go.Proofs.Tryz.func199 rfl (name_ne (by kernel_rfl)) (by kernel_rfl) (Nat.le_of_ble_eq_true (by kernel_rfl)) (Nat.le_of_ble_eq_true (by kernel_rfl)) (annOK_seq (annOK_nil _) (annOK_seq (annOK_block (annOK_loop (natural_trim_v.l0_ok k))) (annOK_nil _))) (natural_trim_v.ev k)

theorem natural_mul.tab_ok (k : Nat) : ∀ E ∈ natural_mul.tab k, SpecOK Go.Proofs.Tryz.prog E := (forall_cons (natural_trim_v.spec k) forall_nil)
theorem natural_mul.l1_ok (k : Nat) : LoopOK Go.Proofs.Tryz.prog Go.Proofs.Tryz.f178.ntmps (finOf tt natural_mul.B Go.Proofs.Tryz.f178.results.toList) (cAt [1, 1, 0, 1, 0, 0, 1, 1, 0, 0, 1, 1, 0, 1, 0, 0] (bodyOf Go.Proofs.Tryz.f178)) natural_mul.M1 natural_mul.O1 2 (fun x => natural_mul.l1 k k x.1 x.2.1 x.2.2.1 x.2.2.2.1 x.2.2.2.2.1 x.2.2.2.2.2.1 x.2.2.2.2.2.2.1 x.2.2.2.2.2.2.2.1 x.2.2.2.2.2.2.2.2.1 x.2.2.2.2.2.2.2.2.2.1 x.2.2.2.2.2.2.2.2.2.2) :=
  loop_ok (R0 := denB natural_mul.B) (M := natural_mul.M1) (O := natural_mul.O1) (L := fun m (x : natural_mul.M1.den) => natural_mul.l1 k m x.1 x.2.1 x.2.2.1 x.2.2.2.1 x.2.2.2.2.1 x.2.2.2.2.2.1 x.2.2.2.2.2.2.1 x.2.2.2.2.2.2.2.1 x.2.2.2.2.2.2.2.2.1 x.2.2.2.2.2.2.2.2.2.1 x.2.2.2.2.2.2.2.2.2.2) tt_ok (natural_mul.tab_ok k) follows (ann := .nil) (annOK_nil _) (fun _ => rfl) (fun m x => natural_mul.l1_ev k m x) k
theorem natural_mul.l0_ok (k : Nat) : LoopOK Go.Proofs.Tryz.prog Go.Proofs.Tryz.f178.ntmps (finOf tt natural_mul.B Go.Proofs.Tryz.f178.results.toList) (cAt [1, 1, 0, 1, 0, 0] (bodyOf Go.Proofs.Tryz.f178)) natural_mul.M0 natural_mul.O0 0 (fun x => natural_mul.l0 k k x.1 x.2.1 x.2.2.1 x.2.2.2.1 x.2.2.2.2) :=
  loop_ok (R0 := denB natural_mul.B) (M := natural_mul.M0) (O := natural_mul.O0) (L := fun m (x : natural_mul.M0.den) => natural_mul.l0 k m x.1 x.2.1 x.2.2.1 x.2.2.2.1 x.2.2.2.2) tt_ok (natural_mul.tab_ok k) follows (ann := (.seq .nil (.seq .nil (.seq (.block (.seq .nil (.seq .nil (.seq (.seq .nil (.block (natural_mul.an1 k))) .nil)))) .nil)))) (annOK_seq (annOK_nil _) (annOK_seq (annOK_nil _) (annOK_seq (annOK_block (annOK_seq (annOK_nil _) (annOK_seq (annOK_nil _) (annOK_seq (annOK_seq (annOK_nil _) (annOK_block (annOK_loop (natural_mul.l1_ok k)))) (annOK_nil _))))) (annOK_nil _)))) (fun _ => rfl) (fun m x => natural_mul.l0_ev k m x) k
theorem natural_mul.spec (k : Nat) : SpecOK Go.Proofs.Tryz.prog (natural_mul.E k) :=
  fn_ok (c := bodyOf Go.Proofs.Tryz.f178) tt_ok (natural_mul.tab_ok k) follows Go.Proofs.Tryz.func178 rfl (name_ne (by kernel_rfl)) (by kernel_rfl) (Nat.le_of_ble_eq_true (by kernel_rfl)) (Nat.le_of_ble_eq_true (by kernel_rfl)) (annOK_seq (annOK_nil _) (annOK_seq (annOK_nil _) (annOK_seq (annOK_seq (annOK_nil _) (annOK_block (annOK_loop (natural_mul.l0_ok k)))) (annOK_nil _)))) (natural_mul.ev k)

theorem natural_trim.tab_ok (k : Nat) : ∀ E ∈ natural_trim.tab k, SpecOK Go.Proofs.Tryz.prog E := forall_nil
theorem natural_trim.l0_ok (k : Nat) : LoopOK Go.Proofs.Tryz.prog Go.Proofs.Tryz.f199.ntmps (finOf tt natural_trim.B Go.Proofs.Tryz.f199.results.toList) (cAt [1, 0, 0, 0] (bodyOf Go.Proofs.Tryz.f199)) natural_trim.M0 natural_trim.O0 0 (fun x => natural_trim.l0 k k x) :=
  loop_ok (R0 := denB natural_trim.B) (M := natural_trim.M0) (O := natural_trim.O0) (L := fun m (x : natural_trim.M0.den) => natural_trim.l0 k m x) tt_ok (natural_trim.tab_ok k) follows (ann := .nil) (annOK_nil _) (fun _ => rfl) (fun m x => natural_trim.l0_ev k m x) k
theorem natural_trim.spec (k : Nat) : SpecOK Go.Proofs.Tryz.prog (natural_trim.E k) :=
  fn_ok (c := bodyOf Go.Proofs.Tryz.f199) tt_ok (natural_trim.tab_ok k) follows Go.Proofs.Tryz.func199 rfl (name_ne (by kernel_rfl)) (by kernel_rfl) (Nat.le_of_ble_eq_true (by kernel_rfl)) (Nat.le_of_ble_eq_true (by kernel_rfl)) (annOK_seq (annOK_nil _) (annOK_seq (annOK_block (annOK_loop (natural_trim.l0_ok k))) (annOK_nil _))) (natural_trim.ev k)

theorem natural_fit.tab_ok (k : Nat) : ∀ E ∈ natural_fit.tab k, SpecOK Go.Proofs.Tryz.prog E := (forall_cons (natural_trim.spec k) (forall_cons natural_at.spec forall_nil))
theorem natural_fit.spec (k : Nat) : SpecOK Go.Proofs.Tryz.prog (natural_fit.E k) :=
  fn_ok (c := bodyOf Go.Proofs.Tryz.f177) tt_ok (natural_fit.tab_ok k) follows Go.Proofs.Tryz.func177 rfl (name_ne (by kernel_rfl)) (by kernel_rfl) (Nat.le_of_ble_eq_true (by kernel_rfl)) (Nat.le_of_ble_eq_true (by kernel_rfl)) (annOK_nil _) (natural_fit.ev k)

theorem natural_Mul.tab_ok (k : Nat) : ∀ E ∈ natural_Mul.tab k, SpecOK Go.Proofs.Tryz.prog E := (forall_cons natural_check.spec (forall_cons (natural_mul.spec k) (forall_cons (natural_fit.spec k) forall_nil)))
theorem natural_Mul.spec (k : Nat) : SpecOK Go.Proofs.Tryz.prog (natural_Mul.E k) :=
  fn_ok (c := bodyOf Go.Proofs.Tryz.f110) tt_ok (natural_Mul.tab_ok k) follows Go.Proofs.Tryz.func110 rfl (name_ne (by kernel_rfl)) (by kernel_rfl) (Nat.le_of_ble_eq_true (by kernel_rfl)) (Nat.le_of_ble_eq_true (by kernel_rfl)) (annOK_nil _) (natural_Mul.ev k)

theorem decimal_power.tab_ok (k : Nat) : ∀ E ∈ decimal_power.tab k, SpecOK Go.Proofs.Tryz.prog E := (forall_cons (natural_Mul.spec k) forall_nil)
theorem decimal_power.l0_ok (k : Nat) : LoopOK Go.Proofs.Tryz.prog Go.Proofs.Tryz.f122.ntmps (finOf tt decimal_power.B Go.Proofs.Tryz.f122.results.toList) (cAt [1, 1, 0, 0, 0] (bodyOf Go.Proofs.Tryz.f122)) decimal_power.M0 decimal_power.O0 0 (fun x => decimal_power.l0 k k x.1 x.2.1 x.2.2) :=
  loop_ok (R0 := denB decimal_power.B) (M := decimal_power.M0) (O := decimal_power.O0) (L := fun m (x : decimal_power.M0.den) => decimal_power.l0 k m x.1 x.2.1 x.2.2) tt_ok (decimal_power.tab_ok k) follows (ann := .nil) (annOK_nil _) (fun _ => rfl) (fun m x => decimal_power.l0_ev k m x) k
theorem decimal_power.spec (k : Nat) : SpecOK Go.Proofs.Tryz.prog (decimal_power.E k) :=
  fn_ok (c := bodyOf Go.Proofs.Tryz.f122) tt_ok (decimal_power.tab_ok k) follows Go.Proofs.Tryz.func122 rfl (name_ne (by kernel_rfl)) (by kernel_rfl) (Nat.le_of_ble_eq_true (by kernel_rfl)) (Nat.le_of_ble_eq_true (by kernel_rfl)) (annOK_seq (annOK_nil _) (annOK_seq (annOK_nil _) (annOK_seq (annOK_block (annOK_loop (decimal_power.l0_ok k))) (annOK_nil _)))) (decimal_power.ev k)

theorem natural_compare.tab_ok (k : Nat) : ∀ E ∈ natural_compare.tab k, SpecOK Go.Proofs.Tryz.prog E := forall_nil
theorem natural_compare.l0_ok (k : Nat) : LoopOK Go.Proofs.Tryz.prog Go.Proofs.Tryz.f176.ntmps (finOf tt natural_compare.B Go.Proofs.Tryz.f176.results.toList) (cAt [1, 1, 0, 1, 0, 0] (bodyOf Go.Proofs.Tryz.f176)) natural_compare.M0 natural_compare.O0 0 (fun x => natural_compare.l0 k k x.1 x.2.1 x.2.2) :=
  loop_ok (R0 := denB natural_compare.B) (M := natural_compare.M0) (O := natural_compare.O0) (L := fun m (x : natural_compare.M0.den) => natural_compare.l0 k m x.1 x.2.1 x.2.2) tt_ok (natural_compare.tab_ok k) follows (ann := .nil) (annOK_nil _) (fun _ => rfl) (fun m x => natural_compare.l0_ev k m x) k
theorem natural_compare.spec (k : Nat) : SpecOK Go.Proofs.Tryz.prog (natural_compare.E k) :=
  fn_ok (c := bodyOf Go.Proofs.Tryz.f176) tt_ok (natural_compare.tab_ok k) follows Go.Proofs.Tryz.func176 rfl (name_ne (by kernel_rfl)) (by kernel_rfl) (Nat.le_of_ble_eq_true (by kernel_rfl)) (Nat.le_of_ble_eq_true (by kernel_rfl)) (annOK_seq (annOK_nil _) (annOK_seq (annOK_nil _) (annOK_seq (annOK_seq (annOK_nil _) (annOK_block (annOK_loop (natural_compare.l0_ok k)))) (annOK_nil _)))) (natural_compare.ev k)

theorem natural_Cmp.tab_ok (k : Nat) : ∀ E ∈ natural_Cmp.tab k, SpecOK Go.Proofs.Tryz.prog E := (forall_cons natural_check.spec (forall_cons (natural_compare.spec k) forall_nil))
theorem natural_Cmp.spec (k : Nat) : SpecOK Go.Proofs.Tryz.prog (natural_Cmp.E k) :=
  fn_ok (c := bodyOf Go.Proofs.Tryz.f169) tt_ok (natural_Cmp.tab_ok k) follows Go.Proofs.Tryz.func169 rfl (name_ne (by kernel_rfl)) (by kernel_rfl) (Nat.le_of_ble_eq_true (by kernel_rfl)) (Nat.le_of_ble_eq_true (by kernel_rfl)) (annOK_nil _) (natural_Cmp.ev k)

theorem decimal_less.tab_ok (k : Nat) : ∀ E ∈ decimal_less.tab k, SpecOK Go.Proofs.Tryz.prog E := (forall_cons (natural_Cmp.spec k) forall_nil)
theorem decimal_less.spec (k : Nat) : SpecOK Go.Proofs.Tryz.prog (decimal_less.E k) :=
  fn_ok (c := bodyOf Go.Proofs.Tryz.f111) tt_ok (decimal_less.tab_ok k) follows Go.Proofs.Tryz.func111 rfl (name_ne (by kernel_rfl)) (by kernel_rfl) (Nat.le_of_ble_eq_true (by kernel_rfl)) (Nat.le_of_ble_eq_true (by kernel_rfl)) (annOK_nil _) (decimal_less.ev k)

theorem decimal_Valid.tab_ok (k : Nat) : ∀ E ∈ decimal_Valid.tab k, SpecOK Go.Proofs.Tryz.prog E := (forall_cons integer_Valid.spec (forall_cons (decimal_power.spec k) (forall_cons (decimal_less.spec k) forall_nil)))
theorem decimal_Valid.spec (k : Nat) : SpecOK Go.Proofs.Tryz.prog (decimal_Valid.E k) :=
  fn_ok (c := bodyOf Go.Proofs.Tryz.f56) tt_ok (decimal_Valid.tab_ok k) follows Go.Proofs.Tryz.func56 rfl (name_ne (by kernel_rfl)) (by kernel_rfl) (Nat.le_of_ble_eq_true (by kernel_rfl)) (Nat.le_of_ble_eq_true (by kernel_rfl)) (annOK_seq (annOK_nil _) (annOK_jseq (annOK_nil _) (annOK_nil _))) (decimal_Valid.ev k)

theorem decimal_check.tab_ok (k : Nat) : ∀ E ∈ decimal_check.tab k, SpecOK Go.Proofs.Tryz.prog E := (forall_cons decimal_Check.spec (forall_cons decimal_at.spec (forall_cons (decimal_Valid.spec k) forall_nil)))
theorem decimal_check.l0_ok (k : Nat) : LoopOK Go.Proofs.Tryz.prog Go.Proofs.Tryz.f87.ntmps (finOf tt decimal_check.B Go.Proofs.Tryz.f87.results.toList) (cAt [1, 1, 0, 1, 0, 0] (bodyOf Go.Proofs.Tryz.f87)) decimal_check.M0 decimal_check.O0 0 (fun x => decimal_check.l0 k k x.1 x.2.1 x.2.2.1 x.2.2.2) :=
  loop_ok (R0 := denB decimal_check.B) (M := decimal_check.M0) (O := decimal_check.O0) (L := fun m (x : decimal_check.M0.den) => decimal_check.l0 k m x.1 x.2.1 x.2.2.1 x.2.2.2) tt_ok (decimal_check.tab_ok k) follows (ann := .nil) (annOK_nil _) (fun _ => rfl) (fun m x => decimal_check.l0_ev k m x) k
theorem decimal_check.spec (k : Nat) : SpecOK Go.Proofs.Tryz.prog (decimal_check.E k) :=
  fn_ok (c := bodyOf Go.Proofs.Tryz.f87) tt_ok (decimal_check.tab_ok k) follows Go.Proofs.Tryz.func87 rfl (name_ne (by kernel_rfl)) (by kernel_rfl) (Nat.le_of_ble_eq_true (by kernel_rfl)) (Nat.le_of_ble_eq_true (by kernel_rfl)) (annOK_seq (annOK_nil _) (annOK_seq (annOK_nil _) (annOK_seq (annOK_seq (annOK_nil _) (annOK_block (annOK_loop (decimal_check.l0_ok k)))) (annOK_nil _)))) (decimal_check.ev k)

theorem decimal_of.tab_ok  : ∀ E ∈ decimal_of.tab, SpecOK Go.Proofs.Tryz.prog E := forall_nil
theorem decimal_of.spec  : SpecOK Go.Proofs.Tryz.prog (decimal_of.E) :=
  fn_ok (c := bodyOf Go.Proofs.Tryz.f92) tt_ok (decimal_of.tab_ok) follows Go.Proofs.Tryz.func92 rfl (name_ne (by kernel_rfl)) (by kernel_rfl) (Nat.le_of_ble_eq_true (by kernel_rfl)) (Nat.le_of_ble_eq_true (by kernel_rfl)) (annOK_nil _) decimal_of.ev

theorem decimal_tiny.tab_ok  : ∀ E ∈ decimal_tiny.tab, SpecOK Go.Proofs.Tryz.prog E := forall_nil
theorem decimal_tiny.spec  : SpecOK Go.Proofs.Tryz.prog (decimal_tiny.E) :=
  fn_ok (c := bodyOf Go.Proofs.Tryz.f90) tt_ok (decimal_tiny.tab_ok) follows Go.Proofs.Tryz.func90 rfl (name_ne (by kernel_rfl)) (by kernel_rfl) (Nat.le_of_ble_eq_true (by kernel_rfl)) (Nat.le_of_ble_eq_true (by kernel_rfl)) (annOK_nil _) decimal_tiny.ev

theorem decimal_finite.tab_ok  : ∀ E ∈ decimal_finite.tab, SpecOK Go.Proofs.Tryz.prog E := forall_nil
theorem decimal_finite.spec  : SpecOK Go.Proofs.Tryz.prog (decimal_finite.E) :=
  fn_ok (c := bodyOf Go.Proofs.Tryz.f89) tt_ok (decimal_finite.tab_ok) follows Go.Proofs.Tryz.func89 rfl (name_ne (by kernel_rfl)) (by kernel_rfl) (Nat.le_of_ble_eq_true (by kernel_rfl)) (Nat.le_of_ble_eq_true (by kernel_rfl)) (annOK_nil _) decimal_finite.ev

theorem natural_chunk.tab_ok (k : Nat) : ∀ E ∈ natural_chunk.tab k, SpecOK Go.Proofs.Tryz.prog E := forall_nil
theorem natural_chunk.l0_ok (k : Nat) : LoopOK Go.Proofs.Tryz.prog Go.Proofs.Tryz.f184.ntmps (finOf tt natural_chunk.B Go.Proofs.Tryz.f184.results.toList) (cAt [1, 1, 0, 0, 0] (bodyOf Go.Proofs.Tryz.f184)) natural_chunk.M0 natural_chunk.O0 0 (fun x => natural_chunk.l0 k k x.1 x.2.1 x.2.2) :=
  loop_ok (R0 := denB natural_chunk.B) (M := natural_chunk.M0) (O := natural_chunk.O0) (L := fun m (x : natural_chunk.M0.den) => natural_chunk.l0 k m x.1 x.2.1 x.2.2) tt_ok (natural_chunk.tab_ok k) follows (ann := .nil) (annOK_nil _) (fun _ => rfl) (fun m x => natural_chunk.l0_ev k m x) k
theorem natural_chunk.spec (k : Nat) : SpecOK Go.Proofs.Tryz.prog (natural_chunk.E k) :=
  fn_ok (c := bodyOf Go.Proofs.Tryz.f184) tt_ok (natural_chunk.tab_ok k) follows Go.Proofs.Tryz.func184 rfl (name_ne (by kernel_rfl)) (by kernel_rfl) (Nat.le_of_ble_eq_true (by kernel_rfl)) (Nat.le_of_ble_eq_true (by kernel_rfl)) (annOK_seq (annOK_nil _) (annOK_seq (annOK_nil _) (annOK_seq (annOK_block (annOK_loop (natural_chunk.l0_ok k))) (annOK_nil _)))) (natural_chunk.ev k)

theorem bits_Div32.tab_ok  : ∀ E ∈ bits_Div32.tab, SpecOK Go.Proofs.Tryz.prog E := forall_nil
theorem bits_Div32.spec  : SpecOK Go.Proofs.Tryz.prog (bits_Div32.E) :=
  fn_ok (c := bodyOf Go.Proofs.Tryz.f203) tt_ok (bits_Div32.tab_ok) follows Go.Proofs.Tryz.func203 rfl (name_ne (by kernel_rfl)) (by kernel_rfl) (Nat.le_of_ble_eq_true (by kernel_rfl)) (Nat.le_of_ble_eq_true (by kernel_rfl)) (annOK_seq (annOK_nil _) (annOK_jseq (annOK_nil _) (annOK_nil _))) bits_Div32.ev

theorem natural_short.tab_ok (k : Nat) : ∀ E ∈ natural_short.tab k, SpecOK Go.Proofs.Tryz.prog E := (forall_cons bits_Div32.spec (forall_cons (natural_trim_v.spec k) forall_nil))
theorem natural_short.l0_ok (k : Nat) : LoopOK Go.Proofs.Tryz.prog Go.Proofs.Tryz.f185.ntmps (finOf tt natural_short.B Go.Proofs.Tryz.f185.results.toList) (cAt [1, 1, 1, 0, 1, 0, 0] (bodyOf Go.Proofs.Tryz.f185)) natural_short.M0 natural_short.O0 0 (fun x => natural_short.l0 k k x.1 x.2.1 x.2.2.1 x.2.2.2.1 x.2.2.2.2) :=
  loop_ok (R0 := denB natural_short.B) (M := natural_short.M0) (O := natural_short.O0) (L := fun m (x : natural_short.M0.den) => natural_short.l0 k m x.1 x.2.1 x.2.2.1 x.2.2.2.1 x.2.2.2.2) tt_ok (natural_short.tab_ok k) follows (ann := .nil) (annOK_nil _) (fun _ => rfl) (fun m x => natural_short.l0_ev k m x) k
theorem natural_short.spec (k : Nat) : SpecOK Go.Proofs.Tryz.prog (natural_short.E k) :=
  fn_ok (c := bodyOf Go.Proofs.Tryz.f185) tt_ok (natural_short.tab_ok k) follows Go.Proofs.Tryz.func185 rfl (name_ne (by kernel_rfl)) (by kernel_rfl) (Nat.le_of_ble_eq_true (by kernel_rfl)) (Nat.le_of_ble_eq_true (by kernel_rfl)) (annOK_seq (annOK_nil _) (annOK_seq (annOK_nil _) (annOK_seq (annOK_nil _) (annOK_seq (annOK_seq (annOK_nil _) (annOK_block (annOK_loop (natural_short.l0_ok k)))) (annOK_nil _))))) (natural_short.ev k)

theorem slices_Reverse_intint_l.tab_ok (k : Nat) : ∀ E ∈ slices_Reverse_intint_l.tab k, SpecOK Go.Proofs.Tryz.prog E := forall_nil
theorem slices_Reverse_intint_l.l0_ok (k : Nat) : LoopOK Go.Proofs.Tryz.prog Go.Proofs.Tryz.f186.ntmps (finOf tt slices_Reverse_intint_l.B Go.Proofs.Tryz.f186.results.toList) (cAt [1, 0, 0] (bodyOf Go.Proofs.Tryz.f186)) slices_Reverse_intint_l.M0 slices_Reverse_intint_l.O0 0 (fun x => slices_Reverse_intint_l.l0 k k x.1 x.2.1 x.2.2) :=
  loop_ok (R0 := denB slices_Reverse_intint_l.B) (M := slices_Reverse_intint_l.M0) (O := slices_Reverse_intint_l.O0) (L := fun m (x : slices_Reverse_intint_l.M0.den) => slices_Reverse_intint_l.l0 k m x.1 x.2.1 x.2.2) tt_ok (slices_Reverse_intint_l.tab_ok k) follows (ann := .nil) (annOK_nil _) (fun _ => rfl) (fun m x => slices_Reverse_intint_l.l0_ev k m x) k
theorem slices_Reverse_intint_l.spec (k : Nat) : SpecOK Go.Proofs.Tryz.prog (slices_Reverse_intint_l.E k) :=
  fn_ok (c := bodyOf Go.Proofs.Tryz.f186) tt_ok (slices_Reverse_intint_l.tab_ok k) follows Go.Proofs.Tryz.func186 rfl (name_ne (by kernel_rfl)) (by kernel_rfl) (Nat.le_of_ble_eq_true (by kernel_rfl)) (Nat.le_of_ble_eq_true (by kernel_rfl)) (annOK_seq (annOK_nil _) (annOK_block (annOK_loop (slices_Reverse_intint_l.l0_ok k)))) (slices_Reverse_intint_l.ev k)

theorem natural_Digits.tab_ok (k : Nat) : ∀ E ∈ natural_Digits.tab k, SpecOK Go.Proofs.Tryz.prog E := (forall_cons natural_Valid.spec (forall_cons natural_at.spec (forall_cons (natural_chunk.spec k) (forall_cons (natural_short.spec k) (forall_cons (slices_Reverse_intint_l.spec k) forall_nil)))))
theorem natural_Digits.l1_ok (k : Nat) : LoopOK Go.Proofs.Tryz.prog Go.Proofs.Tryz.f140.ntmps (finOf tt natural_Digits.B Go.Proofs.Tryz.f140.results.toList) (cAt [1, 1, 1, 1, 0, 0, 0, 1, 0, 1, 1, 1, 0, 0] (bodyOf Go.Proofs.Tryz.f140)) natural_Digits.M1 natural_Digits.O1 3 (fun x => natural_Digits.l1 k k x.1 x.2.1 x.2.2.1 x.2.2.2.1 x.2.2.2.2.1 x.2.2.2.2.2.1 x.2.2.2.2.2.2.1 x.2.2.2.2.2.2.2) :=
  loop_ok (R0 := denB natural_Digits.B) (M := natural_Digits.M1) (O := natural_Digits.O1) (L := fun m (x : natural_Digits.M1.den) => natural_Digits.l1 k m x.1 x.2.1 x.2.2.1 x.2.2.2.1 x.2.2.2.2.1 x.2.2.2.2.2.1 x.2.2.2.2.2.2.1 x.2.2.2.2.2.2.2) tt_ok (natural_Digits.tab_ok k) follows (ann := .nil) (annOK_nil _) (fun _ => rfl) (fun m x => natural_Digits.l1_ev k m x) k
theorem natural_Digits.l0_ok (k : Nat) : LoopOK Go.Proofs.Tryz.prog Go.Proofs.Tryz.f140.ntmps (finOf tt natural_Digits.B Go.Proofs.Tryz.f140.results.toList) (cAt [1, 1, 1, 1, 0, 0, 0] (bodyOf Go.Proofs.Tryz.f140)) natural_Digits.M0 natural_Digits.O0 1 (fun x => natural_Digits.l0 k k x.1 x.2.1 x.2.2.1 x.2.2.2.1 x.2.2.2.2.1 x.2.2.2.2.2) :=
  loop_ok (R0 := denB natural_Digits.B) (M := natural_Digits.M0) (O := natural_Digits.O0) (L := fun m (x : natural_Digits.M0.den) => natural_Digits.l0 k m x.1 x.2.1 x.2.2.1 x.2.2.2.1 x.2.2.2.2.1 x.2.2.2.2.2) tt_ok (natural_Digits.tab_ok k) follows (ann := (.seq .nil (.block (.seq .nil (.seq .nil (.seq .nil (.block (natural_Digits.an1 k)))))))) (annOK_seq (annOK_nil _) (annOK_block (annOK_seq (annOK_nil _) (annOK_seq (annOK_nil _) (annOK_seq (annOK_nil _) (annOK_block (annOK_loop (natural_Digits.l1_ok k)))))))) (fun _ => rfl) (fun m x => natural_Digits.l0_ev k m x) k
theorem natural_Digits.spec (k : Nat) : SpecOK Go.Proofs.Tryz.prog (natural_Digits.E k) :=
  fn_ok (c := bodyOf Go.Proofs.Tryz.f140) tt_ok (natural_Digits.tab_ok k) follows Go.Proofs.Tryz.func140 rfl (name_ne (by kernel_rfl)) (by kernel_rfl) (Nat.le_of_ble_eq_true (by kernel_rfl)) (Nat.le_of_ble_eq_true (by kernel_rfl)) (annOK_seq (annOK_nil _) (annOK_jseq (annOK_nil _) (annOK_seq (annOK_nil _) (annOK_seq (annOK_nil _) (annOK_seq (annOK_block (annOK_loop (natural_Digits.l0_ok k))) (annOK_nil _)))))) (natural_Digits.ev k)

theorem decimal_size.tab_ok (k : Nat) : ∀ E ∈ decimal_size.tab k, SpecOK Go.Proofs.Tryz.prog E := (forall_cons (natural_Digits.spec k) forall_nil)
theorem decimal_size.spec (k : Nat) : SpecOK Go.Proofs.Tryz.prog (decimal_size.E k) :=
  fn_ok (c := bodyOf Go.Proofs.Tryz.f101) tt_ok (decimal_size.tab_ok k) follows Go.Proofs.Tryz.func101 rfl (name_ne (by kernel_rfl)) (by kernel_rfl) (Nat.le_of_ble_eq_true (by kernel_rfl)) (Nat.le_of_ble_eq_true (by kernel_rfl)) (annOK_nil _) (decimal_size.ev k)

theorem decimal_times.tab_ok (k : Nat) : ∀ E ∈ decimal_times.tab k, SpecOK Go.Proofs.Tryz.prog E := (forall_cons (decimal_power.spec k) (forall_cons (natural_Mul.spec k) forall_nil))
theorem decimal_times.spec (k : Nat) : SpecOK Go.Proofs.Tryz.prog (decimal_times.E k) :=
  fn_ok (c := bodyOf Go.Proofs.Tryz.f94) tt_ok (decimal_times.tab_ok k) follows Go.Proofs.Tryz.func94 rfl (name_ne (by kernel_rfl)) (by kernel_rfl) (Nat.le_of_ble_eq_true (by kernel_rfl)) (Nat.le_of_ble_eq_true (by kernel_rfl)) (annOK_nil _) (decimal_times.ev k)

theorem decimal_exact_first.tab_ok (k : Nat) : ∀ E ∈ decimal_exact_first.tab k, SpecOK Go.Proofs.Tryz.prog E := (forall_cons (decimal_size.spec k) (forall_cons (decimal_times.spec k) (forall_cons (decimal_less.spec k) forall_nil)))
theorem decimal_exact_first.spec (k : Nat) : SpecOK Go.Proofs.Tryz.prog (decimal_exact_first.E k) :=
  fn_ok (c := bodyOf Go.Proofs.Tryz.f161) tt_ok (decimal_exact_first.tab_ok k) follows Go.Proofs.Tryz.func161 rfl (name_ne (by kernel_rfl)) (by kernel_rfl) (Nat.le_of_ble_eq_true (by kernel_rfl)) (Nat.le_of_ble_eq_true (by kernel_rfl)) (annOK_nil _) (decimal_exact_first.ev k)

theorem slices_Clone_uint32uint32.spec : SpecOK Go.Proofs.Tryz.prog slices_Clone_uint32uint32.E :=
  clone_ok' (f := 179) (fn := Go.Proofs.Tryz.f179) (T := tt) (e := .int .u32) (t := 22) (et := 121) (run := slices_Clone_uint32uint32) tt_ok follows Go.Proofs.Tryz.func179 rfl (name_ne (by kernel_rfl)) rfl (by kernel_rfl) (by kernel_rfl) (by kernel_rfl) (fun x => by kernel_rfl) (fun x => by kernel_rfl) (fun x => by kernel_rfl) (fun x => by kernel_rfl) (by kernel_rfl) (fun x => by kernel_rfl) (clone_id slices_Clone_uint32uint32.eq_1)

theorem bits_Len32.tab_ok  : ∀ E ∈ bits_Len32.tab, SpecOK Go.Proofs.Tryz.prog E := forall_nil
theorem bits_Len32.spec  : SpecOK Go.Proofs.Tryz.prog (bits_Len32.E) :=
  fn_ok (c := bodyOf Go.Proofs.Tryz.f202) tt_ok (bits_Len32.tab_ok) follows Go.Proofs.Tryz.func202 rfl (name_ne (by kernel_rfl)) (by kernel_rfl) (Nat.le_of_ble_eq_true (by kernel_rfl)) (Nat.le_of_ble_eq_true (by kernel_rfl)) (annOK_seq (annOK_nil _) (annOK_jseq (annOK_nil _) (annOK_nil _))) bits_Len32.ev

theorem bits_LeadingZeros32.tab_ok  : ∀ E ∈ bits_LeadingZeros32.tab, SpecOK Go.Proofs.Tryz.prog E := (forall_cons bits_Len32.spec forall_nil)
theorem bits_LeadingZeros32.spec  : SpecOK Go.Proofs.Tryz.prog (bits_LeadingZeros32.E) :=
  fn_ok (c := bodyOf Go.Proofs.Tryz.f221) tt_ok (bits_LeadingZeros32.tab_ok) follows Go.Proofs.Tryz.func221 rfl (name_ne (by kernel_rfl)) (by kernel_rfl) (Nat.le_of_ble_eq_true (by kernel_rfl)) (Nat.le_of_ble_eq_true (by kernel_rfl)) (annOK_nil _) bits_LeadingZeros32.ev

theorem natural_left.tab_ok (k : Nat) : ∀ E ∈ natural_left.tab k, SpecOK Go.Proofs.Tryz.prog E := (forall_cons (natural_trim_v.spec k) forall_nil)
theorem natural_left.l0_ok (k : Nat) : LoopOK Go.Proofs.Tryz.prog Go.Proofs.Tryz.f173.ntmps (finOf tt natural_left.B Go.Proofs.Tryz.f173.results.toList) (cAt [1, 1, 1, 0, 1, 0, 0] (bodyOf Go.Proofs.Tryz.f173)) natural_left.M0 natural_left.O0 0 (fun x => natural_left.l0 k k x.1 x.2.1 x.2.2.1 x.2.2.2.1 x.2.2.2.2.1 x.2.2.2.2.2) :=
  loop_ok (R0 := denB natural_left.B) (M := natural_left.M0) (O := natural_left.O0) (L := fun m (x : natural_left.M0.den) => natural_left.l0 k m x.1 x.2.1 x.2.2.1 x.2.2.2.1 x.2.2.2.2.1 x.2.2.2.2.2) tt_ok (natural_left.tab_ok k) follows (ann := .nil) (annOK_nil _) (fun _ => rfl) (fun m x => natural_left.l0_ev k m x) k
theorem natural_left.spec (k : Nat) : SpecOK Go.Proofs.Tryz.prog (natural_left.E k) :=
  fn_ok (c := bodyOf Go.Proofs.Tryz.f173) tt_ok (natural_left.tab_ok k) follows Go.Proofs.Tryz.func173 rfl (name_ne (by kernel_rfl)) (by kernel_rfl) (Nat.le_of_ble_eq_true (by kernel_rfl)) (Nat.le_of_ble_eq_true (by kernel_rfl)) (annOK_seq (annOK_nil _) (annOK_seq (annOK_nil _) (annOK_seq (annOK_nil _) (annOK_seq (annOK_seq (annOK_nil _) (annOK_block (annOK_loop (natural_left.l0_ok k)))) (annOK_nil _))))) (natural_left.ev k)

theorem bits_Sub32.tab_ok  : ∀ E ∈ bits_Sub32.tab, SpecOK Go.Proofs.Tryz.prog E := forall_nil
theorem bits_Sub32.spec  : SpecOK Go.Proofs.Tryz.prog (bits_Sub32.E) :=
  fn_ok (c := bodyOf Go.Proofs.Tryz.f223) tt_ok (bits_Sub32.tab_ok) follows Go.Proofs.Tryz.func223 rfl (name_ne (by kernel_rfl)) (by kernel_rfl) (Nat.le_of_ble_eq_true (by kernel_rfl)) (Nat.le_of_ble_eq_true (by kernel_rfl)) (annOK_nil _) bits_Sub32.ev

theorem bits_Add32.tab_ok  : ∀ E ∈ bits_Add32.tab, SpecOK Go.Proofs.Tryz.prog E := forall_nil
theorem bits_Add32.spec  : SpecOK Go.Proofs.Tryz.prog (bits_Add32.E) :=
  fn_ok (c := bodyOf Go.Proofs.Tryz.f236) tt_ok (bits_Add32.tab_ok) follows Go.Proofs.Tryz.func236 rfl (name_ne (by kernel_rfl)) (by kernel_rfl) (Nat.le_of_ble_eq_true (by kernel_rfl)) (Nat.le_of_ble_eq_true (by kernel_rfl)) (annOK_nil _) bits_Add32.ev

theorem natural_digit_ld.tab_ok (k : Nat) : ∀ E ∈ natural_digit_ld.tab k, SpecOK Go.Proofs.Tryz.prog E := (forall_cons bits_Sub32.spec (forall_cons bits_Add32.spec forall_nil))
theorem natural_digit_ld.l2_ok (k : Nat) : LoopOK Go.Proofs.Tryz.prog Go.Proofs.Tryz.f222.ntmps (finOf tt natural_digit_ld.B Go.Proofs.Tryz.f222.results.toList) (cAt [1, 1, 1, 1, 1, 1, 1, 0, 1, 0, 1, 1, 0, 1, 0, 0] (bodyOf Go.Proofs.Tryz.f222)) natural_digit_ld.M2 natural_digit_ld.O2 4 (fun x => natural_digit_ld.l2 k k x.1 x.2.1 x.2.2.1 x.2.2.2.1 x.2.2.2.2.1 x.2.2.2.2.2.1 x.2.2.2.2.2.2) :=
  loop_ok (R0 := denB natural_digit_ld.B) (M := natural_digit_ld.M2) (O := natural_digit_ld.O2) (L := fun m (x : natural_digit_ld.M2.den) => natural_digit_ld.l2 k m x.1 x.2.1 x.2.2.1 x.2.2.2.1 x.2.2.2.2.1 x.2.2.2.2.2.1 x.2.2.2.2.2.2) tt_ok (natural_digit_ld.tab_ok k) follows (ann := .nil) (annOK_nil _) (fun _ => rfl) (fun m x => natural_digit_ld.l2_ev k m x) k
theorem natural_digit_ld.l1_ok (k : Nat) : LoopOK Go.Proofs.Tryz.prog Go.Proofs.Tryz.f222.ntmps (finOf tt natural_digit_ld.B Go.Proofs.Tryz.f222.results.toList) (cAt [1, 1, 1, 1, 1, 1, 0, 1, 0, 0] (bodyOf Go.Proofs.Tryz.f222)) natural_digit_ld.M1 natural_digit_ld.O1 2 (fun x => natural_digit_ld.l1 k k x.1 x.2.1 x.2.2.1 x.2.2.2.1 x.2.2.2.2.1 x.2.2.2.2.2.1 x.2.2.2.2.2.2.1 x.2.2.2.2.2.2.2) :=
  loop_ok (R0 := denB natural_digit_ld.B) (M := natural_digit_ld.M1) (O := natural_digit_ld.O1) (L := fun m (x : natural_digit_ld.M1.den) => natural_digit_ld.l1 k m x.1 x.2.1 x.2.2.1 x.2.2.2.1 x.2.2.2.2.1 x.2.2.2.2.2.1 x.2.2.2.2.2.2.1 x.2.2.2.2.2.2.2) tt_ok (natural_digit_ld.tab_ok k) follows (ann := (.seq .nil (.seq .nil (.seq (.block (.seq .nil (.jseq ⟨[.blk 0 (.int .u32) 1, .dat 1 (.list (.int .u32)), .dat 5 (.int .i64), .dat 8 (.int .u64), .dat 10 (.int .u64), .dat 11 (.int .u32), .dat 12 (.int .i64), .dat 74 (.int .i64), .dat 75 (.int .i64)], [.ref 0 0]⟩ .nil .nil))) .nil)))) (annOK_seq (annOK_nil _) (annOK_seq (annOK_nil _) (annOK_seq (annOK_block (annOK_seq (annOK_nil _) (annOK_jseq (annOK_nil _) (annOK_nil _)))) (annOK_nil _)))) (fun _ => rfl) (fun m x => natural_digit_ld.l1_ev k m x) k
theorem natural_digit_ld.l0_ok (k : Nat) : LoopOK Go.Proofs.Tryz.prog Go.Proofs.Tryz.f222.ntmps (finOf tt natural_digit_ld.B Go.Proofs.Tryz.f222.results.toList) (cAt [1, 1, 1, 1, 0, 0, 0] (bodyOf Go.Proofs.Tryz.f222)) natural_digit_ld.M0 natural_digit_ld.O0 0 (fun x => natural_digit_ld.l0 k k x.1 x.2.1 x.2.2.1 x.2.2.2.1 x.2.2.2.2.1 x.2.2.2.2.2) :=
  loop_ok (R0 := denB natural_digit_ld.B) (M := natural_digit_ld.M0) (O := natural_digit_ld.O0) (L := fun m (x : natural_digit_ld.M0.den) => natural_digit_ld.l0 k m x.1 x.2.1 x.2.2.1 x.2.2.2.1 x.2.2.2.2.1 x.2.2.2.2.2) tt_ok (natural_digit_ld.tab_ok k) follows (ann := .nil) (annOK_nil _) (fun _ => rfl) (fun m x => natural_digit_ld.l0_ev k m x) k
theorem natural_digit_ld.spec (k : Nat) : SpecOK Go.Proofs.Tryz.prog (natural_digit_ld.E k) :=
  fn_ok (c := bodyOf Go.Proofs.Tryz.f222) tt_ok (natural_digit_ld.tab_ok k) follows Go.Proofs.Tryz.func222 rfl (name_ne (by kernel_rfl)) (by kernel_rfl) (Nat.le_of_ble_eq_true (by kernel_rfl)) (Nat.le_of_ble_eq_true (by kernel_rfl)) (annOK_seq (annOK_nil _) (annOK_seq (annOK_nil _) (annOK_seq (annOK_nil _) (annOK_seq (annOK_nil _) (annOK_seq (annOK_block (annOK_loop (natural_digit_ld.l0_ok k))) (annOK_seq (annOK_nil _) (annOK_seq (annOK_seq (annOK_nil _) (annOK_block (annOK_loop (natural_digit_ld.l1_ok k)))) (annOK_seq (annOK_seq (annOK_nil _) (annOK_cond (annOK_seq (annOK_nil _) (annOK_seq (annOK_nil _) (annOK_seq (annOK_seq (annOK_nil _) (annOK_block (annOK_loop (natural_digit_ld.l2_ok k)))) (annOK_nil _)))) (annOK_nil _))) (annOK_nil _))))))))) (natural_digit_ld.ev k)

theorem natural_right.tab_ok (k : Nat) : ∀ E ∈ natural_right.tab k, SpecOK Go.Proofs.Tryz.prog E := (forall_cons (natural_trim_v.spec k) forall_nil)
theorem natural_right.l0_ok (k : Nat) : LoopOK Go.Proofs.Tryz.prog Go.Proofs.Tryz.f174.ntmps (finOf tt natural_right.B Go.Proofs.Tryz.f174.results.toList) (cAt [1, 1, 0, 1, 0, 0] (bodyOf Go.Proofs.Tryz.f174)) natural_right.M0 natural_right.O0 0 (fun x => natural_right.l0 k k x.1 x.2.1 x.2.2.1 x.2.2.2) :=
  loop_ok (R0 := denB natural_right.B) (M := natural_right.M0) (O := natural_right.O0) (L := fun m (x : natural_right.M0.den) => natural_right.l0 k m x.1 x.2.1 x.2.2.1 x.2.2.2) tt_ok (natural_right.tab_ok k) follows (ann := .nil) (annOK_nil _) (fun _ => rfl) (fun m x => natural_right.l0_ev k m x) k
theorem natural_right.spec (k : Nat) : SpecOK Go.Proofs.Tryz.prog (natural_right.E k) :=
  fn_ok (c := bodyOf Go.Proofs.Tryz.f174) tt_ok (natural_right.tab_ok k) follows Go.Proofs.Tryz.func174 rfl (name_ne (by kernel_rfl)) (by kernel_rfl) (Nat.le_of_ble_eq_true (by kernel_rfl)) (Nat.le_of_ble_eq_true (by kernel_rfl)) (annOK_seq (annOK_nil _) (annOK_seq (annOK_nil _) (annOK_seq (annOK_seq (annOK_nil _) (annOK_block (annOK_loop (natural_right.l0_ok k)))) (annOK_nil _)))) (natural_right.ev k)

theorem natural_divide.tab_ok (k : Nat) : ∀ E ∈ natural_divide.tab k, SpecOK Go.Proofs.Tryz.prog E := (forall_cons bits_LeadingZeros32.spec (forall_cons (natural_left.spec k) (forall_cons (natural_digit_ld.spec k) (forall_cons (natural_trim_v.spec k) (forall_cons (natural_right.spec k) forall_nil)))))
theorem natural_divide.l1_ok (k : Nat) : LoopOK Go.Proofs.Tryz.prog Go.Proofs.Tryz.f200.ntmps (finOf tt natural_divide.B Go.Proofs.Tryz.f200.results.toList) (cAt [1, 1, 1, 1, 1, 1, 0, 1, 0, 0] (bodyOf Go.Proofs.Tryz.f200)) natural_divide.M1 natural_divide.O1 2 (fun x => natural_divide.l1 k k x.1 x.2.1 x.2.2.1 x.2.2.2.1 x.2.2.2.2.1 x.2.2.2.2.2) :=
  loop_ok (R0 := denB natural_divide.B) (M := natural_divide.M1) (O := natural_divide.O1) (L := fun m (x : natural_divide.M1.den) => natural_divide.l1 k m x.1 x.2.1 x.2.2.1 x.2.2.2.1 x.2.2.2.2.1 x.2.2.2.2.2) tt_ok (natural_divide.tab_ok k) follows (ann := .nil) (annOK_nil _) (fun _ => rfl) (fun m x => natural_divide.l1_ev k m x) k
theorem natural_divide.l0_ok (k : Nat) : LoopOK Go.Proofs.Tryz.prog Go.Proofs.Tryz.f200.ntmps (finOf tt natural_divide.B Go.Proofs.Tryz.f200.results.toList) (cAt [1, 1, 1, 1, 0, 0, 0] (bodyOf Go.Proofs.Tryz.f200)) natural_divide.M0 natural_divide.O0 0 (fun x => natural_divide.l0 k k x.1 x.2.1 x.2.2.1 x.2.2.2.1 x.2.2.2.2) :=
  loop_ok (R0 := denB natural_divide.B) (M := natural_divide.M0) (O := natural_divide.O0) (L := fun m (x : natural_divide.M0.den) => natural_divide.l0 k m x.1 x.2.1 x.2.2.1 x.2.2.2.1 x.2.2.2.2) tt_ok (natural_divide.tab_ok k) follows (ann := .nil) (annOK_nil _) (fun _ => rfl) (fun m x => natural_divide.l0_ev k m x) k
theorem natural_divide.spec (k : Nat) : SpecOK Go.Proofs.Tryz.prog (natural_divide.E k) :=
  fn_ok (c := bodyOf Go.Proofs.Tryz.f200) tt_ok (natural_divide.tab_ok k) follows Go.Proofs.Tryz.func200 rfl (name_ne (by kernel_rfl)) (by kernel_rfl) (Nat.le_of_ble_eq_true (by kernel_rfl)) (Nat.le_of_ble_eq_true (by kernel_rfl)) (annOK_seq (annOK_nil _) (annOK_seq (annOK_nil _) (annOK_seq (annOK_nil _) (annOK_seq (annOK_nil _) (annOK_seq (annOK_block (annOK_loop (natural_divide.l0_ok k))) (annOK_seq (annOK_nil _) (annOK_seq (annOK_seq (annOK_nil _) (annOK_block (annOK_loop (natural_divide.l1_ok k)))) (annOK_nil _)))))))) (natural_divide.ev k)

theorem natural_divMod.tab_ok (k : Nat) : ∀ E ∈ natural_divMod.tab k, SpecOK Go.Proofs.Tryz.prog E := (forall_cons (natural_compare.spec k) (forall_cons slices_Clone_uint32uint32.spec (forall_cons (natural_short.spec k) (forall_cons (natural_trim_v.spec k) (forall_cons (natural_divide.spec k) forall_nil)))))
theorem natural_divMod.spec (k : Nat) : SpecOK Go.Proofs.Tryz.prog (natural_divMod.E k) :=
  fn_ok (c := bodyOf Go.Proofs.Tryz.f165) tt_ok (natural_divMod.tab_ok k) follows Go.Proofs.Tryz.func165 rfl (name_ne (by kernel_rfl)) (by kernel_rfl) (Nat.le_of_ble_eq_true (by kernel_rfl)) (Nat.le_of_ble_eq_true (by kernel_rfl)) (annOK_nil _) (natural_divMod.ev k)

theorem natural_DivMod.tab_ok (k : Nat) : ∀ E ∈ natural_DivMod.tab k, SpecOK Go.Proofs.Tryz.prog E := (forall_cons natural_check.spec (forall_cons natural_at.spec (forall_cons (natural_divMod.spec k) forall_nil)))
theorem natural_DivMod.spec (k : Nat) : SpecOK Go.Proofs.Tryz.prog (natural_DivMod.E k) :=
  fn_ok (c := bodyOf Go.Proofs.Tryz.f93) tt_ok (natural_DivMod.tab_ok k) follows Go.Proofs.Tryz.func93 rfl (name_ne (by kernel_rfl)) (by kernel_rfl) (Nat.le_of_ble_eq_true (by kernel_rfl)) (Nat.le_of_ble_eq_true (by kernel_rfl)) (annOK_nil _) (natural_DivMod.ev k)

theorem decimal_exact_at.tab_ok (k : Nat) : ∀ E ∈ decimal_exact_at.tab k, SpecOK Go.Proofs.Tryz.prog E := (forall_cons (decimal_times.spec k) (forall_cons (natural_DivMod.spec k) forall_nil))
theorem decimal_exact_at.spec (k : Nat) : SpecOK Go.Proofs.Tryz.prog (decimal_exact_at.E k) :=
  fn_ok (c := bodyOf Go.Proofs.Tryz.f168) tt_ok (decimal_exact_at.tab_ok k) follows Go.Proofs.Tryz.func168 rfl (name_ne (by kernel_rfl)) (by kernel_rfl) (Nat.le_of_ble_eq_true (by kernel_rfl)) (Nat.le_of_ble_eq_true (by kernel_rfl)) (annOK_seq (annOK_nil _) (annOK_seq (annOK_nil _) (annOK_jseq (annOK_nil _) (annOK_nil _)))) (decimal_exact_at.ev k)

theorem natural_add.tab_ok (k : Nat) : ∀ E ∈ natural_add.tab k, SpecOK Go.Proofs.Tryz.prog E := (forall_cons (natural_trim_v.spec k) forall_nil)
theorem natural_add.l0_ok (k : Nat) : LoopOK Go.Proofs.Tryz.prog Go.Proofs.Tryz.f175.ntmps (finOf tt natural_add.B Go.Proofs.Tryz.f175.results.toList) (cAt [1, 1, 1, 1, 0, 1, 0, 0] (bodyOf Go.Proofs.Tryz.f175)) natural_add.M0 natural_add.O0 0 (fun x => natural_add.l0 k k x.1 x.2.1 x.2.2.1 x.2.2.2.1 x.2.2.2.2.1 x.2.2.2.2.2) :=
  loop_ok (R0 := denB natural_add.B) (M := natural_add.M0) (O := natural_add.O0) (L := fun m (x : natural_add.M0.den) => natural_add.l0 k m x.1 x.2.1 x.2.2.1 x.2.2.2.1 x.2.2.2.2.1 x.2.2.2.2.2) tt_ok (natural_add.tab_ok k) follows (ann := .nil) (annOK_nil _) (fun _ => rfl) (fun m x => natural_add.l0_ev k m x) k
theorem natural_add.spec (k : Nat) : SpecOK Go.Proofs.Tryz.prog (natural_add.E k) :=
  fn_ok (c := bodyOf Go.Proofs.Tryz.f175) tt_ok (natural_add.tab_ok k) follows Go.Proofs.Tryz.func175 rfl (name_ne (by kernel_rfl)) (by kernel_rfl) (Nat.le_of_ble_eq_true (by kernel_rfl)) (Nat.le_of_ble_eq_true (by kernel_rfl)) (annOK_seq (annOK_nil _) (annOK_jseq (annOK_nil _) (annOK_seq (annOK_nil _) (annOK_seq (annOK_nil _) (annOK_seq (annOK_seq (annOK_nil _) (annOK_block (annOK_loop (natural_add.l0_ok k)))) (annOK_nil _)))))) (natural_add.ev k)

theorem natural_Add.tab_ok (k : Nat) : ∀ E ∈ natural_Add.tab k, SpecOK Go.Proofs.Tryz.prog E := (forall_cons natural_check.spec (forall_cons (natural_add.spec k) (forall_cons (natural_fit.spec k) forall_nil)))
theorem natural_Add.spec (k : Nat) : SpecOK Go.Proofs.Tryz.prog (natural_Add.E k) :=
  fn_ok (c := bodyOf Go.Proofs.Tryz.f112) tt_ok (natural_Add.tab_ok k) follows Go.Proofs.Tryz.func112 rfl (name_ne (by kernel_rfl)) (by kernel_rfl) (Nat.le_of_ble_eq_true (by kernel_rfl)) (Nat.le_of_ble_eq_true (by kernel_rfl)) (annOK_nil _) (natural_Add.ev k)

theorem decimal_away.tab_ok  : ∀ E ∈ decimal_away.tab, SpecOK Go.Proofs.Tryz.prog E := forall_nil
theorem decimal_away.spec  : SpecOK Go.Proofs.Tryz.prog (decimal_away.E) :=
  fn_ok (c := bodyOf Go.Proofs.Tryz.f170) tt_ok (decimal_away.tab_ok) follows Go.Proofs.Tryz.func170 rfl (name_ne (by kernel_rfl)) (by kernel_rfl) (Nat.le_of_ble_eq_true (by kernel_rfl)) (Nat.le_of_ble_eq_true (by kernel_rfl)) (annOK_nil _) decimal_away.ev

theorem decimal_exact_rounded.tab_ok (k : Nat) : ∀ E ∈ decimal_exact_rounded.tab k, SpecOK Go.Proofs.Tryz.prog E := (forall_cons (decimal_exact_at.spec k) (forall_cons (natural_Add.spec k) (forall_cons (natural_Cmp.spec k) (forall_cons decimal_away.spec forall_nil))))
theorem decimal_exact_rounded.spec (k : Nat) : SpecOK Go.Proofs.Tryz.prog (decimal_exact_rounded.E k) :=
  fn_ok (c := bodyOf Go.Proofs.Tryz.f100) tt_ok (decimal_exact_rounded.tab_ok k) follows Go.Proofs.Tryz.func100 rfl (name_ne (by kernel_rfl)) (by kernel_rfl) (Nat.le_of_ble_eq_true (by kernel_rfl)) (Nat.le_of_ble_eq_true (by kernel_rfl)) (annOK_nil _) (decimal_exact_rounded.ev k)

theorem decimal_toward.tab_ok (k : Nat) : ∀ E ∈ decimal_toward.tab k, SpecOK Go.Proofs.Tryz.prog E := (forall_cons (natural_DivMod.spec k) forall_nil)
theorem decimal_toward.l0_ok (k : Nat) : LoopOK Go.Proofs.Tryz.prog Go.Proofs.Tryz.f99.ntmps (finOf tt decimal_toward.B Go.Proofs.Tryz.f99.results.toList) (cAt [1, 0, 0, 0] (bodyOf Go.Proofs.Tryz.f99)) decimal_toward.M0 decimal_toward.O0 0 (fun x => decimal_toward.l0 k k x.1 x.2.1 x.2.2) :=
  loop_ok (R0 := denB decimal_toward.B) (M := decimal_toward.M0) (O := decimal_toward.O0) (L := fun m (x : decimal_toward.M0.den) => decimal_toward.l0 k m x.1 x.2.1 x.2.2) tt_ok (decimal_toward.tab_ok k) follows (ann := .nil) (annOK_nil _) (fun _ => rfl) (fun m x => decimal_toward.l0_ev k m x) k
theorem decimal_toward.spec (k : Nat) : SpecOK Go.Proofs.Tryz.prog (decimal_toward.E k) :=
  fn_ok (c := bodyOf Go.Proofs.Tryz.f99) tt_ok (decimal_toward.tab_ok k) follows Go.Proofs.Tryz.func99 rfl (name_ne (by kernel_rfl)) (by kernel_rfl) (Nat.le_of_ble_eq_true (by kernel_rfl)) (Nat.le_of_ble_eq_true (by kernel_rfl)) (annOK_seq (annOK_nil _) (annOK_seq (annOK_block (annOK_loop (decimal_toward.l0_ok k))) (annOK_nil _))) (decimal_toward.ev k)

theorem decimal_infinite.tab_ok  : ∀ E ∈ decimal_infinite.tab, SpecOK Go.Proofs.Tryz.prog E := forall_nil
theorem decimal_infinite.spec  : SpecOK Go.Proofs.Tryz.prog (decimal_infinite.E) :=
  fn_ok (c := bodyOf Go.Proofs.Tryz.f69) tt_ok (decimal_infinite.tab_ok) follows Go.Proofs.Tryz.func69 rfl (name_ne (by kernel_rfl)) (by kernel_rfl) (Nat.le_of_ble_eq_true (by kernel_rfl)) (Nat.le_of_ble_eq_true (by kernel_rfl)) (annOK_nil _) decimal_infinite.ev

theorem natural_sub.tab_ok (k : Nat) : ∀ E ∈ natural_sub.tab k, SpecOK Go.Proofs.Tryz.prog E := (forall_cons slices_Clone_uint32uint32.spec (forall_cons bits_Sub32.spec (forall_cons (natural_trim_v.spec k) forall_nil)))
theorem natural_sub.l0_ok (k : Nat) : LoopOK Go.Proofs.Tryz.prog Go.Proofs.Tryz.f201.ntmps (finOf tt natural_sub.B Go.Proofs.Tryz.f201.results.toList) (cAt [1, 1, 1, 0, 1, 0, 0] (bodyOf Go.Proofs.Tryz.f201)) natural_sub.M0 natural_sub.O0 0 (fun x => natural_sub.l0 k k x.1 x.2.1 x.2.2.1 x.2.2.2.1 x.2.2.2.2) :=
  loop_ok (R0 := denB natural_sub.B) (M := natural_sub.M0) (O := natural_sub.O0) (L := fun m (x : natural_sub.M0.den) => natural_sub.l0 k m x.1 x.2.1 x.2.2.1 x.2.2.2.1 x.2.2.2.2) tt_ok (natural_sub.tab_ok k) follows (ann := (.seq .nil (.seq .nil (.seq (.block (.seq .nil (.seq .nil (.jseq ⟨[.dat 1 (.list (.int .u32)), .own 5 (.int .u32), .dat 6 (.int .u32), .dat 7 (.int .i64), .dat 8 (.int .u32), .dat 12 (.int .i64), .dat 13 (.int .i64)], []⟩ .nil .nil)))) .nil)))) (annOK_seq (annOK_nil _) (annOK_seq (annOK_nil _) (annOK_seq (annOK_block (annOK_seq (annOK_nil _) (annOK_seq (annOK_nil _) (annOK_jseq (annOK_nil _) (annOK_nil _))))) (annOK_nil _)))) (fun _ => rfl) (fun m x => natural_sub.l0_ev k m x) k
theorem natural_sub.spec (k : Nat) : SpecOK Go.Proofs.Tryz.prog (natural_sub.E k) :=
  fn_ok (c := bodyOf Go.Proofs.Tryz.f201) tt_ok (natural_sub.tab_ok k) follows Go.Proofs.Tryz.func201 rfl (name_ne (by kernel_rfl)) (by kernel_rfl) (Nat.le_of_ble_eq_true (by kernel_rfl)) (Nat.le_of_ble_eq_true (by kernel_rfl)) (annOK_seq (annOK_nil _) (annOK_seq (annOK_nil _) (annOK_seq (annOK_nil _) (annOK_seq (annOK_seq (annOK_nil _) (annOK_block (annOK_loop (natural_sub.l0_ok k)))) (annOK_nil _))))) (natural_sub.ev k)

theorem natural_Sub.tab_ok (k : Nat) : ∀ E ∈ natural_Sub.tab k, SpecOK Go.Proofs.Tryz.prog E := (forall_cons natural_check.spec (forall_cons (natural_compare.spec k) (forall_cons natural_at.spec (forall_cons (natural_sub.spec k) forall_nil))))
theorem natural_Sub.spec (k : Nat) : SpecOK Go.Proofs.Tryz.prog (natural_Sub.E k) :=
  fn_ok (c := bodyOf Go.Proofs.Tryz.f171) tt_ok (natural_Sub.tab_ok k) follows Go.Proofs.Tryz.func171 rfl (name_ne (by kernel_rfl)) (by kernel_rfl) (Nat.le_of_ble_eq_true (by kernel_rfl)) (Nat.le_of_ble_eq_true (by kernel_rfl)) (annOK_nil _) (natural_Sub.ev k)

theorem decimal_overflow.tab_ok (k : Nat) : ∀ E ∈ decimal_overflow.tab k, SpecOK Go.Proofs.Tryz.prog E := (forall_cons decimal_away.spec (forall_cons decimal_infinite.spec (forall_cons (decimal_power.spec k) (forall_cons (natural_Sub.spec k) (forall_cons decimal_finite.spec forall_nil)))))
theorem decimal_overflow.spec (k : Nat) : SpecOK Go.Proofs.Tryz.prog (decimal_overflow.E k) :=
  fn_ok (c := bodyOf Go.Proofs.Tryz.f162) tt_ok (decimal_overflow.tab_ok k) follows Go.Proofs.Tryz.func162 rfl (name_ne (by kernel_rfl)) (by kernel_rfl) (Nat.le_of_ble_eq_true (by kernel_rfl)) (Nat.le_of_ble_eq_true (by kernel_rfl)) (annOK_nil _) (decimal_overflow.ev k)

theorem decimal_exact_fit.tab_ok (k : Nat) : ∀ E ∈ decimal_exact_fit.tab k, SpecOK Go.Proofs.Tryz.prog E := (forall_cons decimal_tiny.spec (forall_cons decimal_finite.spec (forall_cons (decimal_exact_first.spec k) (forall_cons (decimal_exact_rounded.spec k) (forall_cons (decimal_size.spec k) (forall_cons (natural_DivMod.spec k) (forall_cons (decimal_toward.spec k) (forall_cons (decimal_overflow.spec k) forall_nil))))))))
theorem decimal_exact_fit.spec (k : Nat) : SpecOK Go.Proofs.Tryz.prog (decimal_exact_fit.E k) :=
  fn_ok (c := bodyOf Go.Proofs.Tryz.f91) tt_ok (decimal_exact_fit.tab_ok k) follows Go.Proofs.Tryz.func91 rfl (name_ne (by kernel_rfl)) (by kernel_rfl) (Nat.le_of_ble_eq_true (by kernel_rfl)) (Nat.le_of_ble_eq_true (by kernel_rfl)) (annOK_seq (annOK_nil _) (annOK_seq (annOK_nil _) (annOK_seq (annOK_nil _) (annOK_seq (annOK_nil _) (annOK_seq (annOK_nil _) (annOK_seq (annOK_nil _) (annOK_jseq (annOK_nil _) (annOK_jseq (annOK_seq (annOK_nil _) (annOK_cond (annOK_seq (annOK_nil _) (annOK_jseq (annOK_nil _) (annOK_nil _))) (annOK_nil _))) (annOK_nil _))))))))) (decimal_exact_fit.ev k)

theorem decimal_Round.tab_ok (k : Nat) : ∀ E ∈ decimal_Round.tab k, SpecOK Go.Proofs.Tryz.prog E := (forall_cons (decimal_check.spec k) (forall_cons decimal_of.spec (forall_cons (decimal_exact_fit.spec k) forall_nil)))
theorem decimal_Round.spec (k : Nat) : SpecOK Go.Proofs.Tryz.prog (decimal_Round.E k) :=
  fn_ok (c := bodyOf Go.Proofs.Tryz.f27) tt_ok (decimal_Round.tab_ok k) follows Go.Proofs.Tryz.func27 rfl (name_ne (by kernel_rfl)) (by kernel_rfl) (Nat.le_of_ble_eq_true (by kernel_rfl)) (Nat.le_of_ble_eq_true (by kernel_rfl)) (annOK_nil _) (decimal_Round.ev k)

theorem decimal_isZero.tab_ok  : ∀ E ∈ decimal_isZero.tab, SpecOK Go.Proofs.Tryz.prog E := forall_nil
theorem decimal_isZero.spec  : SpecOK Go.Proofs.Tryz.prog (decimal_isZero.E) :=
  fn_ok (c := bodyOf Go.Proofs.Tryz.f88) tt_ok (decimal_isZero.tab_ok) follows Go.Proofs.Tryz.func88 rfl (name_ne (by kernel_rfl)) (by kernel_rfl) (Nat.le_of_ble_eq_true (by kernel_rfl)) (Nat.le_of_ble_eq_true (by kernel_rfl)) (annOK_nil _) decimal_isZero.ev

theorem decimal_Reduce.tab_ok (k : Nat) : ∀ E ∈ decimal_Reduce.tab k, SpecOK Go.Proofs.Tryz.prog E := (forall_cons (decimal_Round.spec k) (forall_cons decimal_isZero.spec (forall_cons (decimal_toward.spec k) forall_nil)))
theorem decimal_Reduce.spec (k : Nat) : SpecOK Go.Proofs.Tryz.prog (decimal_Reduce.E k) :=
  fn_ok (c := bodyOf Go.Proofs.Tryz.f28) tt_ok (decimal_Reduce.tab_ok k) follows Go.Proofs.Tryz.func28 rfl (name_ne (by kernel_rfl)) (by kernel_rfl) (Nat.le_of_ble_eq_true (by kernel_rfl)) (Nat.le_of_ble_eq_true (by kernel_rfl)) (annOK_seq (annOK_nil _) (annOK_seq (annOK_nil _) (annOK_jseq (annOK_nil _) (annOK_nil _)))) (decimal_Reduce.ev k)

theorem decimal_none.tab_ok  : ∀ E ∈ decimal_none.tab, SpecOK Go.Proofs.Tryz.prog E := forall_nil
theorem decimal_none.spec  : SpecOK Go.Proofs.Tryz.prog (decimal_none.E) :=
  fn_ok (c := bodyOf Go.Proofs.Tryz.f70) tt_ok (decimal_none.tab_ok) follows Go.Proofs.Tryz.func70 rfl (name_ne (by kernel_rfl)) (by kernel_rfl) (Nat.le_of_ble_eq_true (by kernel_rfl)) (Nat.le_of_ble_eq_true (by kernel_rfl)) (annOK_nil _) decimal_none.ev

theorem decimal_Quantize.tab_ok (k : Nat) : ∀ E ∈ decimal_Quantize.tab k, SpecOK Go.Proofs.Tryz.prog E := (forall_cons (decimal_check.spec k) (forall_cons decimal_none.spec (forall_cons decimal_tiny.spec (forall_cons decimal_of.spec (forall_cons (decimal_exact_rounded.spec k) (forall_cons (decimal_size.spec k) (forall_cons decimal_finite.spec forall_nil)))))))
theorem decimal_Quantize.spec (k : Nat) : SpecOK Go.Proofs.Tryz.prog (decimal_Quantize.E k) :=
  fn_ok (c := bodyOf Go.Proofs.Tryz.f29) tt_ok (decimal_Quantize.tab_ok k) follows Go.Proofs.Tryz.func29 rfl (name_ne (by kernel_rfl)) (by kernel_rfl) (Nat.le_of_ble_eq_true (by kernel_rfl)) (Nat.le_of_ble_eq_true (by kernel_rfl)) (annOK_seq (annOK_nil _) (annOK_seq (annOK_nil _) (annOK_jseq (annOK_nil _) (annOK_seq (annOK_nil _) (annOK_jseq (annOK_nil _) (annOK_nil _)))))) (decimal_Quantize.ev k)

theorem brindlewoodref3_Small.tab_ok (k : Nat) : ∀ E ∈ brindlewoodref3_Small.tab k, SpecOK Go.Proofs.Tryz.prog E := forall_nil
theorem brindlewoodref3_Small.l0_ok (k : Nat) : LoopOK Go.Proofs.Tryz.prog Go.Proofs.Tryz.f48.ntmps (finOf tt brindlewoodref3_Small.B Go.Proofs.Tryz.f48.results.toList) (cAt [1, 1, 0, 0, 0] (bodyOf Go.Proofs.Tryz.f48)) brindlewoodref3_Small.M0 brindlewoodref3_Small.O0 0 (fun x => brindlewoodref3_Small.l0 k k x.1 x.2) :=
  loop_ok (R0 := denB brindlewoodref3_Small.B) (M := brindlewoodref3_Small.M0) (O := brindlewoodref3_Small.O0) (L := fun m (x : brindlewoodref3_Small.M0.den) => brindlewoodref3_Small.l0 k m x.1 x.2) tt_ok (brindlewoodref3_Small.tab_ok k) follows (ann := .nil) (annOK_nil _) (fun _ => rfl) (fun m x => brindlewoodref3_Small.l0_ev k m x) k
theorem brindlewoodref3_Small.spec (k : Nat) : SpecOK Go.Proofs.Tryz.prog (brindlewoodref3_Small.E k) :=
  fn_ok (c := bodyOf Go.Proofs.Tryz.f48) tt_ok (brindlewoodref3_Small.tab_ok k) follows Go.Proofs.Tryz.func48 rfl (name_ne (by kernel_rfl)) (by kernel_rfl) (Nat.le_of_ble_eq_true (by kernel_rfl)) (Nat.le_of_ble_eq_true (by kernel_rfl)) (annOK_seq (annOK_nil _) (annOK_seq (annOK_nil _) (annOK_seq (annOK_block (annOK_loop (brindlewoodref3_Small.l0_ok k))) (annOK_nil _)))) (brindlewoodref3_Small.ev k)

theorem brindlewoodref3_Value.tab_ok (k : Nat) : ∀ E ∈ brindlewoodref3_Value.tab k, SpecOK Go.Proofs.Tryz.prog E := (forall_cons (brindlewoodref3_Of.spec k) (forall_cons (brindlewoodref3_Small.spec k) forall_nil))
theorem brindlewoodref3_Value.spec (k : Nat) : SpecOK Go.Proofs.Tryz.prog (brindlewoodref3_Value.E k) :=
  fn_ok (c := bodyOf Go.Proofs.Tryz.f61) tt_ok (brindlewoodref3_Value.tab_ok k) follows Go.Proofs.Tryz.func61 rfl (name_ne (by kernel_rfl)) (by kernel_rfl) (Nat.le_of_ble_eq_true (by kernel_rfl)) (Nat.le_of_ble_eq_true (by kernel_rfl)) (annOK_nil _) (brindlewoodref3_Value.ev k)

theorem brindlewoodref3_Limbs.tab_ok (k : Nat) : ∀ E ∈ brindlewoodref3_Limbs.tab k, SpecOK Go.Proofs.Tryz.prog E := forall_nil
theorem brindlewoodref3_Limbs.l0_ok (k : Nat) : LoopOK Go.Proofs.Tryz.prog Go.Proofs.Tryz.f160.ntmps (finOf tt brindlewoodref3_Limbs.B Go.Proofs.Tryz.f160.results.toList) (cAt [1, 1, 0, 1, 0, 0] (bodyOf Go.Proofs.Tryz.f160)) brindlewoodref3_Limbs.M0 brindlewoodref3_Limbs.O0 0 (fun x => brindlewoodref3_Limbs.l0 k k x.1 x.2.1 x.2.2) :=
  loop_ok (R0 := denB brindlewoodref3_Limbs.B) (M := brindlewoodref3_Limbs.M0) (O := brindlewoodref3_Limbs.O0) (L := fun m (x : brindlewoodref3_Limbs.M0.den) => brindlewoodref3_Limbs.l0 k m x.1 x.2.1 x.2.2) tt_ok (brindlewoodref3_Limbs.tab_ok k) follows (ann := .nil) (annOK_nil _) (fun _ => rfl) (fun m x => brindlewoodref3_Limbs.l0_ev k m x) k
theorem brindlewoodref3_Limbs.spec (k : Nat) : SpecOK Go.Proofs.Tryz.prog (brindlewoodref3_Limbs.E k) :=
  fn_ok (c := bodyOf Go.Proofs.Tryz.f160) tt_ok (brindlewoodref3_Limbs.tab_ok k) follows Go.Proofs.Tryz.func160 rfl (name_ne (by kernel_rfl)) (by kernel_rfl) (Nat.le_of_ble_eq_true (by kernel_rfl)) (Nat.le_of_ble_eq_true (by kernel_rfl)) (annOK_seq (annOK_nil _) (annOK_seq (annOK_nil _) (annOK_seq (annOK_seq (annOK_nil _) (annOK_block (annOK_loop (brindlewoodref3_Limbs.l0_ok k)))) (annOK_nil _)))) (brindlewoodref3_Limbs.ev k)

theorem brindlewoodref3_Finite.tab_ok (k : Nat) : ∀ E ∈ brindlewoodref3_Finite.tab k, SpecOK Go.Proofs.Tryz.prog E := (forall_cons (brindlewoodref3_Limbs.spec k) forall_nil)
theorem brindlewoodref3_Finite.spec (k : Nat) : SpecOK Go.Proofs.Tryz.prog (brindlewoodref3_Finite.E k) :=
  fn_ok (c := bodyOf Go.Proofs.Tryz.f85) tt_ok (brindlewoodref3_Finite.tab_ok k) follows Go.Proofs.Tryz.func85 rfl (name_ne (by kernel_rfl)) (by kernel_rfl) (Nat.le_of_ble_eq_true (by kernel_rfl)) (Nat.le_of_ble_eq_true (by kernel_rfl)) (annOK_nil _) (brindlewoodref3_Finite.ev k)

theorem brindlewoodref3_Times.tab_ok (k : Nat) : ∀ E ∈ brindlewoodref3_Times.tab k, SpecOK Go.Proofs.Tryz.prog E := (forall_cons (brindlewoodref3_trim_v.spec k) forall_nil)
theorem brindlewoodref3_Times.l1_ok (k : Nat) : LoopOK Go.Proofs.Tryz.prog Go.Proofs.Tryz.f62.ntmps (finOf tt brindlewoodref3_Times.B Go.Proofs.Tryz.f62.results.toList) (cAt [1, 1, 0, 1, 0, 0, 1, 0, 0, 1, 1, 0, 0] (bodyOf Go.Proofs.Tryz.f62)) brindlewoodref3_Times.M1 brindlewoodref3_Times.O1 2 (fun x => brindlewoodref3_Times.l1 k k x.1 x.2.1 x.2.2.1 x.2.2.2.1 x.2.2.2.2.1 x.2.2.2.2.2) :=
  loop_ok (R0 := denB brindlewoodref3_Times.B) (M := brindlewoodref3_Times.M1) (O := brindlewoodref3_Times.O1) (L := fun m (x : brindlewoodref3_Times.M1.den) => brindlewoodref3_Times.l1 k m x.1 x.2.1 x.2.2.1 x.2.2.2.1 x.2.2.2.2.1 x.2.2.2.2.2) tt_ok (brindlewoodref3_Times.tab_ok k) follows (ann := .nil) (annOK_nil _) (fun _ => rfl) (fun m x => brindlewoodref3_Times.l1_ev k m x) k
theorem brindlewoodref3_Times.l0_ok (k : Nat) : LoopOK Go.Proofs.Tryz.prog Go.Proofs.Tryz.f62.ntmps (finOf tt brindlewoodref3_Times.B Go.Proofs.Tryz.f62.results.toList) (cAt [1, 1, 0, 1, 0, 0] (bodyOf Go.Proofs.Tryz.f62)) brindlewoodref3_Times.M0 brindlewoodref3_Times.O0 0 (fun x => brindlewoodref3_Times.l0 k k x.1 x.2.1 x.2.2.1 x.2.2.2) :=
  loop_ok (R0 := denB brindlewoodref3_Times.B) (M := brindlewoodref3_Times.M0) (O := brindlewoodref3_Times.O0) (L := fun m (x : brindlewoodref3_Times.M0.den) => brindlewoodref3_Times.l0 k m x.1 x.2.1 x.2.2.1 x.2.2.2) tt_ok (brindlewoodref3_Times.tab_ok k) follows (ann := (.seq .nil (.seq (.block (.seq .nil (.seq .nil (.block (brindlewoodref3_Times.an1 k))))) .nil))) (annOK_seq (annOK_nil _) (annOK_seq (annOK_block (annOK_seq (annOK_nil _) (annOK_seq (annOK_nil _) (annOK_block (annOK_loop (brindlewoodref3_Times.l1_ok k)))))) (annOK_nil _))) (fun _ => rfl) (fun m x => brindlewoodref3_Times.l0_ev k m x) k
theorem brindlewoodref3_Times.spec (k : Nat) : SpecOK Go.Proofs.Tryz.prog (brindlewoodref3_Times.E k) :=
  fn_ok (c := bodyOf Go.Proofs.Tryz.f62) tt_ok (brindlewoodref3_Times.tab_ok k) follows Go.Proofs.Tryz.func62 rfl (name_ne (by kernel_rfl)) (by kernel_rfl) (Nat.le_of_ble_eq_true (by kernel_rfl)) (Nat.le_of_ble_eq_true (by kernel_rfl)) (annOK_seq (annOK_nil _) (annOK_seq (annOK_nil _) (annOK_seq (annOK_seq (annOK_nil _) (annOK_block (annOK_loop (brindlewoodref3_Times.l0_ok k)))) (annOK_nil _)))) (brindlewoodref3_Times.ev k)

theorem brindlewoodref3_Ten.tab_ok (k : Nat) : ∀ E ∈ brindlewoodref3_Ten.tab k, SpecOK Go.Proofs.Tryz.prog E := (forall_cons (brindlewoodref3_Small.spec k) (forall_cons (brindlewoodref3_Times.spec k) forall_nil))
theorem brindlewoodref3_Ten.l1_ok (k : Nat) : LoopOK Go.Proofs.Tryz.prog Go.Proofs.Tryz.f49.ntmps (finOf tt brindlewoodref3_Ten.B Go.Proofs.Tryz.f49.results.toList) (cAt [1, 1, 1, 0, 0, 0] (bodyOf Go.Proofs.Tryz.f49)) brindlewoodref3_Ten.M1 brindlewoodref3_Ten.O1 2 (fun x => brindlewoodref3_Ten.l1 k k x.1 x.2) :=
  loop_ok (R0 := denB brindlewoodref3_Ten.B) (M := brindlewoodref3_Ten.M1) (O := brindlewoodref3_Ten.O1) (L := fun m (x : brindlewoodref3_Ten.M1.den) => brindlewoodref3_Ten.l1 k m x.1 x.2) tt_ok (brindlewoodref3_Ten.tab_ok k) follows (ann := .nil) (annOK_nil _) (fun _ => rfl) (fun m x => brindlewoodref3_Ten.l1_ev k m x) k
theorem brindlewoodref3_Ten.l0_ok (k : Nat) : LoopOK Go.Proofs.Tryz.prog Go.Proofs.Tryz.f49.ntmps (finOf tt brindlewoodref3_Ten.B Go.Proofs.Tryz.f49.results.toList) (cAt [1, 1, 0, 0, 0] (bodyOf Go.Proofs.Tryz.f49)) brindlewoodref3_Ten.M0 brindlewoodref3_Ten.O0 0 (fun x => brindlewoodref3_Ten.l0 k k x.1 x.2) :=
  loop_ok (R0 := denB brindlewoodref3_Ten.B) (M := brindlewoodref3_Ten.M0) (O := brindlewoodref3_Ten.O0) (L := fun m (x : brindlewoodref3_Ten.M0.den) => brindlewoodref3_Ten.l0 k m x.1 x.2) tt_ok (brindlewoodref3_Ten.tab_ok k) follows (ann := .nil) (annOK_nil _) (fun _ => rfl) (fun m x => brindlewoodref3_Ten.l0_ev k m x) k
theorem brindlewoodref3_Ten.spec (k : Nat) : SpecOK Go.Proofs.Tryz.prog (brindlewoodref3_Ten.E k) :=
  fn_ok (c := bodyOf Go.Proofs.Tryz.f49) tt_ok (brindlewoodref3_Ten.tab_ok k) follows Go.Proofs.Tryz.func49 rfl (name_ne (by kernel_rfl)) (by kernel_rfl) (Nat.le_of_ble_eq_true (by kernel_rfl)) (Nat.le_of_ble_eq_true (by kernel_rfl)) (annOK_seq (annOK_nil _) (annOK_seq (annOK_nil _) (annOK_seq (annOK_block (annOK_loop (brindlewoodref3_Ten.l0_ok k))) (annOK_seq (annOK_block (annOK_loop (brindlewoodref3_Ten.l1_ok k))) (annOK_nil _))))) (brindlewoodref3_Ten.ev k)

theorem brindlewoodref3_Exact_parts.tab_ok (k : Nat) : ∀ E ∈ brindlewoodref3_Exact_parts.tab k, SpecOK Go.Proofs.Tryz.prog E := (forall_cons (brindlewoodref3_Ten.spec k) (forall_cons (brindlewoodref3_Times.spec k) forall_nil))
theorem brindlewoodref3_Exact_parts.spec (k : Nat) : SpecOK Go.Proofs.Tryz.prog (brindlewoodref3_Exact_parts.E k) :=
  fn_ok (c := bodyOf Go.Proofs.Tryz.f97) tt_ok (brindlewoodref3_Exact_parts.tab_ok k) follows Go.Proofs.Tryz.func97 rfl (name_ne (by kernel_rfl)) (by kernel_rfl) (Nat.le_of_ble_eq_true (by kernel_rfl)) (Nat.le_of_ble_eq_true (by kernel_rfl)) (annOK_nil _) (brindlewoodref3_Exact_parts.ev k)

theorem brindlewoodref3_Compare.tab_ok (k : Nat) : ∀ E ∈ brindlewoodref3_Compare.tab k, SpecOK Go.Proofs.Tryz.prog E := forall_nil
theorem brindlewoodref3_Compare.l0_ok (k : Nat) : LoopOK Go.Proofs.Tryz.prog Go.Proofs.Tryz.f115.ntmps (finOf tt brindlewoodref3_Compare.B Go.Proofs.Tryz.f115.results.toList) (cAt [1, 1, 0, 1, 0, 0] (bodyOf Go.Proofs.Tryz.f115)) brindlewoodref3_Compare.M0 brindlewoodref3_Compare.O0 0 (fun x => brindlewoodref3_Compare.l0 k k x.1 x.2.1 x.2.2) :=
  loop_ok (R0 := denB brindlewoodref3_Compare.B) (M := brindlewoodref3_Compare.M0) (O := brindlewoodref3_Compare.O0) (L := fun m (x : brindlewoodref3_Compare.M0.den) => brindlewoodref3_Compare.l0 k m x.1 x.2.1 x.2.2) tt_ok (brindlewoodref3_Compare.tab_ok k) follows (ann := .nil) (annOK_nil _) (fun _ => rfl) (fun m x => brindlewoodref3_Compare.l0_ev k m x) k
theorem brindlewoodref3_Compare.spec (k : Nat) : SpecOK Go.Proofs.Tryz.prog (brindlewoodref3_Compare.E k) :=
  fn_ok (c := bodyOf Go.Proofs.Tryz.f115) tt_ok (brindlewoodref3_Compare.tab_ok k) follows Go.Proofs.Tryz.func115 rfl (name_ne (by kernel_rfl)) (by kernel_rfl) (Nat.le_of_ble_eq_true (by kernel_rfl)) (Nat.le_of_ble_eq_true (by kernel_rfl)) (annOK_seq (annOK_nil _) (annOK_seq (annOK_nil _) (annOK_seq (annOK_seq (annOK_nil _) (annOK_block (annOK_loop (brindlewoodref3_Compare.l0_ok k)))) (annOK_nil _)))) (brindlewoodref3_Compare.ev k)

theorem brindlewoodref3_Exact_First.tab_ok (k : Nat) : ∀ E ∈ brindlewoodref3_Exact_First.tab k, SpecOK Go.Proofs.Tryz.prog E := (forall_cons (brindlewoodref3_Figures.spec k) (forall_cons (brindlewoodref3_Exact_parts.spec k) (forall_cons (brindlewoodref3_Compare.spec k) forall_nil)))
theorem brindlewoodref3_Exact_First.l0_ok (k : Nat) : LoopOK Go.Proofs.Tryz.prog Go.Proofs.Tryz.f113.ntmps (finOf tt brindlewoodref3_Exact_First.B Go.Proofs.Tryz.f113.results.toList) (cAt [1, 1, 0, 0] (bodyOf Go.Proofs.Tryz.f113)) brindlewoodref3_Exact_First.M0 brindlewoodref3_Exact_First.O0 0 (fun x => brindlewoodref3_Exact_First.l0 k k x.1 x.2) :=
  loop_ok (R0 := denB brindlewoodref3_Exact_First.B) (M := brindlewoodref3_Exact_First.M0) (O := brindlewoodref3_Exact_First.O0) (L := fun m (x : brindlewoodref3_Exact_First.M0.den) => brindlewoodref3_Exact_First.l0 k m x.1 x.2) tt_ok (brindlewoodref3_Exact_First.tab_ok k) follows (ann := .nil) (annOK_nil _) (fun _ => rfl) (fun m x => brindlewoodref3_Exact_First.l0_ev k m x) k
theorem brindlewoodref3_Exact_First.spec (k : Nat) : SpecOK Go.Proofs.Tryz.prog (brindlewoodref3_Exact_First.E k) :=
  fn_ok (c := bodyOf Go.Proofs.Tryz.f113) tt_ok (brindlewoodref3_Exact_First.tab_ok k) follows Go.Proofs.Tryz.func113 rfl (name_ne (by kernel_rfl)) (by kernel_rfl) (Nat.le_of_ble_eq_true (by kernel_rfl)) (Nat.le_of_ble_eq_true (by kernel_rfl)) (annOK_seq (annOK_nil _) (annOK_seq (annOK_nil _) (annOK_block (annOK_loop (brindlewoodref3_Exact_First.l0_ok k))))) (brindlewoodref3_Exact_First.ev k)

theorem brindlewoodref3_Ones.tab_ok (k : Nat) : ∀ E ∈ brindlewoodref3_Ones.tab k, SpecOK Go.Proofs.Tryz.prog E := forall_nil
theorem brindlewoodref3_Ones.l2_ok (k : Nat) : LoopOK Go.Proofs.Tryz.prog Go.Proofs.Tryz.f166.ntmps (finOf tt brindlewoodref3_Ones.B Go.Proofs.Tryz.f166.results.toList) (cAt [1, 1, 1, 0, 0, 0] (bodyOf Go.Proofs.Tryz.f166)) brindlewoodref3_Ones.M2 brindlewoodref3_Ones.O2 4 (fun x => brindlewoodref3_Ones.l2 k k x) :=
  loop_ok (R0 := denB brindlewoodref3_Ones.B) (M := brindlewoodref3_Ones.M2) (O := brindlewoodref3_Ones.O2) (L := fun m (x : brindlewoodref3_Ones.M2.den) => brindlewoodref3_Ones.l2 k m x) tt_ok (brindlewoodref3_Ones.tab_ok k) follows (ann := .nil) (annOK_nil _) (fun _ => rfl) (fun m x => brindlewoodref3_Ones.l2_ev k m x) k
theorem brindlewoodref3_Ones.l1_ok (k : Nat) : LoopOK Go.Proofs.Tryz.prog Go.Proofs.Tryz.f166.ntmps (finOf tt brindlewoodref3_Ones.B Go.Proofs.Tryz.f166.results.toList) (cAt [1, 1, 0, 1, 0, 0, 1, 0, 0, 1, 1, 0, 0] (bodyOf Go.Proofs.Tryz.f166)) brindlewoodref3_Ones.M1 brindlewoodref3_Ones.O1 2 (fun x => brindlewoodref3_Ones.l1 k k x.1 x.2.1 x.2.2.1 x.2.2.2.1 x.2.2.2.2) :=
  loop_ok (R0 := denB brindlewoodref3_Ones.B) (M := brindlewoodref3_Ones.M1) (O := brindlewoodref3_Ones.O1) (L := fun m (x : brindlewoodref3_Ones.M1.den) => brindlewoodref3_Ones.l1 k m x.1 x.2.1 x.2.2.1 x.2.2.2.1 x.2.2.2.2) tt_ok (brindlewoodref3_Ones.tab_ok k) follows (ann := .nil) (annOK_nil _) (fun _ => rfl) (fun m x => brindlewoodref3_Ones.l1_ev k m x) k
theorem brindlewoodref3_Ones.l0_ok (k : Nat) : LoopOK Go.Proofs.Tryz.prog Go.Proofs.Tryz.f166.ntmps (finOf tt brindlewoodref3_Ones.B Go.Proofs.Tryz.f166.results.toList) (cAt [1, 1, 0, 1, 0, 0] (bodyOf Go.Proofs.Tryz.f166)) brindlewoodref3_Ones.M0 brindlewoodref3_Ones.O0 0 (fun x => brindlewoodref3_Ones.l0 k k x.1 x.2.1 x.2.2) :=
  loop_ok (R0 := denB brindlewoodref3_Ones.B) (M := brindlewoodref3_Ones.M0) (O := brindlewoodref3_Ones.O0) (L := fun m (x : brindlewoodref3_Ones.M0.den) => brindlewoodref3_Ones.l0 k m x.1 x.2.1 x.2.2) tt_ok (brindlewoodref3_Ones.tab_ok k) follows (ann := (.seq .nil (.seq (.block (.seq .nil (.seq .nil (.block (brindlewoodref3_Ones.an1 k))))) .nil))) (annOK_seq (annOK_nil _) (annOK_seq (annOK_block (annOK_seq (annOK_nil _) (annOK_seq (annOK_nil _) (annOK_block (annOK_loop (brindlewoodref3_Ones.l1_ok k)))))) (annOK_nil _))) (fun _ => rfl) (fun m x => brindlewoodref3_Ones.l0_ev k m x) k
theorem brindlewoodref3_Ones.spec (k : Nat) : SpecOK Go.Proofs.Tryz.prog (brindlewoodref3_Ones.E k) :=
  fn_ok (c := bodyOf Go.Proofs.Tryz.f166) tt_ok (brindlewoodref3_Ones.tab_ok k) follows Go.Proofs.Tryz.func166 rfl (name_ne (by kernel_rfl)) (by kernel_rfl) (Nat.le_of_ble_eq_true (by kernel_rfl)) (Nat.le_of_ble_eq_true (by kernel_rfl)) (annOK_seq (annOK_nil _) (annOK_seq (annOK_nil _) (annOK_seq (annOK_seq (annOK_nil _) (annOK_block (annOK_loop (brindlewoodref3_Ones.l0_ok k)))) (annOK_seq (annOK_block (annOK_loop (brindlewoodref3_Ones.l2_ok k))) (annOK_nil _))))) (brindlewoodref3_Ones.ev k)

theorem brindlewoodref3_Double.tab_ok (k : Nat) : ∀ E ∈ brindlewoodref3_Double.tab k, SpecOK Go.Proofs.Tryz.prog E := (forall_cons (brindlewoodref3_trim_v.spec k) forall_nil)
theorem brindlewoodref3_Double.l0_ok (k : Nat) : LoopOK Go.Proofs.Tryz.prog Go.Proofs.Tryz.f116.ntmps (finOf tt brindlewoodref3_Double.B Go.Proofs.Tryz.f116.results.toList) (cAt [1, 1, 1, 1, 0, 1, 0, 0] (bodyOf Go.Proofs.Tryz.f116)) brindlewoodref3_Double.M0 brindlewoodref3_Double.O0 0 (fun x => brindlewoodref3_Double.l0 k k x.1 x.2.1 x.2.2.1 x.2.2.2) :=
  loop_ok (R0 := denB brindlewoodref3_Double.B) (M := brindlewoodref3_Double.M0) (O := brindlewoodref3_Double.O0) (L := fun m (x : brindlewoodref3_Double.M0.den) => brindlewoodref3_Double.l0 k m x.1 x.2.1 x.2.2.1 x.2.2.2) tt_ok (brindlewoodref3_Double.tab_ok k) follows (ann := .nil) (annOK_nil _) (fun _ => rfl) (fun m x => brindlewoodref3_Double.l0_ev k m x) k
theorem brindlewoodref3_Double.spec (k : Nat) : SpecOK Go.Proofs.Tryz.prog (brindlewoodref3_Double.E k) :=
  fn_ok (c := bodyOf Go.Proofs.Tryz.f116) tt_ok (brindlewoodref3_Double.tab_ok k) follows Go.Proofs.Tryz.func116 rfl (name_ne (by kernel_rfl)) (by kernel_rfl) (Nat.le_of_ble_eq_true (by kernel_rfl)) (Nat.le_of_ble_eq_true (by kernel_rfl)) (annOK_seq (annOK_nil _) (annOK_seq (annOK_nil _) (annOK_jseq (annOK_nil _) (annOK_seq (annOK_nil _) (annOK_seq (annOK_seq (annOK_nil _) (annOK_block (annOK_loop (brindlewoodref3_Double.l0_ok k)))) (annOK_nil _)))))) (brindlewoodref3_Double.ev k)

theorem brindlewoodref3_Minus.tab_ok (k : Nat) : ∀ E ∈ brindlewoodref3_Minus.tab k, SpecOK Go.Proofs.Tryz.prog E := (forall_cons (brindlewoodref3_trim_v.spec k) forall_nil)
theorem brindlewoodref3_Minus.l0_ok (k : Nat) : LoopOK Go.Proofs.Tryz.prog Go.Proofs.Tryz.f167.ntmps (finOf tt brindlewoodref3_Minus.B Go.Proofs.Tryz.f167.results.toList) (cAt [1, 1, 1, 0, 1, 0, 0] (bodyOf Go.Proofs.Tryz.f167)) brindlewoodref3_Minus.M0 brindlewoodref3_Minus.O0 0 (fun x => brindlewoodref3_Minus.l0 k k x.1 x.2.1 x.2.2.1 x.2.2.2.1 x.2.2.2.2) :=
  loop_ok (R0 := denB brindlewoodref3_Minus.B) (M := brindlewoodref3_Minus.M0) (O := brindlewoodref3_Minus.O0) (L := fun m (x : brindlewoodref3_Minus.M0.den) => brindlewoodref3_Minus.l0 k m x.1 x.2.1 x.2.2.1 x.2.2.2.1 x.2.2.2.2) tt_ok (brindlewoodref3_Minus.tab_ok k) follows (ann := (.seq .nil (.seq (.block (.seq .nil (.jseq ⟨[.dat 0 (.list (.int .i64)), .dat 1 (.list (.int .i64)), .own 5 (.int .i64), .dat 7 (.int .i64), .dat 8 (.int .i64)], []⟩ .nil .nil))) .nil))) (annOK_seq (annOK_nil _) (annOK_seq (annOK_block (annOK_seq (annOK_nil _) (annOK_jseq (annOK_nil _) (annOK_nil _)))) (annOK_nil _))) (fun _ => rfl) (fun m x => brindlewoodref3_Minus.l0_ev k m x) k
theorem brindlewoodref3_Minus.spec (k : Nat) : SpecOK Go.Proofs.Tryz.prog (brindlewoodref3_Minus.E k) :=
  fn_ok (c := bodyOf Go.Proofs.Tryz.f167) tt_ok (brindlewoodref3_Minus.tab_ok k) follows Go.Proofs.Tryz.func167 rfl (name_ne (by kernel_rfl)) (by kernel_rfl) (Nat.le_of_ble_eq_true (by kernel_rfl)) (Nat.le_of_ble_eq_true (by kernel_rfl)) (annOK_seq (annOK_nil _) (annOK_seq (annOK_nil _) (annOK_seq (annOK_nil _) (annOK_seq (annOK_seq (annOK_nil _) (annOK_block (annOK_loop (brindlewoodref3_Minus.l0_ok k)))) (annOK_nil _))))) (brindlewoodref3_Minus.ev k)

theorem brindlewoodref3_Binary.tab_ok (k : Nat) : ∀ E ∈ brindlewoodref3_Binary.tab k, SpecOK Go.Proofs.Tryz.prog E := (forall_cons (brindlewoodref3_trim_v.spec k) forall_nil)
theorem brindlewoodref3_Binary.l1_ok (k : Nat) : LoopOK Go.Proofs.Tryz.prog Go.Proofs.Tryz.f127.ntmps (finOf tt brindlewoodref3_Binary.B Go.Proofs.Tryz.f127.results.toList) (cAt [1, 1, 0, 1, 0, 0, 1, 0, 0, 1, 0, 1, 0, 0] (bodyOf Go.Proofs.Tryz.f127)) brindlewoodref3_Binary.M1 brindlewoodref3_Binary.O1 2 (fun x => brindlewoodref3_Binary.l1 k k x.1 x.2.1 x.2.2.1 x.2.2.2.1 x.2.2.2.2) :=
  loop_ok (R0 := denB brindlewoodref3_Binary.B) (M := brindlewoodref3_Binary.M1) (O := brindlewoodref3_Binary.O1) (L := fun m (x : brindlewoodref3_Binary.M1.den) => brindlewoodref3_Binary.l1 k m x.1 x.2.1 x.2.2.1 x.2.2.2.1 x.2.2.2.2) tt_ok (brindlewoodref3_Binary.tab_ok k) follows (ann := .nil) (annOK_nil _) (fun _ => rfl) (fun m x => brindlewoodref3_Binary.l1_ev k m x) k
theorem brindlewoodref3_Binary.l0_ok (k : Nat) : LoopOK Go.Proofs.Tryz.prog Go.Proofs.Tryz.f127.ntmps (finOf tt brindlewoodref3_Binary.B Go.Proofs.Tryz.f127.results.toList) (cAt [1, 1, 0, 1, 0, 0] (bodyOf Go.Proofs.Tryz.f127)) brindlewoodref3_Binary.M0 brindlewoodref3_Binary.O0 0 (fun x => brindlewoodref3_Binary.l0 k k x.1 x.2.1 x.2.2) :=
  loop_ok (R0 := denB brindlewoodref3_Binary.B) (M := brindlewoodref3_Binary.M0) (O := brindlewoodref3_Binary.O0) (L := fun m (x : brindlewoodref3_Binary.M0.den) => brindlewoodref3_Binary.l0 k m x.1 x.2.1 x.2.2) tt_ok (brindlewoodref3_Binary.tab_ok k) follows (ann := (.seq .nil (.seq (.block (.seq .nil (.seq (.seq .nil (.block (brindlewoodref3_Binary.an1 k))) .nil))) .nil))) (annOK_seq (annOK_nil _) (annOK_seq (annOK_block (annOK_seq (annOK_nil _) (annOK_seq (annOK_seq (annOK_nil _) (annOK_block (annOK_loop (brindlewoodref3_Binary.l1_ok k)))) (annOK_nil _)))) (annOK_nil _))) (fun _ => rfl) (fun m x => brindlewoodref3_Binary.l0_ev k m x) k
theorem brindlewoodref3_Binary.spec (k : Nat) : SpecOK Go.Proofs.Tryz.prog (brindlewoodref3_Binary.E k) :=
  fn_ok (c := bodyOf Go.Proofs.Tryz.f127) tt_ok (brindlewoodref3_Binary.tab_ok k) follows Go.Proofs.Tryz.func127 rfl (name_ne (by kernel_rfl)) (by kernel_rfl) (Nat.le_of_ble_eq_true (by kernel_rfl)) (Nat.le_of_ble_eq_true (by kernel_rfl)) (annOK_seq (annOK_nil _) (annOK_seq (annOK_nil _) (annOK_seq (annOK_seq (annOK_nil _) (annOK_block (annOK_loop (brindlewoodref3_Binary.l0_ok k)))) (annOK_nil _)))) (brindlewoodref3_Binary.ev k)

theorem brindlewoodref3_Divide.tab_ok (k : Nat) : ∀ E ∈ brindlewoodref3_Divide.tab k, SpecOK Go.Proofs.Tryz.prog E := (forall_cons (brindlewoodref3_Ones.spec k) (forall_cons (brindlewoodref3_Double.spec k) (forall_cons (brindlewoodref3_Compare.spec k) (forall_cons (brindlewoodref3_Minus.spec k) (forall_cons (brindlewoodref3_Binary.spec k) forall_nil)))))
theorem brindlewoodref3_Divide.l0_ok (k : Nat) : LoopOK Go.Proofs.Tryz.prog Go.Proofs.Tryz.f98.ntmps (finOf tt brindlewoodref3_Divide.B Go.Proofs.Tryz.f98.results.toList) (cAt [1, 1, 1, 1, 0, 1, 0, 0] (bodyOf Go.Proofs.Tryz.f98)) brindlewoodref3_Divide.M0 brindlewoodref3_Divide.O0 0 (fun x => brindlewoodref3_Divide.l0 k k x.1 x.2.1 x.2.2.1 x.2.2.2.1 x.2.2.2.2) :=
  loop_ok (R0 := denB brindlewoodref3_Divide.B) (M := brindlewoodref3_Divide.M0) (O := brindlewoodref3_Divide.O0) (L := fun m (x : brindlewoodref3_Divide.M0.den) => brindlewoodref3_Divide.l0 k m x.1 x.2.1 x.2.2.1 x.2.2.2.1 x.2.2.2.2) tt_ok (brindlewoodref3_Divide.tab_ok k) follows (ann := .nil) (annOK_nil _) (fun _ => rfl) (fun m x => brindlewoodref3_Divide.l0_ev k m x) k
theorem brindlewoodref3_Divide.spec (k : Nat) : SpecOK Go.Proofs.Tryz.prog (brindlewoodref3_Divide.E k) :=
  fn_ok (c := bodyOf Go.Proofs.Tryz.f98) tt_ok (brindlewoodref3_Divide.tab_ok k) follows Go.Proofs.Tryz.func98 rfl (name_ne (by kernel_rfl)) (by kernel_rfl) (Nat.le_of_ble_eq_true (by kernel_rfl)) (Nat.le_of_ble_eq_true (by kernel_rfl)) (annOK_seq (annOK_nil _) (annOK_seq (annOK_nil _) (annOK_seq (annOK_nil _) (annOK_seq (annOK_nil _) (annOK_seq (annOK_seq (annOK_nil _) (annOK_block (annOK_loop (brindlewoodref3_Divide.l0_ok k)))) (annOK_nil _)))))) (brindlewoodref3_Divide.ev k)

theorem brindlewoodref3_up.tab_ok  : ∀ E ∈ brindlewoodref3_up.tab, SpecOK Go.Proofs.Tryz.prog E := forall_nil
theorem brindlewoodref3_up.spec  : SpecOK Go.Proofs.Tryz.prog (brindlewoodref3_up.E) :=
  fn_ok (c := bodyOf Go.Proofs.Tryz.f117) tt_ok (brindlewoodref3_up.tab_ok) follows Go.Proofs.Tryz.func117 rfl (name_ne (by kernel_rfl)) (by kernel_rfl) (Nat.le_of_ble_eq_true (by kernel_rfl)) (Nat.le_of_ble_eq_true (by kernel_rfl)) (annOK_nil _) brindlewoodref3_up.ev

theorem brindlewoodref3_Plus.tab_ok (k : Nat) : ∀ E ∈ brindlewoodref3_Plus.tab k, SpecOK Go.Proofs.Tryz.prog E := (forall_cons (brindlewoodref3_trim_v.spec k) forall_nil)
theorem brindlewoodref3_Plus.l0_ok (k : Nat) : LoopOK Go.Proofs.Tryz.prog Go.Proofs.Tryz.f118.ntmps (finOf tt brindlewoodref3_Plus.B Go.Proofs.Tryz.f118.results.toList) (cAt [1, 1, 1, 0, 1, 0, 0] (bodyOf Go.Proofs.Tryz.f118)) brindlewoodref3_Plus.M0 brindlewoodref3_Plus.O0 0 (fun x => brindlewoodref3_Plus.l0 k k x.1 x.2.1 x.2.2.1 x.2.2.2.1 x.2.2.2.2) :=
  loop_ok (R0 := denB brindlewoodref3_Plus.B) (M := brindlewoodref3_Plus.M0) (O := brindlewoodref3_Plus.O0) (L := fun m (x : brindlewoodref3_Plus.M0.den) => brindlewoodref3_Plus.l0 k m x.1 x.2.1 x.2.2.1 x.2.2.2.1 x.2.2.2.2) tt_ok (brindlewoodref3_Plus.tab_ok k) follows (ann := (.seq .nil (.seq (.block (.jseq ⟨[.dat 0 (.list (.int .i64)), .dat 1 (.list (.int .i64)), .own 5 (.int .i64), .dat 6 (.int .i64), .dat 7 (.int .i64)], []⟩ .nil .nil)) .nil))) (annOK_seq (annOK_nil _) (annOK_seq (annOK_block (annOK_jseq (annOK_nil _) (annOK_nil _))) (annOK_nil _))) (fun _ => rfl) (fun m x => brindlewoodref3_Plus.l0_ev k m x) k
theorem brindlewoodref3_Plus.spec (k : Nat) : SpecOK Go.Proofs.Tryz.prog (brindlewoodref3_Plus.E k) :=
  fn_ok (c := bodyOf Go.Proofs.Tryz.f118) tt_ok (brindlewoodref3_Plus.tab_ok k) follows Go.Proofs.Tryz.func118 rfl (name_ne (by kernel_rfl)) (by kernel_rfl) (Nat.le_of_ble_eq_true (by kernel_rfl)) (Nat.le_of_ble_eq_true (by kernel_rfl)) (annOK_seq (annOK_nil _) (annOK_seq (annOK_nil _) (annOK_seq (annOK_nil _) (annOK_seq (annOK_seq (annOK_nil _) (annOK_block (annOK_loop (brindlewoodref3_Plus.l0_ok k)))) (annOK_nil _))))) (brindlewoodref3_Plus.ev k)

theorem brindlewoodref3_Exact_Rounded.tab_ok (k : Nat) : ∀ E ∈ brindlewoodref3_Exact_Rounded.tab k, SpecOK Go.Proofs.Tryz.prog E := (forall_cons (brindlewoodref3_Exact_parts.spec k) (forall_cons (brindlewoodref3_Divide.spec k) (forall_cons (brindlewoodref3_Double.spec k) (forall_cons (brindlewoodref3_Compare.spec k) (forall_cons brindlewoodref3_up.spec (forall_cons (brindlewoodref3_Small.spec k) (forall_cons (brindlewoodref3_Plus.spec k) forall_nil)))))))
theorem brindlewoodref3_Exact_Rounded.spec (k : Nat) : SpecOK Go.Proofs.Tryz.prog (brindlewoodref3_Exact_Rounded.E k) :=
  fn_ok (c := bodyOf Go.Proofs.Tryz.f103) tt_ok (brindlewoodref3_Exact_Rounded.tab_ok k) follows Go.Proofs.Tryz.func103 rfl (name_ne (by kernel_rfl)) (by kernel_rfl) (Nat.le_of_ble_eq_true (by kernel_rfl)) (Nat.le_of_ble_eq_true (by kernel_rfl)) (annOK_nil _) (brindlewoodref3_Exact_Rounded.ev k)

theorem brindlewoodref3_endless.tab_ok  : ∀ E ∈ brindlewoodref3_endless.tab, SpecOK Go.Proofs.Tryz.prog E := forall_nil
theorem brindlewoodref3_endless.spec  : SpecOK Go.Proofs.Tryz.prog (brindlewoodref3_endless.E) :=
  fn_ok (c := bodyOf Go.Proofs.Tryz.f83) tt_ok (brindlewoodref3_endless.tab_ok) follows Go.Proofs.Tryz.func83 rfl (name_ne (by kernel_rfl)) (by kernel_rfl) (Nat.le_of_ble_eq_true (by kernel_rfl)) (Nat.le_of_ble_eq_true (by kernel_rfl)) (annOK_nil _) brindlewoodref3_endless.ev

theorem brindlewoodref3_settle.tab_ok (k : Nat) : ∀ E ∈ brindlewoodref3_settle.tab k, SpecOK Go.Proofs.Tryz.prog E := (forall_cons (brindlewoodref3_Halve.spec k) (forall_cons (brindlewoodref3_Figures.spec k) (forall_cons brindlewoodref3_endless.spec (forall_cons (brindlewoodref3_Ten.spec k) (forall_cons (brindlewoodref3_Small.spec k) (forall_cons (brindlewoodref3_Minus.spec k) (forall_cons (brindlewoodref3_Finite.spec k) forall_nil)))))))
theorem brindlewoodref3_settle.l0_ok (k : Nat) : LoopOK Go.Proofs.Tryz.prog Go.Proofs.Tryz.f119.ntmps (finOf tt brindlewoodref3_settle.B Go.Proofs.Tryz.f119.results.toList) (cAt [1, 1, 1, 1, 0, 0, 0] (bodyOf Go.Proofs.Tryz.f119)) brindlewoodref3_settle.M0 brindlewoodref3_settle.O0 0 (fun x => brindlewoodref3_settle.l0 k k x.1 x.2.1 x.2.2.1 x.2.2.2.1 x.2.2.2.2.1 x.2.2.2.2.2.1 x.2.2.2.2.2.2.1 x.2.2.2.2.2.2.2) :=
  loop_ok (R0 := denB brindlewoodref3_settle.B) (M := brindlewoodref3_settle.M0) (O := brindlewoodref3_settle.O0) (L := fun m (x : brindlewoodref3_settle.M0.den) => brindlewoodref3_settle.l0 k m x.1 x.2.1 x.2.2.1 x.2.2.2.1 x.2.2.2.2.1 x.2.2.2.2.2.1 x.2.2.2.2.2.2.1 x.2.2.2.2.2.2.2) tt_ok (brindlewoodref3_settle.tab_ok k) follows (ann := .nil) (annOK_nil _) (fun _ => rfl) (fun m x => brindlewoodref3_settle.l0_ev k m x) k
theorem brindlewoodref3_settle.spec (k : Nat) : SpecOK Go.Proofs.Tryz.prog (brindlewoodref3_settle.E k) :=
  fn_ok (c := bodyOf Go.Proofs.Tryz.f119) tt_ok (brindlewoodref3_settle.tab_ok k) follows Go.Proofs.Tryz.func119 rfl (name_ne (by kernel_rfl)) (by kernel_rfl) (Nat.le_of_ble_eq_true (by kernel_rfl)) (Nat.le_of_ble_eq_true (by kernel_rfl)) (annOK_seq (annOK_nil _) (annOK_seq (annOK_nil _) (annOK_jseq (annOK_nil _) (annOK_jseq (annOK_nil _) (annOK_seq (annOK_block (annOK_loop (brindlewoodref3_settle.l0_ok k))) (annOK_jseq (annOK_nil _) (annOK_seq (annOK_seq (annOK_nil _) (annOK_jseq (annOK_nil _) (annOK_cond (annOK_seq (annOK_nil _) (annOK_jseq (annOK_nil _) (annOK_nil _))) (annOK_nil _)))) (annOK_nil _)))))))) (brindlewoodref3_settle.ev k)

theorem brindlewoodref3_Exact_Fit.tab_ok (k : Nat) : ∀ E ∈ brindlewoodref3_Exact_Fit.tab k, SpecOK Go.Proofs.Tryz.prog E := (forall_cons (brindlewoodref3_Finite.spec k) (forall_cons (brindlewoodref3_Exact_First.spec k) (forall_cons (brindlewoodref3_Exact_Rounded.spec k) (forall_cons (brindlewoodref3_settle.spec k) forall_nil))))
theorem brindlewoodref3_Exact_Fit.spec (k : Nat) : SpecOK Go.Proofs.Tryz.prog (brindlewoodref3_Exact_Fit.E k) :=
  fn_ok (c := bodyOf Go.Proofs.Tryz.f58) tt_ok (brindlewoodref3_Exact_Fit.tab_ok k) follows Go.Proofs.Tryz.func58 rfl (name_ne (by kernel_rfl)) (by kernel_rfl) (Nat.le_of_ble_eq_true (by kernel_rfl)) (Nat.le_of_ble_eq_true (by kernel_rfl)) (annOK_seq (annOK_nil _) (annOK_seq (annOK_nil _) (annOK_seq (annOK_nil _) (annOK_seq (annOK_nil _) (annOK_seq (annOK_nil _) (annOK_jseq (annOK_nil _) (annOK_nil _))))))) (brindlewoodref3_Exact_Fit.ev k)

theorem brindlewoodref3_Fitted.tab_ok (k : Nat) : ∀ E ∈ brindlewoodref3_Fitted.tab k, SpecOK Go.Proofs.Tryz.prog E := (forall_cons (brindlewoodref3_Value.spec k) (forall_cons (brindlewoodref3_Exact_Fit.spec k) forall_nil))
theorem brindlewoodref3_Fitted.spec (k : Nat) : SpecOK Go.Proofs.Tryz.prog (brindlewoodref3_Fitted.E k) :=
  fn_ok (c := bodyOf Go.Proofs.Tryz.f30) tt_ok (brindlewoodref3_Fitted.tab_ok k) follows Go.Proofs.Tryz.func30 rfl (name_ne (by kernel_rfl)) (by kernel_rfl) (Nat.le_of_ble_eq_true (by kernel_rfl)) (Nat.le_of_ble_eq_true (by kernel_rfl)) (annOK_nil _) (brindlewoodref3_Fitted.ev k)

theorem brindlewoodref3_Reduced.tab_ok (k : Nat) : ∀ E ∈ brindlewoodref3_Reduced.tab k, SpecOK Go.Proofs.Tryz.prog E := (forall_cons (brindlewoodref3_Fitted.spec k) (forall_cons (brindlewoodref3_Of.spec k) (forall_cons (brindlewoodref3_Finite.spec k) (forall_cons (brindlewoodref3_Halve.spec k) forall_nil))))
theorem brindlewoodref3_Reduced.l0_ok (k : Nat) : LoopOK Go.Proofs.Tryz.prog Go.Proofs.Tryz.f31.ntmps (finOf tt brindlewoodref3_Reduced.B Go.Proofs.Tryz.f31.results.toList) (cAt [1, 1, 1, 1, 1, 0, 0, 0] (bodyOf Go.Proofs.Tryz.f31)) brindlewoodref3_Reduced.M0 brindlewoodref3_Reduced.O0 0 (fun x => brindlewoodref3_Reduced.l0 k k x.1 x.2.1 x.2.2.1 x.2.2.2.1 x.2.2.2.2) :=
  loop_ok (R0 := denB brindlewoodref3_Reduced.B) (M := brindlewoodref3_Reduced.M0) (O := brindlewoodref3_Reduced.O0) (L := fun m (x : brindlewoodref3_Reduced.M0.den) => brindlewoodref3_Reduced.l0 k m x.1 x.2.1 x.2.2.1 x.2.2.2.1 x.2.2.2.2) tt_ok (brindlewoodref3_Reduced.tab_ok k) follows (ann := .nil) (annOK_nil _) (fun _ => rfl) (fun m x => brindlewoodref3_Reduced.l0_ev k m x) k
theorem brindlewoodref3_Reduced.spec (k : Nat) : SpecOK Go.Proofs.Tryz.prog (brindlewoodref3_Reduced.E k) :=
  fn_ok (c := bodyOf Go.Proofs.Tryz.f31) tt_ok (brindlewoodref3_Reduced.tab_ok k) follows Go.Proofs.Tryz.func31 rfl (name_ne (by kernel_rfl)) (by kernel_rfl) (Nat.le_of_ble_eq_true (by kernel_rfl)) (Nat.le_of_ble_eq_true (by kernel_rfl)) (annOK_seq (annOK_nil _) (annOK_seq (annOK_nil _) (annOK_seq (annOK_nil _) (annOK_seq (annOK_nil _) (annOK_seq (annOK_nil _) (annOK_seq (annOK_block (annOK_loop (brindlewoodref3_Reduced.l0_ok k))) (annOK_nil _))))))) (brindlewoodref3_Reduced.ev k)

theorem brindlewoodref3_nothing.tab_ok  : ∀ E ∈ brindlewoodref3_nothing.tab, SpecOK Go.Proofs.Tryz.prog E := forall_nil
theorem brindlewoodref3_nothing.spec  : SpecOK Go.Proofs.Tryz.prog (brindlewoodref3_nothing.E) :=
  fn_ok (c := bodyOf Go.Proofs.Tryz.f82) tt_ok (brindlewoodref3_nothing.tab_ok) follows Go.Proofs.Tryz.func82 rfl (name_ne (by kernel_rfl)) (by kernel_rfl) (Nat.le_of_ble_eq_true (by kernel_rfl)) (Nat.le_of_ble_eq_true (by kernel_rfl)) (annOK_nil _) brindlewoodref3_nothing.ev

theorem brindlewoodref3_Quantized.tab_ok (k : Nat) : ∀ E ∈ brindlewoodref3_Quantized.tab k, SpecOK Go.Proofs.Tryz.prog E := (forall_cons brindlewoodref3_nothing.spec (forall_cons (brindlewoodref3_Value.spec k) (forall_cons (brindlewoodref3_Exact_Rounded.spec k) (forall_cons (brindlewoodref3_Figures.spec k) (forall_cons (brindlewoodref3_Finite.spec k) forall_nil)))))
theorem brindlewoodref3_Quantized.spec (k : Nat) : SpecOK Go.Proofs.Tryz.prog (brindlewoodref3_Quantized.E k) :=
  fn_ok (c := bodyOf Go.Proofs.Tryz.f32) tt_ok (brindlewoodref3_Quantized.tab_ok k) follows Go.Proofs.Tryz.func32 rfl (name_ne (by kernel_rfl)) (by kernel_rfl) (Nat.le_of_ble_eq_true (by kernel_rfl)) (Nat.le_of_ble_eq_true (by kernel_rfl)) (annOK_seq (annOK_nil _) (annOK_jseq (annOK_nil _) (annOK_seq (annOK_nil _) (annOK_seq (annOK_nil _) (annOK_seq (annOK_block (annOK_jseq (annOK_nil _) (annOK_nil _))) (annOK_nil _)))))) (brindlewoodref3_Quantized.ev k)

theorem stringslite_HasPrefix.tab_ok  : ∀ E ∈ stringslite_HasPrefix.tab, SpecOK Go.Proofs.Tryz.prog E := forall_nil
theorem stringslite_HasPrefix.spec  : SpecOK Go.Proofs.Tryz.prog (stringslite_HasPrefix.E) :=
  fn_ok (c := bodyOf Go.Proofs.Tryz.f190) tt_ok (stringslite_HasPrefix.tab_ok) follows Go.Proofs.Tryz.func190 rfl (name_ne (by kernel_rfl)) (by kernel_rfl) (Nat.le_of_ble_eq_true (by kernel_rfl)) (Nat.le_of_ble_eq_true (by kernel_rfl)) (annOK_nil _) stringslite_HasPrefix.ev

theorem stringslite_CutPrefix.tab_ok  : ∀ E ∈ stringslite_CutPrefix.tab, SpecOK Go.Proofs.Tryz.prog E := (forall_cons stringslite_HasPrefix.spec forall_nil)
theorem stringslite_CutPrefix.spec  : SpecOK Go.Proofs.Tryz.prog (stringslite_CutPrefix.E) :=
  fn_ok (c := bodyOf Go.Proofs.Tryz.f148) tt_ok (stringslite_CutPrefix.tab_ok) follows Go.Proofs.Tryz.func148 rfl (name_ne (by kernel_rfl)) (by kernel_rfl) (Nat.le_of_ble_eq_true (by kernel_rfl)) (Nat.le_of_ble_eq_true (by kernel_rfl)) (annOK_nil _) stringslite_CutPrefix.ev

theorem strings_CutPrefix.tab_ok  : ∀ E ∈ strings_CutPrefix.tab, SpecOK Go.Proofs.Tryz.prog E := (forall_cons stringslite_CutPrefix.spec forall_nil)
theorem strings_CutPrefix.spec  : SpecOK Go.Proofs.Tryz.prog (strings_CutPrefix.E) :=
  fn_ok (c := bodyOf Go.Proofs.Tryz.f68) tt_ok (strings_CutPrefix.tab_ok) follows Go.Proofs.Tryz.func68 rfl (name_ne (by kernel_rfl)) (by kernel_rfl) (Nat.le_of_ble_eq_true (by kernel_rfl)) (Nat.le_of_ble_eq_true (by kernel_rfl)) (annOK_nil _) strings_CutPrefix.ev

theorem stringslite_IndexByte.spec : SpecOK Go.Proofs.Tryz.prog stringslite_IndexByte.E :=
  ibyte_ok' (f := 210) (g := 229) (fn := Go.Proofs.Tryz.f210) (gn := Go.Proofs.Tryz.f229) (T := tt) tt_ok follows Go.Proofs.Tryz.func210 Go.Proofs.Tryz.func229 rfl (name_ne (by kernel_rfl)) (name_ne (by kernel_rfl)) rfl (by kernel_rfl) (by kernel_rfl) rfl rfl rfl (by kernel_rfl) (by kernel_rfl) (fun x => by kernel_rfl) (fun x => by kernel_rfl) (fun x => by kernel_rfl) (fun x => by kernel_rfl) (fun x => by kernel_rfl) (fun x v => by kernel_rfl) (fun x v => by kernel_rfl)

theorem stringslite_Index.tab_ok  : ∀ E ∈ stringslite_Index.tab, SpecOK Go.Proofs.Tryz.prog E := (forall_cons stringslite_IndexByte.spec forall_nil)
theorem stringslite_Index.spec  : SpecOK Go.Proofs.Tryz.prog (stringslite_Index.E) :=
  fn_ok (c := bodyOf Go.Proofs.Tryz.f193) tt_ok (stringslite_Index.tab_ok) follows Go.Proofs.Tryz.func193 rfl (name_ne (by kernel_rfl)) (by kernel_rfl) (Nat.le_of_ble_eq_true (by kernel_rfl)) (Nat.le_of_ble_eq_true (by kernel_rfl)) (annOK_seq (annOK_nil _) (annOK_seq (annOK_nil _) (annOK_seq (annOK_block (annOK_jseq (annOK_nil _) (annOK_nil _))) (annOK_nil _)))) stringslite_Index.ev

theorem stringslite_Cut.tab_ok  : ∀ E ∈ stringslite_Cut.tab, SpecOK Go.Proofs.Tryz.prog E := (forall_cons stringslite_Index.spec forall_nil)
theorem stringslite_Cut.spec  : SpecOK Go.Proofs.Tryz.prog (stringslite_Cut.E) :=
  fn_ok (c := bodyOf Go.Proofs.Tryz.f149) tt_ok (stringslite_Cut.tab_ok) follows Go.Proofs.Tryz.func149 rfl (name_ne (by kernel_rfl)) (by kernel_rfl) (Nat.le_of_ble_eq_true (by kernel_rfl)) (Nat.le_of_ble_eq_true (by kernel_rfl)) (annOK_nil _) stringslite_Cut.ev

theorem strings_Cut.tab_ok  : ∀ E ∈ strings_Cut.tab, SpecOK Go.Proofs.Tryz.prog E := (forall_cons stringslite_Cut.spec forall_nil)
theorem strings_Cut.spec  : SpecOK Go.Proofs.Tryz.prog (strings_Cut.E) :=
  fn_ok (c := bodyOf Go.Proofs.Tryz.f71) tt_ok (strings_Cut.tab_ok) follows Go.Proofs.Tryz.func71 rfl (name_ne (by kernel_rfl)) (by kernel_rfl) (Nat.le_of_ble_eq_true (by kernel_rfl)) (Nat.le_of_ble_eq_true (by kernel_rfl)) (annOK_nil _) strings_Cut.ev

theorem strings_HasPrefix.tab_ok  : ∀ E ∈ strings_HasPrefix.tab, SpecOK Go.Proofs.Tryz.prog E := (forall_cons stringslite_HasPrefix.spec forall_nil)
theorem strings_HasPrefix.spec  : SpecOK Go.Proofs.Tryz.prog (strings_HasPrefix.E) :=
  fn_ok (c := bodyOf Go.Proofs.Tryz.f143) tt_ok (strings_HasPrefix.tab_ok) follows Go.Proofs.Tryz.func143 rfl (name_ne (by kernel_rfl)) (by kernel_rfl) (Nat.le_of_ble_eq_true (by kernel_rfl)) (Nat.le_of_ble_eq_true (by kernel_rfl)) (annOK_nil _) strings_HasPrefix.ev

theorem decimal_allDigits.tab_ok (k : Nat) : ∀ E ∈ decimal_allDigits.tab k, SpecOK Go.Proofs.Tryz.prog E := forall_nil
theorem decimal_allDigits.l0_ok (k : Nat) : LoopOK Go.Proofs.Tryz.prog Go.Proofs.Tryz.f73.ntmps (finOf tt decimal_allDigits.B Go.Proofs.Tryz.f73.results.toList) (cAt [1, 0, 1, 0, 0] (bodyOf Go.Proofs.Tryz.f73)) decimal_allDigits.M0 decimal_allDigits.O0 0 (fun x => decimal_allDigits.l0 k k x.1 x.2.1 x.2.2) :=
  loop_ok (R0 := denB decimal_allDigits.B) (M := decimal_allDigits.M0) (O := decimal_allDigits.O0) (L := fun m (x : decimal_allDigits.M0.den) => decimal_allDigits.l0 k m x.1 x.2.1 x.2.2) tt_ok (decimal_allDigits.tab_ok k) follows (ann := .nil) (annOK_nil _) (fun _ => rfl) (fun m x => decimal_allDigits.l0_ev k m x) k
theorem decimal_allDigits.spec (k : Nat) : SpecOK Go.Proofs.Tryz.prog (decimal_allDigits.E k) :=
  fn_ok (c := bodyOf Go.Proofs.Tryz.f73) tt_ok (decimal_allDigits.tab_ok k) follows Go.Proofs.Tryz.func73 rfl (name_ne (by kernel_rfl)) (by kernel_rfl) (Nat.le_of_ble_eq_true (by kernel_rfl)) (Nat.le_of_ble_eq_true (by kernel_rfl)) (annOK_seq (annOK_nil _) (annOK_seq (annOK_seq (annOK_nil _) (annOK_block (annOK_loop (decimal_allDigits.l0_ok k)))) (annOK_nil _))) (decimal_allDigits.ev k)

theorem decimal_exponent.tab_ok (k : Nat) : ∀ E ∈ decimal_exponent.tab k, SpecOK Go.Proofs.Tryz.prog E := (forall_cons strings_HasPrefix.spec (forall_cons (decimal_allDigits.spec k) forall_nil))
theorem decimal_exponent.spec (k : Nat) : SpecOK Go.Proofs.Tryz.prog (decimal_exponent.E k) :=
  fn_ok (c := bodyOf Go.Proofs.Tryz.f72) tt_ok (decimal_exponent.tab_ok k) follows Go.Proofs.Tryz.func72 rfl (name_ne (by kernel_rfl)) (by kernel_rfl) (Nat.le_of_ble_eq_true (by kernel_rfl)) (Nat.le_of_ble_eq_true (by kernel_rfl)) (annOK_seq (annOK_nil _) (annOK_seq (annOK_nil _) (annOK_jseq (annOK_nil _) (annOK_jseq (annOK_nil _) (annOK_nil _))))) (decimal_exponent.ev k)

theorem strings_trimLeftByte.tab_ok (k : Nat) : ∀ E ∈ strings_trimLeftByte.tab k, SpecOK Go.Proofs.Tryz.prog E := forall_nil
theorem strings_trimLeftByte.l0_ok (k : Nat) : LoopOK Go.Proofs.Tryz.prog Go.Proofs.Tryz.f151.ntmps (finOf tt strings_trimLeftByte.B Go.Proofs.Tryz.f151.results.toList) (cAt [1, 0, 0, 0] (bodyOf Go.Proofs.Tryz.f151)) strings_trimLeftByte.M0 strings_trimLeftByte.O0 0 (fun x => strings_trimLeftByte.l0 k k x.1 x.2) :=
  loop_ok (R0 := denB strings_trimLeftByte.B) (M := strings_trimLeftByte.M0) (O := strings_trimLeftByte.O0) (L := fun m (x : strings_trimLeftByte.M0.den) => strings_trimLeftByte.l0 k m x.1 x.2) tt_ok (strings_trimLeftByte.tab_ok k) follows (ann := .nil) (annOK_nil _) (fun _ => rfl) (fun m x => strings_trimLeftByte.l0_ev k m x) k
theorem strings_trimLeftByte.spec (k : Nat) : SpecOK Go.Proofs.Tryz.prog (strings_trimLeftByte.E k) :=
  fn_ok (c := bodyOf Go.Proofs.Tryz.f151) tt_ok (strings_trimLeftByte.tab_ok k) follows Go.Proofs.Tryz.func151 rfl (name_ne (by kernel_rfl)) (by kernel_rfl) (Nat.le_of_ble_eq_true (by kernel_rfl)) (Nat.le_of_ble_eq_true (by kernel_rfl)) (annOK_seq (annOK_nil _) (annOK_seq (annOK_block (annOK_loop (strings_trimLeftByte.l0_ok k))) (annOK_nil _))) (strings_trimLeftByte.ev k)

theorem strings_TrimLeft.tab_ok (k : Nat) : ∀ E ∈ strings_TrimLeft.tab k, SpecOK Go.Proofs.Tryz.prog E := (forall_cons (strings_trimLeftByte.spec k) forall_nil)
theorem strings_TrimLeft.spec (k : Nat) : SpecOK Go.Proofs.Tryz.prog (strings_TrimLeft.E k) :=
  fn_ok (c := bodyOf Go.Proofs.Tryz.f74) tt_ok (strings_TrimLeft.tab_ok k) follows Go.Proofs.Tryz.func74 rfl (name_ne (by kernel_rfl)) (by kernel_rfl) (Nat.le_of_ble_eq_true (by kernel_rfl)) (Nat.le_of_ble_eq_true (by kernel_rfl)) (annOK_seq (annOK_nil _) (annOK_jseq (annOK_nil _) (annOK_jseq (annOK_nil _) (annOK_nil _)))) (strings_TrimLeft.ev k)

theorem integer_at.tab_ok  : ∀ E ∈ integer_at.tab, SpecOK Go.Proofs.Tryz.prog E := forall_nil
theorem integer_at.spec  : SpecOK Go.Proofs.Tryz.prog (integer_at.E) :=
  fn_ok (c := bodyOf Go.Proofs.Tryz.f155) tt_ok (integer_at.tab_ok) follows Go.Proofs.Tryz.func155 rfl (name_ne (by kernel_rfl)) (by kernel_rfl) (Nat.le_of_ble_eq_true (by kernel_rfl)) (Nat.le_of_ble_eq_true (by kernel_rfl)) (annOK_nil _) integer_at.ev

theorem slices_Index_bytebyte.tab_ok (k : Nat) : ∀ E ∈ slices_Index_bytebyte.tab k, SpecOK Go.Proofs.Tryz.prog E := forall_nil
theorem slices_Index_bytebyte.l0_ok (k : Nat) : LoopOK Go.Proofs.Tryz.prog Go.Proofs.Tryz.f156.ntmps (finOf tt slices_Index_bytebyte.B Go.Proofs.Tryz.f156.results.toList) (cAt [1, 0, 1, 0, 0] (bodyOf Go.Proofs.Tryz.f156)) slices_Index_bytebyte.M0 slices_Index_bytebyte.O0 0 (fun x => slices_Index_bytebyte.l0 k k x.1 x.2.1 x.2.2.1 x.2.2.2) :=
  loop_ok (R0 := denB slices_Index_bytebyte.B) (M := slices_Index_bytebyte.M0) (O := slices_Index_bytebyte.O0) (L := fun m (x : slices_Index_bytebyte.M0.den) => slices_Index_bytebyte.l0 k m x.1 x.2.1 x.2.2.1 x.2.2.2) tt_ok (slices_Index_bytebyte.tab_ok k) follows (ann := .nil) (annOK_nil _) (fun _ => rfl) (fun m x => slices_Index_bytebyte.l0_ev k m x) k
theorem slices_Index_bytebyte.spec (k : Nat) : SpecOK Go.Proofs.Tryz.prog (slices_Index_bytebyte.E k) :=
  fn_ok (c := bodyOf Go.Proofs.Tryz.f156) tt_ok (slices_Index_bytebyte.tab_ok k) follows Go.Proofs.Tryz.func156 rfl (name_ne (by kernel_rfl)) (by kernel_rfl) (Nat.le_of_ble_eq_true (by kernel_rfl)) (Nat.le_of_ble_eq_true (by kernel_rfl)) (annOK_seq (annOK_nil _) (annOK_seq (annOK_seq (annOK_nil _) (annOK_block (annOK_loop (slices_Index_bytebyte.l0_ok k)))) (annOK_nil _))) (slices_Index_bytebyte.ev k)

theorem natural_From.tab_ok (k : Nat) : ∀ E ∈ natural_From.tab k, SpecOK Go.Proofs.Tryz.prog E := (forall_cons natural_at.spec (forall_cons (natural_mul.spec k) (forall_cons (natural_trim_v.spec k) (forall_cons (natural_add.spec k) (forall_cons (natural_fit.spec k) forall_nil)))))
theorem natural_From.l0_ok (k : Nat) : LoopOK Go.Proofs.Tryz.prog Go.Proofs.Tryz.f157.ntmps (finOf tt natural_From.B Go.Proofs.Tryz.f157.results.toList) (cAt [1, 1, 1, 0, 1, 0, 0] (bodyOf Go.Proofs.Tryz.f157)) natural_From.M0 natural_From.O0 0 (fun x => natural_From.l0 k k x.1 x.2.1 x.2.2.1 x.2.2.2.1 x.2.2.2.2.1 x.2.2.2.2.2) :=
  loop_ok (R0 := denB natural_From.B) (M := natural_From.M0) (O := natural_From.O0) (L := fun m (x : natural_From.M0.den) => natural_From.l0 k m x.1 x.2.1 x.2.2.1 x.2.2.2.1 x.2.2.2.2.1 x.2.2.2.2.2) tt_ok (natural_From.tab_ok k) follows (ann := (.seq .nil (.seq .nil (.seq (.block (.seq .nil (.jseq ⟨[.dat 1 (.int .i64), .box 55 [.st (.pair (.int .i64) (.int .i64))], .own 6 (.int .u32), .dat 8 (.int .i64), .dat 16 (.list (.int .i64)), .dat 17 (.int .i64), .dat 18 (.int .i64), .dat 26 (.int .i64), .dat 27 (.int .i64), .dat 28 (.bool)], [.ptr 5 55 0]⟩ .nil .nil))) .nil)))) (annOK_seq (annOK_nil _) (annOK_seq (annOK_nil _) (annOK_seq (annOK_block (annOK_seq (annOK_nil _) (annOK_jseq (annOK_nil _) (annOK_nil _)))) (annOK_nil _)))) (fun _ => rfl) (fun m x => natural_From.l0_ev k m x) k
theorem natural_From.spec (k : Nat) : SpecOK Go.Proofs.Tryz.prog (natural_From.E k) :=
  fn_ok (c := bodyOf Go.Proofs.Tryz.f157) tt_ok (natural_From.tab_ok k) follows Go.Proofs.Tryz.func157 rfl (name_ne (by kernel_rfl)) (by kernel_rfl) (Nat.le_of_ble_eq_true (by kernel_rfl)) (Nat.le_of_ble_eq_true (by kernel_rfl)) (annOK_seq (annOK_nil _) (annOK_jseq (annOK_nil _) (annOK_seq (annOK_nil _) (annOK_seq (annOK_seq (annOK_nil _) (annOK_block (annOK_loop (natural_From.l0_ok k)))) (annOK_nil _))))) (natural_From.ev k)

theorem integer_signed.tab_ok  : ∀ E ∈ integer_signed.tab, SpecOK Go.Proofs.Tryz.prog E := (forall_cons integer_at.spec forall_nil)
theorem integer_signed.spec  : SpecOK Go.Proofs.Tryz.prog (integer_signed.E) :=
  fn_ok (c := bodyOf Go.Proofs.Tryz.f158) tt_ok (integer_signed.tab_ok) follows Go.Proofs.Tryz.func158 rfl (name_ne (by kernel_rfl)) (by kernel_rfl) (Nat.le_of_ble_eq_true (by kernel_rfl)) (Nat.le_of_ble_eq_true (by kernel_rfl)) (annOK_nil _) integer_signed.ev

theorem integer_Parse.tab_ok (k : Nat) : ∀ E ∈ integer_Parse.tab k, SpecOK Go.Proofs.Tryz.prog E := (forall_cons integer_at.spec (forall_cons (slices_Index_bytebyte.spec k) (forall_cons (natural_From.spec k) (forall_cons integer_signed.spec forall_nil))))
theorem integer_Parse.l0_ok (k : Nat) : LoopOK Go.Proofs.Tryz.prog Go.Proofs.Tryz.f75.ntmps (finOf tt integer_Parse.B Go.Proofs.Tryz.f75.results.toList) (cAt [1, 1, 1, 1, 1, 1, 0, 1, 0, 0] (bodyOf Go.Proofs.Tryz.f75)) integer_Parse.M0 integer_Parse.O0 1 (fun x => integer_Parse.l0 k k x.1 x.2.1 x.2.2.1 x.2.2.2.1 x.2.2.2.2.1 x.2.2.2.2.2.1 x.2.2.2.2.2.2.1 x.2.2.2.2.2.2.2) :=
  loop_ok (R0 := denB integer_Parse.B) (M := integer_Parse.M0) (O := integer_Parse.O0) (L := fun m (x : integer_Parse.M0.den) => integer_Parse.l0 k m x.1 x.2.1 x.2.2.1 x.2.2.2.1 x.2.2.2.2.1 x.2.2.2.2.2.1 x.2.2.2.2.2.2.1 x.2.2.2.2.2.2.2) tt_ok (integer_Parse.tab_ok k) follows (ann := .nil) (annOK_nil _) (fun _ => rfl) (fun m x => integer_Parse.l0_ev k m x) k
theorem integer_Parse.spec (k : Nat) : SpecOK Go.Proofs.Tryz.prog (integer_Parse.E k) :=
  fn_ok (c := bodyOf Go.Proofs.Tryz.f75) tt_ok (integer_Parse.tab_ok k) follows Go.Proofs.Tryz.func75 rfl (name_ne (by kernel_rfl)) (by kernel_rfl) (Nat.le_of_ble_eq_true (by kernel_rfl)) (Nat.le_of_ble_eq_true (by kernel_rfl)) (annOK_seq (annOK_nil _) (annOK_seq (annOK_block (annOK_jseq (annOK_nil _) (annOK_nil _))) (annOK_seq (annOK_nil _) (annOK_jseq (annOK_nil _) (annOK_jseq (annOK_nil _) (annOK_seq (annOK_nil _) (annOK_seq (annOK_seq (annOK_nil _) (annOK_block (annOK_loop (integer_Parse.l0_ok k)))) (annOK_nil _)))))))) (integer_Parse.ev k)

theorem decimal_Parse.tab_ok (k : Nat) : ∀ E ∈ decimal_Parse.tab k, SpecOK Go.Proofs.Tryz.prog E := (forall_cons decimal_at.spec (forall_cons strings_CutPrefix.spec (forall_cons decimal_infinite.spec (forall_cons decimal_none.spec (forall_cons strings_Cut.spec (forall_cons (decimal_exponent.spec k) (forall_cons (decimal_allDigits.spec k) (forall_cons (strings_TrimLeft.spec k) (forall_cons (integer_Parse.spec k) forall_nil)))))))))
theorem decimal_Parse.spec (k : Nat) : SpecOK Go.Proofs.Tryz.prog (decimal_Parse.E k) :=
  fn_ok (c := bodyOf Go.Proofs.Tryz.f14) tt_ok (decimal_Parse.tab_ok k) follows Go.Proofs.Tryz.func14 rfl (name_ne (by kernel_rfl)) (by kernel_rfl) (Nat.le_of_ble_eq_true (by kernel_rfl)) (Nat.le_of_ble_eq_true (by kernel_rfl)) (annOK_seq (annOK_nil _) (annOK_seq (annOK_nil _) (annOK_seq (annOK_nil _) (annOK_seq (annOK_nil _) (annOK_seq (annOK_nil _) (annOK_seq (annOK_nil _) (annOK_jseq (annOK_nil _) (annOK_seq (annOK_nil _) (annOK_jseq (annOK_nil _) (annOK_seq (annOK_nil _) (annOK_seq (annOK_nil _) (annOK_jseq (annOK_nil _) (annOK_jseq (annOK_nil _) (annOK_nil _)))))))))))))) (decimal_Parse.ev k)

theorem decimal_special.tab_ok  : ∀ E ∈ decimal_special.tab, SpecOK Go.Proofs.Tryz.prog E := (forall_cons decimal_none.spec (forall_cons decimal_infinite.spec forall_nil))
theorem decimal_special.spec  : SpecOK Go.Proofs.Tryz.prog (decimal_special.E) :=
  fn_ok (c := bodyOf Go.Proofs.Tryz.f106) tt_ok (decimal_special.tab_ok) follows Go.Proofs.Tryz.func106 rfl (name_ne (by kernel_rfl)) (by kernel_rfl) (Nat.le_of_ble_eq_true (by kernel_rfl)) (Nat.le_of_ble_eq_true (by kernel_rfl)) (annOK_seq (annOK_nil _) (annOK_seq (annOK_block (annOK_jseq (annOK_nil _) (annOK_cond (annOK_nil _) (annOK_jseq (annOK_nil _) (annOK_nil _))))) (annOK_nil _))) decimal_special.ev

theorem decimal_plus.tab_ok (k : Nat) : ∀ E ∈ decimal_plus.tab k, SpecOK Go.Proofs.Tryz.prog E := (forall_cons (decimal_times.spec k) (forall_cons (natural_Add.spec k) (forall_cons (decimal_less.spec k) (forall_cons (natural_Sub.spec k) forall_nil))))
theorem decimal_plus.spec (k : Nat) : SpecOK Go.Proofs.Tryz.prog (decimal_plus.E k) :=
  fn_ok (c := bodyOf Go.Proofs.Tryz.f105) tt_ok (decimal_plus.tab_ok k) follows Go.Proofs.Tryz.func105 rfl (name_ne (by kernel_rfl)) (by kernel_rfl) (Nat.le_of_ble_eq_true (by kernel_rfl)) (Nat.le_of_ble_eq_true (by kernel_rfl)) (annOK_seq (annOK_nil _) (annOK_seq (annOK_nil _) (annOK_seq (annOK_nil _) (annOK_seq (annOK_nil _) (annOK_seq (annOK_nil _) (annOK_jseq (annOK_nil _) (annOK_nil _))))))) (decimal_plus.ev k)

theorem decimal_Add.tab_ok (k : Nat) : ∀ E ∈ decimal_Add.tab k, SpecOK Go.Proofs.Tryz.prog E := (forall_cons (decimal_check.spec k) (forall_cons decimal_special.spec (forall_cons decimal_of.spec (forall_cons (decimal_plus.spec k) (forall_cons (decimal_exact_fit.spec k) forall_nil)))))
theorem decimal_Add.spec (k : Nat) : SpecOK Go.Proofs.Tryz.prog (decimal_Add.E k) :=
  fn_ok (c := bodyOf Go.Proofs.Tryz.f34) tt_ok (decimal_Add.tab_ok k) follows Go.Proofs.Tryz.func34 rfl (name_ne (by kernel_rfl)) (by kernel_rfl) (Nat.le_of_ble_eq_true (by kernel_rfl)) (Nat.le_of_ble_eq_true (by kernel_rfl)) (annOK_seq (annOK_nil _) (annOK_seq (annOK_nil _) (annOK_seq (annOK_jseq (annOK_nil _) (annOK_nil _)) (annOK_nil _)))) (decimal_Add.ev k)

theorem integer_check.tab_ok (k : Nat) : ∀ E ∈ integer_check.tab k, SpecOK Go.Proofs.Tryz.prog E := (forall_cons integer_Valid.spec (forall_cons integer_at.spec forall_nil))
theorem integer_check.l0_ok (k : Nat) : LoopOK Go.Proofs.Tryz.prog Go.Proofs.Tryz.f139.ntmps (finOf tt integer_check.B Go.Proofs.Tryz.f139.results.toList) (cAt [1, 0, 1, 0, 0] (bodyOf Go.Proofs.Tryz.f139)) integer_check.M0 integer_check.O0 0 (fun x => integer_check.l0 k k x.1 x.2.1 x.2.2.1 x.2.2.2) :=
  loop_ok (R0 := denB integer_check.B) (M := integer_check.M0) (O := integer_check.O0) (L := fun m (x : integer_check.M0.den) => integer_check.l0 k m x.1 x.2.1 x.2.2.1 x.2.2.2) tt_ok (integer_check.tab_ok k) follows (ann := .nil) (annOK_nil _) (fun _ => rfl) (fun m x => integer_check.l0_ev k m x) k
theorem integer_check.spec (k : Nat) : SpecOK Go.Proofs.Tryz.prog (integer_check.E k) :=
  fn_ok (c := bodyOf Go.Proofs.Tryz.f139) tt_ok (integer_check.tab_ok k) follows Go.Proofs.Tryz.func139 rfl (name_ne (by kernel_rfl)) (by kernel_rfl) (Nat.le_of_ble_eq_true (by kernel_rfl)) (Nat.le_of_ble_eq_true (by kernel_rfl)) (annOK_seq (annOK_nil _) (annOK_seq (annOK_seq (annOK_nil _) (annOK_block (annOK_loop (integer_check.l0_ok k)))) (annOK_nil _))) (integer_check.ev k)

theorem integer_Text.tab_ok (k : Nat) : ∀ E ∈ integer_Text.tab k, SpecOK Go.Proofs.Tryz.prog E := (forall_cons (integer_check.spec k) (forall_cons (natural_Digits.spec k) forall_nil))
theorem integer_Text.l0_ok (k : Nat) : LoopOK Go.Proofs.Tryz.prog Go.Proofs.Tryz.f65.ntmps (finOf tt integer_Text.B Go.Proofs.Tryz.f65.results.toList) (cAt [1, 1, 1, 1, 1, 1, 0, 1, 0, 0] (bodyOf Go.Proofs.Tryz.f65)) integer_Text.M0 integer_Text.O0 0 (fun x => integer_Text.l0 k k x.1 x.2.1 x.2.2.1 x.2.2.2.1 x.2.2.2.2.1 x.2.2.2.2.2) :=
  loop_ok (R0 := denB integer_Text.B) (M := integer_Text.M0) (O := integer_Text.O0) (L := fun m (x : integer_Text.M0.den) => integer_Text.l0 k m x.1 x.2.1 x.2.2.1 x.2.2.2.1 x.2.2.2.2.1 x.2.2.2.2.2) tt_ok (integer_Text.tab_ok k) follows (ann := .nil) (annOK_nil _) (fun _ => rfl) (fun m x => integer_Text.l0_ev k m x) k
theorem integer_Text.spec (k : Nat) : SpecOK Go.Proofs.Tryz.prog (integer_Text.E k) :=
  fn_ok (c := bodyOf Go.Proofs.Tryz.f65) tt_ok (integer_Text.tab_ok k) follows Go.Proofs.Tryz.func65 rfl (name_ne (by kernel_rfl)) (by kernel_rfl) (Nat.le_of_ble_eq_true (by kernel_rfl)) (Nat.le_of_ble_eq_true (by kernel_rfl)) (annOK_seq (annOK_nil _) (annOK_seq (annOK_nil _) (annOK_seq (annOK_nil _) (annOK_seq (annOK_nil _) (annOK_seq (annOK_nil _) (annOK_jseq (annOK_nil _) (annOK_seq (annOK_seq (annOK_nil _) (annOK_block (annOK_loop (integer_Text.l0_ok k)))) (annOK_nil _)))))))) (integer_Text.ev k)

theorem decimal_Text.tab_ok (k : Nat) : ∀ E ∈ decimal_Text.tab k, SpecOK Go.Proofs.Tryz.prog E := (forall_cons (decimal_Valid.spec k) (forall_cons decimal_at.spec (forall_cons (integer_Text.spec k) forall_nil)))
theorem decimal_Text.spec (k : Nat) : SpecOK Go.Proofs.Tryz.prog (decimal_Text.E k) :=
  fn_ok (c := bodyOf Go.Proofs.Tryz.f13) tt_ok (decimal_Text.tab_ok k) follows Go.Proofs.Tryz.func13 rfl (name_ne (by kernel_rfl)) (by kernel_rfl) (Nat.le_of_ble_eq_true (by kernel_rfl)) (Nat.le_of_ble_eq_true (by kernel_rfl)) (annOK_seq (annOK_nil _) (annOK_seq (annOK_nil _) (annOK_seq (annOK_nil _) (annOK_jseq (annOK_nil _) (annOK_seq (annOK_nil _) (annOK_seq (annOK_nil _) (annOK_seq (annOK_nil _) (annOK_jseq (annOK_block (annOK_jseq (annOK_nil _) (annOK_cond (annOK_jseq (annOK_nil _) (annOK_nil _)) (annOK_nil _)))) (annOK_nil _))))))))) (decimal_Text.ev k)

theorem brindlewoodlaw3_tenths.tab_ok (k : Nat) : ∀ E ∈ brindlewoodlaw3_tenths.tab k, SpecOK Go.Proofs.Tryz.prog E := (forall_cons (decimal_Parse.spec k) (forall_cons (decimal_Add.spec k) (forall_cons (decimal_Text.spec k) forall_nil)))
theorem brindlewoodlaw3_tenths.spec (k : Nat) : SpecOK Go.Proofs.Tryz.prog (brindlewoodlaw3_tenths.E k) :=
  fn_ok (c := bodyOf Go.Proofs.Tryz.f15) tt_ok (brindlewoodlaw3_tenths.tab_ok k) follows Go.Proofs.Tryz.func15 rfl (name_ne (by kernel_rfl)) (by kernel_rfl) (Nat.le_of_ble_eq_true (by kernel_rfl)) (Nat.le_of_ble_eq_true (by kernel_rfl)) (annOK_nil _) (brindlewoodlaw3_tenths.ev k)

theorem brindlewoodref3_SameLimbs.tab_ok (k : Nat) : ∀ E ∈ brindlewoodref3_SameLimbs.tab k, SpecOK Go.Proofs.Tryz.prog E := forall_nil
theorem brindlewoodref3_SameLimbs.l0_ok (k : Nat) : LoopOK Go.Proofs.Tryz.prog Go.Proofs.Tryz.f159.ntmps (finOf tt brindlewoodref3_SameLimbs.B Go.Proofs.Tryz.f159.results.toList) (cAt [1, 1, 0, 1, 0, 0] (bodyOf Go.Proofs.Tryz.f159)) brindlewoodref3_SameLimbs.M0 brindlewoodref3_SameLimbs.O0 0 (fun x => brindlewoodref3_SameLimbs.l0 k k x.1 x.2.1 x.2.2) :=
  loop_ok (R0 := denB brindlewoodref3_SameLimbs.B) (M := brindlewoodref3_SameLimbs.M0) (O := brindlewoodref3_SameLimbs.O0) (L := fun m (x : brindlewoodref3_SameLimbs.M0.den) => brindlewoodref3_SameLimbs.l0 k m x.1 x.2.1 x.2.2) tt_ok (brindlewoodref3_SameLimbs.tab_ok k) follows (ann := .nil) (annOK_nil _) (fun _ => rfl) (fun m x => brindlewoodref3_SameLimbs.l0_ev k m x) k
theorem brindlewoodref3_SameLimbs.spec (k : Nat) : SpecOK Go.Proofs.Tryz.prog (brindlewoodref3_SameLimbs.E k) :=
  fn_ok (c := bodyOf Go.Proofs.Tryz.f159) tt_ok (brindlewoodref3_SameLimbs.tab_ok k) follows Go.Proofs.Tryz.func159 rfl (name_ne (by kernel_rfl)) (by kernel_rfl) (Nat.le_of_ble_eq_true (by kernel_rfl)) (Nat.le_of_ble_eq_true (by kernel_rfl)) (annOK_seq (annOK_nil _) (annOK_seq (annOK_nil _) (annOK_seq (annOK_seq (annOK_nil _) (annOK_block (annOK_loop (brindlewoodref3_SameLimbs.l0_ok k)))) (annOK_nil _)))) (brindlewoodref3_SameLimbs.ev k)

theorem brindlewoodref3_SameInts.tab_ok (k : Nat) : ∀ E ∈ brindlewoodref3_SameInts.tab k, SpecOK Go.Proofs.Tryz.prog E := (forall_cons (brindlewoodref3_SameLimbs.spec k) forall_nil)
theorem brindlewoodref3_SameInts.spec (k : Nat) : SpecOK Go.Proofs.Tryz.prog (brindlewoodref3_SameInts.E k) :=
  fn_ok (c := bodyOf Go.Proofs.Tryz.f81) tt_ok (brindlewoodref3_SameInts.tab_ok k) follows Go.Proofs.Tryz.func81 rfl (name_ne (by kernel_rfl)) (by kernel_rfl) (Nat.le_of_ble_eq_true (by kernel_rfl)) (Nat.le_of_ble_eq_true (by kernel_rfl)) (annOK_nil _) (brindlewoodref3_SameInts.ev k)

theorem brindlewoodref3_SameDecimal.tab_ok (k : Nat) : ∀ E ∈ brindlewoodref3_SameDecimal.tab k, SpecOK Go.Proofs.Tryz.prog E := (forall_cons (brindlewoodref3_SameInts.spec k) forall_nil)
theorem brindlewoodref3_SameDecimal.spec (k : Nat) : SpecOK Go.Proofs.Tryz.prog (brindlewoodref3_SameDecimal.E k) :=
  fn_ok (c := bodyOf Go.Proofs.Tryz.f19) tt_ok (brindlewoodref3_SameDecimal.tab_ok k) follows Go.Proofs.Tryz.func19 rfl (name_ne (by kernel_rfl)) (by kernel_rfl) (Nat.le_of_ble_eq_true (by kernel_rfl)) (Nat.le_of_ble_eq_true (by kernel_rfl)) (annOK_nil _) (brindlewoodref3_SameDecimal.ev k)

theorem brindlewoodlaw3_comes.tab_ok (k : Nat) : ∀ E ∈ brindlewoodlaw3_comes.tab k, SpecOK Go.Proofs.Tryz.prog E := (forall_cons (brindlewoodref3_SameDecimal.spec k) forall_nil)
theorem brindlewoodlaw3_comes.spec (k : Nat) : SpecOK Go.Proofs.Tryz.prog (brindlewoodlaw3_comes.E k) :=
  fn_ok (c := bodyOf Go.Proofs.Tryz.f26) tt_ok (brindlewoodlaw3_comes.tab_ok k) follows Go.Proofs.Tryz.func26 rfl (name_ne (by kernel_rfl)) (by kernel_rfl) (Nat.le_of_ble_eq_true (by kernel_rfl)) (Nat.le_of_ble_eq_true (by kernel_rfl)) (annOK_nil _) (brindlewoodlaw3_comes.ev k)

theorem brindlewoodlaw3_DecimalRounds.tab_ok (k : Nat) : ∀ E ∈ brindlewoodlaw3_DecimalRounds.tab k, SpecOK Go.Proofs.Tryz.prog E := (forall_cons (brindlewoodref3_DecimalFaults.spec k) (forall_cons (decimal_Round.spec k) (forall_cons (decimal_Reduce.spec k) (forall_cons (decimal_Quantize.spec k) (forall_cons (brindlewoodref3_Fitted.spec k) (forall_cons (brindlewoodref3_Reduced.spec k) (forall_cons (brindlewoodref3_Quantized.spec k) (forall_cons (brindlewoodlaw3_tenths.spec k) (forall_cons (brindlewoodlaw3_comes.spec k) forall_nil)))))))))
theorem brindlewoodlaw3_DecimalRounds.spec (k : Nat) : SpecOK Go.Proofs.Tryz.prog (brindlewoodlaw3_DecimalRounds.E k) :=
  fn_ok (c := bodyOf Go.Proofs.Tryz.f5) tt_ok (brindlewoodlaw3_DecimalRounds.tab_ok k) follows Go.Proofs.Tryz.func5 rfl (name_ne (by kernel_rfl)) (by kernel_rfl) (Nat.le_of_ble_eq_true (by kernel_rfl)) (Nat.le_of_ble_eq_true (by kernel_rfl)) (annOK_seq (annOK_nil _) (annOK_seq (annOK_nil _) (annOK_seq (annOK_nil _) (annOK_seq (annOK_nil _) (annOK_seq (annOK_nil _) (annOK_seq (annOK_nil _) (annOK_seq (annOK_nil _) (annOK_jseq (annOK_nil _) (annOK_nil _))))))))) (brindlewoodlaw3_DecimalRounds.ev k)
end Go.Sh
