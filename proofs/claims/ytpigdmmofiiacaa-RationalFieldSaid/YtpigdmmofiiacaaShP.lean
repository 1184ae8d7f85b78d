/- The functions keep their word, by wip/gen/gen.py.  Conditions: none. -/
import Derived.Test.YtpigdmmofiiacaaShE
import Derived.Test.YtpigdmmofiiacaaE4
import Derived.Test.YtpigdmmofiiacaaChecked
set_option linter.unusedVariables false
set_option maxRecDepth 100000
set_option maxHeartbeats 0
namespace Go.Sh
open Go Go.Ev

theorem tt_3 : TyOK Go.Proofs.Try.prog 3 ⟨.int .i64, 0, [], false, true⟩ := tyInt (by kernel_rfl) (by kernel_rfl)
theorem tt_4 : TyOK Go.Proofs.Try.prog 4 ⟨.bool, 0, [], false, true⟩ := tyBool (by kernel_rfl) (by kernel_rfl)
theorem tt_5 : TyOK Go.Proofs.Try.prog 5 ⟨.int .u8, 0, [], false, true⟩ := tyInt (by kernel_rfl) (by kernel_rfl)
theorem tt_9 : TyOK Go.Proofs.Try.prog 9 ⟨.str, 0, [], false, true⟩ := tyStr (by kernel_rfl) (by kernel_rfl)
theorem tt_22 : TyOK Go.Proofs.Try.prog 22 ⟨.list (.int .u32), 4, [], false, true⟩ := tyList (et := 84) (by kernel_rfl) (by kernel_rfl) (by kernel_rfl) (by kernel_rfl) (by kernel_rfl) (by kernel_rfl) (fun k h => by cases h; kernel_rfl)
theorem tt_24 : TyOK Go.Proofs.Try.prog 24 ⟨.st (.pair (.bool) (.list (.int .u32))), 0, [(0, .bool), (1, .list (.int .u32))], false, true⟩ := tySt (fs := fieldsOf' Go.Proofs.Try.prog 24) (by kernel_rfl) (by kernel_rfl) (by kernel_rfl) (by kernel_rfl)
theorem tt_26 : TyOK Go.Proofs.Try.prog 26 ⟨.st (.pair (.st (.pair (.bool) (.list (.int .u32)))) (.st (.pair (.bool) (.list (.int .u32))))), 0, [(0, .st (.pair (.bool) (.list (.int .u32)))), (2, .st (.pair (.bool) (.list (.int .u32))))], false, true⟩ := tySt (fs := fieldsOf' Go.Proofs.Try.prog 26) (by kernel_rfl) (by kernel_rfl) (by kernel_rfl) (by kernel_rfl)
theorem tt_30 : TyOK Go.Proofs.Try.prog 30 ⟨.st (.pair (.int .i64) (.int .i64)), 0, [(0, .int .i64), (1, .int .i64)], false, true⟩ := tySt (fs := fieldsOf' Go.Proofs.Try.prog 30) (by kernel_rfl) (by kernel_rfl) (by kernel_rfl) (by kernel_rfl)
theorem tt_34 : TyOK Go.Proofs.Try.prog 34 ⟨.list (.int .i64), 8, [], false, true⟩ := tyList (et := 3) (by kernel_rfl) (by kernel_rfl) (by kernel_rfl) (by kernel_rfl) (by kernel_rfl) (by kernel_rfl) (fun k h => by cases h; kernel_rfl)
theorem tt_35 : TyOK Go.Proofs.Try.prog 35 ⟨.list (.int .i64), 8, [], false, true⟩ := tyList (et := 3) (by kernel_rfl) (by kernel_rfl) (by kernel_rfl) (by kernel_rfl) (by kernel_rfl) (by kernel_rfl) (fun k h => by cases h; kernel_rfl)
theorem tt_37 : TyOK Go.Proofs.Try.prog 37 ⟨.st (.pair (.bool) (.list (.int .i64))), 0, [(0, .bool), (1, .list (.int .i64))], false, true⟩ := tySt (fs := fieldsOf' Go.Proofs.Try.prog 37) (by kernel_rfl) (by kernel_rfl) (by kernel_rfl) (by kernel_rfl)
theorem tt_39 : TyOK Go.Proofs.Try.prog 39 ⟨.st (.pair (.st (.pair (.bool) (.list (.int .i64)))) (.list (.int .i64))), 0, [(0, .st (.pair (.bool) (.list (.int .i64)))), (2, .list (.int .i64))], false, true⟩ := tySt (fs := fieldsOf' Go.Proofs.Try.prog 39) (by kernel_rfl) (by kernel_rfl) (by kernel_rfl) (by kernel_rfl)
theorem tt_51 : TyOK Go.Proofs.Try.prog 51 ⟨.list (.st (.pair (.bool) (.list (.int .u32)))), 32, [], false, true⟩ := tyList (et := 24) (by kernel_rfl) (by kernel_rfl) (by kernel_rfl) (by kernel_rfl) (by kernel_rfl) (by kernel_rfl) (fun k h => by cases h)
theorem tt_68 : TyOK Go.Proofs.Try.prog 68 ⟨.list (.st (.pair (.st (.pair (.bool) (.list (.int .u32)))) (.st (.pair (.bool) (.list (.int .u32)))))), 64, [], false, true⟩ := tyList (et := 26) (by kernel_rfl) (by kernel_rfl) (by kernel_rfl) (by kernel_rfl) (by kernel_rfl) (by kernel_rfl) (fun k h => by cases h)
theorem tt_83 : TyOK Go.Proofs.Try.prog 83 ⟨.int .u64, 0, [], false, true⟩ := tyInt (by kernel_rfl) (by kernel_rfl)
theorem tt_84 : TyOK Go.Proofs.Try.prog 84 ⟨.int .u32, 0, [], false, true⟩ := tyInt (by kernel_rfl) (by kernel_rfl)
theorem tt_87 : TyOK Go.Proofs.Try.prog 87 ⟨.list (.bool), 1, [], false, true⟩ := tyList (et := 4) (by kernel_rfl) (by kernel_rfl) (by kernel_rfl) (by kernel_rfl) (by kernel_rfl) (by kernel_rfl) (fun k h => by cases h)
theorem tt_110 : TyOK Go.Proofs.Try.prog 110 ⟨.st (.pair (.st (.pair (.bool) (.list (.int .u32)))) (.st (.pair (.bool) (.list (.int .u32))))), 0, [(0, .st (.pair (.bool) (.list (.int .u32)))), (2, .st (.pair (.bool) (.list (.int .u32))))], false, true⟩ := tySt (fs := fieldsOf' Go.Proofs.Try.prog 110) (by kernel_rfl) (by kernel_rfl) (by kernel_rfl) (by kernel_rfl)
theorem tt_126 : TyOK Go.Proofs.Try.prog 126 ⟨.list (.int .u8), 1, [], false, true⟩ := tyList (et := 5) (by kernel_rfl) (by kernel_rfl) (by kernel_rfl) (by kernel_rfl) (by kernel_rfl) (by kernel_rfl) (fun k h => by cases h; kernel_rfl)
theorem tt_ok : TypesOK Go.Proofs.Try.prog tt := types_ok (rows := ttRows) (forall_cons tt_3 (forall_cons tt_4 (forall_cons tt_5 (forall_cons tt_9 (forall_cons tt_22 (forall_cons tt_24 (forall_cons tt_26 (forall_cons tt_30 (forall_cons tt_34 (forall_cons tt_35 (forall_cons tt_37 (forall_cons tt_39 (forall_cons tt_51 (forall_cons tt_68 (forall_cons tt_83 (forall_cons tt_84 (forall_cons tt_87 (forall_cons tt_110 (forall_cons tt_126 forall_nil)))))))))))))))))))
theorem follows : Go.Proofs.Try.prog.follows .mixedOrders = true := by kernel_rfl

theorem integer_Of.tab_ok (k : Nat) : ∀ E ∈ integer_Of.tab k, SpecOK Go.Proofs.Try.prog E := forall_nil
theorem integer_Of.l0_ok (k : Nat) : LoopOK Go.Proofs.Try.prog Go.Proofs.Try.f12.ntmps (finOf tt integer_Of.B Go.Proofs.Try.f12.results.toList) (cAt [1, 1, 1, 1, 0, 0, 0] (bodyOf Go.Proofs.Try.f12)) integer_Of.M0 integer_Of.O0 0 (fun x => integer_Of.l0 k k x.1 x.2.1 x.2.2) :=
  loop_ok (R0 := denB integer_Of.B) (M := integer_Of.M0) (O := integer_Of.O0) (L := fun m (x : integer_Of.M0.den) => integer_Of.l0 k m x.1 x.2.1 x.2.2) tt_ok (integer_Of.tab_ok k) follows (ann := .nil) (annOK_nil _) (fun _ => rfl) (fun m x => integer_Of.l0_ev k m x) k
theorem integer_Of.spec (k : Nat) : SpecOK Go.Proofs.Try.prog (integer_Of.E k) :=
  fn_ok (c := bodyOf Go.Proofs.Try.f12) tt_ok (integer_Of.tab_ok k) follows Go.Proofs.Try.func12 rfl (name_ne (by kernel_rfl)) (by kernel_rfl) (Nat.le_of_ble_eq_true (by kernel_rfl)) (Nat.le_of_ble_eq_true (by kernel_rfl)) (annOK_seq (annOK_nil _) (annOK_seq (annOK_nil _) (annOK_jseq (annOK_nil _) (annOK_seq (annOK_nil _) (annOK_seq (annOK_block (annOK_loop (integer_Of.l0_ok k))) (annOK_nil _)))))) (integer_Of.ev k)

theorem integer_Valid.tab_ok  : ∀ E ∈ integer_Valid.tab, SpecOK Go.Proofs.Try.prog E := forall_nil
theorem integer_Valid.spec  : SpecOK Go.Proofs.Try.prog (integer_Valid.E) :=
  fn_ok (c := bodyOf Go.Proofs.Try.f55) tt_ok (integer_Valid.tab_ok) follows Go.Proofs.Try.func55 rfl (name_ne (by kernel_rfl)) (by kernel_rfl) (Nat.le_of_ble_eq_true (by kernel_rfl)) (Nat.le_of_ble_eq_true (by kernel_rfl)) (annOK_nil _) integer_Valid.ev

theorem rational_at.tab_ok  : ∀ E ∈ rational_at.tab, SpecOK Go.Proofs.Try.prog E := forall_nil
theorem rational_at.spec  : SpecOK Go.Proofs.Try.prog (rational_at.E) :=
  fn_ok (c := bodyOf Go.Proofs.Try.f54) tt_ok (rational_at.tab_ok) follows Go.Proofs.Try.func54 rfl (name_ne (by kernel_rfl)) (by kernel_rfl) (Nat.le_of_ble_eq_true (by kernel_rfl)) (Nat.le_of_ble_eq_true (by kernel_rfl)) (annOK_nil _) rational_at.ev

theorem natural_Valid.tab_ok  : ∀ E ∈ natural_Valid.tab, SpecOK Go.Proofs.Try.prog E := forall_nil
theorem natural_Valid.spec  : SpecOK Go.Proofs.Try.prog (natural_Valid.E) :=
  fn_ok (c := bodyOf Go.Proofs.Try.f106) tt_ok (natural_Valid.tab_ok) follows Go.Proofs.Try.func106 rfl (name_ne (by kernel_rfl)) (by kernel_rfl) (Nat.le_of_ble_eq_true (by kernel_rfl)) (Nat.le_of_ble_eq_true (by kernel_rfl)) (annOK_nil _) natural_Valid.ev

theorem natural_at.tab_ok  : ∀ E ∈ natural_at.tab, SpecOK Go.Proofs.Try.prog E := forall_nil
theorem natural_at.spec  : SpecOK Go.Proofs.Try.prog (natural_at.E) :=
  fn_ok (c := bodyOf Go.Proofs.Try.f104) tt_ok (natural_at.tab_ok) follows Go.Proofs.Try.func104 rfl (name_ne (by kernel_rfl)) (by kernel_rfl) (Nat.le_of_ble_eq_true (by kernel_rfl)) (Nat.le_of_ble_eq_true (by kernel_rfl)) (annOK_nil _) natural_at.ev

theorem natural_check.tab_ok  : ∀ E ∈ natural_check.tab, SpecOK Go.Proofs.Try.prog E := (forall_cons natural_Valid.spec (forall_cons natural_at.spec forall_nil))
theorem natural_check.spec  : SpecOK Go.Proofs.Try.prog (natural_check.E) :=
  fn_ok (c := bodyOf Go.Proofs.Try.f91) tt_ok (natural_check.tab_ok) follows Go.Proofs.Try.func91 rfl (name_ne (by kernel_rfl)) (by kernel_rfl) (Nat.le_of_ble_eq_true (by kernel_rfl)) (Nat.le_of_ble_eq_true (by kernel_rfl)) (annOK_nil _) natural_check.ev

theorem slices_Clone_uint32uint32.spec : SpecOK Go.Proofs.Try.prog slices_Clone_uint32uint32.E :=
  clone_ok' (f := 97) (fn := Go.Proofs.Try.f97) (T := tt) (e := .int .u32) (t := 22) (et := 84) (run := slices_Clone_uint32uint32) tt_ok follows Go.Proofs.Try.func97 rfl (name_ne (by kernel_rfl)) rfl (by kernel_rfl) (by kernel_rfl) (by kernel_rfl) (fun x => by kernel_rfl) (fun x => by kernel_rfl) (fun x => by kernel_rfl) (fun x => by kernel_rfl) (by kernel_rfl) (fun x => by kernel_rfl) (clone_id slices_Clone_uint32uint32.eq_1)

theorem natural_compare.tab_ok (k : Nat) : ∀ E ∈ natural_compare.tab k, SpecOK Go.Proofs.Try.prog E := forall_nil
theorem natural_compare.l0_ok (k : Nat) : LoopOK Go.Proofs.Try.prog Go.Proofs.Try.f94.ntmps (finOf tt natural_compare.B Go.Proofs.Try.f94.results.toList) (cAt [1, 1, 0, 1, 0, 0] (bodyOf Go.Proofs.Try.f94)) natural_compare.M0 natural_compare.O0 0 (fun x => natural_compare.l0 k k x.1 x.2.1 x.2.2) :=
  loop_ok (R0 := denB natural_compare.B) (M := natural_compare.M0) (O := natural_compare.O0) (L := fun m (x : natural_compare.M0.den) => natural_compare.l0 k m x.1 x.2.1 x.2.2) tt_ok (natural_compare.tab_ok k) follows (ann := .nil) (annOK_nil _) (fun _ => rfl) (fun m x => natural_compare.l0_ev k m x) k
theorem natural_compare.spec (k : Nat) : SpecOK Go.Proofs.Try.prog (natural_compare.E k) :=
  fn_ok (c := bodyOf Go.Proofs.Try.f94) tt_ok (natural_compare.tab_ok k) follows Go.Proofs.Try.func94 rfl (name_ne (by kernel_rfl)) (by kernel_rfl) (Nat.le_of_ble_eq_true (by kernel_rfl)) (Nat.le_of_ble_eq_true (by kernel_rfl)) (annOK_seq (annOK_nil _) (annOK_seq (annOK_nil _) (annOK_seq (annOK_seq (annOK_nil _) (annOK_block (annOK_loop (natural_compare.l0_ok k)))) (annOK_nil _)))) (natural_compare.ev k)

theorem bits_Div32.tab_ok  : ∀ E ∈ bits_Div32.tab, SpecOK Go.Proofs.Try.prog E := forall_nil
theorem bits_Div32.spec  : SpecOK Go.Proofs.Try.prog (bits_Div32.E) :=
  fn_ok (c := bodyOf Go.Proofs.Try.f113) tt_ok (bits_Div32.tab_ok) follows Go.Proofs.Try.func113 rfl (name_ne (by kernel_rfl)) (by kernel_rfl) (Nat.le_of_ble_eq_true (by kernel_rfl)) (Nat.le_of_ble_eq_true (by kernel_rfl)) (annOK_seq (annOK_nil _) (annOK_jseq (annOK_nil _) (annOK_nil _))) bits_Div32.ev

theorem natural_trim_v.tab_ok (k : Nat) : ∀ E ∈ natural_trim_v.tab k, SpecOK Go.Proofs.Try.prog E := forall_nil
theorem natural_trim_v.l0_ok (k : Nat) : LoopOK Go.Proofs.Try.prog Go.Proofs.Try.f107.ntmps (finOf tt natural_trim_v.B Go.Proofs.Try.f107.results.toList) (cAt [1, 0, 0, 0] (bodyOf Go.Proofs.Try.f107)) natural_trim_v.M0 natural_trim_v.O0 0 (fun x => natural_trim_v.l0 k k x.1 x.2) :=
  loop_ok (R0 := denB natural_trim_v.B) (M := natural_trim_v.M0) (O := natural_trim_v.O0) (L := fun m (x : natural_trim_v.M0.den) => natural_trim_v.l0 k m x.1 x.2) tt_ok (natural_trim_v.tab_ok k) follows (ann := .nil) (annOK_nil _) (fun _ => rfl) (fun m x => natural_trim_v.l0_ev k m x) k
theorem natural_trim_v.spec (k : Nat) : SpecOK Go.Proofs.Try.prog (natural_trim_v.E k) :=
  fn_ok (c := bodyOf Go.Proofs.Try.f107) tt_ok (natural_trim_v.tab_ok k) follows Go.Proofs.Try.func107 rfl (name_ne (by kernel_rfl)) (by kernel_rfl) (Nat.le_of_ble_eq_true (by kernel_rfl)) (Nat.le_of_ble_eq_true (by kernel_rfl)) (annOK_seq (annOK_nil _) (annOK_seq (annOK_block (annOK_loop (natural_trim_v.l0_ok k))) (annOK_nil _))) (natural_trim_v.ev k)

theorem natural_short.tab_ok (k : Nat) : ∀ E ∈ natural_short.tab k, SpecOK Go.Proofs.Try.prog E := (forall_cons bits_Div32.spec (forall_cons (natural_trim_v.spec k) forall_nil))
theorem natural_short.l0_ok (k : Nat) : LoopOK Go.Proofs.Try.prog Go.Proofs.Try.f108.ntmps (finOf tt natural_short.B Go.Proofs.Try.f108.results.toList) (cAt [1, 1, 1, 0, 1, 0, 0] (bodyOf Go.Proofs.Try.f108)) natural_short.M0 natural_short.O0 0 (fun x => natural_short.l0 k k x.1 x.2.1 x.2.2.1 x.2.2.2.1 x.2.2.2.2) :=
  loop_ok (R0 := denB natural_short.B) (M := natural_short.M0) (O := natural_short.O0) (L := fun m (x : natural_short.M0.den) => natural_short.l0 k m x.1 x.2.1 x.2.2.1 x.2.2.2.1 x.2.2.2.2) tt_ok (natural_short.tab_ok k) follows (ann := .nil) (annOK_nil _) (fun _ => rfl) (fun m x => natural_short.l0_ev k m x) k
theorem natural_short.spec (k : Nat) : SpecOK Go.Proofs.Try.prog (natural_short.E k) :=
  fn_ok (c := bodyOf Go.Proofs.Try.f108) tt_ok (natural_short.tab_ok k) follows Go.Proofs.Try.func108 rfl (name_ne (by kernel_rfl)) (by kernel_rfl) (Nat.le_of_ble_eq_true (by kernel_rfl)) (Nat.le_of_ble_eq_true (by kernel_rfl)) (annOK_seq (annOK_nil _) (annOK_seq (annOK_nil _) (annOK_seq (annOK_nil _) (annOK_seq (annOK_seq (annOK_nil _) (annOK_block (annOK_loop (natural_short.l0_ok k)))) (annOK_nil _))))) (natural_short.ev k)

theorem bits_Len32.tab_ok  : ∀ E ∈ bits_Len32.tab, SpecOK Go.Proofs.Try.prog E := forall_nil
theorem bits_Len32.spec  : SpecOK Go.Proofs.Try.prog (bits_Len32.E) :=
  fn_ok (c := bodyOf Go.Proofs.Try.f118) tt_ok (bits_Len32.tab_ok) follows Go.Proofs.Try.func118 rfl (name_ne (by kernel_rfl)) (by kernel_rfl) (Nat.le_of_ble_eq_true (by kernel_rfl)) (Nat.le_of_ble_eq_true (by kernel_rfl)) (annOK_seq (annOK_nil _) (annOK_jseq (annOK_nil _) (annOK_nil _))) bits_Len32.ev

theorem bits_LeadingZeros32.tab_ok  : ∀ E ∈ bits_LeadingZeros32.tab, SpecOK Go.Proofs.Try.prog E := (forall_cons bits_Len32.spec forall_nil)
theorem bits_LeadingZeros32.spec  : SpecOK Go.Proofs.Try.prog (bits_LeadingZeros32.E) :=
  fn_ok (c := bodyOf Go.Proofs.Try.f114) tt_ok (bits_LeadingZeros32.tab_ok) follows Go.Proofs.Try.func114 rfl (name_ne (by kernel_rfl)) (by kernel_rfl) (Nat.le_of_ble_eq_true (by kernel_rfl)) (Nat.le_of_ble_eq_true (by kernel_rfl)) (annOK_nil _) bits_LeadingZeros32.ev

theorem natural_left.tab_ok (k : Nat) : ∀ E ∈ natural_left.tab k, SpecOK Go.Proofs.Try.prog E := (forall_cons (natural_trim_v.spec k) forall_nil)
theorem natural_left.l0_ok (k : Nat) : LoopOK Go.Proofs.Try.prog Go.Proofs.Try.f115.ntmps (finOf tt natural_left.B Go.Proofs.Try.f115.results.toList) (cAt [1, 1, 1, 0, 1, 0, 0] (bodyOf Go.Proofs.Try.f115)) natural_left.M0 natural_left.O0 0 (fun x => natural_left.l0 k k x.1 x.2.1 x.2.2.1 x.2.2.2.1 x.2.2.2.2.1 x.2.2.2.2.2) :=
  loop_ok (R0 := denB natural_left.B) (M := natural_left.M0) (O := natural_left.O0) (L := fun m (x : natural_left.M0.den) => natural_left.l0 k m x.1 x.2.1 x.2.2.1 x.2.2.2.1 x.2.2.2.2.1 x.2.2.2.2.2) tt_ok (natural_left.tab_ok k) follows (ann := .nil) (annOK_nil _) (fun _ => rfl) (fun m x => natural_left.l0_ev k m x) k
theorem natural_left.spec (k : Nat) : SpecOK Go.Proofs.Try.prog (natural_left.E k) :=
  fn_ok (c := bodyOf Go.Proofs.Try.f115) tt_ok (natural_left.tab_ok k) follows Go.Proofs.Try.func115 rfl (name_ne (by kernel_rfl)) (by kernel_rfl) (Nat.le_of_ble_eq_true (by kernel_rfl)) (Nat.le_of_ble_eq_true (by kernel_rfl)) (annOK_seq (annOK_nil _) (annOK_seq (annOK_nil _) (annOK_seq (annOK_nil _) (annOK_seq (annOK_seq (annOK_nil _) (annOK_block (annOK_loop (natural_left.l0_ok k)))) (annOK_nil _))))) (natural_left.ev k)

theorem bits_Sub32.tab_ok  : ∀ E ∈ bits_Sub32.tab, SpecOK Go.Proofs.Try.prog E := forall_nil
theorem bits_Sub32.spec  : SpecOK Go.Proofs.Try.prog (bits_Sub32.E) :=
  fn_ok (c := bodyOf Go.Proofs.Try.f112) tt_ok (bits_Sub32.tab_ok) follows Go.Proofs.Try.func112 rfl (name_ne (by kernel_rfl)) (by kernel_rfl) (Nat.le_of_ble_eq_true (by kernel_rfl)) (Nat.le_of_ble_eq_true (by kernel_rfl)) (annOK_nil _) bits_Sub32.ev

theorem bits_Add32.tab_ok  : ∀ E ∈ bits_Add32.tab, SpecOK Go.Proofs.Try.prog E := forall_nil
theorem bits_Add32.spec  : SpecOK Go.Proofs.Try.prog (bits_Add32.E) :=
  fn_ok (c := bodyOf Go.Proofs.Try.f119) tt_ok (bits_Add32.tab_ok) follows Go.Proofs.Try.func119 rfl (name_ne (by kernel_rfl)) (by kernel_rfl) (Nat.le_of_ble_eq_true (by kernel_rfl)) (Nat.le_of_ble_eq_true (by kernel_rfl)) (annOK_nil _) bits_Add32.ev

theorem natural_digit_ld.tab_ok (k : Nat) : ∀ E ∈ natural_digit_ld.tab k, SpecOK Go.Proofs.Try.prog E := (forall_cons bits_Sub32.spec (forall_cons bits_Add32.spec forall_nil))
theorem natural_digit_ld.l2_ok (k : Nat) : LoopOK Go.Proofs.Try.prog Go.Proofs.Try.f116.ntmps (finOf tt natural_digit_ld.B Go.Proofs.Try.f116.results.toList) (cAt [1, 1, 1, 1, 1, 1, 1, 0, 1, 0, 1, 1, 0, 1, 0, 0] (bodyOf Go.Proofs.Try.f116)) natural_digit_ld.M2 natural_digit_ld.O2 4 (fun x => natural_digit_ld.l2 k k x.1 x.2.1 x.2.2.1 x.2.2.2.1 x.2.2.2.2.1 x.2.2.2.2.2.1 x.2.2.2.2.2.2) :=
  loop_ok (R0 := denB natural_digit_ld.B) (M := natural_digit_ld.M2) (O := natural_digit_ld.O2) (L := fun m (x : natural_digit_ld.M2.den) => natural_digit_ld.l2 k m x.1 x.2.1 x.2.2.1 x.2.2.2.1 x.2.2.2.2.1 x.2.2.2.2.2.1 x.2.2.2.2.2.2) tt_ok (natural_digit_ld.tab_ok k) follows (ann := .nil) (annOK_nil _) (fun _ => rfl) (fun m x => natural_digit_ld.l2_ev k m x) k
theorem natural_digit_ld.l1_ok (k : Nat) : LoopOK Go.Proofs.Try.prog Go.Proofs.Try.f116.ntmps (finOf tt natural_digit_ld.B Go.Proofs.Try.f116.results.toList) (cAt [1, 1, 1, 1, 1, 1, 0, 1, 0, 0] (bodyOf Go.Proofs.Try.f116)) natural_digit_ld.M1 natural_digit_ld.O1 2 (fun x => natural_digit_ld.l1 k k x.1 x.2.1 x.2.2.1 x.2.2.2.1 x.2.2.2.2.1 x.2.2.2.2.2.1 x.2.2.2.2.2.2.1 x.2.2.2.2.2.2.2) :=
  loop_ok (R0 := denB natural_digit_ld.B) (M := natural_digit_ld.M1) (O := natural_digit_ld.O1) (L := fun m (x : natural_digit_ld.M1.den) => natural_digit_ld.l1 k m x.1 x.2.1 x.2.2.1 x.2.2.2.1 x.2.2.2.2.1 x.2.2.2.2.2.1 x.2.2.2.2.2.2.1 x.2.2.2.2.2.2.2) tt_ok (natural_digit_ld.tab_ok k) follows (ann := (.seq .nil (.seq .nil (.seq (.block (.seq .nil (.jseq ⟨[.blk 0 (.int .u32) 1, .dat 1 (.list (.int .u32)), .dat 5 (.int .i64), .dat 8 (.int .u64), .dat 10 (.int .u64), .dat 11 (.int .u32), .dat 12 (.int .i64), .dat 74 (.int .i64), .dat 75 (.int .i64)], [.ref 0 0]⟩ .nil .nil))) .nil)))) (annOK_seq (annOK_nil _) (annOK_seq (annOK_nil _) (annOK_seq (annOK_block (annOK_seq (annOK_nil _) (annOK_jseq (annOK_nil _) (annOK_nil _)))) (annOK_nil _)))) (fun _ => rfl) (fun m x => natural_digit_ld.l1_ev k m x) k
theorem natural_digit_ld.l0_ok (k : Nat) : LoopOK Go.Proofs.Try.prog Go.Proofs.Try.f116.ntmps (finOf tt natural_digit_ld.B Go.Proofs.Try.f116.results.toList) (cAt [1, 1, 1, 1, 0, 0, 0] (bodyOf Go.Proofs.Try.f116)) natural_digit_ld.M0 natural_digit_ld.O0 0 (fun x => natural_digit_ld.l0 k k x.1 x.2.1 x.2.2.1 x.2.2.2.1 x.2.2.2.2.1 x.2.2.2.2.2) :=
  loop_ok (R0 := denB natural_digit_ld.B) (M := natural_digit_ld.M0) (O := natural_digit_ld.O0) (L := fun m (x : natural_digit_ld.M0.den) => natural_digit_ld.l0 k m x.1 x.2.1 x.2.2.1 x.2.2.2.1 x.2.2.2.2.1 x.2.2.2.2.2) tt_ok (natural_digit_ld.tab_ok k) follows (ann := .nil) (annOK_nil _) (fun _ => rfl) (fun m x => natural_digit_ld.l0_ev k m x) k
theorem natural_digit_ld.spec (k : Nat) : SpecOK Go.Proofs.Try.prog (natural_digit_ld.E k) :=
  fn_ok (c := bodyOf Go.Proofs.Try.f116) tt_ok (natural_digit_ld.tab_ok k) follows Go.Proofs.Try.func116 rfl (name_ne (by kernel_rfl)) (by kernel_rfl) (Nat.le_of_ble_eq_true (by kernel_rfl)) (Nat.le_of_ble_eq_true (by kernel_rfl)) (annOK_seq (annOK_nil _) (annOK_seq (annOK_nil _) (annOK_seq (annOK_nil _) (annOK_seq (annOK_nil _) (annOK_seq (annOK_block (annOK_loop (natural_digit_ld.l0_ok k))) (annOK_seq (annOK_nil _) (annOK_seq (annOK_seq (annOK_nil _) (annOK_block (annOK_loop (natural_digit_ld.l1_ok k)))) (annOK_seq (annOK_seq (annOK_nil _) (annOK_cond (annOK_seq (annOK_nil _) (annOK_seq (annOK_nil _) (annOK_seq (annOK_seq (annOK_nil _) (annOK_block (annOK_loop (natural_digit_ld.l2_ok k)))) (annOK_nil _)))) (annOK_nil _))) (annOK_nil _))))))))) (natural_digit_ld.ev k)

theorem natural_right.tab_ok (k : Nat) : ∀ E ∈ natural_right.tab k, SpecOK Go.Proofs.Try.prog E := (forall_cons (natural_trim_v.spec k) forall_nil)
theorem natural_right.l0_ok (k : Nat) : LoopOK Go.Proofs.Try.prog Go.Proofs.Try.f117.ntmps (finOf tt natural_right.B Go.Proofs.Try.f117.results.toList) (cAt [1, 1, 0, 1, 0, 0] (bodyOf Go.Proofs.Try.f117)) natural_right.M0 natural_right.O0 0 (fun x => natural_right.l0 k k x.1 x.2.1 x.2.2.1 x.2.2.2) :=
  loop_ok (R0 := denB natural_right.B) (M := natural_right.M0) (O := natural_right.O0) (L := fun m (x : natural_right.M0.den) => natural_right.l0 k m x.1 x.2.1 x.2.2.1 x.2.2.2) tt_ok (natural_right.tab_ok k) follows (ann := .nil) (annOK_nil _) (fun _ => rfl) (fun m x => natural_right.l0_ev k m x) k
theorem natural_right.spec (k : Nat) : SpecOK Go.Proofs.Try.prog (natural_right.E k) :=
  fn_ok (c := bodyOf Go.Proofs.Try.f117) tt_ok (natural_right.tab_ok k) follows Go.Proofs.Try.func117 rfl (name_ne (by kernel_rfl)) (by kernel_rfl) (Nat.le_of_ble_eq_true (by kernel_rfl)) (Nat.le_of_ble_eq_true (by kernel_rfl)) (annOK_seq (annOK_nil _) (annOK_seq (annOK_nil _) (annOK_seq (annOK_seq (annOK_nil _) (annOK_block (annOK_loop (natural_right.l0_ok k)))) (annOK_nil _)))) (natural_right.ev k)

theorem natural_divide.tab_ok (k : Nat) : ∀ E ∈ natural_divide.tab k, SpecOK Go.Proofs.Try.prog E := (forall_cons bits_LeadingZeros32.spec (forall_cons (natural_left.spec k) (forall_cons (natural_digit_ld.spec k) (forall_cons (natural_trim_v.spec k) (forall_cons (natural_right.spec k) forall_nil)))))
theorem natural_divide.l1_ok (k : Nat) : LoopOK Go.Proofs.Try.prog Go.Proofs.Try.f109.ntmps (finOf tt natural_divide.B Go.Proofs.Try.f109.results.toList) (cAt [1, 1, 1, 1, 1, 1, 0, 1, 0, 0] (bodyOf Go.Proofs.Try.f109)) natural_divide.M1 natural_divide.O1 2 (fun x => natural_divide.l1 k k x.1 x.2.1 x.2.2.1 x.2.2.2.1 x.2.2.2.2.1 x.2.2.2.2.2) :=
  loop_ok (R0 := denB natural_divide.B) (M := natural_divide.M1) (O := natural_divide.O1) (L := fun m (x : natural_divide.M1.den) => natural_divide.l1 k m x.1 x.2.1 x.2.2.1 x.2.2.2.1 x.2.2.2.2.1 x.2.2.2.2.2) tt_ok (natural_divide.tab_ok k) follows (ann := .nil) (annOK_nil _) (fun _ => rfl) (fun m x => natural_divide.l1_ev k m x) k
theorem natural_divide.l0_ok (k : Nat) : LoopOK Go.Proofs.Try.prog Go.Proofs.Try.f109.ntmps (finOf tt natural_divide.B Go.Proofs.Try.f109.results.toList) (cAt [1, 1, 1, 1, 0, 0, 0] (bodyOf Go.Proofs.Try.f109)) natural_divide.M0 natural_divide.O0 0 (fun x => natural_divide.l0 k k x.1 x.2.1 x.2.2.1 x.2.2.2.1 x.2.2.2.2) :=
  loop_ok (R0 := denB natural_divide.B) (M := natural_divide.M0) (O := natural_divide.O0) (L := fun m (x : natural_divide.M0.den) => natural_divide.l0 k m x.1 x.2.1 x.2.2.1 x.2.2.2.1 x.2.2.2.2) tt_ok (natural_divide.tab_ok k) follows (ann := .nil) (annOK_nil _) (fun _ => rfl) (fun m x => natural_divide.l0_ev k m x) k
theorem natural_divide.spec (k : Nat) : SpecOK Go.Proofs.Try.prog (natural_divide.E k) :=
  fn_ok (c := bodyOf Go.Proofs.Try.f109) tt_ok (natural_divide.tab_ok k) follows Go.Proofs.Try.func109 rfl (name_ne (by kernel_rfl)) (by kernel_rfl) (Nat.le_of_ble_eq_true (by kernel_rfl)) (Nat.le_of_ble_eq_true (by kernel_rfl)) (annOK_seq (annOK_nil _) (annOK_seq (annOK_nil _) (annOK_seq (annOK_nil _) (annOK_seq (annOK_nil _) (annOK_seq (annOK_block (annOK_loop (natural_divide.l0_ok k))) (annOK_seq (annOK_nil _) (annOK_seq (annOK_seq (annOK_nil _) (annOK_block (annOK_loop (natural_divide.l1_ok k)))) (annOK_nil _)))))))) (natural_divide.ev k)

theorem natural_divMod.tab_ok (k : Nat) : ∀ E ∈ natural_divMod.tab k, SpecOK Go.Proofs.Try.prog E := (forall_cons (natural_compare.spec k) (forall_cons slices_Clone_uint32uint32.spec (forall_cons (natural_short.spec k) (forall_cons (natural_trim_v.spec k) (forall_cons (natural_divide.spec k) forall_nil)))))
theorem natural_divMod.spec (k : Nat) : SpecOK Go.Proofs.Try.prog (natural_divMod.E k) :=
  fn_ok (c := bodyOf Go.Proofs.Try.f98) tt_ok (natural_divMod.tab_ok k) follows Go.Proofs.Try.func98 rfl (name_ne (by kernel_rfl)) (by kernel_rfl) (Nat.le_of_ble_eq_true (by kernel_rfl)) (Nat.le_of_ble_eq_true (by kernel_rfl)) (annOK_nil _) (natural_divMod.ev k)

theorem natural_Gcd.tab_ok (k : Nat) : ∀ E ∈ natural_Gcd.tab k, SpecOK Go.Proofs.Try.prog E := (forall_cons natural_check.spec (forall_cons slices_Clone_uint32uint32.spec (forall_cons (natural_divMod.spec k) forall_nil)))
theorem natural_Gcd.l0_ok (k : Nat) : LoopOK Go.Proofs.Try.prog Go.Proofs.Try.f75.ntmps (finOf tt natural_Gcd.B Go.Proofs.Try.f75.results.toList) (cAt [1, 1, 1, 0, 0, 0] (bodyOf Go.Proofs.Try.f75)) natural_Gcd.M0 natural_Gcd.O0 0 (fun x => natural_Gcd.l0 k k x.1 x.2.1 x.2.2) :=
  loop_ok (R0 := denB natural_Gcd.B) (M := natural_Gcd.M0) (O := natural_Gcd.O0) (L := fun m (x : natural_Gcd.M0.den) => natural_Gcd.l0 k m x.1 x.2.1 x.2.2) tt_ok (natural_Gcd.tab_ok k) follows (ann := .nil) (annOK_nil _) (fun _ => rfl) (fun m x => natural_Gcd.l0_ev k m x) k
theorem natural_Gcd.spec (k : Nat) : SpecOK Go.Proofs.Try.prog (natural_Gcd.E k) :=
  fn_ok (c := bodyOf Go.Proofs.Try.f75) tt_ok (natural_Gcd.tab_ok k) follows Go.Proofs.Try.func75 rfl (name_ne (by kernel_rfl)) (by kernel_rfl) (Nat.le_of_ble_eq_true (by kernel_rfl)) (Nat.le_of_ble_eq_true (by kernel_rfl)) (annOK_seq (annOK_nil _) (annOK_seq (annOK_nil _) (annOK_seq (annOK_nil _) (annOK_seq (annOK_block (annOK_loop (natural_Gcd.l0_ok k))) (annOK_nil _))))) (natural_Gcd.ev k)

theorem natural_DivMod.tab_ok (k : Nat) : ∀ E ∈ natural_DivMod.tab k, SpecOK Go.Proofs.Try.prog E := (forall_cons natural_check.spec (forall_cons natural_at.spec (forall_cons (natural_divMod.spec k) forall_nil)))
theorem natural_DivMod.spec (k : Nat) : SpecOK Go.Proofs.Try.prog (natural_DivMod.E k) :=
  fn_ok (c := bodyOf Go.Proofs.Try.f88) tt_ok (natural_DivMod.tab_ok k) follows Go.Proofs.Try.func88 rfl (name_ne (by kernel_rfl)) (by kernel_rfl) (Nat.le_of_ble_eq_true (by kernel_rfl)) (Nat.le_of_ble_eq_true (by kernel_rfl)) (annOK_nil _) (natural_DivMod.ev k)

theorem rational_reduced.tab_ok (k : Nat) : ∀ E ∈ rational_reduced.tab k, SpecOK Go.Proofs.Try.prog E := (forall_cons (natural_Gcd.spec k) (forall_cons (natural_DivMod.spec k) (forall_cons rational_at.spec forall_nil)))
theorem rational_reduced.spec (k : Nat) : SpecOK Go.Proofs.Try.prog (rational_reduced.E k) :=
  fn_ok (c := bodyOf Go.Proofs.Try.f74) tt_ok (rational_reduced.tab_ok k) follows Go.Proofs.Try.func74 rfl (name_ne (by kernel_rfl)) (by kernel_rfl) (Nat.le_of_ble_eq_true (by kernel_rfl)) (Nat.le_of_ble_eq_true (by kernel_rfl)) (annOK_seq (annOK_nil _) (annOK_seq (annOK_nil _) (annOK_seq (annOK_nil _) (annOK_seq (annOK_nil _) (annOK_jseq (annOK_nil _) (annOK_nil _)))))) (rational_reduced.ev k)

theorem rational_Make.tab_ok (k : Nat) : ∀ E ∈ rational_Make.tab k, SpecOK Go.Proofs.Try.prog E := (forall_cons integer_Valid.spec (forall_cons rational_at.spec (forall_cons (rational_reduced.spec k) forall_nil)))
theorem rational_Make.spec (k : Nat) : SpecOK Go.Proofs.Try.prog (rational_Make.E k) :=
  fn_ok (c := bodyOf Go.Proofs.Try.f42) tt_ok (rational_Make.tab_ok k) follows Go.Proofs.Try.func42 rfl (name_ne (by kernel_rfl)) (by kernel_rfl) (Nat.le_of_ble_eq_true (by kernel_rfl)) (Nat.le_of_ble_eq_true (by kernel_rfl)) (annOK_nil _) (rational_Make.ev k)

theorem rational_Valid.tab_ok (k : Nat) : ∀ E ∈ rational_Valid.tab k, SpecOK Go.Proofs.Try.prog E := (forall_cons integer_Valid.spec (forall_cons (natural_Gcd.spec k) forall_nil))
theorem rational_Valid.spec (k : Nat) : SpecOK Go.Proofs.Try.prog (rational_Valid.E k) :=
  fn_ok (c := bodyOf Go.Proofs.Try.f38) tt_ok (rational_Valid.tab_ok k) follows Go.Proofs.Try.func38 rfl (name_ne (by kernel_rfl)) (by kernel_rfl) (Nat.le_of_ble_eq_true (by kernel_rfl)) (Nat.le_of_ble_eq_true (by kernel_rfl)) (annOK_seq (annOK_nil _) (annOK_jseq (annOK_nil _) (annOK_nil _))) (rational_Valid.ev k)

theorem integer_at.tab_ok  : ∀ E ∈ integer_at.tab, SpecOK Go.Proofs.Try.prog E := forall_nil
theorem integer_at.spec  : SpecOK Go.Proofs.Try.prog (integer_at.E) :=
  fn_ok (c := bodyOf Go.Proofs.Try.f99) tt_ok (integer_at.tab_ok) follows Go.Proofs.Try.func99 rfl (name_ne (by kernel_rfl)) (by kernel_rfl) (Nat.le_of_ble_eq_true (by kernel_rfl)) (Nat.le_of_ble_eq_true (by kernel_rfl)) (annOK_nil _) integer_at.ev

theorem integer_check.tab_ok (k : Nat) : ∀ E ∈ integer_check.tab k, SpecOK Go.Proofs.Try.prog E := (forall_cons integer_Valid.spec (forall_cons integer_at.spec forall_nil))
theorem integer_check.l0_ok (k : Nat) : LoopOK Go.Proofs.Try.prog Go.Proofs.Try.f78.ntmps (finOf tt integer_check.B Go.Proofs.Try.f78.results.toList) (cAt [1, 0, 1, 0, 0] (bodyOf Go.Proofs.Try.f78)) integer_check.M0 integer_check.O0 0 (fun x => integer_check.l0 k k x.1 x.2.1 x.2.2.1 x.2.2.2) :=
  loop_ok (R0 := denB integer_check.B) (M := integer_check.M0) (O := integer_check.O0) (L := fun m (x : integer_check.M0.den) => integer_check.l0 k m x.1 x.2.1 x.2.2.1 x.2.2.2) tt_ok (integer_check.tab_ok k) follows (ann := .nil) (annOK_nil _) (fun _ => rfl) (fun m x => integer_check.l0_ev k m x) k
theorem integer_check.spec (k : Nat) : SpecOK Go.Proofs.Try.prog (integer_check.E k) :=
  fn_ok (c := bodyOf Go.Proofs.Try.f78) tt_ok (integer_check.tab_ok k) follows Go.Proofs.Try.func78 rfl (name_ne (by kernel_rfl)) (by kernel_rfl) (Nat.le_of_ble_eq_true (by kernel_rfl)) (Nat.le_of_ble_eq_true (by kernel_rfl)) (annOK_seq (annOK_nil _) (annOK_seq (annOK_seq (annOK_nil _) (annOK_block (annOK_loop (integer_check.l0_ok k)))) (annOK_nil _))) (integer_check.ev k)

theorem natural_Cmp.tab_ok (k : Nat) : ∀ E ∈ natural_Cmp.tab k, SpecOK Go.Proofs.Try.prog E := (forall_cons natural_check.spec (forall_cons (natural_compare.spec k) forall_nil))
theorem natural_Cmp.spec (k : Nat) : SpecOK Go.Proofs.Try.prog (natural_Cmp.E k) :=
  fn_ok (c := bodyOf Go.Proofs.Try.f65) tt_ok (natural_Cmp.tab_ok k) follows Go.Proofs.Try.func65 rfl (name_ne (by kernel_rfl)) (by kernel_rfl) (Nat.le_of_ble_eq_true (by kernel_rfl)) (Nat.le_of_ble_eq_true (by kernel_rfl)) (annOK_nil _) (natural_Cmp.ev k)

theorem integer_Cmp.tab_ok (k : Nat) : ∀ E ∈ integer_Cmp.tab k, SpecOK Go.Proofs.Try.prog E := (forall_cons (integer_check.spec k) (forall_cons (natural_Cmp.spec k) forall_nil))
theorem integer_Cmp.spec (k : Nat) : SpecOK Go.Proofs.Try.prog (integer_Cmp.E k) :=
  fn_ok (c := bodyOf Go.Proofs.Try.f43) tt_ok (integer_Cmp.tab_ok k) follows Go.Proofs.Try.func43 rfl (name_ne (by kernel_rfl)) (by kernel_rfl) (Nat.le_of_ble_eq_true (by kernel_rfl)) (Nat.le_of_ble_eq_true (by kernel_rfl)) (annOK_seq (annOK_nil _) (annOK_seq (annOK_nil _) (annOK_seq (annOK_nil _) (annOK_seq (annOK_block (annOK_jseq (annOK_nil _) (annOK_nil _))) (annOK_nil _))))) (integer_Cmp.ev k)

theorem natural_add.tab_ok (k : Nat) : ∀ E ∈ natural_add.tab k, SpecOK Go.Proofs.Try.prog E := (forall_cons (natural_trim_v.spec k) forall_nil)
theorem natural_add.l0_ok (k : Nat) : LoopOK Go.Proofs.Try.prog Go.Proofs.Try.f93.ntmps (finOf tt natural_add.B Go.Proofs.Try.f93.results.toList) (cAt [1, 1, 1, 1, 0, 1, 0, 0] (bodyOf Go.Proofs.Try.f93)) natural_add.M0 natural_add.O0 0 (fun x => natural_add.l0 k k x.1 x.2.1 x.2.2.1 x.2.2.2.1 x.2.2.2.2.1 x.2.2.2.2.2) :=
  loop_ok (R0 := denB natural_add.B) (M := natural_add.M0) (O := natural_add.O0) (L := fun m (x : natural_add.M0.den) => natural_add.l0 k m x.1 x.2.1 x.2.2.1 x.2.2.2.1 x.2.2.2.2.1 x.2.2.2.2.2) tt_ok (natural_add.tab_ok k) follows (ann := .nil) (annOK_nil _) (fun _ => rfl) (fun m x => natural_add.l0_ev k m x) k
theorem natural_add.spec (k : Nat) : SpecOK Go.Proofs.Try.prog (natural_add.E k) :=
  fn_ok (c := bodyOf Go.Proofs.Try.f93) tt_ok (natural_add.tab_ok k) follows Go.Proofs.Try.func93 rfl (name_ne (by kernel_rfl)) (by kernel_rfl) (Nat.le_of_ble_eq_true (by kernel_rfl)) (Nat.le_of_ble_eq_true (by kernel_rfl)) (annOK_seq (annOK_nil _) (annOK_jseq (annOK_nil _) (annOK_seq (annOK_nil _) (annOK_seq (annOK_nil _) (annOK_seq (annOK_seq (annOK_nil _) (annOK_block (annOK_loop (natural_add.l0_ok k)))) (annOK_nil _)))))) (natural_add.ev k)

theorem natural_trim.tab_ok (k : Nat) : ∀ E ∈ natural_trim.tab k, SpecOK Go.Proofs.Try.prog E := forall_nil
theorem natural_trim.l0_ok (k : Nat) : LoopOK Go.Proofs.Try.prog Go.Proofs.Try.f107.ntmps (finOf tt natural_trim.B Go.Proofs.Try.f107.results.toList) (cAt [1, 0, 0, 0] (bodyOf Go.Proofs.Try.f107)) natural_trim.M0 natural_trim.O0 0 (fun x => natural_trim.l0 k k x) :=
  loop_ok (R0 := denB natural_trim.B) (M := natural_trim.M0) (O := natural_trim.O0) (L := fun m (x : natural_trim.M0.den) => natural_trim.l0 k m x) tt_ok (natural_trim.tab_ok k) follows (ann := .nil) (annOK_nil _) (fun _ => rfl) (fun m x => natural_trim.l0_ev k m x) k
theorem natural_trim.spec (k : Nat) : SpecOK Go.Proofs.Try.prog (natural_trim.E k) :=
  fn_ok (c := bodyOf Go.Proofs.Try.f107) tt_ok (natural_trim.tab_ok k) follows Go.Proofs.Try.func107 rfl (name_ne (by kernel_rfl)) (by kernel_rfl) (Nat.le_of_ble_eq_true (by kernel_rfl)) (Nat.le_of_ble_eq_true (by kernel_rfl)) (annOK_seq (annOK_nil _) (annOK_seq (annOK_block (annOK_loop (natural_trim.l0_ok k))) (annOK_nil _))) (natural_trim.ev k)

theorem natural_fit.tab_ok (k : Nat) : ∀ E ∈ natural_fit.tab k, SpecOK Go.Proofs.Try.prog E := (forall_cons (natural_trim.spec k) (forall_cons natural_at.spec forall_nil))
theorem natural_fit.spec (k : Nat) : SpecOK Go.Proofs.Try.prog (natural_fit.E k) :=
  fn_ok (c := bodyOf Go.Proofs.Try.f92) tt_ok (natural_fit.tab_ok k) follows Go.Proofs.Try.func92 rfl (name_ne (by kernel_rfl)) (by kernel_rfl) (Nat.le_of_ble_eq_true (by kernel_rfl)) (Nat.le_of_ble_eq_true (by kernel_rfl)) (annOK_nil _) (natural_fit.ev k)

theorem natural_Add.tab_ok (k : Nat) : ∀ E ∈ natural_Add.tab k, SpecOK Go.Proofs.Try.prog E := (forall_cons natural_check.spec (forall_cons (natural_add.spec k) (forall_cons (natural_fit.spec k) forall_nil)))
theorem natural_Add.spec (k : Nat) : SpecOK Go.Proofs.Try.prog (natural_Add.E k) :=
  fn_ok (c := bodyOf Go.Proofs.Try.f64) tt_ok (natural_Add.tab_ok k) follows Go.Proofs.Try.func64 rfl (name_ne (by kernel_rfl)) (by kernel_rfl) (Nat.le_of_ble_eq_true (by kernel_rfl)) (Nat.le_of_ble_eq_true (by kernel_rfl)) (annOK_nil _) (natural_Add.ev k)

theorem natural_sub.tab_ok (k : Nat) : ∀ E ∈ natural_sub.tab k, SpecOK Go.Proofs.Try.prog E := (forall_cons slices_Clone_uint32uint32.spec (forall_cons bits_Sub32.spec (forall_cons (natural_trim_v.spec k) forall_nil)))
theorem natural_sub.l0_ok (k : Nat) : LoopOK Go.Proofs.Try.prog Go.Proofs.Try.f105.ntmps (finOf tt natural_sub.B Go.Proofs.Try.f105.results.toList) (cAt [1, 1, 1, 0, 1, 0, 0] (bodyOf Go.Proofs.Try.f105)) natural_sub.M0 natural_sub.O0 0 (fun x => natural_sub.l0 k k x.1 x.2.1 x.2.2.1 x.2.2.2.1 x.2.2.2.2) :=
  loop_ok (R0 := denB natural_sub.B) (M := natural_sub.M0) (O := natural_sub.O0) (L := fun m (x : natural_sub.M0.den) => natural_sub.l0 k m x.1 x.2.1 x.2.2.1 x.2.2.2.1 x.2.2.2.2) tt_ok (natural_sub.tab_ok k) follows (ann := (.seq .nil (.seq .nil (.seq (.block (.seq .nil (.seq .nil (.jseq ⟨[.dat 1 (.list (.int .u32)), .own 5 (.int .u32), .dat 6 (.int .u32), .dat 7 (.int .i64), .dat 8 (.int .u32), .dat 12 (.int .i64), .dat 13 (.int .i64)], []⟩ .nil .nil)))) .nil)))) (annOK_seq (annOK_nil _) (annOK_seq (annOK_nil _) (annOK_seq (annOK_block (annOK_seq (annOK_nil _) (annOK_seq (annOK_nil _) (annOK_jseq (annOK_nil _) (annOK_nil _))))) (annOK_nil _)))) (fun _ => rfl) (fun m x => natural_sub.l0_ev k m x) k
theorem natural_sub.spec (k : Nat) : SpecOK Go.Proofs.Try.prog (natural_sub.E k) :=
  fn_ok (c := bodyOf Go.Proofs.Try.f105) tt_ok (natural_sub.tab_ok k) follows Go.Proofs.Try.func105 rfl (name_ne (by kernel_rfl)) (by kernel_rfl) (Nat.le_of_ble_eq_true (by kernel_rfl)) (Nat.le_of_ble_eq_true (by kernel_rfl)) (annOK_seq (annOK_nil _) (annOK_seq (annOK_nil _) (annOK_seq (annOK_nil _) (annOK_seq (annOK_seq (annOK_nil _) (annOK_block (annOK_loop (natural_sub.l0_ok k)))) (annOK_nil _))))) (natural_sub.ev k)

theorem natural_Sub.tab_ok (k : Nat) : ∀ E ∈ natural_Sub.tab k, SpecOK Go.Proofs.Try.prog E := (forall_cons natural_check.spec (forall_cons (natural_compare.spec k) (forall_cons natural_at.spec (forall_cons (natural_sub.spec k) forall_nil))))
theorem natural_Sub.spec (k : Nat) : SpecOK Go.Proofs.Try.prog (natural_Sub.E k) :=
  fn_ok (c := bodyOf Go.Proofs.Try.f89) tt_ok (natural_Sub.tab_ok k) follows Go.Proofs.Try.func89 rfl (name_ne (by kernel_rfl)) (by kernel_rfl) (Nat.le_of_ble_eq_true (by kernel_rfl)) (Nat.le_of_ble_eq_true (by kernel_rfl)) (annOK_nil _) (natural_Sub.ev k)

theorem integer_signed.tab_ok  : ∀ E ∈ integer_signed.tab, SpecOK Go.Proofs.Try.prog E := (forall_cons integer_at.spec forall_nil)
theorem integer_signed.spec  : SpecOK Go.Proofs.Try.prog (integer_signed.E) :=
  fn_ok (c := bodyOf Go.Proofs.Try.f90) tt_ok (integer_signed.tab_ok) follows Go.Proofs.Try.func90 rfl (name_ne (by kernel_rfl)) (by kernel_rfl) (Nat.le_of_ble_eq_true (by kernel_rfl)) (Nat.le_of_ble_eq_true (by kernel_rfl)) (annOK_nil _) integer_signed.ev

theorem integer_DivMod.tab_ok (k : Nat) : ∀ E ∈ integer_DivMod.tab k, SpecOK Go.Proofs.Try.prog E := (forall_cons (integer_check.spec k) (forall_cons (natural_DivMod.spec k) (forall_cons (natural_Add.spec k) (forall_cons (natural_Sub.spec k) (forall_cons integer_signed.spec forall_nil)))))
theorem integer_DivMod.spec (k : Nat) : SpecOK Go.Proofs.Try.prog (integer_DivMod.E k) :=
  fn_ok (c := bodyOf Go.Proofs.Try.f63) tt_ok (integer_DivMod.tab_ok k) follows Go.Proofs.Try.func63 rfl (name_ne (by kernel_rfl)) (by kernel_rfl) (Nat.le_of_ble_eq_true (by kernel_rfl)) (Nat.le_of_ble_eq_true (by kernel_rfl)) (annOK_seq (annOK_nil _) (annOK_seq (annOK_nil _) (annOK_seq (annOK_nil _) (annOK_seq (annOK_nil _) (annOK_jseq (annOK_jseq (annOK_nil _) (annOK_nil _)) (annOK_nil _)))))) (integer_DivMod.ev k)

theorem natural_mul.tab_ok (k : Nat) : ∀ E ∈ natural_mul.tab k, SpecOK Go.Proofs.Try.prog E := (forall_cons (natural_trim_v.spec k) forall_nil)
theorem natural_mul.l1_ok (k : Nat) : LoopOK Go.Proofs.Try.prog Go.Proofs.Try.f96.ntmps (finOf tt natural_mul.B Go.Proofs.Try.f96.results.toList) (cAt [1, 1, 0, 1, 0, 0, 1, 1, 0, 0, 1, 1, 0, 1, 0, 0] (bodyOf Go.Proofs.Try.f96)) natural_mul.M1 natural_mul.O1 2 (fun x => natural_mul.l1 k k x.1 x.2.1 x.2.2.1 x.2.2.2.1 x.2.2.2.2.1 x.2.2.2.2.2.1 x.2.2.2.2.2.2.1 x.2.2.2.2.2.2.2.1 x.2.2.2.2.2.2.2.2.1 x.2.2.2.2.2.2.2.2.2.1 x.2.2.2.2.2.2.2.2.2.2) :=
  loop_ok (R0 := denB natural_mul.B) (M := natural_mul.M1) (O := natural_mul.O1) (L := fun m (x : natural_mul.M1.den) => natural_mul.l1 k m x.1 x.2.1 x.2.2.1 x.2.2.2.1 x.2.2.2.2.1 x.2.2.2.2.2.1 x.2.2.2.2.2.2.1 x.2.2.2.2.2.2.2.1 x.2.2.2.2.2.2.2.2.1 x.2.2.2.2.2.2.2.2.2.1 x.2.2.2.2.2.2.2.2.2.2) tt_ok (natural_mul.tab_ok k) follows (ann := .nil) (annOK_nil _) (fun _ => rfl) (fun m x => natural_mul.l1_ev k m x) k
theorem natural_mul.l0_ok (k : Nat) : LoopOK Go.Proofs.Try.prog Go.Proofs.Try.f96.ntmps (finOf tt natural_mul.B Go.Proofs.Try.f96.results.toList) (cAt [1, 1, 0, 1, 0, 0] (bodyOf Go.Proofs.Try.f96)) natural_mul.M0 natural_mul.O0 0 (fun x => natural_mul.l0 k k x.1 x.2.1 x.2.2.1 x.2.2.2.1 x.2.2.2.2) :=
  loop_ok (R0 := denB natural_mul.B) (M := natural_mul.M0) (O := natural_mul.O0) (L := fun m (x : natural_mul.M0.den) => natural_mul.l0 k m x.1 x.2.1 x.2.2.1 x.2.2.2.1 x.2.2.2.2) tt_ok (natural_mul.tab_ok k) follows (ann := (.seq .nil (.seq .nil (.seq (.block (.seq .nil (.seq .nil (.seq (.seq .nil (.block (natural_mul.an1 k))) .nil)))) .nil)))) (annOK_seq (annOK_nil _) (annOK_seq (annOK_nil _) (annOK_seq (annOK_block (annOK_seq (annOK_nil _) (annOK_seq (annOK_nil _) (annOK_seq (annOK_seq (annOK_nil _) (annOK_block (annOK_loop (natural_mul.l1_ok k)))) (annOK_nil _))))) (annOK_nil _)))) (fun _ => rfl) (fun m x => natural_mul.l0_ev k m x) k
theorem natural_mul.spec (k : Nat) : SpecOK Go.Proofs.Try.prog (natural_mul.E k) :=
  fn_ok (c := bodyOf Go.Proofs.Try.f96) tt_ok (natural_mul.tab_ok k) follows Go.Proofs.Try.func96 rfl (name_ne (by kernel_rfl)) (by kernel_rfl) (Nat.le_of_ble_eq_true (by kernel_rfl)) (Nat.le_of_ble_eq_true (by kernel_rfl)) (annOK_seq (annOK_nil _) (annOK_seq (annOK_nil _) (annOK_seq (annOK_seq (annOK_nil _) (annOK_block (annOK_loop (natural_mul.l0_ok k)))) (annOK_nil _)))) (natural_mul.ev k)

theorem natural_Mul.tab_ok (k : Nat) : ∀ E ∈ natural_Mul.tab k, SpecOK Go.Proofs.Try.prog E := (forall_cons natural_check.spec (forall_cons (natural_mul.spec k) (forall_cons (natural_fit.spec k) forall_nil)))
theorem natural_Mul.spec (k : Nat) : SpecOK Go.Proofs.Try.prog (natural_Mul.E k) :=
  fn_ok (c := bodyOf Go.Proofs.Try.f73) tt_ok (natural_Mul.tab_ok k) follows Go.Proofs.Try.func73 rfl (name_ne (by kernel_rfl)) (by kernel_rfl) (Nat.le_of_ble_eq_true (by kernel_rfl)) (Nat.le_of_ble_eq_true (by kernel_rfl)) (annOK_nil _) (natural_Mul.ev k)

theorem integer_Mul.tab_ok (k : Nat) : ∀ E ∈ integer_Mul.tab k, SpecOK Go.Proofs.Try.prog E := (forall_cons (integer_check.spec k) (forall_cons (natural_Mul.spec k) (forall_cons integer_signed.spec forall_nil)))
theorem integer_Mul.spec (k : Nat) : SpecOK Go.Proofs.Try.prog (integer_Mul.E k) :=
  fn_ok (c := bodyOf Go.Proofs.Try.f85) tt_ok (integer_Mul.tab_ok k) follows Go.Proofs.Try.func85 rfl (name_ne (by kernel_rfl)) (by kernel_rfl) (Nat.le_of_ble_eq_true (by kernel_rfl)) (Nat.le_of_ble_eq_true (by kernel_rfl)) (annOK_nil _) (integer_Mul.ev k)

theorem integer_plus.tab_ok (k : Nat) : ∀ E ∈ integer_plus.tab k, SpecOK Go.Proofs.Try.prog E := (forall_cons (natural_Add.spec k) (forall_cons integer_signed.spec (forall_cons (natural_Cmp.spec k) (forall_cons (natural_Sub.spec k) forall_nil))))
theorem integer_plus.spec (k : Nat) : SpecOK Go.Proofs.Try.prog (integer_plus.E k) :=
  fn_ok (c := bodyOf Go.Proofs.Try.f95) tt_ok (integer_plus.tab_ok k) follows Go.Proofs.Try.func95 rfl (name_ne (by kernel_rfl)) (by kernel_rfl) (Nat.le_of_ble_eq_true (by kernel_rfl)) (Nat.le_of_ble_eq_true (by kernel_rfl)) (annOK_seq (annOK_nil _) (annOK_seq (annOK_nil _) (annOK_jseq (annOK_nil _) (annOK_nil _)))) (integer_plus.ev k)

theorem integer_Add.tab_ok (k : Nat) : ∀ E ∈ integer_Add.tab k, SpecOK Go.Proofs.Try.prog E := (forall_cons (integer_check.spec k) (forall_cons (integer_plus.spec k) forall_nil))
theorem integer_Add.spec (k : Nat) : SpecOK Go.Proofs.Try.prog (integer_Add.E k) :=
  fn_ok (c := bodyOf Go.Proofs.Try.f66) tt_ok (integer_Add.tab_ok k) follows Go.Proofs.Try.func66 rfl (name_ne (by kernel_rfl)) (by kernel_rfl) (Nat.le_of_ble_eq_true (by kernel_rfl)) (Nat.le_of_ble_eq_true (by kernel_rfl)) (annOK_nil _) (integer_Add.ev k)

theorem rational_nearest_1.tab_ok (k : Nat) : ∀ E ∈ rational_nearest_1.tab k, SpecOK Go.Proofs.Try.prog E := (forall_cons (integer_Mul.spec k) (forall_cons (integer_Add.spec k) forall_nil))
theorem rational_nearest_1.spec (k : Nat) : SpecOK Go.Proofs.Try.prog (rational_nearest_1.E k) :=
  fn_ok (c := bodyOf Go.Proofs.Try.f84) tt_ok (rational_nearest_1.tab_ok k) follows Go.Proofs.Try.func84 rfl (name_ne (by kernel_rfl)) (by kernel_rfl) (Nat.le_of_ble_eq_true (by kernel_rfl)) (Nat.le_of_ble_eq_true (by kernel_rfl)) (annOK_nil _) (rational_nearest_1.ev k)

theorem integer_Sub.tab_ok (k : Nat) : ∀ E ∈ integer_Sub.tab k, SpecOK Go.Proofs.Try.prog E := (forall_cons (integer_check.spec k) (forall_cons (integer_plus.spec k) forall_nil))
theorem integer_Sub.spec (k : Nat) : SpecOK Go.Proofs.Try.prog (integer_Sub.E k) :=
  fn_ok (c := bodyOf Go.Proofs.Try.f86) tt_ok (integer_Sub.tab_ok k) follows Go.Proofs.Try.func86 rfl (name_ne (by kernel_rfl)) (by kernel_rfl) (Nat.le_of_ble_eq_true (by kernel_rfl)) (Nat.le_of_ble_eq_true (by kernel_rfl)) (annOK_nil _) (integer_Sub.ev k)

theorem rational_closer_1.tab_ok (k : Nat) : ∀ E ∈ rational_closer_1.tab k, SpecOK Go.Proofs.Try.prog E := (forall_cons (natural_Mul.spec k) (forall_cons (natural_Add.spec k) (forall_cons (natural_Cmp.spec k) (forall_cons (natural_Sub.spec k) forall_nil))))
theorem rational_closer_1.spec (k : Nat) : SpecOK Go.Proofs.Try.prog (rational_closer_1.E k) :=
  fn_ok (c := bodyOf Go.Proofs.Try.f103) tt_ok (rational_closer_1.tab_ok k) follows Go.Proofs.Try.func103 rfl (name_ne (by kernel_rfl)) (by kernel_rfl) (Nat.le_of_ble_eq_true (by kernel_rfl)) (Nat.le_of_ble_eq_true (by kernel_rfl)) (annOK_seq (annOK_nil _) (annOK_seq (annOK_nil _) (annOK_seq (annOK_nil _) (annOK_seq (annOK_nil _) (annOK_jseq (annOK_nil _) (annOK_nil _)))))) (rational_closer_1.ev k)

theorem rational_check.tab_ok (k : Nat) : ∀ E ∈ rational_check.tab k, SpecOK Go.Proofs.Try.prog E := (forall_cons (rational_Valid.spec k) (forall_cons rational_at.spec forall_nil))
theorem rational_check.l0_ok (k : Nat) : LoopOK Go.Proofs.Try.prog Go.Proofs.Try.f62.ntmps (finOf tt rational_check.B Go.Proofs.Try.f62.results.toList) (cAt [1, 0, 1, 0, 0] (bodyOf Go.Proofs.Try.f62)) rational_check.M0 rational_check.O0 0 (fun x => rational_check.l0 k k x.1 x.2.1 x.2.2.1 x.2.2.2) :=
  loop_ok (R0 := denB rational_check.B) (M := rational_check.M0) (O := rational_check.O0) (L := fun m (x : rational_check.M0.den) => rational_check.l0 k m x.1 x.2.1 x.2.2.1 x.2.2.2) tt_ok (rational_check.tab_ok k) follows (ann := .nil) (annOK_nil _) (fun _ => rfl) (fun m x => rational_check.l0_ev k m x) k
theorem rational_check.spec (k : Nat) : SpecOK Go.Proofs.Try.prog (rational_check.E k) :=
  fn_ok (c := bodyOf Go.Proofs.Try.f62) tt_ok (rational_check.tab_ok k) follows Go.Proofs.Try.func62 rfl (name_ne (by kernel_rfl)) (by kernel_rfl) (Nat.le_of_ble_eq_true (by kernel_rfl)) (Nat.le_of_ble_eq_true (by kernel_rfl)) (annOK_seq (annOK_nil _) (annOK_seq (annOK_seq (annOK_nil _) (annOK_block (annOK_loop (rational_check.l0_ok k)))) (annOK_nil _))) (rational_check.ev k)

theorem rational_Cmp.tab_ok (k : Nat) : ∀ E ∈ rational_Cmp.tab k, SpecOK Go.Proofs.Try.prog E := (forall_cons (rational_check.spec k) (forall_cons (natural_Mul.spec k) (forall_cons (natural_Cmp.spec k) forall_nil)))
theorem rational_Cmp.spec (k : Nat) : SpecOK Go.Proofs.Try.prog (rational_Cmp.E k) :=
  fn_ok (c := bodyOf Go.Proofs.Try.f37) tt_ok (rational_Cmp.tab_ok k) follows Go.Proofs.Try.func37 rfl (name_ne (by kernel_rfl)) (by kernel_rfl) (Nat.le_of_ble_eq_true (by kernel_rfl)) (Nat.le_of_ble_eq_true (by kernel_rfl)) (annOK_seq (annOK_nil _) (annOK_seq (annOK_nil _) (annOK_seq (annOK_nil _) (annOK_seq (annOK_nil _) (annOK_seq (annOK_nil _) (annOK_seq (annOK_block (annOK_jseq (annOK_nil _) (annOK_nil _))) (annOK_nil _))))))) (rational_Cmp.ev k)

theorem rational_closer.tab_ok (k : Nat) : ∀ E ∈ rational_closer.tab k, SpecOK Go.Proofs.Try.prog E := (forall_cons (rational_closer_1.spec k) (forall_cons (natural_Mul.spec k) (forall_cons (natural_Cmp.spec k) (forall_cons (rational_Cmp.spec k) forall_nil))))
theorem rational_closer.spec (k : Nat) : SpecOK Go.Proofs.Try.prog (rational_closer.E k) :=
  fn_ok (c := bodyOf Go.Proofs.Try.f87) tt_ok (rational_closer.tab_ok k) follows Go.Proofs.Try.func87 rfl (name_ne (by kernel_rfl)) (by kernel_rfl) (Nat.le_of_ble_eq_true (by kernel_rfl)) (Nat.le_of_ble_eq_true (by kernel_rfl)) (annOK_seq (annOK_nil _) (annOK_seq (annOK_nil _) (annOK_seq (annOK_nil _) (annOK_seq (annOK_nil _) (annOK_seq (annOK_nil _) (annOK_seq (annOK_nil _) (annOK_seq (annOK_nil _) (annOK_seq (annOK_nil _) (annOK_jseq (annOK_nil _) (annOK_nil _)))))))))) (rational_closer.ev k)

theorem rational_nearest.tab_ok (k : Nat) : ∀ E ∈ rational_nearest.tab k, SpecOK Go.Proofs.Try.prog E := (forall_cons (integer_Of.spec k) (forall_cons (integer_DivMod.spec k) (forall_cons (rational_nearest_1.spec k) (forall_cons (integer_Cmp.spec k) (forall_cons (integer_Sub.spec k) (forall_cons (rational_Make.spec k) (forall_cons (rational_closer.spec k) forall_nil)))))))
theorem rational_nearest.l0_ok (k : Nat) : LoopOK Go.Proofs.Try.prog Go.Proofs.Try.f56.ntmps (finOf tt rational_nearest.B Go.Proofs.Try.f56.results.toList) (cAt [1, 1, 1, 1, 0, 0] (bodyOf Go.Proofs.Try.f56)) rational_nearest.M0 rational_nearest.O0 0 (fun x => rational_nearest.l0 k k x.1 x.2.1 x.2.2.1 x.2.2.2.1 x.2.2.2.2.1 x.2.2.2.2.2.1 x.2.2.2.2.2.2.1 x.2.2.2.2.2.2.2.1 x.2.2.2.2.2.2.2.2) :=
  loop_ok (R0 := denB rational_nearest.B) (M := rational_nearest.M0) (O := rational_nearest.O0) (L := fun m (x : rational_nearest.M0.den) => rational_nearest.l0 k m x.1 x.2.1 x.2.2.1 x.2.2.2.1 x.2.2.2.2.1 x.2.2.2.2.2.1 x.2.2.2.2.2.2.1 x.2.2.2.2.2.2.2.1 x.2.2.2.2.2.2.2.2) tt_ok (rational_nearest.tab_ok k) follows (ann := .nil) (annOK_nil _) (fun _ => rfl) (fun m x => rational_nearest.l0_ev k m x) k
theorem rational_nearest.spec (k : Nat) : SpecOK Go.Proofs.Try.prog (rational_nearest.E k) :=
  fn_ok (c := bodyOf Go.Proofs.Try.f56) tt_ok (rational_nearest.tab_ok k) follows Go.Proofs.Try.func56 rfl (name_ne (by kernel_rfl)) (by kernel_rfl) (Nat.le_of_ble_eq_true (by kernel_rfl)) (Nat.le_of_ble_eq_true (by kernel_rfl)) (annOK_seq (annOK_nil _) (annOK_seq (annOK_nil _) (annOK_seq (annOK_nil _) (annOK_seq (annOK_nil _) (annOK_block (annOK_loop (rational_nearest.l0_ok k))))))) (rational_nearest.ev k)

theorem rational_Nearest.tab_ok (k : Nat) : ∀ E ∈ rational_Nearest.tab k, SpecOK Go.Proofs.Try.prog E := (forall_cons (rational_Valid.spec k) (forall_cons rational_at.spec (forall_cons integer_Valid.spec (forall_cons (integer_Cmp.spec k) (forall_cons (rational_Make.spec k) (forall_cons (rational_nearest.spec k) forall_nil))))))
theorem rational_Nearest.spec (k : Nat) : SpecOK Go.Proofs.Try.prog (rational_Nearest.E k) :=
  fn_ok (c := bodyOf Go.Proofs.Try.f11) tt_ok (rational_Nearest.tab_ok k) follows Go.Proofs.Try.func11 rfl (name_ne (by kernel_rfl)) (by kernel_rfl) (Nat.le_of_ble_eq_true (by kernel_rfl)) (Nat.le_of_ble_eq_true (by kernel_rfl)) (annOK_seq (annOK_nil _) (annOK_jseq (annOK_nil _) (annOK_nil _))) (rational_Nearest.ev k)

theorem natural_chunk.tab_ok (k : Nat) : ∀ E ∈ natural_chunk.tab k, SpecOK Go.Proofs.Try.prog E := forall_nil
theorem natural_chunk.l0_ok (k : Nat) : LoopOK Go.Proofs.Try.prog Go.Proofs.Try.f110.ntmps (finOf tt natural_chunk.B Go.Proofs.Try.f110.results.toList) (cAt [1, 1, 0, 0, 0] (bodyOf Go.Proofs.Try.f110)) natural_chunk.M0 natural_chunk.O0 0 (fun x => natural_chunk.l0 k k x.1 x.2.1 x.2.2) :=
  loop_ok (R0 := denB natural_chunk.B) (M := natural_chunk.M0) (O := natural_chunk.O0) (L := fun m (x : natural_chunk.M0.den) => natural_chunk.l0 k m x.1 x.2.1 x.2.2) tt_ok (natural_chunk.tab_ok k) follows (ann := .nil) (annOK_nil _) (fun _ => rfl) (fun m x => natural_chunk.l0_ev k m x) k
theorem natural_chunk.spec (k : Nat) : SpecOK Go.Proofs.Try.prog (natural_chunk.E k) :=
  fn_ok (c := bodyOf Go.Proofs.Try.f110) tt_ok (natural_chunk.tab_ok k) follows Go.Proofs.Try.func110 rfl (name_ne (by kernel_rfl)) (by kernel_rfl) (Nat.le_of_ble_eq_true (by kernel_rfl)) (Nat.le_of_ble_eq_true (by kernel_rfl)) (annOK_seq (annOK_nil _) (annOK_seq (annOK_nil _) (annOK_seq (annOK_block (annOK_loop (natural_chunk.l0_ok k))) (annOK_nil _)))) (natural_chunk.ev k)

theorem slices_Reverse_intint_l.tab_ok (k : Nat) : ∀ E ∈ slices_Reverse_intint_l.tab k, SpecOK Go.Proofs.Try.prog E := forall_nil
theorem slices_Reverse_intint_l.l0_ok (k : Nat) : LoopOK Go.Proofs.Try.prog Go.Proofs.Try.f111.ntmps (finOf tt slices_Reverse_intint_l.B Go.Proofs.Try.f111.results.toList) (cAt [1, 0, 0] (bodyOf Go.Proofs.Try.f111)) slices_Reverse_intint_l.M0 slices_Reverse_intint_l.O0 0 (fun x => slices_Reverse_intint_l.l0 k k x.1 x.2.1 x.2.2) :=
  loop_ok (R0 := denB slices_Reverse_intint_l.B) (M := slices_Reverse_intint_l.M0) (O := slices_Reverse_intint_l.O0) (L := fun m (x : slices_Reverse_intint_l.M0.den) => slices_Reverse_intint_l.l0 k m x.1 x.2.1 x.2.2) tt_ok (slices_Reverse_intint_l.tab_ok k) follows (ann := .nil) (annOK_nil _) (fun _ => rfl) (fun m x => slices_Reverse_intint_l.l0_ev k m x) k
theorem slices_Reverse_intint_l.spec (k : Nat) : SpecOK Go.Proofs.Try.prog (slices_Reverse_intint_l.E k) :=
  fn_ok (c := bodyOf Go.Proofs.Try.f111) tt_ok (slices_Reverse_intint_l.tab_ok k) follows Go.Proofs.Try.func111 rfl (name_ne (by kernel_rfl)) (by kernel_rfl) (Nat.le_of_ble_eq_true (by kernel_rfl)) (Nat.le_of_ble_eq_true (by kernel_rfl)) (annOK_seq (annOK_nil _) (annOK_block (annOK_loop (slices_Reverse_intint_l.l0_ok k)))) (slices_Reverse_intint_l.ev k)

theorem natural_Digits.tab_ok (k : Nat) : ∀ E ∈ natural_Digits.tab k, SpecOK Go.Proofs.Try.prog E := (forall_cons natural_Valid.spec (forall_cons natural_at.spec (forall_cons (natural_chunk.spec k) (forall_cons (natural_short.spec k) (forall_cons (slices_Reverse_intint_l.spec k) forall_nil)))))
theorem natural_Digits.l1_ok (k : Nat) : LoopOK Go.Proofs.Try.prog Go.Proofs.Try.f102.ntmps (finOf tt natural_Digits.B Go.Proofs.Try.f102.results.toList) (cAt [1, 1, 1, 1, 0, 0, 0, 1, 0, 1, 1, 1, 0, 0] (bodyOf Go.Proofs.Try.f102)) natural_Digits.M1 natural_Digits.O1 3 (fun x => natural_Digits.l1 k k x.1 x.2.1 x.2.2.1 x.2.2.2.1 x.2.2.2.2.1 x.2.2.2.2.2.1 x.2.2.2.2.2.2.1 x.2.2.2.2.2.2.2) :=
  loop_ok (R0 := denB natural_Digits.B) (M := natural_Digits.M1) (O := natural_Digits.O1) (L := fun m (x : natural_Digits.M1.den) => natural_Digits.l1 k m x.1 x.2.1 x.2.2.1 x.2.2.2.1 x.2.2.2.2.1 x.2.2.2.2.2.1 x.2.2.2.2.2.2.1 x.2.2.2.2.2.2.2) tt_ok (natural_Digits.tab_ok k) follows (ann := .nil) (annOK_nil _) (fun _ => rfl) (fun m x => natural_Digits.l1_ev k m x) k
theorem natural_Digits.l0_ok (k : Nat) : LoopOK Go.Proofs.Try.prog Go.Proofs.Try.f102.ntmps (finOf tt natural_Digits.B Go.Proofs.Try.f102.results.toList) (cAt [1, 1, 1, 1, 0, 0, 0] (bodyOf Go.Proofs.Try.f102)) natural_Digits.M0 natural_Digits.O0 1 (fun x => natural_Digits.l0 k k x.1 x.2.1 x.2.2.1 x.2.2.2.1 x.2.2.2.2.1 x.2.2.2.2.2) :=
  loop_ok (R0 := denB natural_Digits.B) (M := natural_Digits.M0) (O := natural_Digits.O0) (L := fun m (x : natural_Digits.M0.den) => natural_Digits.l0 k m x.1 x.2.1 x.2.2.1 x.2.2.2.1 x.2.2.2.2.1 x.2.2.2.2.2) tt_ok (natural_Digits.tab_ok k) follows (ann := (.seq .nil (.block (.seq .nil (.seq .nil (.seq .nil (.block (natural_Digits.an1 k)))))))) (annOK_seq (annOK_nil _) (annOK_block (annOK_seq (annOK_nil _) (annOK_seq (annOK_nil _) (annOK_seq (annOK_nil _) (annOK_block (annOK_loop (natural_Digits.l1_ok k)))))))) (fun _ => rfl) (fun m x => natural_Digits.l0_ev k m x) k
theorem natural_Digits.spec (k : Nat) : SpecOK Go.Proofs.Try.prog (natural_Digits.E k) :=
  fn_ok (c := bodyOf Go.Proofs.Try.f102) tt_ok (natural_Digits.tab_ok k) follows Go.Proofs.Try.func102 rfl (name_ne (by kernel_rfl)) (by kernel_rfl) (Nat.le_of_ble_eq_true (by kernel_rfl)) (Nat.le_of_ble_eq_true (by kernel_rfl)) (annOK_seq (annOK_nil _) (annOK_jseq (annOK_nil _) (annOK_seq (annOK_nil _) (annOK_seq (annOK_nil _) (annOK_seq (annOK_block (annOK_loop (natural_Digits.l0_ok k))) (annOK_nil _)))))) (natural_Digits.ev k)

theorem integer_Text.tab_ok (k : Nat) : ∀ E ∈ integer_Text.tab k, SpecOK Go.Proofs.Try.prog E := (forall_cons (integer_check.spec k) (forall_cons (natural_Digits.spec k) forall_nil))
theorem integer_Text.l0_ok (k : Nat) : LoopOK Go.Proofs.Try.prog Go.Proofs.Try.f82.ntmps (finOf tt integer_Text.B Go.Proofs.Try.f82.results.toList) (cAt [1, 1, 1, 1, 1, 1, 0, 1, 0, 0] (bodyOf Go.Proofs.Try.f82)) integer_Text.M0 integer_Text.O0 0 (fun x => integer_Text.l0 k k x.1 x.2.1 x.2.2.1 x.2.2.2.1 x.2.2.2.2.1 x.2.2.2.2.2) :=
  loop_ok (R0 := denB integer_Text.B) (M := integer_Text.M0) (O := integer_Text.O0) (L := fun m (x : integer_Text.M0.den) => integer_Text.l0 k m x.1 x.2.1 x.2.2.1 x.2.2.2.1 x.2.2.2.2.1 x.2.2.2.2.2) tt_ok (integer_Text.tab_ok k) follows (ann := .nil) (annOK_nil _) (fun _ => rfl) (fun m x => integer_Text.l0_ev k m x) k
theorem integer_Text.spec (k : Nat) : SpecOK Go.Proofs.Try.prog (integer_Text.E k) :=
  fn_ok (c := bodyOf Go.Proofs.Try.f82) tt_ok (integer_Text.tab_ok k) follows Go.Proofs.Try.func82 rfl (name_ne (by kernel_rfl)) (by kernel_rfl) (Nat.le_of_ble_eq_true (by kernel_rfl)) (Nat.le_of_ble_eq_true (by kernel_rfl)) (annOK_seq (annOK_nil _) (annOK_seq (annOK_nil _) (annOK_seq (annOK_nil _) (annOK_seq (annOK_nil _) (annOK_seq (annOK_nil _) (annOK_jseq (annOK_nil _) (annOK_seq (annOK_seq (annOK_nil _) (annOK_block (annOK_loop (integer_Text.l0_ok k)))) (annOK_nil _)))))))) (integer_Text.ev k)

theorem rational_Text.tab_ok (k : Nat) : ∀ E ∈ rational_Text.tab k, SpecOK Go.Proofs.Try.prog E := (forall_cons (rational_check.spec k) (forall_cons (integer_Text.spec k) forall_nil))
theorem rational_Text.spec (k : Nat) : SpecOK Go.Proofs.Try.prog (rational_Text.E k) :=
  fn_ok (c := bodyOf Go.Proofs.Try.f50) tt_ok (rational_Text.tab_ok k) follows Go.Proofs.Try.func50 rfl (name_ne (by kernel_rfl)) (by kernel_rfl) (Nat.le_of_ble_eq_true (by kernel_rfl)) (Nat.le_of_ble_eq_true (by kernel_rfl)) (annOK_seq (annOK_nil _) (annOK_seq (annOK_nil _) (annOK_seq (annOK_nil _) (annOK_jseq (annOK_nil _) (annOK_nil _))))) (rational_Text.ev k)

theorem brindlewoodref3_trim_v.tab_ok (k : Nat) : ∀ E ∈ brindlewoodref3_trim_v.tab k, SpecOK Go.Proofs.Try.prog E := forall_nil
theorem brindlewoodref3_trim_v.l0_ok (k : Nat) : LoopOK Go.Proofs.Try.prog Go.Proofs.Try.f61.ntmps (finOf tt brindlewoodref3_trim_v.B Go.Proofs.Try.f61.results.toList) (cAt [1, 0, 0, 0] (bodyOf Go.Proofs.Try.f61)) brindlewoodref3_trim_v.M0 brindlewoodref3_trim_v.O0 0 (fun x => brindlewoodref3_trim_v.l0 k k x.1 x.2) :=
  loop_ok (R0 := denB brindlewoodref3_trim_v.B) (M := brindlewoodref3_trim_v.M0) (O := brindlewoodref3_trim_v.O0) (L := fun m (x : brindlewoodref3_trim_v.M0.den) => brindlewoodref3_trim_v.l0 k m x.1 x.2) tt_ok (brindlewoodref3_trim_v.tab_ok k) follows (ann := .nil) (annOK_nil _) (fun _ => rfl) (fun m x => brindlewoodref3_trim_v.l0_ev k m x) k
theorem brindlewoodref3_trim_v.spec (k : Nat) : SpecOK Go.Proofs.Try.prog (brindlewoodref3_trim_v.E k) :=
  fn_ok (c := bodyOf Go.Proofs.Try.f61) tt_ok (brindlewoodref3_trim_v.tab_ok k) follows Go.Proofs.Try.func61 rfl (name_ne (by kernel_rfl)) (by kernel_rfl) (Nat.le_of_ble_eq_true (by kernel_rfl)) (Nat.le_of_ble_eq_true (by kernel_rfl)) (annOK_seq (annOK_nil _) (annOK_seq (annOK_block (annOK_loop (brindlewoodref3_trim_v.l0_ok k))) (annOK_nil _))) (brindlewoodref3_trim_v.ev k)

theorem brindlewoodref3_Binary.tab_ok (k : Nat) : ∀ E ∈ brindlewoodref3_Binary.tab k, SpecOK Go.Proofs.Try.prog E := (forall_cons (brindlewoodref3_trim_v.spec k) forall_nil)
theorem brindlewoodref3_Binary.l1_ok (k : Nat) : LoopOK Go.Proofs.Try.prog Go.Proofs.Try.f60.ntmps (finOf tt brindlewoodref3_Binary.B Go.Proofs.Try.f60.results.toList) (cAt [1, 1, 0, 1, 0, 0, 1, 0, 0, 1, 0, 1, 0, 0] (bodyOf Go.Proofs.Try.f60)) brindlewoodref3_Binary.M1 brindlewoodref3_Binary.O1 2 (fun x => brindlewoodref3_Binary.l1 k k x.1 x.2.1 x.2.2.1 x.2.2.2.1 x.2.2.2.2) :=
  loop_ok (R0 := denB brindlewoodref3_Binary.B) (M := brindlewoodref3_Binary.M1) (O := brindlewoodref3_Binary.O1) (L := fun m (x : brindlewoodref3_Binary.M1.den) => brindlewoodref3_Binary.l1 k m x.1 x.2.1 x.2.2.1 x.2.2.2.1 x.2.2.2.2) tt_ok (brindlewoodref3_Binary.tab_ok k) follows (ann := .nil) (annOK_nil _) (fun _ => rfl) (fun m x => brindlewoodref3_Binary.l1_ev k m x) k
theorem brindlewoodref3_Binary.l0_ok (k : Nat) : LoopOK Go.Proofs.Try.prog Go.Proofs.Try.f60.ntmps (finOf tt brindlewoodref3_Binary.B Go.Proofs.Try.f60.results.toList) (cAt [1, 1, 0, 1, 0, 0] (bodyOf Go.Proofs.Try.f60)) brindlewoodref3_Binary.M0 brindlewoodref3_Binary.O0 0 (fun x => brindlewoodref3_Binary.l0 k k x.1 x.2.1 x.2.2) :=
  loop_ok (R0 := denB brindlewoodref3_Binary.B) (M := brindlewoodref3_Binary.M0) (O := brindlewoodref3_Binary.O0) (L := fun m (x : brindlewoodref3_Binary.M0.den) => brindlewoodref3_Binary.l0 k m x.1 x.2.1 x.2.2) tt_ok (brindlewoodref3_Binary.tab_ok k) follows (ann := (.seq .nil (.seq (.block (.seq .nil (.seq (.seq .nil (.block (brindlewoodref3_Binary.an1 k))) .nil))) .nil))) (annOK_seq (annOK_nil _) (annOK_seq (annOK_block (annOK_seq (annOK_nil _) (annOK_seq (annOK_seq (annOK_nil _) (annOK_block (annOK_loop (brindlewoodref3_Binary.l1_ok k)))) (annOK_nil _)))) (annOK_nil _))) (fun _ => rfl) (fun m x => brindlewoodref3_Binary.l0_ev k m x) k
theorem brindlewoodref3_Binary.spec (k : Nat) : SpecOK Go.Proofs.Try.prog (brindlewoodref3_Binary.E k) :=
  fn_ok (c := bodyOf Go.Proofs.Try.f60) tt_ok (brindlewoodref3_Binary.tab_ok k) follows Go.Proofs.Try.func60 rfl (name_ne (by kernel_rfl)) (by kernel_rfl) (Nat.le_of_ble_eq_true (by kernel_rfl)) (Nat.le_of_ble_eq_true (by kernel_rfl)) (annOK_seq (annOK_nil _) (annOK_seq (annOK_nil _) (annOK_seq (annOK_seq (annOK_nil _) (annOK_block (annOK_loop (brindlewoodref3_Binary.l0_ok k)))) (annOK_nil _)))) (brindlewoodref3_Binary.ev k)

theorem brindlewoodref3_Number.tab_ok (k : Nat) : ∀ E ∈ brindlewoodref3_Number.tab k, SpecOK Go.Proofs.Try.prog E := (forall_cons (brindlewoodref3_Binary.spec k) forall_nil)
theorem brindlewoodref3_Number.l0_ok (k : Nat) : LoopOK Go.Proofs.Try.prog Go.Proofs.Try.f17.ntmps (finOf tt brindlewoodref3_Number.B Go.Proofs.Try.f17.results.toList) (cAt [1, 1, 1, 0, 0, 0] (bodyOf Go.Proofs.Try.f17)) brindlewoodref3_Number.M0 brindlewoodref3_Number.O0 0 (fun x => brindlewoodref3_Number.l0 k k x.1 x.2.1 x.2.2.1 x.2.2.2) :=
  loop_ok (R0 := denB brindlewoodref3_Number.B) (M := brindlewoodref3_Number.M0) (O := brindlewoodref3_Number.O0) (L := fun m (x : brindlewoodref3_Number.M0.den) => brindlewoodref3_Number.l0 k m x.1 x.2.1 x.2.2.1 x.2.2.2) tt_ok (brindlewoodref3_Number.tab_ok k) follows (ann := .nil) (annOK_nil _) (fun _ => rfl) (fun m x => brindlewoodref3_Number.l0_ev k m x) k
theorem brindlewoodref3_Number.spec (k : Nat) : SpecOK Go.Proofs.Try.prog (brindlewoodref3_Number.E k) :=
  fn_ok (c := bodyOf Go.Proofs.Try.f17) tt_ok (brindlewoodref3_Number.tab_ok k) follows Go.Proofs.Try.func17 rfl (name_ne (by kernel_rfl)) (by kernel_rfl) (Nat.le_of_ble_eq_true (by kernel_rfl)) (Nat.le_of_ble_eq_true (by kernel_rfl)) (annOK_seq (annOK_nil _) (annOK_seq (annOK_nil _) (annOK_seq (annOK_nil _) (annOK_seq (annOK_block (annOK_loop (brindlewoodref3_Number.l0_ok k))) (annOK_nil _))))) (brindlewoodref3_Number.ev k)

theorem brindlewoodref3_Limbs.tab_ok (k : Nat) : ∀ E ∈ brindlewoodref3_Limbs.tab k, SpecOK Go.Proofs.Try.prog E := forall_nil
theorem brindlewoodref3_Limbs.l0_ok (k : Nat) : LoopOK Go.Proofs.Try.prog Go.Proofs.Try.f71.ntmps (finOf tt brindlewoodref3_Limbs.B Go.Proofs.Try.f71.results.toList) (cAt [1, 1, 0, 1, 0, 0] (bodyOf Go.Proofs.Try.f71)) brindlewoodref3_Limbs.M0 brindlewoodref3_Limbs.O0 0 (fun x => brindlewoodref3_Limbs.l0 k k x.1 x.2.1 x.2.2) :=
  loop_ok (R0 := denB brindlewoodref3_Limbs.B) (M := brindlewoodref3_Limbs.M0) (O := brindlewoodref3_Limbs.O0) (L := fun m (x : brindlewoodref3_Limbs.M0.den) => brindlewoodref3_Limbs.l0 k m x.1 x.2.1 x.2.2) tt_ok (brindlewoodref3_Limbs.tab_ok k) follows (ann := .nil) (annOK_nil _) (fun _ => rfl) (fun m x => brindlewoodref3_Limbs.l0_ev k m x) k
theorem brindlewoodref3_Limbs.spec (k : Nat) : SpecOK Go.Proofs.Try.prog (brindlewoodref3_Limbs.E k) :=
  fn_ok (c := bodyOf Go.Proofs.Try.f71) tt_ok (brindlewoodref3_Limbs.tab_ok k) follows Go.Proofs.Try.func71 rfl (name_ne (by kernel_rfl)) (by kernel_rfl) (Nat.le_of_ble_eq_true (by kernel_rfl)) (Nat.le_of_ble_eq_true (by kernel_rfl)) (annOK_seq (annOK_nil _) (annOK_seq (annOK_nil _) (annOK_seq (annOK_seq (annOK_nil _) (annOK_block (annOK_loop (brindlewoodref3_Limbs.l0_ok k)))) (annOK_nil _)))) (brindlewoodref3_Limbs.ev k)

theorem brindlewoodref3_SameLimbs.tab_ok (k : Nat) : ∀ E ∈ brindlewoodref3_SameLimbs.tab k, SpecOK Go.Proofs.Try.prog E := forall_nil
theorem brindlewoodref3_SameLimbs.l0_ok (k : Nat) : LoopOK Go.Proofs.Try.prog Go.Proofs.Try.f70.ntmps (finOf tt brindlewoodref3_SameLimbs.B Go.Proofs.Try.f70.results.toList) (cAt [1, 1, 0, 1, 0, 0] (bodyOf Go.Proofs.Try.f70)) brindlewoodref3_SameLimbs.M0 brindlewoodref3_SameLimbs.O0 0 (fun x => brindlewoodref3_SameLimbs.l0 k k x.1 x.2.1 x.2.2) :=
  loop_ok (R0 := denB brindlewoodref3_SameLimbs.B) (M := brindlewoodref3_SameLimbs.M0) (O := brindlewoodref3_SameLimbs.O0) (L := fun m (x : brindlewoodref3_SameLimbs.M0.den) => brindlewoodref3_SameLimbs.l0 k m x.1 x.2.1 x.2.2) tt_ok (brindlewoodref3_SameLimbs.tab_ok k) follows (ann := .nil) (annOK_nil _) (fun _ => rfl) (fun m x => brindlewoodref3_SameLimbs.l0_ev k m x) k
theorem brindlewoodref3_SameLimbs.spec (k : Nat) : SpecOK Go.Proofs.Try.prog (brindlewoodref3_SameLimbs.E k) :=
  fn_ok (c := bodyOf Go.Proofs.Try.f70) tt_ok (brindlewoodref3_SameLimbs.tab_ok k) follows Go.Proofs.Try.func70 rfl (name_ne (by kernel_rfl)) (by kernel_rfl) (Nat.le_of_ble_eq_true (by kernel_rfl)) (Nat.le_of_ble_eq_true (by kernel_rfl)) (annOK_seq (annOK_nil _) (annOK_seq (annOK_nil _) (annOK_seq (annOK_seq (annOK_nil _) (annOK_block (annOK_loop (brindlewoodref3_SameLimbs.l0_ok k)))) (annOK_nil _)))) (brindlewoodref3_SameLimbs.ev k)

theorem brindlewoodref3_SameInt.tab_ok (k : Nat) : ∀ E ∈ brindlewoodref3_SameInt.tab k, SpecOK Go.Proofs.Try.prog E := (forall_cons (brindlewoodref3_Limbs.spec k) (forall_cons (brindlewoodref3_SameLimbs.spec k) forall_nil))
theorem brindlewoodref3_SameInt.spec (k : Nat) : SpecOK Go.Proofs.Try.prog (brindlewoodref3_SameInt.E k) :=
  fn_ok (c := bodyOf Go.Proofs.Try.f29) tt_ok (brindlewoodref3_SameInt.tab_ok k) follows Go.Proofs.Try.func29 rfl (name_ne (by kernel_rfl)) (by kernel_rfl) (Nat.le_of_ble_eq_true (by kernel_rfl)) (Nat.le_of_ble_eq_true (by kernel_rfl)) (annOK_nil _) (brindlewoodref3_SameInt.ev k)

theorem brindlewoodlaw3_parts.tab_ok (k : Nat) : ∀ E ∈ brindlewoodlaw3_parts.tab k, SpecOK Go.Proofs.Try.prog E := (forall_cons (integer_Of.spec k) (forall_cons (rational_Make.spec k) (forall_cons (rational_Nearest.spec k) (forall_cons (rational_Text.spec k) (forall_cons (brindlewoodref3_Number.spec k) (forall_cons (brindlewoodref3_SameInt.spec k) forall_nil))))))
theorem brindlewoodlaw3_parts.spec (k : Nat) : SpecOK Go.Proofs.Try.prog (brindlewoodlaw3_parts.E k) :=
  fn_ok (c := bodyOf Go.Proofs.Try.f9) tt_ok (brindlewoodlaw3_parts.tab_ok k) follows Go.Proofs.Try.func9 rfl (name_ne (by kernel_rfl)) (by kernel_rfl) (Nat.le_of_ble_eq_true (by kernel_rfl)) (Nat.le_of_ble_eq_true (by kernel_rfl)) (annOK_nil _) (brindlewoodlaw3_parts.ev k)

theorem brindlewoodref3_IntOk.tab_ok  : ∀ E ∈ brindlewoodref3_IntOk.tab, SpecOK Go.Proofs.Try.prog E := forall_nil
theorem brindlewoodref3_IntOk.spec  : SpecOK Go.Proofs.Try.prog (brindlewoodref3_IntOk.E) :=
  fn_ok (c := bodyOf Go.Proofs.Try.f51) tt_ok (brindlewoodref3_IntOk.tab_ok) follows Go.Proofs.Try.func51 rfl (name_ne (by kernel_rfl)) (by kernel_rfl) (Nat.le_of_ble_eq_true (by kernel_rfl)) (Nat.le_of_ble_eq_true (by kernel_rfl)) (annOK_nil _) brindlewoodref3_IntOk.ev

theorem brindlewoodref3_Of.tab_ok (k : Nat) : ∀ E ∈ brindlewoodref3_Of.tab k, SpecOK Go.Proofs.Try.prog E := (forall_cons (brindlewoodref3_trim_v.spec k) forall_nil)
theorem brindlewoodref3_Of.l0_ok (k : Nat) : LoopOK Go.Proofs.Try.prog Go.Proofs.Try.f47.ntmps (finOf tt brindlewoodref3_Of.B Go.Proofs.Try.f47.results.toList) (cAt [1, 1, 0, 1, 0, 0] (bodyOf Go.Proofs.Try.f47)) brindlewoodref3_Of.M0 brindlewoodref3_Of.O0 0 (fun x => brindlewoodref3_Of.l0 k k x.1 x.2.1 x.2.2) :=
  loop_ok (R0 := denB brindlewoodref3_Of.B) (M := brindlewoodref3_Of.M0) (O := brindlewoodref3_Of.O0) (L := fun m (x : brindlewoodref3_Of.M0.den) => brindlewoodref3_Of.l0 k m x.1 x.2.1 x.2.2) tt_ok (brindlewoodref3_Of.tab_ok k) follows (ann := .nil) (annOK_nil _) (fun _ => rfl) (fun m x => brindlewoodref3_Of.l0_ev k m x) k
theorem brindlewoodref3_Of.spec (k : Nat) : SpecOK Go.Proofs.Try.prog (brindlewoodref3_Of.E k) :=
  fn_ok (c := bodyOf Go.Proofs.Try.f47) tt_ok (brindlewoodref3_Of.tab_ok k) follows Go.Proofs.Try.func47 rfl (name_ne (by kernel_rfl)) (by kernel_rfl) (Nat.le_of_ble_eq_true (by kernel_rfl)) (Nat.le_of_ble_eq_true (by kernel_rfl)) (annOK_seq (annOK_nil _) (annOK_seq (annOK_nil _) (annOK_seq (annOK_seq (annOK_nil _) (annOK_block (annOK_loop (brindlewoodref3_Of.l0_ok k)))) (annOK_nil _)))) (brindlewoodref3_Of.ev k)

theorem brindlewoodref3_Halve.tab_ok (k : Nat) : ∀ E ∈ brindlewoodref3_Halve.tab k, SpecOK Go.Proofs.Try.prog E := (forall_cons (brindlewoodref3_trim_v.spec k) forall_nil)
theorem brindlewoodref3_Halve.l0_ok (k : Nat) : LoopOK Go.Proofs.Try.prog Go.Proofs.Try.f83.ntmps (finOf tt brindlewoodref3_Halve.B Go.Proofs.Try.f83.results.toList) (cAt [1, 1, 1, 0, 1, 0, 0] (bodyOf Go.Proofs.Try.f83)) brindlewoodref3_Halve.M0 brindlewoodref3_Halve.O0 0 (fun x => brindlewoodref3_Halve.l0 k k x.1 x.2.1 x.2.2.1 x.2.2.2.1 x.2.2.2.2) :=
  loop_ok (R0 := denB brindlewoodref3_Halve.B) (M := brindlewoodref3_Halve.M0) (O := brindlewoodref3_Halve.O0) (L := fun m (x : brindlewoodref3_Halve.M0.den) => brindlewoodref3_Halve.l0 k m x.1 x.2.1 x.2.2.1 x.2.2.2.1 x.2.2.2.2) tt_ok (brindlewoodref3_Halve.tab_ok k) follows (ann := .nil) (annOK_nil _) (fun _ => rfl) (fun m x => brindlewoodref3_Halve.l0_ev k m x) k
theorem brindlewoodref3_Halve.spec (k : Nat) : SpecOK Go.Proofs.Try.prog (brindlewoodref3_Halve.E k) :=
  fn_ok (c := bodyOf Go.Proofs.Try.f83) tt_ok (brindlewoodref3_Halve.tab_ok k) follows Go.Proofs.Try.func83 rfl (name_ne (by kernel_rfl)) (by kernel_rfl) (Nat.le_of_ble_eq_true (by kernel_rfl)) (Nat.le_of_ble_eq_true (by kernel_rfl)) (annOK_seq (annOK_nil _) (annOK_seq (annOK_nil _) (annOK_seq (annOK_nil _) (annOK_seq (annOK_seq (annOK_nil _) (annOK_block (annOK_loop (brindlewoodref3_Halve.l0_ok k)))) (annOK_nil _))))) (brindlewoodref3_Halve.ev k)

theorem brindlewoodref3_Compare.tab_ok (k : Nat) : ∀ E ∈ brindlewoodref3_Compare.tab k, SpecOK Go.Proofs.Try.prog E := forall_nil
theorem brindlewoodref3_Compare.l0_ok (k : Nat) : LoopOK Go.Proofs.Try.prog Go.Proofs.Try.f52.ntmps (finOf tt brindlewoodref3_Compare.B Go.Proofs.Try.f52.results.toList) (cAt [1, 1, 0, 1, 0, 0] (bodyOf Go.Proofs.Try.f52)) brindlewoodref3_Compare.M0 brindlewoodref3_Compare.O0 0 (fun x => brindlewoodref3_Compare.l0 k k x.1 x.2.1 x.2.2) :=
  loop_ok (R0 := denB brindlewoodref3_Compare.B) (M := brindlewoodref3_Compare.M0) (O := brindlewoodref3_Compare.O0) (L := fun m (x : brindlewoodref3_Compare.M0.den) => brindlewoodref3_Compare.l0 k m x.1 x.2.1 x.2.2) tt_ok (brindlewoodref3_Compare.tab_ok k) follows (ann := .nil) (annOK_nil _) (fun _ => rfl) (fun m x => brindlewoodref3_Compare.l0_ev k m x) k
theorem brindlewoodref3_Compare.spec (k : Nat) : SpecOK Go.Proofs.Try.prog (brindlewoodref3_Compare.E k) :=
  fn_ok (c := bodyOf Go.Proofs.Try.f52) tt_ok (brindlewoodref3_Compare.tab_ok k) follows Go.Proofs.Try.func52 rfl (name_ne (by kernel_rfl)) (by kernel_rfl) (Nat.le_of_ble_eq_true (by kernel_rfl)) (Nat.le_of_ble_eq_true (by kernel_rfl)) (annOK_seq (annOK_nil _) (annOK_seq (annOK_nil _) (annOK_seq (annOK_seq (annOK_nil _) (annOK_block (annOK_loop (brindlewoodref3_Compare.l0_ok k)))) (annOK_nil _)))) (brindlewoodref3_Compare.ev k)

theorem brindlewoodref3_Minus.tab_ok (k : Nat) : ∀ E ∈ brindlewoodref3_Minus.tab k, SpecOK Go.Proofs.Try.prog E := (forall_cons (brindlewoodref3_trim_v.spec k) forall_nil)
theorem brindlewoodref3_Minus.l0_ok (k : Nat) : LoopOK Go.Proofs.Try.prog Go.Proofs.Try.f69.ntmps (finOf tt brindlewoodref3_Minus.B Go.Proofs.Try.f69.results.toList) (cAt [1, 1, 1, 0, 1, 0, 0] (bodyOf Go.Proofs.Try.f69)) brindlewoodref3_Minus.M0 brindlewoodref3_Minus.O0 0 (fun x => brindlewoodref3_Minus.l0 k k x.1 x.2.1 x.2.2.1 x.2.2.2.1 x.2.2.2.2) :=
  loop_ok (R0 := denB brindlewoodref3_Minus.B) (M := brindlewoodref3_Minus.M0) (O := brindlewoodref3_Minus.O0) (L := fun m (x : brindlewoodref3_Minus.M0.den) => brindlewoodref3_Minus.l0 k m x.1 x.2.1 x.2.2.1 x.2.2.2.1 x.2.2.2.2) tt_ok (brindlewoodref3_Minus.tab_ok k) follows (ann := (.seq .nil (.seq (.block (.seq .nil (.jseq ⟨[.dat 0 (.list (.int .i64)), .dat 1 (.list (.int .i64)), .own 5 (.int .i64), .dat 7 (.int .i64), .dat 8 (.int .i64)], []⟩ .nil .nil))) .nil))) (annOK_seq (annOK_nil _) (annOK_seq (annOK_block (annOK_seq (annOK_nil _) (annOK_jseq (annOK_nil _) (annOK_nil _)))) (annOK_nil _))) (fun _ => rfl) (fun m x => brindlewoodref3_Minus.l0_ev k m x) k
theorem brindlewoodref3_Minus.spec (k : Nat) : SpecOK Go.Proofs.Try.prog (brindlewoodref3_Minus.E k) :=
  fn_ok (c := bodyOf Go.Proofs.Try.f69) tt_ok (brindlewoodref3_Minus.tab_ok k) follows Go.Proofs.Try.func69 rfl (name_ne (by kernel_rfl)) (by kernel_rfl) (Nat.le_of_ble_eq_true (by kernel_rfl)) (Nat.le_of_ble_eq_true (by kernel_rfl)) (annOK_seq (annOK_nil _) (annOK_seq (annOK_nil _) (annOK_seq (annOK_nil _) (annOK_seq (annOK_seq (annOK_nil _) (annOK_block (annOK_loop (brindlewoodref3_Minus.l0_ok k)))) (annOK_nil _))))) (brindlewoodref3_Minus.ev k)

theorem brindlewoodref3_Plus.tab_ok (k : Nat) : ∀ E ∈ brindlewoodref3_Plus.tab k, SpecOK Go.Proofs.Try.prog E := (forall_cons (brindlewoodref3_trim_v.spec k) forall_nil)
theorem brindlewoodref3_Plus.l0_ok (k : Nat) : LoopOK Go.Proofs.Try.prog Go.Proofs.Try.f68.ntmps (finOf tt brindlewoodref3_Plus.B Go.Proofs.Try.f68.results.toList) (cAt [1, 1, 1, 0, 1, 0, 0] (bodyOf Go.Proofs.Try.f68)) brindlewoodref3_Plus.M0 brindlewoodref3_Plus.O0 0 (fun x => brindlewoodref3_Plus.l0 k k x.1 x.2.1 x.2.2.1 x.2.2.2.1 x.2.2.2.2) :=
  loop_ok (R0 := denB brindlewoodref3_Plus.B) (M := brindlewoodref3_Plus.M0) (O := brindlewoodref3_Plus.O0) (L := fun m (x : brindlewoodref3_Plus.M0.den) => brindlewoodref3_Plus.l0 k m x.1 x.2.1 x.2.2.1 x.2.2.2.1 x.2.2.2.2) tt_ok (brindlewoodref3_Plus.tab_ok k) follows (ann := (.seq .nil (.seq (.block (.jseq ⟨[.dat 0 (.list (.int .i64)), .dat 1 (.list (.int .i64)), .own 5 (.int .i64), .dat 6 (.int .i64), .dat 7 (.int .i64)], []⟩ .nil .nil)) .nil))) (annOK_seq (annOK_nil _) (annOK_seq (annOK_block (annOK_jseq (annOK_nil _) (annOK_nil _))) (annOK_nil _))) (fun _ => rfl) (fun m x => brindlewoodref3_Plus.l0_ev k m x) k
theorem brindlewoodref3_Plus.spec (k : Nat) : SpecOK Go.Proofs.Try.prog (brindlewoodref3_Plus.E k) :=
  fn_ok (c := bodyOf Go.Proofs.Try.f68) tt_ok (brindlewoodref3_Plus.tab_ok k) follows Go.Proofs.Try.func68 rfl (name_ne (by kernel_rfl)) (by kernel_rfl) (Nat.le_of_ble_eq_true (by kernel_rfl)) (Nat.le_of_ble_eq_true (by kernel_rfl)) (annOK_seq (annOK_nil _) (annOK_seq (annOK_nil _) (annOK_seq (annOK_nil _) (annOK_seq (annOK_seq (annOK_nil _) (annOK_block (annOK_loop (brindlewoodref3_Plus.l0_ok k)))) (annOK_nil _))))) (brindlewoodref3_Plus.ev k)

theorem brindlewoodref3_Double.tab_ok (k : Nat) : ∀ E ∈ brindlewoodref3_Double.tab k, SpecOK Go.Proofs.Try.prog E := (forall_cons (brindlewoodref3_trim_v.spec k) forall_nil)
theorem brindlewoodref3_Double.l0_ok (k : Nat) : LoopOK Go.Proofs.Try.prog Go.Proofs.Try.f18.ntmps (finOf tt brindlewoodref3_Double.B Go.Proofs.Try.f18.results.toList) (cAt [1, 1, 1, 1, 0, 1, 0, 0] (bodyOf Go.Proofs.Try.f18)) brindlewoodref3_Double.M0 brindlewoodref3_Double.O0 0 (fun x => brindlewoodref3_Double.l0 k k x.1 x.2.1 x.2.2.1 x.2.2.2) :=
  loop_ok (R0 := denB brindlewoodref3_Double.B) (M := brindlewoodref3_Double.M0) (O := brindlewoodref3_Double.O0) (L := fun m (x : brindlewoodref3_Double.M0.den) => brindlewoodref3_Double.l0 k m x.1 x.2.1 x.2.2.1 x.2.2.2) tt_ok (brindlewoodref3_Double.tab_ok k) follows (ann := .nil) (annOK_nil _) (fun _ => rfl) (fun m x => brindlewoodref3_Double.l0_ev k m x) k
theorem brindlewoodref3_Double.spec (k : Nat) : SpecOK Go.Proofs.Try.prog (brindlewoodref3_Double.E k) :=
  fn_ok (c := bodyOf Go.Proofs.Try.f18) tt_ok (brindlewoodref3_Double.tab_ok k) follows Go.Proofs.Try.func18 rfl (name_ne (by kernel_rfl)) (by kernel_rfl) (Nat.le_of_ble_eq_true (by kernel_rfl)) (Nat.le_of_ble_eq_true (by kernel_rfl)) (annOK_seq (annOK_nil _) (annOK_seq (annOK_nil _) (annOK_jseq (annOK_nil _) (annOK_seq (annOK_nil _) (annOK_seq (annOK_seq (annOK_nil _) (annOK_block (annOK_loop (brindlewoodref3_Double.l0_ok k)))) (annOK_nil _)))))) (brindlewoodref3_Double.ev k)

theorem brindlewoodref3_Common.tab_ok (k : Nat) : ∀ E ∈ brindlewoodref3_Common.tab k, SpecOK Go.Proofs.Try.prog E := (forall_cons (brindlewoodref3_Halve.spec k) (forall_cons (brindlewoodref3_Compare.spec k) (forall_cons (brindlewoodref3_Minus.spec k) (forall_cons (brindlewoodref3_Plus.spec k) (forall_cons (brindlewoodref3_Double.spec k) forall_nil)))))
theorem brindlewoodref3_Common.l1_ok (k : Nat) : LoopOK Go.Proofs.Try.prog Go.Proofs.Try.f53.ntmps (finOf tt brindlewoodref3_Common.B Go.Proofs.Try.f53.results.toList) (cAt [1, 1, 1, 1, 0, 0, 0] (bodyOf Go.Proofs.Try.f53)) brindlewoodref3_Common.M1 brindlewoodref3_Common.O1 3 (fun x => brindlewoodref3_Common.l1 k k x.1 x.2) :=
  loop_ok (R0 := denB brindlewoodref3_Common.B) (M := brindlewoodref3_Common.M1) (O := brindlewoodref3_Common.O1) (L := fun m (x : brindlewoodref3_Common.M1.den) => brindlewoodref3_Common.l1 k m x.1 x.2) tt_ok (brindlewoodref3_Common.tab_ok k) follows (ann := .nil) (annOK_nil _) (fun _ => rfl) (fun m x => brindlewoodref3_Common.l1_ev k m x) k
theorem brindlewoodref3_Common.l0_ok (k : Nat) : LoopOK Go.Proofs.Try.prog Go.Proofs.Try.f53.ntmps (finOf tt brindlewoodref3_Common.B Go.Proofs.Try.f53.results.toList) (cAt [1, 1, 0, 0, 0] (bodyOf Go.Proofs.Try.f53)) brindlewoodref3_Common.M0 brindlewoodref3_Common.O0 0 (fun x => brindlewoodref3_Common.l0 k k x.1 x.2.1 x.2.2) :=
  loop_ok (R0 := denB brindlewoodref3_Common.B) (M := brindlewoodref3_Common.M0) (O := brindlewoodref3_Common.O0) (L := fun m (x : brindlewoodref3_Common.M0.den) => brindlewoodref3_Common.l0 k m x.1 x.2.1 x.2.2) tt_ok (brindlewoodref3_Common.tab_ok k) follows (ann := (.seq .nil (.block (.block (.jseq ⟨[.dat 0 (.list (.int .i64)), .dat 1 (.list (.int .i64)), .dat 5 (.int .i64), .dat 11 (.list (.int .i64)), .dat 12 (.int .i64), .dat 13 (.bool), .dat 18 (.bool)], []⟩ .nil .nil))))) (annOK_seq (annOK_nil _) (annOK_block (annOK_block (annOK_jseq (annOK_nil _) (annOK_nil _))))) (fun _ => rfl) (fun m x => brindlewoodref3_Common.l0_ev k m x) k
theorem brindlewoodref3_Common.spec (k : Nat) : SpecOK Go.Proofs.Try.prog (brindlewoodref3_Common.E k) :=
  fn_ok (c := bodyOf Go.Proofs.Try.f53) tt_ok (brindlewoodref3_Common.tab_ok k) follows Go.Proofs.Try.func53 rfl (name_ne (by kernel_rfl)) (by kernel_rfl) (Nat.le_of_ble_eq_true (by kernel_rfl)) (Nat.le_of_ble_eq_true (by kernel_rfl)) (annOK_seq (annOK_nil _) (annOK_seq (annOK_nil _) (annOK_seq (annOK_block (annOK_loop (brindlewoodref3_Common.l0_ok k))) (annOK_seq (annOK_nil _) (annOK_seq (annOK_block (annOK_loop (brindlewoodref3_Common.l1_ok k))) (annOK_nil _)))))) (brindlewoodref3_Common.ev k)

theorem brindlewoodref3_Small.tab_ok (k : Nat) : ∀ E ∈ brindlewoodref3_Small.tab k, SpecOK Go.Proofs.Try.prog E := forall_nil
theorem brindlewoodref3_Small.l0_ok (k : Nat) : LoopOK Go.Proofs.Try.prog Go.Proofs.Try.f27.ntmps (finOf tt brindlewoodref3_Small.B Go.Proofs.Try.f27.results.toList) (cAt [1, 1, 0, 0, 0] (bodyOf Go.Proofs.Try.f27)) brindlewoodref3_Small.M0 brindlewoodref3_Small.O0 0 (fun x => brindlewoodref3_Small.l0 k k x.1 x.2) :=
  loop_ok (R0 := denB brindlewoodref3_Small.B) (M := brindlewoodref3_Small.M0) (O := brindlewoodref3_Small.O0) (L := fun m (x : brindlewoodref3_Small.M0.den) => brindlewoodref3_Small.l0 k m x.1 x.2) tt_ok (brindlewoodref3_Small.tab_ok k) follows (ann := .nil) (annOK_nil _) (fun _ => rfl) (fun m x => brindlewoodref3_Small.l0_ev k m x) k
theorem brindlewoodref3_Small.spec (k : Nat) : SpecOK Go.Proofs.Try.prog (brindlewoodref3_Small.E k) :=
  fn_ok (c := bodyOf Go.Proofs.Try.f27) tt_ok (brindlewoodref3_Small.tab_ok k) follows Go.Proofs.Try.func27 rfl (name_ne (by kernel_rfl)) (by kernel_rfl) (Nat.le_of_ble_eq_true (by kernel_rfl)) (Nat.le_of_ble_eq_true (by kernel_rfl)) (annOK_seq (annOK_nil _) (annOK_seq (annOK_nil _) (annOK_seq (annOK_block (annOK_loop (brindlewoodref3_Small.l0_ok k))) (annOK_nil _)))) (brindlewoodref3_Small.ev k)

theorem brindlewoodref3_RatioOk.tab_ok (k : Nat) : ∀ E ∈ brindlewoodref3_RatioOk.tab k, SpecOK Go.Proofs.Try.prog E := (forall_cons brindlewoodref3_IntOk.spec (forall_cons (brindlewoodref3_Of.spec k) (forall_cons (brindlewoodref3_Common.spec k) (forall_cons (brindlewoodref3_Small.spec k) (forall_cons (brindlewoodref3_Compare.spec k) forall_nil)))))
theorem brindlewoodref3_RatioOk.spec (k : Nat) : SpecOK Go.Proofs.Try.prog (brindlewoodref3_RatioOk.E k) :=
  fn_ok (c := bodyOf Go.Proofs.Try.f10) tt_ok (brindlewoodref3_RatioOk.tab_ok k) follows Go.Proofs.Try.func10 rfl (name_ne (by kernel_rfl)) (by kernel_rfl) (Nat.le_of_ble_eq_true (by kernel_rfl)) (Nat.le_of_ble_eq_true (by kernel_rfl)) (annOK_seq (annOK_nil _) (annOK_jseq (annOK_nil _) (annOK_nil _))) (brindlewoodref3_RatioOk.ev k)

theorem brindlewoodref3_At.tab_ok  : ∀ E ∈ brindlewoodref3_At.tab, SpecOK Go.Proofs.Try.prog E := forall_nil
theorem brindlewoodref3_At.spec  : SpecOK Go.Proofs.Try.prog (brindlewoodref3_At.E) :=
  fn_ok (c := bodyOf Go.Proofs.Try.f31) tt_ok (brindlewoodref3_At.tab_ok) follows Go.Proofs.Try.func31 rfl (name_ne (by kernel_rfl)) (by kernel_rfl) (Nat.le_of_ble_eq_true (by kernel_rfl)) (Nat.le_of_ble_eq_true (by kernel_rfl)) (annOK_nil _) brindlewoodref3_At.ev

theorem brindlewoodlaw3_ratioFaults.tab_ok (k : Nat) : ∀ E ∈ brindlewoodlaw3_ratioFaults.tab k, SpecOK Go.Proofs.Try.prog E := (forall_cons (brindlewoodref3_RatioOk.spec k) (forall_cons brindlewoodref3_At.spec forall_nil))
theorem brindlewoodlaw3_ratioFaults.l0_ok (k : Nat) : LoopOK Go.Proofs.Try.prog Go.Proofs.Try.f22.ntmps (finOf tt brindlewoodlaw3_ratioFaults.B Go.Proofs.Try.f22.results.toList) (cAt [1, 0, 1, 0, 0] (bodyOf Go.Proofs.Try.f22)) brindlewoodlaw3_ratioFaults.M0 brindlewoodlaw3_ratioFaults.O0 0 (fun x => brindlewoodlaw3_ratioFaults.l0 k k x.1 x.2.1 x.2.2) :=
  loop_ok (R0 := denB brindlewoodlaw3_ratioFaults.B) (M := brindlewoodlaw3_ratioFaults.M0) (O := brindlewoodlaw3_ratioFaults.O0) (L := fun m (x : brindlewoodlaw3_ratioFaults.M0.den) => brindlewoodlaw3_ratioFaults.l0 k m x.1 x.2.1 x.2.2) tt_ok (brindlewoodlaw3_ratioFaults.tab_ok k) follows (ann := .nil) (annOK_nil _) (fun _ => rfl) (fun m x => brindlewoodlaw3_ratioFaults.l0_ev k m x) k
theorem brindlewoodlaw3_ratioFaults.spec (k : Nat) : SpecOK Go.Proofs.Try.prog (brindlewoodlaw3_ratioFaults.E k) :=
  fn_ok (c := bodyOf Go.Proofs.Try.f22) tt_ok (brindlewoodlaw3_ratioFaults.tab_ok k) follows Go.Proofs.Try.func22 rfl (name_ne (by kernel_rfl)) (by kernel_rfl) (Nat.le_of_ble_eq_true (by kernel_rfl)) (Nat.le_of_ble_eq_true (by kernel_rfl)) (annOK_seq (annOK_nil _) (annOK_seq (annOK_seq (annOK_nil _) (annOK_block (annOK_loop (brindlewoodlaw3_ratioFaults.l0_ok k)))) (annOK_nil _))) (brindlewoodlaw3_ratioFaults.ev k)

theorem rational_plus.tab_ok (k : Nat) : ∀ E ∈ rational_plus.tab k, SpecOK Go.Proofs.Try.prog E := (forall_cons (natural_Mul.spec k) (forall_cons (natural_Add.spec k) (forall_cons (rational_reduced.spec k) (forall_cons (natural_Cmp.spec k) (forall_cons (natural_Sub.spec k) forall_nil)))))
theorem rational_plus.spec (k : Nat) : SpecOK Go.Proofs.Try.prog (rational_plus.E k) :=
  fn_ok (c := bodyOf Go.Proofs.Try.f72) tt_ok (rational_plus.tab_ok k) follows Go.Proofs.Try.func72 rfl (name_ne (by kernel_rfl)) (by kernel_rfl) (Nat.le_of_ble_eq_true (by kernel_rfl)) (Nat.le_of_ble_eq_true (by kernel_rfl)) (annOK_seq (annOK_nil _) (annOK_seq (annOK_nil _) (annOK_seq (annOK_nil _) (annOK_seq (annOK_nil _) (annOK_seq (annOK_nil _) (annOK_seq (annOK_nil _) (annOK_jseq (annOK_nil _) (annOK_nil _)))))))) (rational_plus.ev k)

theorem rational_Add.tab_ok (k : Nat) : ∀ E ∈ rational_Add.tab k, SpecOK Go.Proofs.Try.prog E := (forall_cons (rational_check.spec k) (forall_cons (rational_plus.spec k) forall_nil))
theorem rational_Add.spec (k : Nat) : SpecOK Go.Proofs.Try.prog (rational_Add.E k) :=
  fn_ok (c := bodyOf Go.Proofs.Try.f33) tt_ok (rational_Add.tab_ok k) follows Go.Proofs.Try.func33 rfl (name_ne (by kernel_rfl)) (by kernel_rfl) (Nat.le_of_ble_eq_true (by kernel_rfl)) (Nat.le_of_ble_eq_true (by kernel_rfl)) (annOK_nil _) (rational_Add.ev k)

theorem rational_Sub.tab_ok (k : Nat) : ∀ E ∈ rational_Sub.tab k, SpecOK Go.Proofs.Try.prog E := (forall_cons (rational_check.spec k) (forall_cons (rational_plus.spec k) forall_nil))
theorem rational_Sub.spec (k : Nat) : SpecOK Go.Proofs.Try.prog (rational_Sub.E k) :=
  fn_ok (c := bodyOf Go.Proofs.Try.f34) tt_ok (rational_Sub.tab_ok k) follows Go.Proofs.Try.func34 rfl (name_ne (by kernel_rfl)) (by kernel_rfl) (Nat.le_of_ble_eq_true (by kernel_rfl)) (Nat.le_of_ble_eq_true (by kernel_rfl)) (annOK_nil _) (rational_Sub.ev k)

theorem rational_Mul.tab_ok (k : Nat) : ∀ E ∈ rational_Mul.tab k, SpecOK Go.Proofs.Try.prog E := (forall_cons (rational_check.spec k) (forall_cons (natural_Mul.spec k) (forall_cons (rational_reduced.spec k) forall_nil)))
theorem rational_Mul.spec (k : Nat) : SpecOK Go.Proofs.Try.prog (rational_Mul.E k) :=
  fn_ok (c := bodyOf Go.Proofs.Try.f35) tt_ok (rational_Mul.tab_ok k) follows Go.Proofs.Try.func35 rfl (name_ne (by kernel_rfl)) (by kernel_rfl) (Nat.le_of_ble_eq_true (by kernel_rfl)) (Nat.le_of_ble_eq_true (by kernel_rfl)) (annOK_nil _) (rational_Mul.ev k)

theorem brindlewoodref3_IntOf.tab_ok (k : Nat) : ∀ E ∈ brindlewoodref3_IntOf.tab k, SpecOK Go.Proofs.Try.prog E := (forall_cons (brindlewoodref3_Of.spec k) forall_nil)
theorem brindlewoodref3_IntOf.spec (k : Nat) : SpecOK Go.Proofs.Try.prog (brindlewoodref3_IntOf.E k) :=
  fn_ok (c := bodyOf Go.Proofs.Try.f46) tt_ok (brindlewoodref3_IntOf.tab_ok k) follows Go.Proofs.Try.func46 rfl (name_ne (by kernel_rfl)) (by kernel_rfl) (Nat.le_of_ble_eq_true (by kernel_rfl)) (Nat.le_of_ble_eq_true (by kernel_rfl)) (annOK_nil _) (brindlewoodref3_IntOf.ev k)

theorem brindlewoodref3_RatioOf.tab_ok (k : Nat) : ∀ E ∈ brindlewoodref3_RatioOf.tab k, SpecOK Go.Proofs.Try.prog E := (forall_cons (brindlewoodref3_IntOf.spec k) (forall_cons (brindlewoodref3_Of.spec k) forall_nil))
theorem brindlewoodref3_RatioOf.spec (k : Nat) : SpecOK Go.Proofs.Try.prog (brindlewoodref3_RatioOf.E k) :=
  fn_ok (c := bodyOf Go.Proofs.Try.f13) tt_ok (brindlewoodref3_RatioOf.tab_ok k) follows Go.Proofs.Try.func13 rfl (name_ne (by kernel_rfl)) (by kernel_rfl) (Nat.le_of_ble_eq_true (by kernel_rfl)) (Nat.le_of_ble_eq_true (by kernel_rfl)) (annOK_nil _) (brindlewoodref3_RatioOf.ev k)

theorem brindlewoodref3_SameRatio.tab_ok (k : Nat) : ∀ E ∈ brindlewoodref3_SameRatio.tab k, SpecOK Go.Proofs.Try.prog E := (forall_cons (brindlewoodref3_SameInt.spec k) forall_nil)
theorem brindlewoodref3_SameRatio.spec (k : Nat) : SpecOK Go.Proofs.Try.prog (brindlewoodref3_SameRatio.E k) :=
  fn_ok (c := bodyOf Go.Proofs.Try.f30) tt_ok (brindlewoodref3_SameRatio.tab_ok k) follows Go.Proofs.Try.func30 rfl (name_ne (by kernel_rfl)) (by kernel_rfl) (Nat.le_of_ble_eq_true (by kernel_rfl)) (Nat.le_of_ble_eq_true (by kernel_rfl)) (annOK_nil _) (brindlewoodref3_SameRatio.ev k)

theorem brindlewoodref3_NoInt.tab_ok  : ∀ E ∈ brindlewoodref3_NoInt.tab, SpecOK Go.Proofs.Try.prog E := forall_nil
theorem brindlewoodref3_NoInt.spec  : SpecOK Go.Proofs.Try.prog (brindlewoodref3_NoInt.E) :=
  fn_ok (c := bodyOf Go.Proofs.Try.f23) tt_ok (brindlewoodref3_NoInt.tab_ok) follows Go.Proofs.Try.func23 rfl (name_ne (by kernel_rfl)) (by kernel_rfl) (Nat.le_of_ble_eq_true (by kernel_rfl)) (Nat.le_of_ble_eq_true (by kernel_rfl)) (annOK_nil _) brindlewoodref3_NoInt.ev

theorem rational_Div.tab_ok (k : Nat) : ∀ E ∈ rational_Div.tab k, SpecOK Go.Proofs.Try.prog E := (forall_cons (rational_check.spec k) (forall_cons rational_at.spec (forall_cons (natural_Mul.spec k) (forall_cons (rational_reduced.spec k) forall_nil))))
theorem rational_Div.spec (k : Nat) : SpecOK Go.Proofs.Try.prog (rational_Div.E k) :=
  fn_ok (c := bodyOf Go.Proofs.Try.f36) tt_ok (rational_Div.tab_ok k) follows Go.Proofs.Try.func36 rfl (name_ne (by kernel_rfl)) (by kernel_rfl) (Nat.le_of_ble_eq_true (by kernel_rfl)) (Nat.le_of_ble_eq_true (by kernel_rfl)) (annOK_nil _) (rational_Div.ev k)

theorem brindlewoodlaw3_RationalField.tab_ok (k : Nat) : ∀ E ∈ brindlewoodlaw3_RationalField.tab k, SpecOK Go.Proofs.Try.prog E := (forall_cons (brindlewoodlaw3_parts.spec k) (forall_cons (brindlewoodlaw3_ratioFaults.spec k) (forall_cons (rational_Add.spec k) (forall_cons (rational_Sub.spec k) (forall_cons (rational_Mul.spec k) (forall_cons (brindlewoodref3_RatioOf.spec k) (forall_cons (brindlewoodref3_SameRatio.spec k) (forall_cons (brindlewoodref3_RatioOk.spec k) (forall_cons brindlewoodref3_NoInt.spec (forall_cons (rational_Div.spec k) forall_nil))))))))))
theorem brindlewoodlaw3_RationalField.l0_ok (k : Nat) : LoopOK Go.Proofs.Try.prog Go.Proofs.Try.f6.ntmps (finOf tt brindlewoodlaw3_RationalField.B Go.Proofs.Try.f6.results.toList) (cAt [1, 1, 1, 0, 1, 0, 0] (bodyOf Go.Proofs.Try.f6)) brindlewoodlaw3_RationalField.M0 brindlewoodlaw3_RationalField.O0 0 (fun x => brindlewoodlaw3_RationalField.l0 k k x.1 x.2.1 x.2.2.1 x.2.2.2.1 x.2.2.2.2.1 x.2.2.2.2.2) :=
  loop_ok (R0 := denB brindlewoodlaw3_RationalField.B) (M := brindlewoodlaw3_RationalField.M0) (O := brindlewoodlaw3_RationalField.O0) (L := fun m (x : brindlewoodlaw3_RationalField.M0.den) => brindlewoodlaw3_RationalField.l0 k m x.1 x.2.1 x.2.2.1 x.2.2.2.1 x.2.2.2.2.1 x.2.2.2.2.2) tt_ok (brindlewoodlaw3_RationalField.tab_ok k) follows (ann := .nil) (annOK_nil _) (fun _ => rfl) (fun m x => brindlewoodlaw3_RationalField.l0_ev k m x) k
theorem brindlewoodlaw3_RationalField.spec (k : Nat) : SpecOK Go.Proofs.Try.prog (brindlewoodlaw3_RationalField.E k) :=
  fn_ok (c := bodyOf Go.Proofs.Try.f6) tt_ok (brindlewoodlaw3_RationalField.tab_ok k) follows Go.Proofs.Try.func6 rfl (name_ne (by kernel_rfl)) (by kernel_rfl) (Nat.le_of_ble_eq_true (by kernel_rfl)) (Nat.le_of_ble_eq_true (by kernel_rfl)) (annOK_seq (annOK_nil _) (annOK_seq (annOK_nil _) (annOK_seq (annOK_nil _) (annOK_seq (annOK_seq (annOK_nil _) (annOK_block (annOK_loop (brindlewoodlaw3_RationalField.l0_ok k)))) (annOK_seq (annOK_nil _) (annOK_seq (annOK_nil _) (annOK_seq (annOK_nil _) (annOK_seq (annOK_nil _) (annOK_seq (annOK_nil _) (annOK_seq (annOK_nil _) (annOK_jseq (annOK_nil _) (annOK_nil _)))))))))))) (brindlewoodlaw3_RationalField.ev k)
end Go.Sh
