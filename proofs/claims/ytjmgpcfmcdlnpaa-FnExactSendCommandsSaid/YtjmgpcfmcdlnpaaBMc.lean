/- The contracts of functions of the program: each computes what its plain form says. Conditions: none. -/
import Derived.Test.YtjmgpcfmcdlnpaaPMc
import Derived.Test.YtjmgpcfmcdlnpaaRows
import Derived.Test.YtjmgpcfmcdlnpaaBHa
set_option linter.unusedVariables false
set_option linter.unusedSimpArgs false
set_option maxRecDepth 100000
namespace Go.Proofs.Ytjmgpcfmcdlnpaa.Pl
open Vm
noncomputable section

def impl_SendCommands_c1_s : Sum := { ps := [⟨[.int .i64], false⟩, ⟨[.sl [.bool]], false⟩], rs := [⟨[.imm .bool], false⟩], fn := fun ds => (goneOk (rI ds 0) (rR ds 1), [.bool (gone (rI ds 0) (rR ds 1)).1] ++ [.int (gone (rI ds 0) (rR ds 1)).2.1] ++ [.sl (gone (rI ds 0) (rR ds 1)).2.2]), ms := [some (.box 3), some (.box 38)] }
def impl_SendCommands_c1_G : Ctx := []
theorem impl_SendCommands_c1_x : CtxHolds Try.prog impl_SendCommands_c1_G := ctx_nil
def impl_SendCommands_c1_A : List (Nat × Ann) := []
theorem impl_SendCommands_c1_r (N : Nat) (a0 : Int) (a1 : Rows) : runFM Try.prog impl_SendCommands_c1_G impl_SendCommands_c1_A N Try.f45 impl_SendCommands_c1_s (.int a0 :: (.sl a1 :: ([]))) = impl_SendCommands_c1_t Vm.bad (fun r0 r1 r2 => ((true, [.bool r0] ++ [.int r1] ++ [.sl r2]) : Res)) a0 a1 := by kernel_rfl
theorem impl_SendCommands_c1_h : HoldsM Try.prog 45 impl_SendCommands_c1_s := by
  refine holdsM_of_run (A := impl_SendCommands_c1_A) impl_SendCommands_c1_x Try.func45 rfl (by kernel_rfl) (of_decide_eq_true (by kernel_rfl)) (of_decide_eq_true (by kernel_rfl)) (by kernel_rfl) (fun ds => by kernel_rfl) ?_
  intro ds hw hok
  replace hw : WtL ((.int .i64) :: ((.sl [.bool]) :: ([]))) ds := hw
  obtain ⟨a0, ds, rfl, h_a0, hw⟩ := of_wt_int hw
  obtain ⟨a1, ds, rfl, h_a1, hw⟩ := of_wt_sl hw
  obtain rfl := of_wt_nil hw
  exact ⟨0, ((impl_SendCommands_c1_r 0 a0 a1).trans (impl_SendCommands_c1_c Vm.bad _ a0 a1 h_a0 h_a1 hok)).trans (by kernel_rfl)⟩

def impl_SendCommands_s : Sum := { ps := [⟨[.int .i64, .bool, .sl [.int .i64], .int .i64, .int .i64, .int .i64], true⟩, ⟨[.sl [.int .i64, .int .i64, .int .i64]], false⟩, ⟨[.sl [.bool]], false⟩], rs := [⟨[.imm (.int .i64), .imm .bool, .own 3 [.int .i64], .imm (.int .i64), .imm (.int .i64), .imm (.int .i64)], true⟩, ⟨[.own 3 [.int .i64]], false⟩], fn := fun ds => (SendCommands_ok (SMailbox.decAt ds 0) (rR ds 6) (rR ds 7), SMailbox.enc (SendCommands (SMailbox.decAt ds 0) (rR ds 6) (rR ds 7)).1 ++ [.sl (SendCommands (SMailbox.decAt ds 0) (rR ds 6) (rR ds 7)).2]) }
def impl_SendCommands_G : Ctx := [(11, impl_MailboxOk_s), (15, impl_HandleMessage_s), (43, impl_copyMailbox_s), (45, impl_SendCommands_c1_s)]
theorem impl_SendCommands_x : CtxHolds Try.prog impl_SendCommands_G := ctx_cons impl_MailboxOk_h (ctx_cons impl_HandleMessage_h (ctx_cons impl_copyMailbox_h (ctx_cons impl_SendCommands_c1_h ctx_nil)))
def impl_SendCommands_A : List (Nat × Ann) := [(8, { slots := [(3, .asis), (6, .asis), (8, .asis), (10, .asis), (11, .asis), (34, .asis), (35, .asis), (36, .asis)], boxes := [(192, []), (320, []), (384, []), (512, []), (576, [])] }), (11, { slots := [(3, .asis), (6, .asis), (8, .asis), (10, .asis), (11, .asis), (13, .asis), (34, .asis), (35, .asis), (36, .asis)], boxes := [(192, []), (320, []), (384, []), (512, []), (576, []), (832, [])] })]
def impl_SendCommands_K : SMailbox → Rows → Res := (fun r0 r1 => ((true, SMailbox.enc r0 ++ [.sl r1]) : Res))
def impl_SendCommands_m0 (list_ : Rows) (x_1 : Int) (x_2 : Int) (b_1 : Int) (b_2 : Bool) (b_3 : Rows) (b_4 : Int) (b_5 : Int) (b_6 : Int) (lost_1 : Rows) (b6 : Int) (b6_1 : Bool) (b6_2 : Int) (b6_3 : Int) (b6_4 : Int) (out_ : Int) (out_1 : Bool) (out_2 : Int) (out_3 : Int) (out_4 : Int) (at_ : Int) (answers : Rows) (out_2_1 : Rows) : St := { n := 66, sl := [(3, .ptr 192 0), (6, .ptr 384 0), (8, .ptr 512 0), (10, .clo 45 [.ptr 576 0, .ptr 320 0]), (11, .own 640704), (34, .sl [.int .i64, .int .i64, .int .i64] list_), (35, .int .i64 x_1), (36, .int .i64 x_2)], hp := [(192, .box 31 [.int .i64 b_1, .bool b_2, .sl [.int .i64] b_3, .int .i64 b_4, .int .i64 b_5, .int .i64 b_6]), (320, .box 38 [.sl [.bool] lost_1]), (384, .box 31 [.int .i64 b6, .bool b6_1, .nil, .int .i64 b6_2, .int .i64 b6_3, .int .i64 b6_4]), (512, .box 31 [.int .i64 out_, .bool out_1, .own 1411074, .int .i64 out_2, .int .i64 out_3, .int .i64 out_4]), (576, .box 3 [.int .i64 at_]), (640704, .row 3 [.int .i64] answers false true), (1411074, .row 3 [.int .i64] out_2_1 false true)], ok := true, ls := [], lm := [] }
def impl_SendCommands_m1 (list_ : Rows) (x_1 : Int) (x_2 : Int) (b_1 : Int) (b_2 : Bool) (b_3 : Rows) (b_4 : Int) (b_5 : Int) (b_6 : Int) (lost_2 : Rows) (b6 : Int) (b6_1 : Bool) (b6_2 : Int) (b6_3 : Int) (b6_4 : Int) (out_5 : Int) (out_6 : Bool) (out_7 : Int) (out_8 : Int) (out_9 : Int) (at_1 : Int) (x_6 : Int) (x_7 : Int) (x_8 : Int) (answers : Rows) (out_2_2 : Rows) : St := { n := 66, sl := [(3, .ptr 192 0), (6, .ptr 384 0), (8, .ptr 512 0), (10, .clo 45 [.ptr 576 0, .ptr 320 0]), (11, .own 640704), (13, .ptr 832 0), (34, .sl [.int .i64, .int .i64, .int .i64] list_), (35, .int .i64 x_1), (36, .int .i64 x_2)], hp := [(192, .box 31 [.int .i64 b_1, .bool b_2, .sl [.int .i64] b_3, .int .i64 b_4, .int .i64 b_5, .int .i64 b_6]), (320, .box 38 [.sl [.bool] lost_2]), (384, .box 31 [.int .i64 b6, .bool b6_1, .nil, .int .i64 b6_2, .int .i64 b6_3, .int .i64 b6_4]), (512, .box 31 [.int .i64 out_5, .bool out_6, .own 1411074, .int .i64 out_7, .int .i64 out_8, .int .i64 out_9]), (576, .box 3 [.int .i64 at_1]), (832, .box 42 [.int .i64 x_6, .int .i64 x_7, .int .i64 x_8]), (640704, .row 3 [.int .i64] answers false true), (1411074, .row 3 [.int .i64] out_2_2 false true)], ok := true, ls := [], lm := [] }
noncomputable def impl_SendCommands_B1 (N : Nat) (o0 : St → Res) : (St → Res) → St → Res := loopB Try.prog impl_SendCommands_G impl_SendCommands_A N Try.f18 impl_SendCommands_s [true, true, true, true, true, true, false, true, false, false, true, true, false, false, true, true, false] [o0]
noncomputable def impl_SendCommands_B0 (N : Nat) : (St → Res) → St → Res := loopB Try.prog impl_SendCommands_G impl_SendCommands_A N Try.f18 impl_SendCommands_s [true, true, true, true, true, true, false, true, false] []
theorem impl_SendCommands_b1 (N : Nat) (o0 : St → Res) (list_ : Rows) (x_1 : Int) (x_2 : Int) (b_1 : Int) (b_2 : Bool) (b_3 : Rows) (b_4 : Int) (b_5 : Int) (b_6 : Int) (b6 : Int) (b6_1 : Bool) (b6_2 : Int) (b6_3 : Int) (b6_4 : Int) (x_6 : Int) (x_7 : Int) (x_8 : Int) (answers : Rows) (ih : St → Res) (lost_2 : Rows) (out_5 : Int) (out_6 : Bool) (out_7 : Int) (out_8 : Int) (out_9 : Int) (at_1 : Int) (out_2_2 : Rows) : impl_SendCommands_B1 N o0 ih (impl_SendCommands_m1 list_ x_1 x_2 b_1 b_2 b_3 b_4 b_5 b_6 lost_2 b6 b6_1 b6_2 b6_3 b6_4 out_5 out_6 out_7 out_8 out_9 at_1 x_6 x_7 x_8 answers out_2_2) = impl_SendCommands_l1 Vm.bad impl_SendCommands_K (fun x_2 lost_1 out_ out_1 out_2 out_3 out_4 at_ answers out_2_1 => o0 (impl_SendCommands_m0 list_ x_1 x_2 b_1 b_2 b_3 b_4 b_5 b_6 lost_1 b6 b6_1 b6_2 b6_3 b6_4 out_ out_1 out_2 out_3 out_4 at_ answers out_2_1)) x_2 x_6 x_7 x_8 answers (fun lost_2 out_5 out_6 out_7 out_8 out_9 at_1 out_2_2 => ih (impl_SendCommands_m1 list_ x_1 x_2 b_1 b_2 b_3 b_4 b_5 b_6 lost_2 b6 b6_1 b6_2 b6_3 b6_4 out_5 out_6 out_7 out_8 out_9 at_1 x_6 x_7 x_8 answers out_2_2)) lost_2 out_5 out_6 out_7 out_8 out_9 at_1 out_2_2 := by kernel_rfl
theorem impl_SendCommands_n1 (N : Nat) (o0 : St → Res) (list_ : Rows) (x_1 : Int) (x_2 : Int) (b_1 : Int) (b_2 : Bool) (b_3 : Rows) (b_4 : Int) (b_5 : Int) (b_6 : Int) (b6 : Int) (b6_1 : Bool) (b6_2 : Int) (b6_3 : Int) (b6_4 : Int) (x_6 : Int) (x_7 : Int) (x_8 : Int) (answers : Rows) (m_ : Nat) : (fun lost_2 out_5 out_6 out_7 out_8 out_9 at_1 out_2_2 => loopN (impl_SendCommands_B1 N o0) m_ (impl_SendCommands_m1 list_ x_1 x_2 b_1 b_2 b_3 b_4 b_5 b_6 lost_2 b6 b6_1 b6_2 b6_3 b6_4 out_5 out_6 out_7 out_8 out_9 at_1 x_6 x_7 x_8 answers out_2_2)) = impl_SendCommands_L1 Vm.bad impl_SendCommands_K N (fun x_2 lost_1 out_ out_1 out_2 out_3 out_4 at_ answers out_2_1 => o0 (impl_SendCommands_m0 list_ x_1 x_2 b_1 b_2 b_3 b_4 b_5 b_6 lost_1 b6 b6_1 b6_2 b6_3 b6_4 out_ out_1 out_2 out_3 out_4 at_ answers out_2_1)) x_2 x_6 x_7 x_8 answers m_ := by
  induction m_ with
  | zero => rfl
  | succ m_ ih =>
    funext lost_2 out_5 out_6 out_7 out_8 out_9 at_1 out_2_2
    show impl_SendCommands_B1 N o0 (loopN (impl_SendCommands_B1 N o0) m_) (impl_SendCommands_m1 list_ x_1 x_2 b_1 b_2 b_3 b_4 b_5 b_6 lost_2 b6 b6_1 b6_2 b6_3 b6_4 out_5 out_6 out_7 out_8 out_9 at_1 x_6 x_7 x_8 answers out_2_2) = _
    rw [impl_SendCommands_b1 N o0 list_ x_1 x_2 b_1 b_2 b_3 b_4 b_5 b_6 b6 b6_1 b6_2 b6_3 b6_4 x_6 x_7 x_8 answers]
    rw [ih]
    rfl
theorem impl_SendCommands_b0 (N : Nat) (list_ : Rows) (x_1 : Int) (b_1 : Int) (b_2 : Bool) (b_3 : Rows) (b_4 : Int) (b_5 : Int) (b_6 : Int) (b6 : Int) (b6_1 : Bool) (b6_2 : Int) (b6_3 : Int) (b6_4 : Int) (ih : St → Res) (x_2 : Int) (lost_1 : Rows) (out_ : Int) (out_1 : Bool) (out_2 : Int) (out_3 : Int) (out_4 : Int) (at_ : Int) (answers : Rows) (out_2_1 : Rows) : impl_SendCommands_B0 N ih (impl_SendCommands_m0 list_ x_1 x_2 b_1 b_2 b_3 b_4 b_5 b_6 lost_1 b6 b6_1 b6_2 b6_3 b6_4 out_ out_1 out_2 out_3 out_4 at_ answers out_2_1) = impl_SendCommands_l0 Vm.bad impl_SendCommands_K (fun x_2 x_6 x_7 x_8 answers lost_2 out_5 out_6 out_7 out_8 out_9 at_1 out_2_2 => loopN (impl_SendCommands_B1 N ih) N (impl_SendCommands_m1 list_ x_1 x_2 b_1 b_2 b_3 b_4 b_5 b_6 lost_2 b6 b6_1 b6_2 b6_3 b6_4 out_5 out_6 out_7 out_8 out_9 at_1 x_6 x_7 x_8 answers out_2_2)) list_ x_1 b_4 (fun x_2 lost_1 out_ out_1 out_2 out_3 out_4 at_ answers out_2_1 => ih (impl_SendCommands_m0 list_ x_1 x_2 b_1 b_2 b_3 b_4 b_5 b_6 lost_1 b6 b6_1 b6_2 b6_3 b6_4 out_ out_1 out_2 out_3 out_4 at_ answers out_2_1)) x_2 lost_1 out_ out_1 out_2 out_3 out_4 at_ answers out_2_1 := by kernel_rfl
theorem impl_SendCommands_n0 (N : Nat) (list_ : Rows) (x_1 : Int) (b_1 : Int) (b_2 : Bool) (b_3 : Rows) (b_4 : Int) (b_5 : Int) (b_6 : Int) (b6 : Int) (b6_1 : Bool) (b6_2 : Int) (b6_3 : Int) (b6_4 : Int) (m_ : Nat) : (fun x_2 lost_1 out_ out_1 out_2 out_3 out_4 at_ answers out_2_1 => loopN (impl_SendCommands_B0 N) m_ (impl_SendCommands_m0 list_ x_1 x_2 b_1 b_2 b_3 b_4 b_5 b_6 lost_1 b6 b6_1 b6_2 b6_3 b6_4 out_ out_1 out_2 out_3 out_4 at_ answers out_2_1)) = impl_SendCommands_L0 Vm.bad impl_SendCommands_K N list_ x_1 b_4 m_ := by
  induction m_ with
  | zero => rfl
  | succ m_ ih =>
    funext x_2 lost_1 out_ out_1 out_2 out_3 out_4 at_ answers out_2_1
    show impl_SendCommands_B0 N (loopN (impl_SendCommands_B0 N) m_) (impl_SendCommands_m0 list_ x_1 x_2 b_1 b_2 b_3 b_4 b_5 b_6 lost_1 b6 b6_1 b6_2 b6_3 b6_4 out_ out_1 out_2 out_3 out_4 at_ answers out_2_1) = _
    rw [impl_SendCommands_b0 N list_ x_1 b_1 b_2 b_3 b_4 b_5 b_6 b6 b6_1 b6_2 b6_3 b6_4]
    have e1 := funext fun x_2 => funext fun x_6 => funext fun x_7 => funext fun x_8 => funext fun answers => impl_SendCommands_n1 N (loopN (impl_SendCommands_B0 N) m_) list_ x_1 x_2 b_1 b_2 b_3 b_4 b_5 b_6 b6 b6_1 b6_2 b6_3 b6_4 x_6 x_7 x_8 answers N
    rw [e1]
    rw [ih]
    rfl
theorem impl_SendCommands_r (N : Nat) (b : SMailbox) (list_ : Rows) (lost : Rows) : runF Try.prog impl_SendCommands_G impl_SendCommands_A N Try.f18 impl_SendCommands_s (b.enc ++ (.sl list_ :: (.sl lost :: ([])))) = impl_SendCommands_f Vm.bad impl_SendCommands_K N b list_ lost := by
  have h : runF Try.prog impl_SendCommands_G impl_SendCommands_A N Try.f18 impl_SendCommands_s (b.enc ++ (.sl list_ :: (.sl lost :: ([])))) = impl_SendCommands_t Vm.bad impl_SendCommands_K (fun x_1 b_4 x_2 lost_1 out_ out_1 out_2 out_3 out_4 at_ answers out_2_1 => loopN (impl_SendCommands_B0 N) N (impl_SendCommands_m0 list_ x_1 x_2 b.Filter.Mac b.Filter.Promiscuous b.Filter.Vlans b_4 b.Answer b.Done lost_1 0 false 0 0 0 out_ out_1 out_2 out_3 out_4 at_ answers out_2_1)) b list_ lost := by kernel_rfl
  refine h.trans ?_
  unfold impl_SendCommands_f
  have e0 : (fun x_1 b_4 x_2 lost_1 out_ out_1 out_2 out_3 out_4 at_ answers out_2_1 => loopN (impl_SendCommands_B0 N) N (impl_SendCommands_m0 list_ x_1 x_2 b.Filter.Mac b.Filter.Promiscuous b.Filter.Vlans b_4 b.Answer b.Done lost_1 0 false 0 0 0 out_ out_1 out_2 out_3 out_4 at_ answers out_2_1)) = (fun x_1 b_4 => impl_SendCommands_L0 Vm.bad impl_SendCommands_K N list_ x_1 b_4 N) := by
    funext x_1 b_4
    exact impl_SendCommands_n0 N list_ x_1 b.Filter.Mac b.Filter.Promiscuous b.Filter.Vlans b_4 b.Answer b.Done 0 false 0 0 0 N
  exact congrArg (fun l_ => impl_SendCommands_t Vm.bad impl_SendCommands_K l_ b list_ lost) e0
theorem impl_SendCommands_h : Holds Try.prog 18 impl_SendCommands_s := by
  refine holds_of_run (A := impl_SendCommands_A) impl_SendCommands_x Try.func18 rfl (by kernel_rfl) (of_decide_eq_true (by kernel_rfl)) (of_decide_eq_true (by kernel_rfl)) ?_
  intro ds hw hok
  replace hw : WtL (SMailbox.ct ++ ((.sl [.int .i64, .int .i64, .int .i64]) :: ((.sl [.bool]) :: ([])))) ds := hw
  obtain ⟨b, ds, rfl, h_b, hw⟩ := SMailbox.of_wt (r := _) hw
  obtain ⟨list_, ds, rfl, h_list_, hw⟩ := of_wt_sl hw
  obtain ⟨lost, ds, rfl, h_lost, hw⟩ := of_wt_sl hw
  obtain rfl := of_wt_nil hw
  obtain ⟨N, hN⟩ := impl_SendCommands_c Vm.bad impl_SendCommands_K b list_ lost h_b h_list_ h_lost hok
  exact ⟨N, ((impl_SendCommands_r N b list_ lost).trans hN).trans (by kernel_rfl)⟩

def spec_SendCommands_s : Sum := { ps := [⟨[.int .i64, .bool, .sl [.int .i64], .int .i64, .int .i64, .int .i64], true⟩, ⟨[.sl [.int .i64, .int .i64, .int .i64]], false⟩, ⟨[.sl [.bool]], false⟩], rs := [⟨[.imm (.int .i64), .imm .bool, .own 3 [.int .i64], .imm (.int .i64), .imm (.int .i64), .imm (.int .i64)], true⟩, ⟨[.own 3 [.int .i64]], false⟩], fn := fun ds => (SendCommands_ok (SMailbox.decAt ds 0) (rR ds 6) (rR ds 7), SMailbox.enc (SendCommands (SMailbox.decAt ds 0) (rR ds 6) (rR ds 7)).1 ++ [.sl (SendCommands (SMailbox.decAt ds 0) (rR ds 6) (rR ds 7)).2]) }
def spec_SendCommands_G : Ctx := [(9, spec_MailboxOk_s), (19, spec_HandleMessage_s), (46, spec_l35Copy_s)]
theorem spec_SendCommands_x : CtxHolds Try.prog spec_SendCommands_G := ctx_cons spec_MailboxOk_h (ctx_cons spec_HandleMessage_h (ctx_cons spec_l35Copy_h ctx_nil))
def spec_SendCommands_A : List (Nat × Ann) := [(7, { slots := [(1, .asis), (2, .asis), (3, .asis), (6, .asis), (8, .asis), (9, .asis), (10, .asis), (11, .asis)], boxes := [(192, []), (384, []), (512, [])] }), (11, { slots := [(1, .asis), (2, .asis), (3, .asis), (6, .asis), (8, .asis), (9, .asis), (10, .asis), (11, .asis), (12, .asis)], boxes := [(192, []), (384, []), (512, []), (768, [])] })]
def spec_SendCommands_K : SMailbox → Rows → Res := (fun r0 r1 => ((true, SMailbox.enc r0 ++ [.sl r1]) : Res))
def spec_SendCommands_m0 (list_ : Rows) (lost : Rows) (at_ : Int) (k : Int) (b_1 : Int) (b_2 : Bool) (b_3 : Rows) (b_4 : Int) (b_5 : Int) (b_6 : Int) (b6 : Int) (b6_1 : Bool) (b6_2 : Int) (b6_3 : Int) (b6_4 : Int) (out_ : Int) (out_1 : Bool) (out_2 : Int) (out_3 : Int) (out_4 : Int) (answers : Rows) (out_2_1 : Rows) : St := { n := 90, sl := [(1, .sl [.int .i64, .int .i64, .int .i64] list_), (2, .sl [.bool] lost), (3, .ptr 192 0), (6, .ptr 384 0), (8, .ptr 512 0), (9, .own 640576), (10, .int .i64 at_), (11, .int .i64 k)], hp := [(192, .box 31 [.int .i64 b_1, .bool b_2, .sl [.int .i64] b_3, .int .i64 b_4, .int .i64 b_5, .int .i64 b_6]), (384, .box 31 [.int .i64 b6, .bool b6_1, .nil, .int .i64 b6_2, .int .i64 b6_3, .int .i64 b6_4]), (512, .box 31 [.int .i64 out_, .bool out_1, .own 1411074, .int .i64 out_2, .int .i64 out_3, .int .i64 out_4]), (640576, .row 3 [.int .i64] answers false true), (1411074, .row 3 [.int .i64] out_2_1 false true)], ok := true, ls := [], lm := [] }
def spec_SendCommands_m1 (list_ : Rows) (lost : Rows) (at_1 : Int) (k : Int) (b_1 : Int) (b_2 : Bool) (b_3 : Rows) (b_4 : Int) (b_5 : Int) (b_6 : Int) (b6 : Int) (b6_1 : Bool) (b6_2 : Int) (b6_3 : Int) (b6_4 : Int) (out_5 : Int) (out_6 : Bool) (out_7 : Int) (out_8 : Int) (out_9 : Int) (x : Int) (x_1 : Int) (x_2 : Int) (answers : Rows) (out_2_2 : Rows) : St := { n := 90, sl := [(1, .sl [.int .i64, .int .i64, .int .i64] list_), (2, .sl [.bool] lost), (3, .ptr 192 0), (6, .ptr 384 0), (8, .ptr 512 0), (9, .own 640576), (10, .int .i64 at_1), (11, .int .i64 k), (12, .ptr 768 0)], hp := [(192, .box 31 [.int .i64 b_1, .bool b_2, .sl [.int .i64] b_3, .int .i64 b_4, .int .i64 b_5, .int .i64 b_6]), (384, .box 31 [.int .i64 b6, .bool b6_1, .nil, .int .i64 b6_2, .int .i64 b6_3, .int .i64 b6_4]), (512, .box 31 [.int .i64 out_5, .bool out_6, .own 1411074, .int .i64 out_7, .int .i64 out_8, .int .i64 out_9]), (768, .box 42 [.int .i64 x, .int .i64 x_1, .int .i64 x_2]), (640576, .row 3 [.int .i64] answers false true), (1411074, .row 3 [.int .i64] out_2_2 false true)], ok := true, ls := [], lm := [] }
noncomputable def spec_SendCommands_B1 (N : Nat) (o0 : St → Res) : (St → Res) → St → Res := loopB Try.prog spec_SendCommands_G spec_SendCommands_A N Try.f24 spec_SendCommands_s [true, true, true, true, true, false, true, false, false, true, false, false, true, true, false] [o0]
noncomputable def spec_SendCommands_B0 (N : Nat) : (St → Res) → St → Res := loopB Try.prog spec_SendCommands_G spec_SendCommands_A N Try.f24 spec_SendCommands_s [true, true, true, true, true, false, true, false] []
theorem spec_SendCommands_b1 (N : Nat) (o0 : St → Res) (list_ : Rows) (lost : Rows) (k : Int) (b_1 : Int) (b_2 : Bool) (b_3 : Rows) (b_4 : Int) (b_5 : Int) (b_6 : Int) (b6 : Int) (b6_1 : Bool) (b6_2 : Int) (b6_3 : Int) (b6_4 : Int) (x : Int) (x_1 : Int) (x_2 : Int) (answers : Rows) (ih : St → Res) (at_1 : Int) (out_5 : Int) (out_6 : Bool) (out_7 : Int) (out_8 : Int) (out_9 : Int) (out_2_2 : Rows) : spec_SendCommands_B1 N o0 ih (spec_SendCommands_m1 list_ lost at_1 k b_1 b_2 b_3 b_4 b_5 b_6 b6 b6_1 b6_2 b6_3 b6_4 out_5 out_6 out_7 out_8 out_9 x x_1 x_2 answers out_2_2) = spec_SendCommands_l1 Vm.bad spec_SendCommands_K (fun at_ k out_ out_1 out_2 out_3 out_4 answers out_2_1 => o0 (spec_SendCommands_m0 list_ lost at_ k b_1 b_2 b_3 b_4 b_5 b_6 b6 b6_1 b6_2 b6_3 b6_4 out_ out_1 out_2 out_3 out_4 answers out_2_1)) lost k x x_1 x_2 answers (fun at_1 out_5 out_6 out_7 out_8 out_9 out_2_2 => ih (spec_SendCommands_m1 list_ lost at_1 k b_1 b_2 b_3 b_4 b_5 b_6 b6 b6_1 b6_2 b6_3 b6_4 out_5 out_6 out_7 out_8 out_9 x x_1 x_2 answers out_2_2)) at_1 out_5 out_6 out_7 out_8 out_9 out_2_2 := by kernel_rfl
theorem spec_SendCommands_n1 (N : Nat) (o0 : St → Res) (list_ : Rows) (lost : Rows) (k : Int) (b_1 : Int) (b_2 : Bool) (b_3 : Rows) (b_4 : Int) (b_5 : Int) (b_6 : Int) (b6 : Int) (b6_1 : Bool) (b6_2 : Int) (b6_3 : Int) (b6_4 : Int) (x : Int) (x_1 : Int) (x_2 : Int) (answers : Rows) (m_ : Nat) : (fun at_1 out_5 out_6 out_7 out_8 out_9 out_2_2 => loopN (spec_SendCommands_B1 N o0) m_ (spec_SendCommands_m1 list_ lost at_1 k b_1 b_2 b_3 b_4 b_5 b_6 b6 b6_1 b6_2 b6_3 b6_4 out_5 out_6 out_7 out_8 out_9 x x_1 x_2 answers out_2_2)) = spec_SendCommands_L1 Vm.bad spec_SendCommands_K N (fun at_ k out_ out_1 out_2 out_3 out_4 answers out_2_1 => o0 (spec_SendCommands_m0 list_ lost at_ k b_1 b_2 b_3 b_4 b_5 b_6 b6 b6_1 b6_2 b6_3 b6_4 out_ out_1 out_2 out_3 out_4 answers out_2_1)) lost k x x_1 x_2 answers m_ := by
  induction m_ with
  | zero => rfl
  | succ m_ ih =>
    funext at_1 out_5 out_6 out_7 out_8 out_9 out_2_2
    show spec_SendCommands_B1 N o0 (loopN (spec_SendCommands_B1 N o0) m_) (spec_SendCommands_m1 list_ lost at_1 k b_1 b_2 b_3 b_4 b_5 b_6 b6 b6_1 b6_2 b6_3 b6_4 out_5 out_6 out_7 out_8 out_9 x x_1 x_2 answers out_2_2) = _
    rw [spec_SendCommands_b1 N o0 list_ lost k b_1 b_2 b_3 b_4 b_5 b_6 b6 b6_1 b6_2 b6_3 b6_4 x x_1 x_2 answers]
    rw [ih]
    rfl
theorem spec_SendCommands_b0 (N : Nat) (list_ : Rows) (lost : Rows) (b_1 : Int) (b_2 : Bool) (b_3 : Rows) (b_4 : Int) (b_5 : Int) (b_6 : Int) (b6 : Int) (b6_1 : Bool) (b6_2 : Int) (b6_3 : Int) (b6_4 : Int) (ih : St → Res) (at_ : Int) (k : Int) (out_ : Int) (out_1 : Bool) (out_2 : Int) (out_3 : Int) (out_4 : Int) (answers : Rows) (out_2_1 : Rows) : spec_SendCommands_B0 N ih (spec_SendCommands_m0 list_ lost at_ k b_1 b_2 b_3 b_4 b_5 b_6 b6 b6_1 b6_2 b6_3 b6_4 out_ out_1 out_2 out_3 out_4 answers out_2_1) = spec_SendCommands_l0 Vm.bad spec_SendCommands_K (fun k x x_1 x_2 answers at_1 out_5 out_6 out_7 out_8 out_9 out_2_2 => loopN (spec_SendCommands_B1 N ih) N (spec_SendCommands_m1 list_ lost at_1 k b_1 b_2 b_3 b_4 b_5 b_6 b6 b6_1 b6_2 b6_3 b6_4 out_5 out_6 out_7 out_8 out_9 x x_1 x_2 answers out_2_2)) list_ lost b_4 (fun at_ k out_ out_1 out_2 out_3 out_4 answers out_2_1 => ih (spec_SendCommands_m0 list_ lost at_ k b_1 b_2 b_3 b_4 b_5 b_6 b6 b6_1 b6_2 b6_3 b6_4 out_ out_1 out_2 out_3 out_4 answers out_2_1)) at_ k out_ out_1 out_2 out_3 out_4 answers out_2_1 := by kernel_rfl
theorem spec_SendCommands_n0 (N : Nat) (list_ : Rows) (lost : Rows) (b_1 : Int) (b_2 : Bool) (b_3 : Rows) (b_4 : Int) (b_5 : Int) (b_6 : Int) (b6 : Int) (b6_1 : Bool) (b6_2 : Int) (b6_3 : Int) (b6_4 : Int) (m_ : Nat) : (fun at_ k out_ out_1 out_2 out_3 out_4 answers out_2_1 => loopN (spec_SendCommands_B0 N) m_ (spec_SendCommands_m0 list_ lost at_ k b_1 b_2 b_3 b_4 b_5 b_6 b6 b6_1 b6_2 b6_3 b6_4 out_ out_1 out_2 out_3 out_4 answers out_2_1)) = spec_SendCommands_L0 Vm.bad spec_SendCommands_K N list_ lost b_4 m_ := by
  induction m_ with
  | zero => rfl
  | succ m_ ih =>
    funext at_ k out_ out_1 out_2 out_3 out_4 answers out_2_1
    show spec_SendCommands_B0 N (loopN (spec_SendCommands_B0 N) m_) (spec_SendCommands_m0 list_ lost at_ k b_1 b_2 b_3 b_4 b_5 b_6 b6 b6_1 b6_2 b6_3 b6_4 out_ out_1 out_2 out_3 out_4 answers out_2_1) = _
    rw [spec_SendCommands_b0 N list_ lost b_1 b_2 b_3 b_4 b_5 b_6 b6 b6_1 b6_2 b6_3 b6_4]
    have e1 := funext fun k => funext fun x => funext fun x_1 => funext fun x_2 => funext fun answers => spec_SendCommands_n1 N (loopN (spec_SendCommands_B0 N) m_) list_ lost k b_1 b_2 b_3 b_4 b_5 b_6 b6 b6_1 b6_2 b6_3 b6_4 x x_1 x_2 answers N
    rw [e1]
    rw [ih]
    rfl
theorem spec_SendCommands_r (N : Nat) (b : SMailbox) (list_ : Rows) (lost : Rows) : runF Try.prog spec_SendCommands_G spec_SendCommands_A N Try.f24 spec_SendCommands_s (b.enc ++ (.sl list_ :: (.sl lost :: ([])))) = spec_SendCommands_f Vm.bad spec_SendCommands_K N b list_ lost := by
  have h : runF Try.prog spec_SendCommands_G spec_SendCommands_A N Try.f24 spec_SendCommands_s (b.enc ++ (.sl list_ :: (.sl lost :: ([])))) = spec_SendCommands_t Vm.bad spec_SendCommands_K (fun b_4 at_ k out_ out_1 out_2 out_3 out_4 answers out_2_1 => loopN (spec_SendCommands_B0 N) N (spec_SendCommands_m0 list_ lost at_ k b.Filter.Mac b.Filter.Promiscuous b.Filter.Vlans b_4 b.Answer b.Done 0 false 0 0 0 out_ out_1 out_2 out_3 out_4 answers out_2_1)) b list_ lost := by kernel_rfl
  refine h.trans ?_
  unfold spec_SendCommands_f
  have e0 : (fun b_4 at_ k out_ out_1 out_2 out_3 out_4 answers out_2_1 => loopN (spec_SendCommands_B0 N) N (spec_SendCommands_m0 list_ lost at_ k b.Filter.Mac b.Filter.Promiscuous b.Filter.Vlans b_4 b.Answer b.Done 0 false 0 0 0 out_ out_1 out_2 out_3 out_4 answers out_2_1)) = (fun b_4 => spec_SendCommands_L0 Vm.bad spec_SendCommands_K N list_ lost b_4 N) := by
    funext b_4
    exact spec_SendCommands_n0 N list_ lost b.Filter.Mac b.Filter.Promiscuous b.Filter.Vlans b_4 b.Answer b.Done 0 false 0 0 0 N
  exact congrArg (fun l_ => spec_SendCommands_t Vm.bad spec_SendCommands_K l_ b list_ lost) e0
theorem spec_SendCommands_h : Holds Try.prog 24 spec_SendCommands_s := by
  refine holds_of_run (A := spec_SendCommands_A) spec_SendCommands_x Try.func24 rfl (by kernel_rfl) (of_decide_eq_true (by kernel_rfl)) (of_decide_eq_true (by kernel_rfl)) ?_
  intro ds hw hok
  replace hw : WtL (SMailbox.ct ++ ((.sl [.int .i64, .int .i64, .int .i64]) :: ((.sl [.bool]) :: ([])))) ds := hw
  obtain ⟨b, ds, rfl, h_b, hw⟩ := SMailbox.of_wt (r := _) hw
  obtain ⟨list_, ds, rfl, h_list_, hw⟩ := of_wt_sl hw
  obtain ⟨lost, ds, rfl, h_lost, hw⟩ := of_wt_sl hw
  obtain rfl := of_wt_nil hw
  obtain ⟨N, hN⟩ := spec_SendCommands_c Vm.bad spec_SendCommands_K b list_ lost h_b h_list_ h_lost hok
  exact ⟨N, ((spec_SendCommands_r N b list_ lost).trans hN).trans (by kernel_rfl)⟩

def laws_markMessageS_s : Sum := { ps := [⟨[.sl [.int .i64, .int .i64, .int .i64]], false⟩, ⟨[.int .i64], false⟩], rs := [⟨[.imm (.int .i64)], false⟩], fn := fun ds => (mko 3 (rR ds 0) (rI ds 1), [.int (markMessageS (rR ds 0) (rI ds 1)).1] ++ [.sl (markMessageS (rR ds 0) (rI ds 1)).2]), ms := [some (.rows [42]), none] }
def laws_markMessageS_G : Ctx := []
theorem laws_markMessageS_x : CtxHolds Try.prog laws_markMessageS_G := ctx_nil
def laws_markMessageS_A : List (Nat × Ann) := [(2, { slots := [(0, .asis), (1, .asis), (5, .asis)], boxes := [] })]
def laws_markMessageS_K : Int → Rows → Res := (fun r0 r1 => ((true, [.int r0] ++ [.sl r1]) : Res))
def laws_markMessageS_m0 (k_1 : Int) (i : Int) (a_1 : Rows) : St := { n := 1099511627810, sl := [(0, .own 640000), (1, .int .i64 k_1), (5, .int .i64 i)], hp := [(640000, .row 42 [.int .i64, .int .i64, .int .i64] a_1 false true)], ok := true, ls := [], lm := [] }
noncomputable def laws_markMessageS_B0 (N : Nat) : (St → Res) → St → Res := loopBM Try.prog laws_markMessageS_G laws_markMessageS_A N Try.f30 laws_markMessageS_s [true, false, true, false] []
theorem laws_markMessageS_b0 (N : Nat) (ih : St → Res) (k_1 : Int) (i : Int) (a_1 : Rows) : laws_markMessageS_B0 N ih (laws_markMessageS_m0 k_1 i a_1) = laws_markMessageS_l0 Vm.bad laws_markMessageS_K (fun k_1 i a_1 => ih (laws_markMessageS_m0 k_1 i a_1)) k_1 i a_1 := by kernel_rfl
theorem laws_markMessageS_n0 (N : Nat) (m_ : Nat) : (fun k_1 i a_1 => loopN (laws_markMessageS_B0 N) m_ (laws_markMessageS_m0 k_1 i a_1)) = laws_markMessageS_L0 Vm.bad laws_markMessageS_K N m_ := by
  induction m_ with
  | zero => rfl
  | succ m_ ih =>
    funext k_1 i a_1
    show laws_markMessageS_B0 N (loopN (laws_markMessageS_B0 N) m_) (laws_markMessageS_m0 k_1 i a_1) = _
    rw [laws_markMessageS_b0 N]
    rw [ih]
    rfl
theorem laws_markMessageS_r (N : Nat) (a : Rows) (k : Int) : runFM Try.prog laws_markMessageS_G laws_markMessageS_A N Try.f30 laws_markMessageS_s (.sl a :: (.int k :: ([]))) = laws_markMessageS_f Vm.bad laws_markMessageS_K N a k := by
  have h : runFM Try.prog laws_markMessageS_G laws_markMessageS_A N Try.f30 laws_markMessageS_s (.sl a :: (.int k :: ([]))) = laws_markMessageS_t Vm.bad laws_markMessageS_K (fun k_1 i a_1 => loopN (laws_markMessageS_B0 N) N (laws_markMessageS_m0 k_1 i a_1)) a k := by kernel_rfl
  refine h.trans ?_
  unfold laws_markMessageS_f
  have e0 : (fun k_1 i a_1 => loopN (laws_markMessageS_B0 N) N (laws_markMessageS_m0 k_1 i a_1)) = (laws_markMessageS_L0 Vm.bad laws_markMessageS_K N N) := by
    exact laws_markMessageS_n0 N N
  exact congrArg (fun l_ => laws_markMessageS_t Vm.bad laws_markMessageS_K l_ a k) e0
theorem laws_markMessageS_h : HoldsM Try.prog 30 laws_markMessageS_s := by
  refine holdsM_of_run (A := laws_markMessageS_A) laws_markMessageS_x Try.func30 rfl (by kernel_rfl) (of_decide_eq_true (by kernel_rfl)) (of_decide_eq_true (by kernel_rfl)) (by kernel_rfl) (fun ds => by kernel_rfl) ?_
  intro ds hw hok
  replace hw : WtL ((.sl [.int .i64, .int .i64, .int .i64]) :: ((.int .i64) :: ([]))) ds := hw
  obtain ⟨a, ds, rfl, h_a, hw⟩ := of_wt_sl hw
  obtain ⟨k, ds, rfl, h_k, hw⟩ := of_wt_int hw
  obtain rfl := of_wt_nil hw
  obtain ⟨N, hN⟩ := laws_markMessageS_c Vm.bad laws_markMessageS_K a k h_a h_k hok
  exact ⟨N, ((laws_markMessageS_r N a k).trans hN).trans (by kernel_rfl)⟩

def laws_FnExactSendCommands_s : Sum := { ps := [⟨[.int .i64, .bool, .sl [.int .i64], .int .i64, .int .i64, .int .i64], true⟩, ⟨[.sl [.int .i64, .int .i64, .int .i64]], false⟩, ⟨[.sl [.bool]], false⟩], rs := [⟨[.imm .bool], false⟩], fn := fun ds => (fitL (SMailbox.ct ++ ((.sl [.int .i64, .int .i64, .int .i64]) :: ((.sl [.bool]) :: ([])))) ds, [.bool true]) }
def laws_FnExactSendCommands_G : Ctx := [(8, laws_szMailbox_s), (10, laws_toMailbox_s), (12, laws_eqMailbox_s), (18, impl_SendCommands_s), (21, laws_markMailbox_s), (22, laws_heldMailbox_s), (23, laws_szMessageS_s), (24, spec_SendCommands_s), (25, laws_toMessageS_s), (26, laws_toBoolS_s), (27, laws_eqIntS_s), (28, laws_eqMessageS_s), (29, laws_eqBoolS_s), (30, laws_markMessageS_s), (31, laws_markBoolS_s), (32, laws_markIntS_s), (33, laws_heldIntS_s)]
theorem laws_FnExactSendCommands_x : CtxHolds Try.prog laws_FnExactSendCommands_G := ctx_cons laws_szMailbox_h (ctx_cons laws_toMailbox_h (ctx_cons laws_eqMailbox_h (ctx_cons impl_SendCommands_h (ctx_cons laws_markMailbox_h (ctx_cons laws_heldMailbox_h (ctx_cons laws_szMessageS_h (ctx_cons spec_SendCommands_h (ctx_cons laws_toMessageS_h (ctx_cons laws_toBoolS_h (ctx_cons laws_eqIntS_h (ctx_cons laws_eqMessageS_h (ctx_cons laws_eqBoolS_h (ctx_cons laws_markMessageS_h (ctx_cons laws_markBoolS_h (ctx_cons laws_markIntS_h (ctx_cons laws_heldIntS_h ctx_nil))))))))))))))))
def laws_FnExactSendCommands_A : List (Nat × Ann) := []
theorem laws_FnExactSendCommands_r (N : Nat) (aB : SMailbox) (aList : Rows) (aLost : Rows) : runF Try.prog laws_FnExactSendCommands_G laws_FnExactSendCommands_A N Try.f7 laws_FnExactSendCommands_s (aB.enc ++ (.sl aList :: (.sl aLost :: ([])))) = laws_FnExactSendCommands_t Vm.bad (fun r0 => ((true, [.bool r0]) : Res)) aB aList aLost := by kernel_rfl
theorem laws_FnExactSendCommands_h : Holds Try.prog 7 laws_FnExactSendCommands_s := by
  refine holds_of_run (A := laws_FnExactSendCommands_A) laws_FnExactSendCommands_x Try.func7 rfl (by kernel_rfl) (of_decide_eq_true (by kernel_rfl)) (of_decide_eq_true (by kernel_rfl)) ?_
  intro ds hw hok
  replace hw : WtL (SMailbox.ct ++ ((.sl [.int .i64, .int .i64, .int .i64]) :: ((.sl [.bool]) :: ([])))) ds := hw
  obtain ⟨aB, ds, rfl, h_aB, hw⟩ := SMailbox.of_wt (r := _) hw
  obtain ⟨aList, ds, rfl, h_aList, hw⟩ := of_wt_sl hw
  obtain ⟨aLost, ds, rfl, h_aLost, hw⟩ := of_wt_sl hw
  obtain rfl := of_wt_nil hw
  exact ⟨0, ((laws_FnExactSendCommands_r 0 aB aList aLost).trans (laws_FnExactSendCommands_c Vm.bad _ aB aList aLost h_aB h_aList h_aLost hok)).trans (by kernel_rfl)⟩

end
end Go.Proofs.Ytjmgpcfmcdlnpaa.Pl
