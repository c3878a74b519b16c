/- The contracts of functions of the program: each computes what its plain form says. Conditions: none. -/
import Derived.Test.YtjmgpcfmcdlnpaaPMl
import Derived.Test.YtjmgpcfmcdlnpaaRows
import Derived.Test.YtjmgpcfmcdlnpaaBHa
import Derived.Test.YtjmgpcfmcdlnpaaBCu
set_option linter.unusedVariables false
set_option linter.unusedSimpArgs false
set_option maxRecDepth 100000
namespace Go.Proofs.Ytjmgpcfmcdlnpaa.Pl
open Vm
noncomputable section

def laws_big_s : Sum := { ps := [⟨[.sl [.int .u8]], false⟩], rs := [⟨[.imm .bool], false⟩], fn := fun ds => (true, [.bool (big (rR ds 0))]) }
def laws_big_G : Ctx := []
theorem laws_big_x : CtxHolds Try.prog laws_big_G := ctx_nil
def laws_big_A : List (Nat × Ann) := []
theorem laws_big_r (N : Nat) (code : Rows) : runF Try.prog laws_big_G laws_big_A N Try.f13 laws_big_s (.sl code :: ([])) = laws_big_t (fun r0 => ((true, [.bool r0]) : Res)) code := by kernel_rfl
theorem laws_big_h : Holds Try.prog 13 laws_big_s := by
  refine holds_of_run (A := laws_big_A) laws_big_x Try.func13 rfl (by kernel_rfl) (of_decide_eq_true (by kernel_rfl)) (of_decide_eq_true (by kernel_rfl)) ?_
  intro ds hw hok
  replace hw : WtL ((.sl [.int .u8]) :: ([])) ds := hw
  obtain ⟨code, ds, rfl, h_code, hw⟩ := of_wt_sl hw
  obtain rfl := of_wt_nil hw
  exact ⟨0, ((laws_big_r 0 code).trans (laws_big_c _ code)).trans (by kernel_rfl)⟩

def spec_l24Filter_s : Sum := { ps := [⟨[.sl [.int .u8], .int .i64, .int .i64], true⟩], rs := [⟨[.imm (.int .i64), .imm .bool, .own 3 [.int .i64]], true⟩], fn := fun ds => (curOk (Sl01Cur.decAt ds 0), SFilter.enc (l24Filter (Sl01Cur.decAt ds 0)).1 ++ Sl01Cur.enc (l24Filter (Sl01Cur.decAt ds 0)).2), ms := [some (.box 80)] }
def spec_l24Filter_G : Ctx := [(56, spec_l01Once_s)]
theorem spec_l24Filter_x : CtxHolds Try.prog spec_l24Filter_G := ctx_cons spec_l01Once_h ctx_nil
def spec_l24Filter_A : List (Nat × Ann) := []
theorem spec_l24Filter_r (N : Nat) (c : Sl01Cur) : runFM Try.prog spec_l24Filter_G spec_l24Filter_A N Try.f53 spec_l24Filter_s (c.enc ++ ([])) = spec_l24Filter_t Vm.bad (fun r0 r1 => ((true, SFilter.enc r0 ++ Sl01Cur.enc r1) : Res)) c := by kernel_rfl
theorem spec_l24Filter_h : HoldsM Try.prog 53 spec_l24Filter_s := by
  refine holdsM_of_run (A := spec_l24Filter_A) spec_l24Filter_x Try.func53 rfl (by kernel_rfl) (of_decide_eq_true (by kernel_rfl)) (of_decide_eq_true (by kernel_rfl)) (by kernel_rfl) (fun ds => by kernel_rfl) ?_
  intro ds hw hok
  replace hw : WtL (Sl01Cur.ct ++ ([])) ds := hw
  obtain ⟨c, ds, rfl, h_c, hw⟩ := Sl01Cur.of_wt (r := _) hw
  obtain rfl := of_wt_nil hw
  exact ⟨0, ((spec_l24Filter_r 0 c).trans (spec_l24Filter_c Vm.bad _ c h_c hok)).trans (by kernel_rfl)⟩

def spec_l35Message_s : Sum := { ps := [⟨[.sl [.int .u8], .int .i64, .int .i64], true⟩], rs := [⟨[.imm (.int .i64), .imm (.int .i64), .imm (.int .i64)], true⟩], fn := fun ds => (curOk (Sl01Cur.decAt ds 0), SMessage.enc (l35Message (Sl01Cur.decAt ds 0)).1 ++ Sl01Cur.enc (l35Message (Sl01Cur.decAt ds 0)).2), ms := [some (.box 80)] }
def spec_l35Message_G : Ctx := [(54, spec_l01Below_s), (64, spec_l01PickInt_s)]
theorem spec_l35Message_x : CtxHolds Try.prog spec_l35Message_G := ctx_cons spec_l01Below_h (ctx_cons spec_l01PickInt_h ctx_nil)
def spec_l35Message_A : List (Nat × Ann) := []
theorem spec_l35Message_r (N : Nat) (c : Sl01Cur) : runFM Try.prog spec_l35Message_G spec_l35Message_A N Try.f55 spec_l35Message_s (c.enc ++ ([])) = spec_l35Message_t Vm.bad (fun r0 r1 => ((true, SMessage.enc r0 ++ Sl01Cur.enc r1) : Res)) c := by kernel_rfl
theorem spec_l35Message_h : HoldsM Try.prog 55 spec_l35Message_s := by
  refine holdsM_of_run (A := spec_l35Message_A) spec_l35Message_x Try.func55 rfl (by kernel_rfl) (of_decide_eq_true (by kernel_rfl)) (of_decide_eq_true (by kernel_rfl)) (by kernel_rfl) (fun ds => by kernel_rfl) ?_
  intro ds hw hok
  replace hw : WtL (Sl01Cur.ct ++ ([])) ds := hw
  obtain ⟨c, ds, rfl, h_c, hw⟩ := Sl01Cur.of_wt (r := _) hw
  obtain rfl := of_wt_nil hw
  exact ⟨0, ((spec_l35Message_r 0 c).trans (spec_l35Message_c Vm.bad _ c h_c hok)).trans (by kernel_rfl)⟩

def spec_l35Box_s : Sum := { ps := [⟨[.sl [.int .u8], .int .i64, .int .i64], true⟩], rs := [⟨[.imm (.int .i64), .imm .bool, .own 3 [.int .i64], .imm (.int .i64), .imm (.int .i64), .imm (.int .i64)], true⟩], fn := fun ds => (curOk (Sl01Cur.decAt ds 0), SMailbox.enc (l35Box (Sl01Cur.decAt ds 0)).1 ++ Sl01Cur.enc (l35Box (Sl01Cur.decAt ds 0)).2), ms := [some (.box 80)] }
def spec_l35Box_G : Ctx := [(53, spec_l24Filter_s), (54, spec_l01Below_s)]
theorem spec_l35Box_x : CtxHolds Try.prog spec_l35Box_G := ctx_cons spec_l24Filter_h (ctx_cons spec_l01Below_h ctx_nil)
def spec_l35Box_A : List (Nat × Ann) := []
theorem spec_l35Box_r (N : Nat) (c : Sl01Cur) : runFM Try.prog spec_l35Box_G spec_l35Box_A N Try.f41 spec_l35Box_s (c.enc ++ ([])) = spec_l35Box_t Vm.bad (fun r0 r1 => ((true, SMailbox.enc r0 ++ Sl01Cur.enc r1) : Res)) c := by kernel_rfl
theorem spec_l35Box_h : HoldsM Try.prog 41 spec_l35Box_s := by
  refine holdsM_of_run (A := spec_l35Box_A) spec_l35Box_x Try.func41 rfl (by kernel_rfl) (of_decide_eq_true (by kernel_rfl)) (of_decide_eq_true (by kernel_rfl)) (by kernel_rfl) (fun ds => by kernel_rfl) ?_
  intro ds hw hok
  replace hw : WtL (Sl01Cur.ct ++ ([])) ds := hw
  obtain ⟨c, ds, rfl, h_c, hw⟩ := Sl01Cur.of_wt (r := _) hw
  obtain rfl := of_wt_nil hw
  exact ⟨0, ((spec_l35Box_r 0 c).trans (spec_l35Box_c Vm.bad _ c h_c hok)).trans (by kernel_rfl)⟩

def spec_l35Script_s : Sum := { ps := [⟨[.sl [.int .u8], .int .i64, .int .i64], true⟩], rs := [⟨[.own 42 [.int .i64, .int .i64, .int .i64]], false⟩, ⟨[.own 4 [.bool]], false⟩], fn := fun ds => (curOk (Sl01Cur.decAt ds 0), [.sl (l35Script (Sl01Cur.decAt ds 0)).1] ++ [.sl (l35Script (Sl01Cur.decAt ds 0)).2.1] ++ Sl01Cur.enc (l35Script (Sl01Cur.decAt ds 0)).2.2), ms := [some (.box 80)] }
def spec_l35Script_G : Ctx := [(54, spec_l01Below_s), (55, spec_l35Message_s), (56, spec_l01Once_s)]
theorem spec_l35Script_x : CtxHolds Try.prog spec_l35Script_G := ctx_cons spec_l01Below_h (ctx_cons spec_l35Message_h (ctx_cons spec_l01Once_h ctx_nil))
def spec_l35Script_A : List (Nat × Ann) := [(4, { slots := [(0, .asis), (4, .asis), (5, .asis), (6, .asis)], boxes := [(320000000, [])] }), (8, { slots := [(0, .asis), (4, .asis), (5, .asis), (7, .asis)], boxes := [(320000000, [])] })]
def spec_l35Script_K : Rows → Rows → Sl01Cur → Res := (fun r0 r1 r2 => ((true, [.sl r0] ++ [.sl r1] ++ Sl01Cur.enc r2) : Res))
def spec_l35Script_m0 (k : Int) (b5000000 : Rows) (b5000000_1 : Int) (b5000000_2 : Int) (list_ : Rows) (lost : Rows) : St := { n := 1099511627810, sl := [(0, .ptr 320000000 0), (4, .own 640256), (5, .own 640320), (6, .int .i64 k)], hp := [(320000000, .box 80 [.sl [.int .u8] b5000000, .int .i64 b5000000_1, .int .i64 b5000000_2]), (640256, .row 42 [.int .i64, .int .i64, .int .i64] list_ false true), (640320, .row 4 [.bool] lost false true)], ok := true, ls := [], lm := [] }
def spec_l35Script_m1 (k_1 : Int) (b5000000_3 : Rows) (b5000000_4 : Int) (b5000000_5 : Int) (list_ : Rows) (lost_1 : Rows) : St := { n := 1099511627810, sl := [(0, .ptr 320000000 0), (4, .own 640256), (5, .own 640320), (7, .int .i64 k_1)], hp := [(320000000, .box 80 [.sl [.int .u8] b5000000_3, .int .i64 b5000000_4, .int .i64 b5000000_5]), (640256, .row 42 [.int .i64, .int .i64, .int .i64] list_ false true), (640320, .row 4 [.bool] lost_1 false true)], ok := true, ls := [], lm := [] }
noncomputable def spec_l35Script_B1 (N : Nat) : (St → Res) → St → Res := loopBM Try.prog spec_l35Script_G spec_l35Script_A N Try.f42 spec_l35Script_s [true, true, true, true, false, true, false] []
noncomputable def spec_l35Script_B0 (N : Nat) : (St → Res) → St → Res := loopBM Try.prog spec_l35Script_G spec_l35Script_A N Try.f42 spec_l35Script_s [true, true, true, false, true, false] []
theorem spec_l35Script_b1 (N : Nat) (list_ : Rows) (ih : St → Res) (k_1 : Int) (b5000000_3 : Rows) (b5000000_4 : Int) (b5000000_5 : Int) (lost_1 : Rows) : spec_l35Script_B1 N ih (spec_l35Script_m1 k_1 b5000000_3 b5000000_4 b5000000_5 list_ lost_1) = spec_l35Script_l1 Vm.bad spec_l35Script_K list_ (fun k_1 b5000000_3 b5000000_4 b5000000_5 lost_1 => ih (spec_l35Script_m1 k_1 b5000000_3 b5000000_4 b5000000_5 list_ lost_1)) k_1 b5000000_3 b5000000_4 b5000000_5 lost_1 := by kernel_rfl
theorem spec_l35Script_n1 (N : Nat) (list_ : Rows) (m_ : Nat) : (fun k_1 b5000000_3 b5000000_4 b5000000_5 lost_1 => loopN (spec_l35Script_B1 N) m_ (spec_l35Script_m1 k_1 b5000000_3 b5000000_4 b5000000_5 list_ lost_1)) = spec_l35Script_L1 Vm.bad spec_l35Script_K N list_ m_ := by
  induction m_ with
  | zero => rfl
  | succ m_ ih =>
    funext k_1 b5000000_3 b5000000_4 b5000000_5 lost_1
    show spec_l35Script_B1 N (loopN (spec_l35Script_B1 N) m_) (spec_l35Script_m1 k_1 b5000000_3 b5000000_4 b5000000_5 list_ lost_1) = _
    rw [spec_l35Script_b1 N list_]
    rw [ih]
    rfl
theorem spec_l35Script_b0 (N : Nat) (lost : Rows) (ih : St → Res) (k : Int) (b5000000 : Rows) (b5000000_1 : Int) (b5000000_2 : Int) (list_ : Rows) : spec_l35Script_B0 N ih (spec_l35Script_m0 k b5000000 b5000000_1 b5000000_2 list_ lost) = spec_l35Script_l0 Vm.bad spec_l35Script_K (fun list_ k_1 b5000000_3 b5000000_4 b5000000_5 lost_1 => loopN (spec_l35Script_B1 N) N (spec_l35Script_m1 k_1 b5000000_3 b5000000_4 b5000000_5 list_ lost_1)) lost (fun k b5000000 b5000000_1 b5000000_2 list_ => ih (spec_l35Script_m0 k b5000000 b5000000_1 b5000000_2 list_ lost)) k b5000000 b5000000_1 b5000000_2 list_ := by kernel_rfl
theorem spec_l35Script_n0 (N : Nat) (lost : Rows) (m_ : Nat) : (fun k b5000000 b5000000_1 b5000000_2 list_ => loopN (spec_l35Script_B0 N) m_ (spec_l35Script_m0 k b5000000 b5000000_1 b5000000_2 list_ lost)) = spec_l35Script_L0 Vm.bad spec_l35Script_K N lost m_ := by
  induction m_ with
  | zero => rfl
  | succ m_ ih =>
    funext k b5000000 b5000000_1 b5000000_2 list_
    show spec_l35Script_B0 N (loopN (spec_l35Script_B0 N) m_) (spec_l35Script_m0 k b5000000 b5000000_1 b5000000_2 list_ lost) = _
    rw [spec_l35Script_b0 N lost]
    have e1 := funext fun list_ => spec_l35Script_n1 N list_ N
    rw [e1]
    rw [ih]
    rfl
theorem spec_l35Script_r (N : Nat) (c : Sl01Cur) : runFM Try.prog spec_l35Script_G spec_l35Script_A N Try.f42 spec_l35Script_s (c.enc ++ ([])) = spec_l35Script_f Vm.bad spec_l35Script_K N c := by
  have h : runFM Try.prog spec_l35Script_G spec_l35Script_A N Try.f42 spec_l35Script_s (c.enc ++ ([])) = spec_l35Script_t Vm.bad spec_l35Script_K (fun lost k b5000000 b5000000_1 b5000000_2 list_ => loopN (spec_l35Script_B0 N) N (spec_l35Script_m0 k b5000000 b5000000_1 b5000000_2 list_ lost)) c := by kernel_rfl
  refine h.trans ?_
  unfold spec_l35Script_f
  have e0 : (fun lost k b5000000 b5000000_1 b5000000_2 list_ => loopN (spec_l35Script_B0 N) N (spec_l35Script_m0 k b5000000 b5000000_1 b5000000_2 list_ lost)) = (fun lost => spec_l35Script_L0 Vm.bad spec_l35Script_K N lost N) := by
    funext lost
    exact spec_l35Script_n0 N lost N
  exact congrArg (fun l_ => spec_l35Script_t Vm.bad spec_l35Script_K l_ c) e0
theorem spec_l35Script_h : HoldsM Try.prog 42 spec_l35Script_s := by
  refine holdsM_of_run (A := spec_l35Script_A) spec_l35Script_x Try.func42 rfl (by kernel_rfl) (of_decide_eq_true (by kernel_rfl)) (of_decide_eq_true (by kernel_rfl)) (by kernel_rfl) (fun ds => by kernel_rfl) ?_
  intro ds hw hok
  replace hw : WtL (Sl01Cur.ct ++ ([])) ds := hw
  obtain ⟨c, ds, rfl, h_c, hw⟩ := Sl01Cur.of_wt (r := _) hw
  obtain rfl := of_wt_nil hw
  obtain ⟨N, hN⟩ := spec_l35Script_c Vm.bad spec_l35Script_K c h_c hok
  exact ⟨N, ((spec_l35Script_r N c).trans hN).trans (by kernel_rfl)⟩

def spec_DrawMailbox_s : Sum := { ps := [⟨[.sl [.int .u8]], false⟩], rs := [⟨[.imm (.int .i64), .imm .bool, .own 3 [.int .i64], .imm (.int .i64), .imm (.int .i64), .imm (.int .i64)], true⟩, ⟨[.own 42 [.int .i64, .int .i64, .int .i64]], false⟩, ⟨[.own 4 [.bool]], false⟩], fn := fun ds => (true, SMailbox.enc (DrawMailbox (rR ds 0)).1 ++ [.sl (DrawMailbox (rR ds 0)).2.1] ++ [.sl (DrawMailbox (rR ds 0)).2.2]) }
def spec_DrawMailbox_G : Ctx := [(40, spec_l01New_s), (41, spec_l35Box_s), (42, spec_l35Script_s)]
theorem spec_DrawMailbox_x : CtxHolds Try.prog spec_DrawMailbox_G := ctx_cons spec_l01New_h (ctx_cons spec_l35Box_h (ctx_cons spec_l35Script_h ctx_nil))
def spec_DrawMailbox_A : List (Nat × Ann) := []
theorem spec_DrawMailbox_r (N : Nat) (code : Rows) : runF Try.prog spec_DrawMailbox_G spec_DrawMailbox_A N Try.f14 spec_DrawMailbox_s (.sl code :: ([])) = spec_DrawMailbox_t Vm.bad (fun r0 r1 r2 => ((true, SMailbox.enc r0 ++ [.sl r1] ++ [.sl r2]) : Res)) code := by kernel_rfl
theorem spec_DrawMailbox_h : Holds Try.prog 14 spec_DrawMailbox_s := by
  refine holds_of_run (A := spec_DrawMailbox_A) spec_DrawMailbox_x Try.func14 rfl (by kernel_rfl) (of_decide_eq_true (by kernel_rfl)) (of_decide_eq_true (by kernel_rfl)) ?_
  intro ds hw hok
  replace hw : WtL ((.sl [.int .u8]) :: ([])) ds := hw
  obtain ⟨code, ds, rfl, h_code, hw⟩ := of_wt_sl hw
  obtain rfl := of_wt_nil hw
  exact ⟨0, ((spec_DrawMailbox_r 0 code).trans (spec_DrawMailbox_c Vm.bad _ code h_code)).trans (by kernel_rfl)⟩

def laws_sameInts_s : Sum := { ps := [⟨[.sl [.int .i64]], false⟩, ⟨[.sl [.int .i64]], false⟩], rs := [⟨[.imm .bool], false⟩], fn := fun ds => (true, [.bool (sameInts (rR ds 0) (rR ds 1))]) }
def laws_sameInts_G : Ctx := []
theorem laws_sameInts_x : CtxHolds Try.prog laws_sameInts_G := ctx_nil
def laws_sameInts_A : List (Nat × Ann) := [(4, { slots := [(0, .asis), (1, .asis), (5, .asis)], boxes := [] })]
def laws_sameInts_K : Bool → Res := (fun r0 => ((true, [.bool r0]) : Res))
def laws_sameInts_m0 (a : Rows) (b : Rows) (i : Int) : St := { n := 26, sl := [(0, .sl [.int .i64] a), (1, .sl [.int .i64] b), (5, .int .i64 i)], hp := [], ok := true, ls := [], lm := [] }
noncomputable def laws_sameInts_B0 (N : Nat) : (St → Res) → St → Res := loopB Try.prog laws_sameInts_G laws_sameInts_A N Try.f16 laws_sameInts_s [true, true, false, true, false] []
theorem laws_sameInts_b0 (N : Nat) (a : Rows) (b : Rows) (ih : St → Res) (i : Int) : laws_sameInts_B0 N ih (laws_sameInts_m0 a b i) = laws_sameInts_l0 Vm.bad laws_sameInts_K a b (fun i => ih (laws_sameInts_m0 a b i)) i := by kernel_rfl
theorem laws_sameInts_n0 (N : Nat) (a : Rows) (b : Rows) (m_ : Nat) : (fun i => loopN (laws_sameInts_B0 N) m_ (laws_sameInts_m0 a b i)) = laws_sameInts_L0 Vm.bad laws_sameInts_K N a b m_ := by
  induction m_ with
  | zero => rfl
  | succ m_ ih =>
    funext i
    show laws_sameInts_B0 N (loopN (laws_sameInts_B0 N) m_) (laws_sameInts_m0 a b i) = _
    rw [laws_sameInts_b0 N a b]
    rw [ih]
    rfl
theorem laws_sameInts_r (N : Nat) (a : Rows) (b : Rows) : runF Try.prog laws_sameInts_G laws_sameInts_A N Try.f16 laws_sameInts_s (.sl a :: (.sl b :: ([]))) = laws_sameInts_f Vm.bad laws_sameInts_K N a b := by
  have h : runF Try.prog laws_sameInts_G laws_sameInts_A N Try.f16 laws_sameInts_s (.sl a :: (.sl b :: ([]))) = laws_sameInts_t Vm.bad laws_sameInts_K (fun i => loopN (laws_sameInts_B0 N) N (laws_sameInts_m0 a b i)) a b := by kernel_rfl
  refine h.trans ?_
  unfold laws_sameInts_f
  have e0 : (fun i => loopN (laws_sameInts_B0 N) N (laws_sameInts_m0 a b i)) = (laws_sameInts_L0 Vm.bad laws_sameInts_K N a b N) := by
    exact laws_sameInts_n0 N a b N
  exact congrArg (fun l_ => laws_sameInts_t Vm.bad laws_sameInts_K l_ a b) e0
theorem laws_sameInts_h : Holds Try.prog 16 laws_sameInts_s := by
  refine holds_of_run (A := laws_sameInts_A) laws_sameInts_x Try.func16 rfl (by kernel_rfl) (of_decide_eq_true (by kernel_rfl)) (of_decide_eq_true (by kernel_rfl)) ?_
  intro ds hw hok
  replace hw : WtL ((.sl [.int .i64]) :: ((.sl [.int .i64]) :: ([]))) ds := hw
  obtain ⟨a, ds, rfl, h_a, hw⟩ := of_wt_sl hw
  obtain ⟨b, ds, rfl, h_b, hw⟩ := of_wt_sl hw
  obtain rfl := of_wt_nil hw
  obtain ⟨N, hN⟩ := laws_sameInts_c Vm.bad laws_sameInts_K a b h_a h_b
  exact ⟨N, ((laws_sameInts_r N a b).trans hN).trans (by kernel_rfl)⟩

def laws_FnMailFilter_s : Sum := { ps := [⟨[.sl [.int .u8]], false⟩], rs := [⟨[.imm .bool], false⟩], fn := fun ds => (fitL ((.sl [.int .u8]) :: ([])) ds, [.bool true]) }
def laws_FnMailFilter_G : Ctx := [(11, impl_MailboxOk_s), (13, laws_big_s), (14, spec_DrawMailbox_s), (15, impl_HandleMessage_s), (16, laws_sameInts_s), (17, impl_FilterOk_s)]
theorem laws_FnMailFilter_x : CtxHolds Try.prog laws_FnMailFilter_G := ctx_cons impl_MailboxOk_h (ctx_cons laws_big_h (ctx_cons spec_DrawMailbox_h (ctx_cons impl_HandleMessage_h (ctx_cons laws_sameInts_h (ctx_cons impl_FilterOk_h ctx_nil)))))
def laws_FnMailFilter_A : List (Nat × Ann) := [(5, { slots := [(3, .asis), (4, .asis), (6, .asis)], boxes := [(192, [])] })]
def laws_FnMailFilter_K : Bool → Res := (fun r0 => ((true, [.bool r0]) : Res))
def laws_FnMailFilter_m0 (k : Int) (b : Int) (b_1 : Bool) (b_2 : Int) (b_3 : Int) (b_4 : Int) (list_ : Rows) (b_2_1 : Rows) : St := { n := 112, sl := [(3, .ptr 192 0), (4, .own 640256), (6, .int .i64 k)], hp := [(192, .box 31 [.int .i64 b, .bool b_1, .own 1329154, .int .i64 b_2, .int .i64 b_3, .int .i64 b_4]), (640256, .row 42 [.int .i64, .int .i64, .int .i64] list_ false true), (1329154, .row 3 [.int .i64] b_2_1 false true)], ok := true, ls := [], lm := [] }
noncomputable def laws_FnMailFilter_B0 (N : Nat) : (St → Res) → St → Res := loopB Try.prog laws_FnMailFilter_G laws_FnMailFilter_A N Try.f4 laws_FnMailFilter_s [true, true, true, false, true, false] []
theorem laws_FnMailFilter_b0 (N : Nat) (list_ : Rows) (ih : St → Res) (k : Int) (b : Int) (b_1 : Bool) (b_2 : Int) (b_3 : Int) (b_4 : Int) (b_2_1 : Rows) : laws_FnMailFilter_B0 N ih (laws_FnMailFilter_m0 k b b_1 b_2 b_3 b_4 list_ b_2_1) = laws_FnMailFilter_l0 Vm.bad laws_FnMailFilter_K list_ (fun k b b_1 b_2 b_3 b_4 b_2_1 => ih (laws_FnMailFilter_m0 k b b_1 b_2 b_3 b_4 list_ b_2_1)) k b b_1 b_2 b_3 b_4 b_2_1 := by kernel_rfl
theorem laws_FnMailFilter_n0 (N : Nat) (list_ : Rows) (m_ : Nat) : (fun k b b_1 b_2 b_3 b_4 b_2_1 => loopN (laws_FnMailFilter_B0 N) m_ (laws_FnMailFilter_m0 k b b_1 b_2 b_3 b_4 list_ b_2_1)) = laws_FnMailFilter_L0 Vm.bad laws_FnMailFilter_K N list_ m_ := by
  induction m_ with
  | zero => rfl
  | succ m_ ih =>
    funext k b b_1 b_2 b_3 b_4 b_2_1
    show laws_FnMailFilter_B0 N (loopN (laws_FnMailFilter_B0 N) m_) (laws_FnMailFilter_m0 k b b_1 b_2 b_3 b_4 list_ b_2_1) = _
    rw [laws_FnMailFilter_b0 N list_]
    rw [ih]
    rfl
theorem laws_FnMailFilter_r (N : Nat) (code : Rows) : runF Try.prog laws_FnMailFilter_G laws_FnMailFilter_A N Try.f4 laws_FnMailFilter_s (.sl code :: ([])) = laws_FnMailFilter_f Vm.bad laws_FnMailFilter_K N code := by
  have h : runF Try.prog laws_FnMailFilter_G laws_FnMailFilter_A N Try.f4 laws_FnMailFilter_s (.sl code :: ([])) = laws_FnMailFilter_t Vm.bad laws_FnMailFilter_K (fun list_ k b b_1 b_2 b_3 b_4 b_2_1 => loopN (laws_FnMailFilter_B0 N) N (laws_FnMailFilter_m0 k b b_1 b_2 b_3 b_4 list_ b_2_1)) code := by kernel_rfl
  refine h.trans ?_
  unfold laws_FnMailFilter_f
  have e0 : (fun list_ k b b_1 b_2 b_3 b_4 b_2_1 => loopN (laws_FnMailFilter_B0 N) N (laws_FnMailFilter_m0 k b b_1 b_2 b_3 b_4 list_ b_2_1)) = (fun list_ => laws_FnMailFilter_L0 Vm.bad laws_FnMailFilter_K N list_ N) := by
    funext list_
    exact laws_FnMailFilter_n0 N list_ N
  exact congrArg (fun l_ => laws_FnMailFilter_t Vm.bad laws_FnMailFilter_K l_ code) e0
theorem laws_FnMailFilter_h : Holds Try.prog 4 laws_FnMailFilter_s := by
  refine holds_of_run (A := laws_FnMailFilter_A) laws_FnMailFilter_x Try.func4 rfl (by kernel_rfl) (of_decide_eq_true (by kernel_rfl)) (of_decide_eq_true (by kernel_rfl)) ?_
  intro ds hw hok
  replace hw : WtL ((.sl [.int .u8]) :: ([])) ds := hw
  obtain ⟨code, ds, rfl, h_code, hw⟩ := of_wt_sl hw
  obtain rfl := of_wt_nil hw
  obtain ⟨N, hN⟩ := laws_FnMailFilter_c Vm.bad laws_FnMailFilter_K code h_code hok
  exact ⟨N, ((laws_FnMailFilter_r N code).trans hN).trans (by kernel_rfl)⟩

end
end Go.Proofs.Ytjmgpcfmcdlnpaa.Pl
