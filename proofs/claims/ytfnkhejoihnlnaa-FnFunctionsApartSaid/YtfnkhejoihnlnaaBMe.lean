/- The contracts of functions of the program: each computes what its plain form says. Conditions: none. -/
import Derived.Test.YtfnkhejoihnlnaaPMe
import Derived.Test.YtfnkhejoihnlnaaRows
import Derived.Test.YtfnkhejoihnlnaaBMp
import Derived.Test.YtfnkhejoihnlnaaBLo
import Derived.Test.YtfnkhejoihnlnaaBPo
import Derived.Test.YtfnkhejoihnlnaaBDb
set_option linter.unusedVariables false
set_option linter.unusedSimpArgs false
set_option maxRecDepth 100000
namespace Go.Proofs.Ytfnkhejoihnlnaa.Pl
open Vm
noncomputable section

def impl_copyStrings_s : Sum := { ps := [⟨[.sl [.str]], false⟩], rs := [⟨[.own 9 [.str]], false⟩], fn := fun ds => (sm (rR ds 0), [.sl (idf (rR ds 0))]) }
def impl_copyStrings_G : Ctx := []
theorem impl_copyStrings_x : CtxHolds Try.prog impl_copyStrings_G := ctx_nil
def impl_copyStrings_A : List (Nat × Ann) := []
theorem impl_copyStrings_r (N : Nat) (l : Rows) : runF Try.prog impl_copyStrings_G impl_copyStrings_A N Try.f129 impl_copyStrings_s (.sl l :: ([])) = impl_copyStrings_t Vm.bad (fun r0 => ((true, [.sl r0]) : Res)) l := by kernel_rfl
theorem impl_copyStrings_h : Holds Try.prog 129 impl_copyStrings_s := by
  refine holds_of_run (A := impl_copyStrings_A) impl_copyStrings_x Try.func129 rfl (by kernel_rfl) (of_decide_eq_true (by kernel_rfl)) (of_decide_eq_true (by kernel_rfl)) ?_
  intro ds hw hok
  replace hw : WtL ((.sl [.str]) :: ([])) ds := hw
  obtain ⟨l, ds, rfl, h_l, hw⟩ := of_wt_sl hw
  obtain rfl := of_wt_nil hw
  exact ⟨0, ((impl_copyStrings_r 0 l).trans (impl_copyStrings_c Vm.bad _ l h_l hok)).trans (by kernel_rfl)⟩

def impl_copyMemory_s : Sum := { ps := [⟨[.sl [.str]], true⟩], rs := [⟨[.own 9 [.str]], true⟩], fn := fun ds => (memSm (SMemory.decAt ds 0), SMemory.enc (idf (SMemory.decAt ds 0))) }
def impl_copyMemory_G : Ctx := [(129, impl_copyStrings_s)]
theorem impl_copyMemory_x : CtxHolds Try.prog impl_copyMemory_G := ctx_cons impl_copyStrings_h ctx_nil
def impl_copyMemory_A : List (Nat × Ann) := []
theorem impl_copyMemory_r (N : Nat) (m : SMemory) : runF Try.prog impl_copyMemory_G impl_copyMemory_A N Try.f108 impl_copyMemory_s (m.enc ++ ([])) = impl_copyMemory_t Vm.bad (fun r0 => ((true, SMemory.enc r0) : Res)) m := by kernel_rfl
theorem impl_copyMemory_h : Holds Try.prog 108 impl_copyMemory_s := by
  refine holds_of_run (A := impl_copyMemory_A) impl_copyMemory_x Try.func108 rfl (by kernel_rfl) (of_decide_eq_true (by kernel_rfl)) (of_decide_eq_true (by kernel_rfl)) ?_
  intro ds hw hok
  replace hw : WtL (SMemory.ct ++ ([])) ds := hw
  obtain ⟨m, ds, rfl, h_m, hw⟩ := SMemory.of_wt (r := _) hw
  obtain rfl := of_wt_nil hw
  exact ⟨0, ((impl_copyMemory_r 0 m).trans (impl_copyMemory_c Vm.bad _ m h_m hok)).trans (by kernel_rfl)⟩

def impl_MemoryOk_s : Sum := { ps := [⟨[.sl [.str]], true⟩], rs := [⟨[.imm .bool], false⟩], fn := fun ds => (true, [.bool (MemoryOk (SMemory.decAt ds 0))]) }
def impl_MemoryOk_G : Ctx := []
theorem impl_MemoryOk_x : CtxHolds Try.prog impl_MemoryOk_G := ctx_nil
def impl_MemoryOk_A : List (Nat × Ann) := [(2, { slots := [(1, .asis), (6, .asis), (7, .asis), (8, .asis)], boxes := [(64, [])] })]
def impl_MemoryOk_K : Bool → Res := (fun r0 => ((true, [.bool r0]) : Res))
def impl_MemoryOk_m0 (x : Rows) (x_1 : Int) (x_2 : Int) (m_1 : Rows) : St := { n := 20, sl := [(1, .ptr 64 0), (6, .sl [.str] x), (7, .int .i64 x_1), (8, .int .i64 x_2)], hp := [(64, .box 58 [.sl [.str] m_1])], ok := true, ls := [], lm := [] }
noncomputable def impl_MemoryOk_B0 (N : Nat) : (St → Res) → St → Res := loopB Try.prog impl_MemoryOk_G impl_MemoryOk_A N Try.f130 impl_MemoryOk_s [true, false, true, false] []
theorem impl_MemoryOk_b0 (N : Nat) (x : Rows) (x_1 : Int) (m_1 : Rows) (ih : St → Res) (x_2 : Int) : impl_MemoryOk_B0 N ih (impl_MemoryOk_m0 x x_1 x_2 m_1) = impl_MemoryOk_l0 Vm.bad impl_MemoryOk_K x x_1 m_1 (fun x_2 => ih (impl_MemoryOk_m0 x x_1 x_2 m_1)) x_2 := by kernel_rfl
theorem impl_MemoryOk_n0 (N : Nat) (x : Rows) (x_1 : Int) (m_1 : Rows) (m_ : Nat) : (fun x_2 => loopN (impl_MemoryOk_B0 N) m_ (impl_MemoryOk_m0 x x_1 x_2 m_1)) = impl_MemoryOk_L0 Vm.bad impl_MemoryOk_K N x x_1 m_1 m_ := by
  induction m_ with
  | zero => rfl
  | succ m_ ih =>
    funext x_2
    show impl_MemoryOk_B0 N (loopN (impl_MemoryOk_B0 N) m_) (impl_MemoryOk_m0 x x_1 x_2 m_1) = _
    rw [impl_MemoryOk_b0 N x x_1 m_1]
    rw [ih]
    rfl
theorem impl_MemoryOk_r (N : Nat) (m : SMemory) : runF Try.prog impl_MemoryOk_G impl_MemoryOk_A N Try.f130 impl_MemoryOk_s (m.enc ++ ([])) = impl_MemoryOk_f Vm.bad impl_MemoryOk_K N m := by
  have run_ : runF Try.prog impl_MemoryOk_G impl_MemoryOk_A N Try.f130 impl_MemoryOk_s (m.enc ++ ([])) = impl_MemoryOk_t Vm.bad impl_MemoryOk_K (fun x x_1 m_1 x_2 => loopN (impl_MemoryOk_B0 N) N (impl_MemoryOk_m0 x x_1 x_2 m_1)) m := by kernel_rfl
  refine run_.trans ?_
  unfold impl_MemoryOk_f
  have e0 : (fun x x_1 m_1 x_2 => loopN (impl_MemoryOk_B0 N) N (impl_MemoryOk_m0 x x_1 x_2 m_1)) = (fun x x_1 m_1 => impl_MemoryOk_L0 Vm.bad impl_MemoryOk_K N x x_1 m_1 N) := by
    funext x x_1 m_1
    exact impl_MemoryOk_n0 N x x_1 m_1 N
  exact congrArg (fun l_ => impl_MemoryOk_t Vm.bad impl_MemoryOk_K l_ m) e0
theorem impl_MemoryOk_h : Holds Try.prog 130 impl_MemoryOk_s := by
  refine holds_of_run (A := impl_MemoryOk_A) impl_MemoryOk_x Try.func130 rfl (by kernel_rfl) (of_decide_eq_true (by kernel_rfl)) (of_decide_eq_true (by kernel_rfl)) ?_
  intro ds hw hok
  replace hw : WtL (SMemory.ct ++ ([])) ds := hw
  obtain ⟨m, ds, rfl, h_m, hw⟩ := SMemory.of_wt (r := _) hw
  obtain rfl := of_wt_nil hw
  obtain ⟨N, hN⟩ := impl_MemoryOk_c Vm.bad impl_MemoryOk_K m h_m
  exact ⟨N, ((impl_MemoryOk_r N m).trans hN).trans (by kernel_rfl)⟩

def impl_place_s : Sum := { ps := [⟨[.sl [.int .i64, .int .i64, .int .i64, .bool]], false⟩, ⟨[.int .i64], false⟩, ⟨[.int .i64], false⟩, ⟨[.bool], false⟩], rs := [⟨[.imm (.int .i64)], false⟩], fn := fun ds => (true, [.int (place (rR ds 0) (rI ds 1) (rI ds 2) (rB ds 3))]) }
def impl_place_G : Ctx := [(111, impl_pageMapping_s)]
theorem impl_place_x : CtxHolds Try.prog impl_place_G := ctx_cons impl_pageMapping_h ctx_nil
def impl_place_A : List (Nat × Ann) := []
theorem impl_place_r (N : Nat) (list_ : Rows) (domain : Int) (address : Int) (write : Bool) : runF Try.prog impl_place_G impl_place_A N Try.f131 impl_place_s (.sl list_ :: (.int domain :: (.int address :: (.bool write :: ([]))))) = impl_place_t Vm.bad (fun r0 => ((true, [.int r0]) : Res)) list_ domain address write := by kernel_rfl
theorem impl_place_h : Holds Try.prog 131 impl_place_s := by
  refine holds_of_run (A := impl_place_A) impl_place_x Try.func131 rfl (by kernel_rfl) (of_decide_eq_true (by kernel_rfl)) (of_decide_eq_true (by kernel_rfl)) ?_
  intro ds hw hok
  replace hw : WtL ((.sl [.int .i64, .int .i64, .int .i64, .bool]) :: ((.int .i64) :: ((.int .i64) :: (.bool :: ([]))))) ds := hw
  obtain ⟨list_, ds, rfl, h_list_, hw⟩ := of_wt_sl hw
  obtain ⟨domain, ds, rfl, h_domain, hw⟩ := of_wt_int hw
  obtain ⟨address, ds, rfl, h_address, hw⟩ := of_wt_int hw
  obtain ⟨write, ds, rfl, h_write, hw⟩ := of_wt_bool hw
  obtain rfl := of_wt_nil hw
  exact ⟨0, ((impl_place_r 0 list_ domain address write).trans (impl_place_c Vm.bad _ list_ domain address write h_list_ h_domain h_address h_write)).trans (by kernel_rfl)⟩

def impl_within_s : Sum := { ps := [⟨[.sl [.str]], true⟩, ⟨[.int .i64], false⟩, ⟨[.int .i64], false⟩], rs := [⟨[.imm .bool], false⟩], fn := fun ds => (true, [.bool (within (SMemory.decAt ds 0) (rI ds 1) (rI ds 2))]) }
def impl_within_G : Ctx := [(130, impl_MemoryOk_s)]
theorem impl_within_x : CtxHolds Try.prog impl_within_G := ctx_cons impl_MemoryOk_h ctx_nil
def impl_within_A : List (Nat × Ann) := []
theorem impl_within_r (N : Nat) (m : SMemory) (at_ : Int) (n : Int) : runF Try.prog impl_within_G impl_within_A N Try.f132 impl_within_s (m.enc ++ (.int at_ :: (.int n :: ([])))) = impl_within_t (fun r0 => ((true, [.bool r0]) : Res)) m at_ n := by kernel_rfl
theorem impl_within_h : Holds Try.prog 132 impl_within_s := by
  refine holds_of_run (A := impl_within_A) impl_within_x Try.func132 rfl (by kernel_rfl) (of_decide_eq_true (by kernel_rfl)) (of_decide_eq_true (by kernel_rfl)) ?_
  intro ds hw hok
  replace hw : WtL (SMemory.ct ++ ((.int .i64) :: ((.int .i64) :: ([])))) ds := hw
  obtain ⟨m, ds, rfl, h_m, hw⟩ := SMemory.of_wt (r := _) hw
  obtain ⟨at_, ds, rfl, h_at_, hw⟩ := of_wt_int hw
  obtain ⟨n, ds, rfl, h_n, hw⟩ := of_wt_int hw
  obtain rfl := of_wt_nil hw
  exact ⟨0, ((impl_within_r 0 m at_ n).trans (impl_within_c _ m at_ n)).trans (by kernel_rfl)⟩

def impl_WriteMemory_s : Sum := { ps := [⟨[.sl [.str]], true⟩, ⟨[.int .i64], false⟩, ⟨[.str], false⟩], rs := [⟨[.own 9 [.str]], true⟩, ⟨[.imm .bool], false⟩], fn := fun ds => (WriteMemory_ok (SMemory.decAt ds 0) (rI ds 1) (rS ds 2), SMemory.enc (WriteMemory (SMemory.decAt ds 0) (rI ds 1) (rS ds 2)).1 ++ [.bool (WriteMemory (SMemory.decAt ds 0) (rI ds 1) (rS ds 2)).2]) }
def impl_WriteMemory_G : Ctx := [(1125899906842657, annS), (108, impl_copyMemory_s), (132, impl_within_s)]
theorem impl_WriteMemory_x : CtxHolds Try.prog impl_WriteMemory_G := ctx_cons ann_h (ctx_cons impl_copyMemory_h (ctx_cons impl_within_h ctx_nil))
def impl_WriteMemory_A : List (Nat × Ann) := [(4, { slots := [(1, .asis), (2, .asis), (6, .asis), (8, .asis)], boxes := [(192, []), (384, []), (512, [])] })]
def impl_WriteMemory_K : SMemory → Bool → Res := (fun r0 r1 => ((true, SMemory.enc r0 ++ [.bool r1]) : Res))
def impl_WriteMemory_m0 (at_1 : Int) (s_1 : Bytes) (m_1 : Rows) (out_0 : Rows) : St := { n := 50, sl := [(1, .int .i64 at_1), (2, .str s_1), (6, .ptr 384 0), (8, .ptr 512 0)], hp := [(192, .box 58 [.sl [.str] m_1]), (384, .box 58 [.nil]), (512, .box 58 [.own 1411072]), (1411072, .row 9 [.str] out_0 false true)], ok := true, ls := [], lm := [] }
noncomputable def impl_WriteMemory_B0 (N : Nat) : (St → Res) → St → Res := loopB Try.prog impl_WriteMemory_G impl_WriteMemory_A N Try.f110 impl_WriteMemory_s [true, true, true, false, false] []
theorem impl_WriteMemory_b0 (N : Nat) (m_1 : Rows) (ih : St → Res) (at_1 : Int) (s_1 : Bytes) (out_0 : Rows) : impl_WriteMemory_B0 N ih (impl_WriteMemory_m0 at_1 s_1 m_1 out_0) = impl_WriteMemory_l0 Vm.bad impl_WriteMemory_K (fun at_1 s_1 out_0 => ih (impl_WriteMemory_m0 at_1 s_1 m_1 out_0)) at_1 s_1 out_0 := by kernel_rfl
theorem impl_WriteMemory_n0 (N : Nat) (m_1 : Rows) (m_ : Nat) : (fun at_1 s_1 out_0 => loopN (impl_WriteMemory_B0 N) m_ (impl_WriteMemory_m0 at_1 s_1 m_1 out_0)) = impl_WriteMemory_L0 Vm.bad impl_WriteMemory_K N m_ := by
  induction m_ with
  | zero => rfl
  | succ m_ ih =>
    funext at_1 s_1 out_0
    show impl_WriteMemory_B0 N (loopN (impl_WriteMemory_B0 N) m_) (impl_WriteMemory_m0 at_1 s_1 m_1 out_0) = _
    rw [impl_WriteMemory_b0 N m_1]
    rw [ih]
    rfl
theorem impl_WriteMemory_r (N : Nat) (m : SMemory) (at_ : Int) (s : Bytes) : runF Try.prog impl_WriteMemory_G impl_WriteMemory_A N Try.f110 impl_WriteMemory_s (m.enc ++ (.int at_ :: (.str s :: ([])))) = impl_WriteMemory_f Vm.bad impl_WriteMemory_K N m at_ s := by
  have run_ : runF Try.prog impl_WriteMemory_G impl_WriteMemory_A N Try.f110 impl_WriteMemory_s (m.enc ++ (.int at_ :: (.str s :: ([])))) = impl_WriteMemory_t Vm.bad impl_WriteMemory_K (fun at_1 s_1 out_0 => loopN (impl_WriteMemory_B0 N) N (impl_WriteMemory_m0 at_1 s_1 m.Pages out_0)) m at_ s := by kernel_rfl
  refine run_.trans ?_
  unfold impl_WriteMemory_f
  have e0 : (fun at_1 s_1 out_0 => loopN (impl_WriteMemory_B0 N) N (impl_WriteMemory_m0 at_1 s_1 m.Pages out_0)) = (impl_WriteMemory_L0 Vm.bad impl_WriteMemory_K N N) := by
    exact impl_WriteMemory_n0 N m.Pages N
  exact congrArg (fun l_ => impl_WriteMemory_t Vm.bad impl_WriteMemory_K l_ m at_ s) e0
theorem impl_WriteMemory_h : Holds Try.prog 110 impl_WriteMemory_s := by
  refine holds_of_run (A := impl_WriteMemory_A) impl_WriteMemory_x Try.func110 rfl (by kernel_rfl) (of_decide_eq_true (by kernel_rfl)) (of_decide_eq_true (by kernel_rfl)) ?_
  intro ds hw hok
  replace hw : WtL (SMemory.ct ++ ((.int .i64) :: (.str :: ([])))) ds := hw
  obtain ⟨m, ds, rfl, h_m, hw⟩ := SMemory.of_wt (r := _) hw
  obtain ⟨at_, ds, rfl, h_at_, hw⟩ := of_wt_int hw
  obtain ⟨s, ds, rfl, h_s, hw⟩ := of_wt_str hw
  obtain rfl := of_wt_nil hw
  obtain ⟨N, hN⟩ := impl_WriteMemory_c Vm.bad impl_WriteMemory_K m at_ s h_m h_at_ h_s hok
  exact ⟨N, ((impl_WriteMemory_r N m at_ s).trans hN).trans (by kernel_rfl)⟩

def impl_runsOf_s : Sum := { ps := [⟨[.sl [.int .i64, .int .i64, .int .i64, .bool]], false⟩, ⟨[.sl [.str]], true⟩, ⟨[.int .i64], false⟩, ⟨[.int .i64], false⟩, ⟨[.int .i64], false⟩, ⟨[.bool], false⟩], rs := [⟨[.own 150 [.int .i64, .int .i64]], false⟩, ⟨[.imm .bool], false⟩], fn := fun ds => (true, [.sl (runsOf (rR ds 0) (SMemory.decAt ds 1) (rI ds 2) (rI ds 3) (rI ds 4) (rB ds 5)).1] ++ [.bool (runsOf (rR ds 0) (SMemory.decAt ds 1) (rI ds 2) (rI ds 3) (rI ds 4) (rB ds 5)).2]) }
def impl_runsOf_G : Ctx := [(68, impl_between_s), (78, impl_MappingsOk_s), (130, impl_MemoryOk_s), (131, impl_place_s), (132, impl_within_s)]
theorem impl_runsOf_x : CtxHolds Try.prog impl_runsOf_G := ctx_cons impl_between_h (ctx_cons impl_MappingsOk_h (ctx_cons impl_MemoryOk_h (ctx_cons impl_place_h (ctx_cons impl_within_h ctx_nil))))
def impl_runsOf_A : List (Nat × Ann) := [(8, { slots := [(0, .asis), (2, .asis), (3, .asis), (4, .asis), (5, .asis), (7, .asis), (14, .asis)], boxes := [(448, [])] })]
def impl_runsOf_K : Rows → Bool → Res := (fun r0 r1 => ((true, [.sl r0] ++ [.bool r1]) : Res))
def impl_runsOf_m0 (list_ : Rows) (domain : Int) (at_1 : Int) (n_1 : Int) (write : Bool) (m_1 : Rows) (out_ : Rows) : St := { n := 75, sl := [(0, .sl [.int .i64, .int .i64, .int .i64, .bool] list_), (2, .int .i64 domain), (3, .int .i64 at_1), (4, .int .i64 n_1), (5, .bool write), (7, .ptr 448 0), (14, .own 640896)], hp := [(448, .box 58 [.sl [.str] m_1]), (640896, .row 150 [.int .i64, .int .i64] out_ false true)], ok := true, ls := [], lm := [] }
noncomputable def impl_runsOf_B0 (N : Nat) : (St → Res) → St → Res := loopB Try.prog impl_runsOf_G impl_runsOf_A N Try.f109 impl_runsOf_s [true, true, true, true, true, false, false] []
theorem impl_runsOf_b0 (N : Nat) (list_ : Rows) (domain : Int) (write : Bool) (m_1 : Rows) (ih : St → Res) (at_1 : Int) (n_1 : Int) (out_ : Rows) : impl_runsOf_B0 N ih (impl_runsOf_m0 list_ domain at_1 n_1 write m_1 out_) = impl_runsOf_l0 Vm.bad impl_runsOf_K list_ domain write m_1 (fun at_1 n_1 out_ => ih (impl_runsOf_m0 list_ domain at_1 n_1 write m_1 out_)) at_1 n_1 out_ := by kernel_rfl
theorem impl_runsOf_n0 (N : Nat) (list_ : Rows) (domain : Int) (write : Bool) (m_1 : Rows) (m_ : Nat) : (fun at_1 n_1 out_ => loopN (impl_runsOf_B0 N) m_ (impl_runsOf_m0 list_ domain at_1 n_1 write m_1 out_)) = impl_runsOf_L0 Vm.bad impl_runsOf_K N list_ domain write m_1 m_ := by
  induction m_ with
  | zero => rfl
  | succ m_ ih =>
    funext at_1 n_1 out_
    show impl_runsOf_B0 N (loopN (impl_runsOf_B0 N) m_) (impl_runsOf_m0 list_ domain at_1 n_1 write m_1 out_) = _
    rw [impl_runsOf_b0 N list_ domain write m_1]
    rw [ih]
    rfl
theorem impl_runsOf_r (N : Nat) (list_ : Rows) (m : SMemory) (domain : Int) (at_ : Int) (n : Int) (write : Bool) : runF Try.prog impl_runsOf_G impl_runsOf_A N Try.f109 impl_runsOf_s (.sl list_ :: (m.enc ++ (.int domain :: (.int at_ :: (.int n :: (.bool write :: ([]))))))) = impl_runsOf_f Vm.bad impl_runsOf_K N list_ m domain at_ n write := by
  have run_ : runF Try.prog impl_runsOf_G impl_runsOf_A N Try.f109 impl_runsOf_s (.sl list_ :: (m.enc ++ (.int domain :: (.int at_ :: (.int n :: (.bool write :: ([]))))))) = impl_runsOf_t Vm.bad impl_runsOf_K (fun m_1 at_1 n_1 out_ => loopN (impl_runsOf_B0 N) N (impl_runsOf_m0 list_ domain at_1 n_1 write m_1 out_)) list_ m domain at_ n write := by kernel_rfl
  refine run_.trans ?_
  unfold impl_runsOf_f
  have e0 : (fun m_1 at_1 n_1 out_ => loopN (impl_runsOf_B0 N) N (impl_runsOf_m0 list_ domain at_1 n_1 write m_1 out_)) = (fun m_1 => impl_runsOf_L0 Vm.bad impl_runsOf_K N list_ domain write m_1 N) := by
    funext m_1
    exact impl_runsOf_n0 N list_ domain write m_1 N
  exact congrArg (fun l_ => impl_runsOf_t Vm.bad impl_runsOf_K l_ list_ m domain at_ n write) e0
theorem impl_runsOf_h : Holds Try.prog 109 impl_runsOf_s := by
  refine holds_of_run (A := impl_runsOf_A) impl_runsOf_x Try.func109 rfl (by kernel_rfl) (of_decide_eq_true (by kernel_rfl)) (of_decide_eq_true (by kernel_rfl)) ?_
  intro ds hw hok
  replace hw : WtL ((.sl [.int .i64, .int .i64, .int .i64, .bool]) :: (SMemory.ct ++ ((.int .i64) :: ((.int .i64) :: ((.int .i64) :: (.bool :: ([]))))))) ds := hw
  obtain ⟨list_, ds, rfl, h_list_, hw⟩ := of_wt_sl hw
  obtain ⟨m, ds, rfl, h_m, hw⟩ := SMemory.of_wt (r := _) hw
  obtain ⟨domain, ds, rfl, h_domain, hw⟩ := of_wt_int hw
  obtain ⟨at_, ds, rfl, h_at_, hw⟩ := of_wt_int hw
  obtain ⟨n, ds, rfl, h_n, hw⟩ := of_wt_int hw
  obtain ⟨write, ds, rfl, h_write, hw⟩ := of_wt_bool hw
  obtain rfl := of_wt_nil hw
  obtain ⟨N, hN⟩ := impl_runsOf_c Vm.bad impl_runsOf_K list_ m domain at_ n write h_list_ h_m h_domain h_at_ h_n h_write
  exact ⟨N, ((impl_runsOf_r N list_ m domain at_ n write).trans hN).trans (by kernel_rfl)⟩

end
end Go.Proofs.Ytfnkhejoihnlnaa.Pl
