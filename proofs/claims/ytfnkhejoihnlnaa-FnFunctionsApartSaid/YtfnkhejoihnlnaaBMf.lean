/- The contracts of functions of the program: each computes what its plain form says. Conditions: none. -/
import Derived.Test.YtfnkhejoihnlnaaPMf
import Derived.Test.YtfnkhejoihnlnaaRows
import Derived.Test.YtfnkhejoihnlnaaBMe
import Derived.Test.YtfnkhejoihnlnaaBGr
set_option linter.unusedVariables false
set_option linter.unusedSimpArgs false
set_option maxRecDepth 100000
namespace Go.Proofs.Ytfnkhejoihnlnaa.Pl
open Vm
noncomputable section

def impl_put_s : Sum := { ps := [⟨[.sl [.int .i64, .int .i64, .int .i64, .bool]], false⟩, ⟨[.sl [.str]], true⟩, ⟨[.int .i64], false⟩, ⟨[.int .i64], false⟩, ⟨[.str], false⟩, ⟨[.bool], false⟩], rs := [⟨[.own 9 [.str]], true⟩, ⟨[.imm .bool], false⟩], fn := fun ds => (put_ok (rR ds 0) (SMemory.decAt ds 1) (rI ds 2) (rI ds 3) (rS ds 4) (rB ds 5), SMemory.enc (put (rR ds 0) (SMemory.decAt ds 1) (rI ds 2) (rI ds 3) (rS ds 4) (rB ds 5)).1 ++ [.bool (put (rR ds 0) (SMemory.decAt ds 1) (rI ds 2) (rI ds 3) (rS ds 4) (rB ds 5)).2]) }
def impl_put_G : Ctx := [(108, impl_copyMemory_s), (109, impl_runsOf_s), (110, impl_WriteMemory_s)]
theorem impl_put_x : CtxHolds Try.prog impl_put_G := ctx_cons impl_copyMemory_h (ctx_cons impl_runsOf_h (ctx_cons impl_WriteMemory_h ctx_nil))
def impl_put_A : List (Nat × Ann) := [(6, { slots := [(4, .asis), (12, .asis), (14, .asis), (35, .asis), (36, .asis), (37, .asis)], boxes := [(448, []), (768, []), (896, [])] })]
def impl_put_K : SMemory → Bool → Res := (fun r0 r1 => ((true, SMemory.enc r0 ++ [.bool r1]) : Res))
def impl_put_m0 (s_1 : Bytes) (x : Int) (x_1 : Int) (m_1 : Rows) (x_2 : Rows) (out_0 : Rows) : St := { n := 58, sl := [(4, .str s_1), (12, .ptr 768 0), (14, .ptr 896 0), (35, .own 642240), (36, .int .i64 x), (37, .int .i64 x_1)], hp := [(448, .box 58 [.sl [.str] m_1]), (768, .box 58 [.nil]), (896, .box 58 [.own 1509376]), (642240, .row 150 [.int .i64, .int .i64] x_2 false true), (1509376, .row 9 [.str] out_0 false true)], ok := true, ls := [], lm := [] }
noncomputable def impl_put_B0 (N : Nat) : (St → Res) → St → Res := loopB Try.prog impl_put_G impl_put_A N Try.f77 impl_put_s [true, true, true, true, false, true, false] []
theorem impl_put_b0 (N : Nat) (x : Int) (m_1 : Rows) (x_2 : Rows) (ih : St → Res) (s_1 : Bytes) (x_1 : Int) (out_0 : Rows) : impl_put_B0 N ih (impl_put_m0 s_1 x x_1 m_1 x_2 out_0) = impl_put_l0 Vm.bad impl_put_K x x_2 (fun s_1 x_1 out_0 => ih (impl_put_m0 s_1 x x_1 m_1 x_2 out_0)) s_1 x_1 out_0 := by kernel_rfl
theorem impl_put_n0 (N : Nat) (x : Int) (m_1 : Rows) (x_2 : Rows) (m_ : Nat) : (fun s_1 x_1 out_0 => loopN (impl_put_B0 N) m_ (impl_put_m0 s_1 x x_1 m_1 x_2 out_0)) = impl_put_L0 Vm.bad impl_put_K N x x_2 m_ := by
  induction m_ with
  | zero => rfl
  | succ m_ ih =>
    funext s_1 x_1 out_0
    show impl_put_B0 N (loopN (impl_put_B0 N) m_) (impl_put_m0 s_1 x x_1 m_1 x_2 out_0) = _
    rw [impl_put_b0 N x m_1 x_2]
    rw [ih]
    rfl
theorem impl_put_r (N : Nat) (list_ : Rows) (m : SMemory) (domain : Int) (at_ : Int) (s : Bytes) (write : Bool) : runF Try.prog impl_put_G impl_put_A N Try.f77 impl_put_s (.sl list_ :: (m.enc ++ (.int domain :: (.int at_ :: (.str s :: (.bool write :: ([]))))))) = impl_put_f Vm.bad impl_put_K N list_ m domain at_ s write := by
  have run_ : runF Try.prog impl_put_G impl_put_A N Try.f77 impl_put_s (.sl list_ :: (m.enc ++ (.int domain :: (.int at_ :: (.str s :: (.bool write :: ([]))))))) = impl_put_t Vm.bad impl_put_K (fun x x_2 s_1 x_1 out_0 => loopN (impl_put_B0 N) N (impl_put_m0 s_1 x x_1 m.Pages x_2 out_0)) list_ m domain at_ s write := by kernel_rfl
  refine run_.trans ?_
  unfold impl_put_f
  have e0 : (fun x x_2 s_1 x_1 out_0 => loopN (impl_put_B0 N) N (impl_put_m0 s_1 x x_1 m.Pages x_2 out_0)) = (fun x x_2 => impl_put_L0 Vm.bad impl_put_K N x x_2 N) := by
    funext x x_2
    exact impl_put_n0 N x m.Pages x_2 N
  exact congrArg (fun l_ => impl_put_t Vm.bad impl_put_K l_ list_ m domain at_ s write) e0
theorem impl_put_h : Holds Try.prog 77 impl_put_s := by
  refine holds_of_run (A := impl_put_A) impl_put_x Try.func77 rfl (by kernel_rfl) (of_decide_eq_true (by kernel_rfl)) (of_decide_eq_true (by kernel_rfl)) ?_
  intro ds hw hok
  replace hw : WtL ((.sl [.int .i64, .int .i64, .int .i64, .bool]) :: (SMemory.ct ++ ((.int .i64) :: ((.int .i64) :: (.str :: (.bool :: ([]))))))) ds := hw
  obtain ⟨list_, ds, rfl, h_list_, hw⟩ := of_wt_sl hw
  obtain ⟨m, ds, rfl, h_m, hw⟩ := SMemory.of_wt (r := _) hw
  obtain ⟨domain, ds, rfl, h_domain, hw⟩ := of_wt_int hw
  obtain ⟨at_, ds, rfl, h_at_, hw⟩ := of_wt_int hw
  obtain ⟨s, ds, rfl, h_s, hw⟩ := of_wt_str hw
  obtain ⟨write, ds, rfl, h_write, hw⟩ := of_wt_bool hw
  obtain rfl := of_wt_nil hw
  obtain ⟨N, hN⟩ := impl_put_c Vm.bad impl_put_K list_ m domain at_ s write h_list_ h_m h_domain h_at_ h_s h_write hok
  exact ⟨N, ((impl_put_r N list_ m domain at_ s write).trans hN).trans (by kernel_rfl)⟩

def impl_DmaWrite_s : Sum := { ps := [⟨[.sl [.int .i64, .int .i64, .int .i64, .bool]], false⟩, ⟨[.sl [.str]], true⟩, ⟨[.int .i64], false⟩, ⟨[.int .i64], false⟩, ⟨[.str], false⟩], rs := [⟨[.own 9 [.str]], true⟩, ⟨[.imm .bool], false⟩], fn := fun ds => (DmaWrite_ok (rR ds 0) (SMemory.decAt ds 1) (rI ds 2) (rI ds 3) (rS ds 4), SMemory.enc (DmaWrite (rR ds 0) (SMemory.decAt ds 1) (rI ds 2) (rI ds 3) (rS ds 4)).1 ++ [.bool (DmaWrite (rR ds 0) (SMemory.decAt ds 1) (rI ds 2) (rI ds 3) (rS ds 4)).2]) }
def impl_DmaWrite_G : Ctx := [(77, impl_put_s)]
theorem impl_DmaWrite_x : CtxHolds Try.prog impl_DmaWrite_G := ctx_cons impl_put_h ctx_nil
def impl_DmaWrite_A : List (Nat × Ann) := []
theorem impl_DmaWrite_r (N : Nat) (list_ : Rows) (m : SMemory) (domain : Int) (at_ : Int) (s : Bytes) : runF Try.prog impl_DmaWrite_G impl_DmaWrite_A N Try.f41 impl_DmaWrite_s (.sl list_ :: (m.enc ++ (.int domain :: (.int at_ :: (.str s :: ([])))))) = impl_DmaWrite_t Vm.bad (fun r0 r1 => ((true, SMemory.enc r0 ++ [.bool r1]) : Res)) list_ m domain at_ s := by kernel_rfl
theorem impl_DmaWrite_h : Holds Try.prog 41 impl_DmaWrite_s := by
  refine holds_of_run (A := impl_DmaWrite_A) impl_DmaWrite_x Try.func41 rfl (by kernel_rfl) (of_decide_eq_true (by kernel_rfl)) (of_decide_eq_true (by kernel_rfl)) ?_
  intro ds hw hok
  replace hw : WtL ((.sl [.int .i64, .int .i64, .int .i64, .bool]) :: (SMemory.ct ++ ((.int .i64) :: ((.int .i64) :: (.str :: ([])))))) ds := hw
  obtain ⟨list_, ds, rfl, h_list_, hw⟩ := of_wt_sl hw
  obtain ⟨m, ds, rfl, h_m, hw⟩ := SMemory.of_wt (r := _) hw
  obtain ⟨domain, ds, rfl, h_domain, hw⟩ := of_wt_int hw
  obtain ⟨at_, ds, rfl, h_at_, hw⟩ := of_wt_int hw
  obtain ⟨s, ds, rfl, h_s, hw⟩ := of_wt_str hw
  obtain rfl := of_wt_nil hw
  exact ⟨0, ((impl_DmaWrite_r 0 list_ m domain at_ s).trans (impl_DmaWrite_c Vm.bad _ list_ m domain at_ s h_list_ h_m h_domain h_at_ h_s hok)).trans (by kernel_rfl)⟩

def impl_ChangedPages_s : Sum := { ps := [⟨[.sl [.str]], true⟩, ⟨[.sl [.str]], true⟩], rs := [⟨[.own 3 [.int .i64]], false⟩], fn := fun ds => (cpOk (SMemory.decAt ds 0) (SMemory.decAt ds 1), [.sl (ChangedPages (SMemory.decAt ds 0) (SMemory.decAt ds 1))]) }
def impl_ChangedPages_G : Ctx := []
theorem impl_ChangedPages_x : CtxHolds Try.prog impl_ChangedPages_G := ctx_nil
def impl_ChangedPages_A : List (Nat × Ann) := [(3, { slots := [(2, .asis), (5, .asis), (10, .asis), (11, .asis), (12, .asis)], boxes := [(128, []), (192, [])] })]
def impl_ChangedPages_K : Rows → Res := (fun r0 => ((true, [.sl r0]) : Res))
def impl_ChangedPages_m0 (x : Rows) (x_1 : Int) (x_2 : Int) (a_1 : Rows) (b_1 : Rows) (out_ : Rows) : St := { n := 37, sl := [(2, .ptr 128 0), (5, .own 640320), (10, .sl [.str] x), (11, .int .i64 x_1), (12, .int .i64 x_2)], hp := [(128, .box 58 [.sl [.str] a_1]), (192, .box 58 [.sl [.str] b_1]), (640320, .row 3 [.int .i64] out_ false true)], ok := true, ls := [], lm := [] }
noncomputable def impl_ChangedPages_B0 (N : Nat) : (St → Res) → St → Res := loopB Try.prog impl_ChangedPages_G impl_ChangedPages_A N Try.f42 impl_ChangedPages_s [true, true, false, true, false] []
theorem impl_ChangedPages_b0 (N : Nat) (x : Rows) (x_1 : Int) (a_1 : Rows) (b_1 : Rows) (ih : St → Res) (x_2 : Int) (out_ : Rows) : impl_ChangedPages_B0 N ih (impl_ChangedPages_m0 x x_1 x_2 a_1 b_1 out_) = impl_ChangedPages_l0 Vm.bad impl_ChangedPages_K x x_1 a_1 (fun x_2 out_ => ih (impl_ChangedPages_m0 x x_1 x_2 a_1 b_1 out_)) x_2 out_ := by kernel_rfl
theorem impl_ChangedPages_n0 (N : Nat) (x : Rows) (x_1 : Int) (a_1 : Rows) (b_1 : Rows) (m_ : Nat) : (fun x_2 out_ => loopN (impl_ChangedPages_B0 N) m_ (impl_ChangedPages_m0 x x_1 x_2 a_1 b_1 out_)) = impl_ChangedPages_L0 Vm.bad impl_ChangedPages_K N x x_1 a_1 m_ := by
  induction m_ with
  | zero => rfl
  | succ m_ ih =>
    funext x_2 out_
    show impl_ChangedPages_B0 N (loopN (impl_ChangedPages_B0 N) m_) (impl_ChangedPages_m0 x x_1 x_2 a_1 b_1 out_) = _
    rw [impl_ChangedPages_b0 N x x_1 a_1 b_1]
    rw [ih]
    rfl
theorem impl_ChangedPages_r (N : Nat) (a : SMemory) (b : SMemory) : runF Try.prog impl_ChangedPages_G impl_ChangedPages_A N Try.f42 impl_ChangedPages_s (a.enc ++ (b.enc ++ ([]))) = impl_ChangedPages_f Vm.bad impl_ChangedPages_K N a b := by
  have run_ : runF Try.prog impl_ChangedPages_G impl_ChangedPages_A N Try.f42 impl_ChangedPages_s (a.enc ++ (b.enc ++ ([]))) = impl_ChangedPages_t Vm.bad impl_ChangedPages_K (fun x x_1 a_1 x_2 out_ => loopN (impl_ChangedPages_B0 N) N (impl_ChangedPages_m0 x x_1 x_2 a_1 b.Pages out_)) a b := by kernel_rfl
  refine run_.trans ?_
  unfold impl_ChangedPages_f
  have e0 : (fun x x_1 a_1 x_2 out_ => loopN (impl_ChangedPages_B0 N) N (impl_ChangedPages_m0 x x_1 x_2 a_1 b.Pages out_)) = (fun x x_1 a_1 => impl_ChangedPages_L0 Vm.bad impl_ChangedPages_K N x x_1 a_1 N) := by
    funext x x_1 a_1
    exact impl_ChangedPages_n0 N x x_1 a_1 b.Pages N
  exact congrArg (fun l_ => impl_ChangedPages_t Vm.bad impl_ChangedPages_K l_ a b) e0
theorem impl_ChangedPages_h : Holds Try.prog 42 impl_ChangedPages_s := by
  refine holds_of_run (A := impl_ChangedPages_A) impl_ChangedPages_x Try.func42 rfl (by kernel_rfl) (of_decide_eq_true (by kernel_rfl)) (of_decide_eq_true (by kernel_rfl)) ?_
  intro ds hw hok
  replace hw : WtL (SMemory.ct ++ (SMemory.ct ++ ([]))) ds := hw
  obtain ⟨a, ds, rfl, h_a, hw⟩ := SMemory.of_wt (r := _) hw
  obtain ⟨b, ds, rfl, h_b, hw⟩ := SMemory.of_wt (r := _) hw
  obtain rfl := of_wt_nil hw
  obtain ⟨N, hN⟩ := impl_ChangedPages_c Vm.bad impl_ChangedPages_K a b h_a h_b hok
  exact ⟨N, ((impl_ChangedPages_r N a b).trans hN).trans (by kernel_rfl)⟩

def spec_NewMemory_s : Sum := { ps := [⟨[.int .i64], false⟩], rs := [⟨[.own 9 [.str]], true⟩], fn := fun ds => (true, SMemory.enc (NewMemory (rI ds 0))) }
def spec_NewMemory_G : Ctx := [(76, spec_l01Long_s)]
theorem spec_NewMemory_x : CtxHolds Try.prog spec_NewMemory_G := ctx_cons spec_l01Long_h ctx_nil
def spec_NewMemory_A : List (Nat × Ann) := [(3, { slots := [(0, .asis), (2, .asis), (3, .asis), (4, .asis)], boxes := [(128, []), (192, [(0, .own 9)])] })]
def spec_NewMemory_K : SMemory → Res := (fun r0 => ((true, SMemory.enc r0) : Res))
def spec_NewMemory_m0 (pages : Int) (k : Int) (m_0 : Rows) : St := { n := 22, sl := [(0, .int .i64 pages), (2, .ptr 128 0), (3, .ptr 192 0), (4, .int .i64 k)], hp := [(128, .box 58 [.nil]), (192, .box 58 [.own 1329152]), (1329152, .row 9 [.str] m_0 false true)], ok := true, ls := [], lm := [] }
noncomputable def spec_NewMemory_B0 (N : Nat) : (St → Res) → St → Res := loopB Try.prog spec_NewMemory_G spec_NewMemory_A N Try.f39 spec_NewMemory_s [true, true, false, true, false] []
theorem spec_NewMemory_b0 (N : Nat) (pages : Int) (ih : St → Res) (k : Int) (m_0 : Rows) : spec_NewMemory_B0 N ih (spec_NewMemory_m0 pages k m_0) = spec_NewMemory_l0 Vm.bad spec_NewMemory_K pages (fun k m_0 => ih (spec_NewMemory_m0 pages k m_0)) k m_0 := by kernel_rfl
theorem spec_NewMemory_n0 (N : Nat) (pages : Int) (m_ : Nat) : (fun k m_0 => loopN (spec_NewMemory_B0 N) m_ (spec_NewMemory_m0 pages k m_0)) = spec_NewMemory_L0 Vm.bad spec_NewMemory_K N pages m_ := by
  induction m_ with
  | zero => rfl
  | succ m_ ih =>
    funext k m_0
    show spec_NewMemory_B0 N (loopN (spec_NewMemory_B0 N) m_) (spec_NewMemory_m0 pages k m_0) = _
    rw [spec_NewMemory_b0 N pages]
    rw [ih]
    rfl
theorem spec_NewMemory_r (N : Nat) (pages : Int) : runF Try.prog spec_NewMemory_G spec_NewMemory_A N Try.f39 spec_NewMemory_s (.int pages :: ([])) = spec_NewMemory_f Vm.bad spec_NewMemory_K N pages := by
  have run_ : runF Try.prog spec_NewMemory_G spec_NewMemory_A N Try.f39 spec_NewMemory_s (.int pages :: ([])) = spec_NewMemory_t Vm.bad spec_NewMemory_K (fun k m_0 => loopN (spec_NewMemory_B0 N) N (spec_NewMemory_m0 pages k m_0)) pages := by kernel_rfl
  refine run_.trans ?_
  unfold spec_NewMemory_f
  have e0 : (fun k m_0 => loopN (spec_NewMemory_B0 N) N (spec_NewMemory_m0 pages k m_0)) = (spec_NewMemory_L0 Vm.bad spec_NewMemory_K N pages N) := by
    exact spec_NewMemory_n0 N pages N
  exact congrArg (fun l_ => spec_NewMemory_t Vm.bad spec_NewMemory_K l_ pages) e0
theorem spec_NewMemory_h : Holds Try.prog 39 spec_NewMemory_s := by
  refine holds_of_run (A := spec_NewMemory_A) spec_NewMemory_x Try.func39 rfl (by kernel_rfl) (of_decide_eq_true (by kernel_rfl)) (of_decide_eq_true (by kernel_rfl)) ?_
  intro ds hw hok
  replace hw : WtL ((.int .i64) :: ([])) ds := hw
  obtain ⟨pages, ds, rfl, h_pages, hw⟩ := of_wt_int hw
  obtain rfl := of_wt_nil hw
  obtain ⟨N, hN⟩ := spec_NewMemory_c Vm.bad spec_NewMemory_K pages h_pages
  exact ⟨N, ((spec_NewMemory_r N pages).trans hN).trans (by kernel_rfl)⟩

end
end Go.Proofs.Ytfnkhejoihnlnaa.Pl
