/- The contracts of functions of the program: each computes what its plain form says. Conditions: none. -/
import Derived.Test.YtklbgnodgnlebaaPBa
import Derived.Test.YtklbgnodgnlebaaRows
import Derived.Test.YtklbgnodgnlebaaBLs
set_option linter.unusedVariables false
set_option linter.unusedSimpArgs false
set_option maxRecDepth 100000
namespace Go.Proofs.Ytklbgnodgnlebaa.Pl
open Vm
noncomputable section

def impl_between_s : Sum := { ps := [⟨[.int .i64], false⟩, ⟨[.int .i64], false⟩, ⟨[.int .i64], false⟩], rs := [⟨[.imm .bool], false⟩], fn := fun ds => (true, [.bool (between (rI ds 0) (rI ds 1) (rI ds 2))]) }
def impl_between_G : Ctx := []
theorem impl_between_x : CtxHolds Try.prog impl_between_G := ctx_nil
def impl_between_A : List (Nat × Ann) := []
theorem impl_between_r (N : Nat) (n : Int) (low : Int) (high : Int) : runF Try.prog impl_between_G impl_between_A N Try.f45 impl_between_s (.int n :: (.int low :: (.int high :: ([])))) = impl_between_t (fun r0 => ((true, [.bool r0]) : Res)) n low high := by kernel_rfl
theorem impl_between_h : Holds Try.prog 45 impl_between_s := by
  refine holds_of_run (A := impl_between_A) impl_between_x Try.func45 rfl (by kernel_rfl) (of_decide_eq_true (by kernel_rfl)) (of_decide_eq_true (by kernel_rfl)) ?_
  intro ds hw hok
  replace hw : WtL ((.int .i64) :: ((.int .i64) :: ((.int .i64) :: ([])))) ds := hw
  obtain ⟨n, ds, rfl, h_n, hw⟩ := of_wt_int hw
  obtain ⟨low, ds, rfl, h_low, hw⟩ := of_wt_int hw
  obtain ⟨high, ds, rfl, h_high, hw⟩ := of_wt_int hw
  obtain rfl := of_wt_nil hw
  exact ⟨0, ((impl_between_r 0 n low high).trans (impl_between_c _ n low high)).trans (by kernel_rfl)⟩

def spec_l01In_s : Sum := { ps := [⟨[.int .i64], false⟩, ⟨[.int .i64], false⟩, ⟨[.int .i64], false⟩], rs := [⟨[.imm .bool], false⟩], fn := fun ds => (true, [.bool (between (rI ds 0) (rI ds 1) (rI ds 2))]) }
def spec_l01In_G : Ctx := []
theorem spec_l01In_x : CtxHolds Try.prog spec_l01In_G := ctx_nil
def spec_l01In_A : List (Nat × Ann) := []
theorem spec_l01In_r (N : Nat) (x : Int) (least : Int) (most : Int) : runF Try.prog spec_l01In_G spec_l01In_A N Try.f41 spec_l01In_s (.int x :: (.int least :: (.int most :: ([])))) = spec_l01In_t (fun r0 => ((true, [.bool r0]) : Res)) x least most := by kernel_rfl
theorem spec_l01In_h : Holds Try.prog 41 spec_l01In_s := by
  refine holds_of_run (A := spec_l01In_A) spec_l01In_x Try.func41 rfl (by kernel_rfl) (of_decide_eq_true (by kernel_rfl)) (of_decide_eq_true (by kernel_rfl)) ?_
  intro ds hw hok
  replace hw : WtL ((.int .i64) :: ((.int .i64) :: ((.int .i64) :: ([])))) ds := hw
  obtain ⟨x, ds, rfl, h_x, hw⟩ := of_wt_int hw
  obtain ⟨least, ds, rfl, h_least, hw⟩ := of_wt_int hw
  obtain ⟨most, ds, rfl, h_most, hw⟩ := of_wt_int hw
  obtain rfl := of_wt_nil hw
  exact ⟨0, ((spec_l01In_r 0 x least most).trans (spec_l01In_c _ x least most h_x h_least h_most)).trans (by kernel_rfl)⟩

def impl_hasInt_s : Sum := { ps := [⟨[.sl [.int .i64]], false⟩, ⟨[.int .i64], false⟩], rs := [⟨[.imm .bool], false⟩], fn := fun ds => (true, [.bool (hasInt (rR ds 0) (rI ds 1))]) }
def impl_hasInt_G : Ctx := []
theorem impl_hasInt_x : CtxHolds Try.prog impl_hasInt_G := ctx_nil
def impl_hasInt_A : List (Nat × Ann) := [(2, { slots := [(1, .asis), (7, .asis), (8, .asis), (9, .asis)], boxes := [] })]
def impl_hasInt_K : Bool → Res := (fun r0 => ((true, [.bool r0]) : Res))
def impl_hasInt_m0 (n : Int) (l : Rows) (x_1 : Int) (x_2 : Int) : St := { n := 17, sl := [(1, .int .i64 n), (7, .sl [.int .i64] l), (8, .int .i64 x_1), (9, .int .i64 x_2)], hp := [], ok := true, ls := [], lm := [] }
noncomputable def impl_hasInt_B0 (N : Nat) : (St → Res) → St → Res := loopB Try.prog impl_hasInt_G impl_hasInt_A N Try.f48 impl_hasInt_s [true, false, true, false] []
theorem impl_hasInt_b0 (N : Nat) (n : Int) (l : Rows) (x_1 : Int) (ih : St → Res) (x_2 : Int) : impl_hasInt_B0 N ih (impl_hasInt_m0 n l x_1 x_2) = impl_hasInt_l0 Vm.bad impl_hasInt_K n l x_1 (fun x_2 => ih (impl_hasInt_m0 n l x_1 x_2)) x_2 := by kernel_rfl
theorem impl_hasInt_n0 (N : Nat) (n : Int) (l : Rows) (x_1 : Int) (m_ : Nat) : (fun x_2 => loopN (impl_hasInt_B0 N) m_ (impl_hasInt_m0 n l x_1 x_2)) = impl_hasInt_L0 Vm.bad impl_hasInt_K N n l x_1 m_ := by
  induction m_ with
  | zero => rfl
  | succ m_ ih =>
    funext x_2
    show impl_hasInt_B0 N (loopN (impl_hasInt_B0 N) m_) (impl_hasInt_m0 n l x_1 x_2) = _
    rw [impl_hasInt_b0 N n l x_1]
    rw [ih]
    rfl
theorem impl_hasInt_r (N : Nat) (l : Rows) (n : Int) : runF Try.prog impl_hasInt_G impl_hasInt_A N Try.f48 impl_hasInt_s (.sl l :: (.int n :: ([]))) = impl_hasInt_f Vm.bad impl_hasInt_K N l n := by
  have run_ : runF Try.prog impl_hasInt_G impl_hasInt_A N Try.f48 impl_hasInt_s (.sl l :: (.int n :: ([]))) = impl_hasInt_t Vm.bad impl_hasInt_K (fun x_1 x_2 => loopN (impl_hasInt_B0 N) N (impl_hasInt_m0 n l x_1 x_2)) l n := by kernel_rfl
  refine run_.trans ?_
  unfold impl_hasInt_f
  have e0 : (fun x_1 x_2 => loopN (impl_hasInt_B0 N) N (impl_hasInt_m0 n l x_1 x_2)) = (fun x_1 => impl_hasInt_L0 Vm.bad impl_hasInt_K N n l x_1 N) := by
    funext x_1
    exact impl_hasInt_n0 N n l x_1 N
  exact congrArg (fun l_ => impl_hasInt_t Vm.bad impl_hasInt_K l_ l n) e0
theorem impl_hasInt_h : Holds Try.prog 48 impl_hasInt_s := by
  refine holds_of_run (A := impl_hasInt_A) impl_hasInt_x Try.func48 rfl (by kernel_rfl) (of_decide_eq_true (by kernel_rfl)) (of_decide_eq_true (by kernel_rfl)) ?_
  intro ds hw hok
  replace hw : WtL ((.sl [.int .i64]) :: ((.int .i64) :: ([]))) ds := hw
  obtain ⟨l, ds, rfl, h_l, hw⟩ := of_wt_sl hw
  obtain ⟨n, ds, rfl, h_n, hw⟩ := of_wt_int hw
  obtain rfl := of_wt_nil hw
  obtain ⟨N, hN⟩ := impl_hasInt_c Vm.bad impl_hasInt_K l n h_l h_n
  exact ⟨N, ((impl_hasInt_r N l n).trans hN).trans (by kernel_rfl)⟩

def spec_l24Has_s : Sum := { ps := [⟨[.sl [.int .i64]], false⟩, ⟨[.int .i64], false⟩], rs := [⟨[.imm .bool], false⟩], fn := fun ds => (true, [.bool (hasInt (rR ds 0) (rI ds 1))]) }
def spec_l24Has_G : Ctx := []
theorem spec_l24Has_x : CtxHolds Try.prog spec_l24Has_G := ctx_nil
def spec_l24Has_A : List (Nat × Ann) := [(2, { slots := [(0, .asis), (1, .asis), (5, .asis)], boxes := [] })]
def spec_l24Has_K : Bool → Res := (fun r0 => ((true, [.bool r0]) : Res))
def spec_l24Has_m0 (list_ : Rows) (k : Int) (i : Int) : St := { n := 18, sl := [(0, .sl [.int .i64] list_), (1, .int .i64 k), (5, .int .i64 i)], hp := [], ok := true, ls := [], lm := [] }
noncomputable def spec_l24Has_B0 (N : Nat) : (St → Res) → St → Res := loopB Try.prog spec_l24Has_G spec_l24Has_A N Try.f43 spec_l24Has_s [true, false, true, false] []
theorem spec_l24Has_b0 (N : Nat) (list_ : Rows) (k : Int) (ih : St → Res) (i : Int) : spec_l24Has_B0 N ih (spec_l24Has_m0 list_ k i) = spec_l24Has_l0 Vm.bad spec_l24Has_K list_ k (fun i => ih (spec_l24Has_m0 list_ k i)) i := by kernel_rfl
theorem spec_l24Has_n0 (N : Nat) (list_ : Rows) (k : Int) (m_ : Nat) : (fun i => loopN (spec_l24Has_B0 N) m_ (spec_l24Has_m0 list_ k i)) = spec_l24Has_L0 Vm.bad spec_l24Has_K N list_ k m_ := by
  induction m_ with
  | zero => rfl
  | succ m_ ih =>
    funext i
    show spec_l24Has_B0 N (loopN (spec_l24Has_B0 N) m_) (spec_l24Has_m0 list_ k i) = _
    rw [spec_l24Has_b0 N list_ k]
    rw [ih]
    rfl
theorem spec_l24Has_r (N : Nat) (list_ : Rows) (k : Int) : runF Try.prog spec_l24Has_G spec_l24Has_A N Try.f43 spec_l24Has_s (.sl list_ :: (.int k :: ([]))) = spec_l24Has_f Vm.bad spec_l24Has_K N list_ k := by
  have run_ : runF Try.prog spec_l24Has_G spec_l24Has_A N Try.f43 spec_l24Has_s (.sl list_ :: (.int k :: ([]))) = spec_l24Has_t Vm.bad spec_l24Has_K (fun i => loopN (spec_l24Has_B0 N) N (spec_l24Has_m0 list_ k i)) list_ k := by kernel_rfl
  refine run_.trans ?_
  unfold spec_l24Has_f
  have e0 : (fun i => loopN (spec_l24Has_B0 N) N (spec_l24Has_m0 list_ k i)) = (spec_l24Has_L0 Vm.bad spec_l24Has_K N list_ k N) := by
    exact spec_l24Has_n0 N list_ k N
  exact congrArg (fun l_ => spec_l24Has_t Vm.bad spec_l24Has_K l_ list_ k) e0
theorem spec_l24Has_h : Holds Try.prog 43 spec_l24Has_s := by
  refine holds_of_run (A := spec_l24Has_A) spec_l24Has_x Try.func43 rfl (by kernel_rfl) (of_decide_eq_true (by kernel_rfl)) (of_decide_eq_true (by kernel_rfl)) ?_
  intro ds hw hok
  replace hw : WtL ((.sl [.int .i64]) :: ((.int .i64) :: ([]))) ds := hw
  obtain ⟨list_, ds, rfl, h_list_, hw⟩ := of_wt_sl hw
  obtain ⟨k, ds, rfl, h_k, hw⟩ := of_wt_int hw
  obtain rfl := of_wt_nil hw
  obtain ⟨N, hN⟩ := spec_l24Has_c Vm.bad spec_l24Has_K list_ k h_list_ h_k
  exact ⟨N, ((spec_l24Has_r N list_ k).trans hN).trans (by kernel_rfl)⟩

def impl_FilterOk_s : Sum := { ps := [⟨[.int .i64, .bool, .sl [.int .i64]], true⟩], rs := [⟨[.imm .bool], false⟩], fn := fun ds => (true, [.bool (FilterOk (SFilter.decAt ds 0))]) }
def impl_FilterOk_G : Ctx := [(45, impl_between_s)]
theorem impl_FilterOk_x : CtxHolds Try.prog impl_FilterOk_G := ctx_cons impl_between_h ctx_nil
def impl_FilterOk_A : List (Nat × Ann) := [(2, { slots := [(1, .asis), (6, .asis), (7, .asis), (8, .asis)], boxes := [(64, [])] })]
def impl_FilterOk_K : Bool → Res := (fun r0 => ((true, [.bool r0]) : Res))
def impl_FilterOk_m0 (x : Rows) (x_1 : Int) (x_2 : Int) (f_1 : Int) (f_2 : Bool) (f_3 : Rows) : St := { n := 40, sl := [(1, .ptr 64 0), (6, .sl [.int .i64] x), (7, .int .i64 x_1), (8, .int .i64 x_2)], hp := [(64, .box 71 [.int .i64 f_1, .bool f_2, .sl [.int .i64] f_3])], ok := true, ls := [], lm := [] }
noncomputable def impl_FilterOk_B0 (N : Nat) : (St → Res) → St → Res := loopB Try.prog impl_FilterOk_G impl_FilterOk_A N Try.f46 impl_FilterOk_s [true, false, true, false] []
theorem impl_FilterOk_b0 (N : Nat) (x : Rows) (x_1 : Int) (f_1 : Int) (f_2 : Bool) (f_3 : Rows) (ih : St → Res) (x_2 : Int) : impl_FilterOk_B0 N ih (impl_FilterOk_m0 x x_1 x_2 f_1 f_2 f_3) = impl_FilterOk_l0 Vm.bad impl_FilterOk_K x x_1 f_1 f_3 (fun x_2 => ih (impl_FilterOk_m0 x x_1 x_2 f_1 f_2 f_3)) x_2 := by kernel_rfl
theorem impl_FilterOk_n0 (N : Nat) (x : Rows) (x_1 : Int) (f_1 : Int) (f_2 : Bool) (f_3 : Rows) (m_ : Nat) : (fun x_2 => loopN (impl_FilterOk_B0 N) m_ (impl_FilterOk_m0 x x_1 x_2 f_1 f_2 f_3)) = impl_FilterOk_L0 Vm.bad impl_FilterOk_K N x x_1 f_1 f_3 m_ := by
  induction m_ with
  | zero => rfl
  | succ m_ ih =>
    funext x_2
    show impl_FilterOk_B0 N (loopN (impl_FilterOk_B0 N) m_) (impl_FilterOk_m0 x x_1 x_2 f_1 f_2 f_3) = _
    rw [impl_FilterOk_b0 N x x_1 f_1 f_2 f_3]
    rw [ih]
    rfl
theorem impl_FilterOk_r (N : Nat) (f : SFilter) : runF Try.prog impl_FilterOk_G impl_FilterOk_A N Try.f46 impl_FilterOk_s (f.enc ++ ([])) = impl_FilterOk_f Vm.bad impl_FilterOk_K N f := by
  have run_ : runF Try.prog impl_FilterOk_G impl_FilterOk_A N Try.f46 impl_FilterOk_s (f.enc ++ ([])) = impl_FilterOk_t Vm.bad impl_FilterOk_K (fun x x_1 f_1 f_3 x_2 => loopN (impl_FilterOk_B0 N) N (impl_FilterOk_m0 x x_1 x_2 f_1 f.Promiscuous f_3)) f := by kernel_rfl
  refine run_.trans ?_
  unfold impl_FilterOk_f
  have e0 : (fun x x_1 f_1 f_3 x_2 => loopN (impl_FilterOk_B0 N) N (impl_FilterOk_m0 x x_1 x_2 f_1 f.Promiscuous f_3)) = (fun x x_1 f_1 f_3 => impl_FilterOk_L0 Vm.bad impl_FilterOk_K N x x_1 f_1 f_3 N) := by
    funext x x_1 f_1 f_3
    exact impl_FilterOk_n0 N x x_1 f_1 f.Promiscuous f_3 N
  exact congrArg (fun l_ => impl_FilterOk_t Vm.bad impl_FilterOk_K l_ f) e0
theorem impl_FilterOk_h : Holds Try.prog 46 impl_FilterOk_s := by
  refine holds_of_run (A := impl_FilterOk_A) impl_FilterOk_x Try.func46 rfl (by kernel_rfl) (of_decide_eq_true (by kernel_rfl)) (of_decide_eq_true (by kernel_rfl)) ?_
  intro ds hw hok
  replace hw : WtL (SFilter.ct ++ ([])) ds := hw
  obtain ⟨f, ds, rfl, h_f, hw⟩ := SFilter.of_wt (r := _) hw
  obtain rfl := of_wt_nil hw
  obtain ⟨N, hN⟩ := impl_FilterOk_c Vm.bad impl_FilterOk_K f h_f
  exact ⟨N, ((impl_FilterOk_r N f).trans hN).trans (by kernel_rfl)⟩

def spec_FilterOk_s : Sum := { ps := [⟨[.int .i64, .bool, .sl [.int .i64]], true⟩], rs := [⟨[.imm .bool], false⟩], fn := fun ds => (true, [.bool (FilterOk (SFilter.decAt ds 0))]) }
def spec_FilterOk_G : Ctx := [(41, spec_l01In_s)]
theorem spec_FilterOk_x : CtxHolds Try.prog spec_FilterOk_G := ctx_cons spec_l01In_h ctx_nil
def spec_FilterOk_A : List (Nat × Ann) := [(2, { slots := [(1, .asis), (3, .asis)], boxes := [(64, [])] })]
def spec_FilterOk_K : Bool → Res := (fun r0 => ((true, [.bool r0]) : Res))
def spec_FilterOk_m0 (k : Int) (f_1 : Int) (f_2 : Bool) (f_3 : Rows) : St := { n := 45, sl := [(1, .ptr 64 0), (3, .int .i64 k)], hp := [(64, .box 71 [.int .i64 f_1, .bool f_2, .sl [.int .i64] f_3])], ok := true, ls := [], lm := [] }
noncomputable def spec_FilterOk_B0 (N : Nat) : (St → Res) → St → Res := loopB Try.prog spec_FilterOk_G spec_FilterOk_A N Try.f42 spec_FilterOk_s [true, false, true, false] []
theorem spec_FilterOk_b0 (N : Nat) (f_1 : Int) (f_2 : Bool) (f_3 : Rows) (ih : St → Res) (k : Int) : spec_FilterOk_B0 N ih (spec_FilterOk_m0 k f_1 f_2 f_3) = spec_FilterOk_l0 Vm.bad spec_FilterOk_K f_1 f_3 (fun k => ih (spec_FilterOk_m0 k f_1 f_2 f_3)) k := by kernel_rfl
theorem spec_FilterOk_n0 (N : Nat) (f_1 : Int) (f_2 : Bool) (f_3 : Rows) (m_ : Nat) : (fun k => loopN (spec_FilterOk_B0 N) m_ (spec_FilterOk_m0 k f_1 f_2 f_3)) = spec_FilterOk_L0 Vm.bad spec_FilterOk_K N f_1 f_3 m_ := by
  induction m_ with
  | zero => rfl
  | succ m_ ih =>
    funext k
    show spec_FilterOk_B0 N (loopN (spec_FilterOk_B0 N) m_) (spec_FilterOk_m0 k f_1 f_2 f_3) = _
    rw [spec_FilterOk_b0 N f_1 f_2 f_3]
    rw [ih]
    rfl
theorem spec_FilterOk_r (N : Nat) (f : SFilter) : runF Try.prog spec_FilterOk_G spec_FilterOk_A N Try.f42 spec_FilterOk_s (f.enc ++ ([])) = spec_FilterOk_f Vm.bad spec_FilterOk_K N f := by
  have run_ : runF Try.prog spec_FilterOk_G spec_FilterOk_A N Try.f42 spec_FilterOk_s (f.enc ++ ([])) = spec_FilterOk_t Vm.bad spec_FilterOk_K (fun f_1 f_3 k => loopN (spec_FilterOk_B0 N) N (spec_FilterOk_m0 k f_1 f.Promiscuous f_3)) f := by kernel_rfl
  refine run_.trans ?_
  unfold spec_FilterOk_f
  have e0 : (fun f_1 f_3 k => loopN (spec_FilterOk_B0 N) N (spec_FilterOk_m0 k f_1 f.Promiscuous f_3)) = (fun f_1 f_3 => spec_FilterOk_L0 Vm.bad spec_FilterOk_K N f_1 f_3 N) := by
    funext f_1 f_3
    exact spec_FilterOk_n0 N f_1 f.Promiscuous f_3 N
  exact congrArg (fun l_ => spec_FilterOk_t Vm.bad spec_FilterOk_K l_ f) e0
theorem spec_FilterOk_h : Holds Try.prog 42 spec_FilterOk_s := by
  refine holds_of_run (A := spec_FilterOk_A) spec_FilterOk_x Try.func42 rfl (by kernel_rfl) (of_decide_eq_true (by kernel_rfl)) (of_decide_eq_true (by kernel_rfl)) ?_
  intro ds hw hok
  replace hw : WtL (SFilter.ct ++ ([])) ds := hw
  obtain ⟨f, ds, rfl, h_f, hw⟩ := SFilter.of_wt (r := _) hw
  obtain rfl := of_wt_nil hw
  obtain ⟨N, hN⟩ := spec_FilterOk_c Vm.bad spec_FilterOk_K f h_f
  exact ⟨N, ((spec_FilterOk_r N f).trans hN).trans (by kernel_rfl)⟩

end
end Go.Proofs.Ytklbgnodgnlebaa.Pl
