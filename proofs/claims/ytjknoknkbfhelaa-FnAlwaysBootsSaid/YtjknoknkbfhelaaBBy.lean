/- The contracts of functions of the program: each computes what its plain form says. Conditions: none. -/
import Derived.Test.YtjknoknkbfhelaaPBy
import Derived.Test.YtjknoknkbfhelaaRows
import Derived.Test.YtjknoknkbfhelaaBBa
set_option linter.unusedVariables false
set_option linter.unusedSimpArgs false
set_option maxRecDepth 100000
namespace Go.Proofs.Ytjknoknkbfhelaa.Pl
open Vm
noncomputable section

def impl_Get32_s : Sum := { ps := [⟨[.str], false⟩, ⟨[.int .i64], false⟩], rs := [⟨[.imm (.int .i64)], false⟩], fn := fun ds => (true, [.int (Get32 (rS ds 0) (rI ds 1))]) }
def impl_Get32_G : Ctx := []
theorem impl_Get32_x : CtxHolds Try.prog impl_Get32_G := ctx_nil
def impl_Get32_A : List (Nat × Ann) := []
theorem impl_Get32_r (N : Nat) (s : Bytes) (at_ : Int) : runF Try.prog impl_Get32_G impl_Get32_A N Try.f59 impl_Get32_s (.str s :: (.int at_ :: ([]))) = impl_Get32_t Vm.bad (fun r0 => ((true, [.int r0]) : Res)) s at_ := by kernel_rfl
theorem impl_Get32_h : Holds Try.prog 59 impl_Get32_s := by
  refine holds_of_run (A := impl_Get32_A) impl_Get32_x Try.func59 rfl (by kernel_rfl) (of_decide_eq_true (by kernel_rfl)) (of_decide_eq_true (by kernel_rfl)) ?_
  intro ds hw hok
  replace hw : WtL (.str :: ((.int .i64) :: ([]))) ds := hw
  obtain ⟨s, ds, rfl, h_s, hw⟩ := of_wt_str hw
  obtain ⟨at_, ds, rfl, h_at_, hw⟩ := of_wt_int hw
  obtain rfl := of_wt_nil hw
  exact ⟨0, ((impl_Get32_r 0 s at_).trans (impl_Get32_c Vm.bad _ s at_ h_s h_at_)).trans (by kernel_rfl)⟩

def spec_l02Within_s : Sum := { ps := [⟨[.str], false⟩, ⟨[.int .i64], false⟩, ⟨[.int .i64], false⟩], rs := [⟨[.imm .bool], false⟩], fn := fun ds => (true, [.bool (l02Within (rS ds 0) (rI ds 1) (rI ds 2))]) }
def spec_l02Within_G : Ctx := []
theorem spec_l02Within_x : CtxHolds Try.prog spec_l02Within_G := ctx_nil
def spec_l02Within_A : List (Nat × Ann) := []
theorem spec_l02Within_r (N : Nat) (s : Bytes) (at_ : Int) (n : Int) : runF Try.prog spec_l02Within_G spec_l02Within_A N Try.f72 spec_l02Within_s (.str s :: (.int at_ :: (.int n :: ([])))) = spec_l02Within_t (fun r0 => ((true, [.bool r0]) : Res)) s at_ n := by kernel_rfl
theorem spec_l02Within_h : Holds Try.prog 72 spec_l02Within_s := by
  refine holds_of_run (A := spec_l02Within_A) spec_l02Within_x Try.func72 rfl (by kernel_rfl) (of_decide_eq_true (by kernel_rfl)) (of_decide_eq_true (by kernel_rfl)) ?_
  intro ds hw hok
  replace hw : WtL (.str :: ((.int .i64) :: ((.int .i64) :: ([])))) ds := hw
  obtain ⟨s, ds, rfl, h_s, hw⟩ := of_wt_str hw
  obtain ⟨at_, ds, rfl, h_at_, hw⟩ := of_wt_int hw
  obtain ⟨n, ds, rfl, h_n, hw⟩ := of_wt_int hw
  obtain rfl := of_wt_nil hw
  exact ⟨0, ((spec_l02Within_r 0 s at_ n).trans (spec_l02Within_c _ s at_ n)).trans (by kernel_rfl)⟩

def spec_Get16_s : Sum := { ps := [⟨[.str], false⟩, ⟨[.int .i64], false⟩], rs := [⟨[.imm (.int .i64)], false⟩], fn := fun ds => (true, [.int (Get16 (rS ds 0) (rI ds 1))]) }
def spec_Get16_G : Ctx := [(72, spec_l02Within_s)]
theorem spec_Get16_x : CtxHolds Try.prog spec_Get16_G := ctx_cons spec_l02Within_h ctx_nil
def spec_Get16_A : List (Nat × Ann) := []
theorem spec_Get16_r (N : Nat) (s : Bytes) (at_ : Int) : runF Try.prog spec_Get16_G spec_Get16_A N Try.f73 spec_Get16_s (.str s :: (.int at_ :: ([]))) = spec_Get16_t Vm.bad (fun r0 => ((true, [.int r0]) : Res)) s at_ := by kernel_rfl
theorem spec_Get16_h : Holds Try.prog 73 spec_Get16_s := by
  refine holds_of_run (A := spec_Get16_A) spec_Get16_x Try.func73 rfl (by kernel_rfl) (of_decide_eq_true (by kernel_rfl)) (of_decide_eq_true (by kernel_rfl)) ?_
  intro ds hw hok
  replace hw : WtL (.str :: ((.int .i64) :: ([]))) ds := hw
  obtain ⟨s, ds, rfl, h_s, hw⟩ := of_wt_str hw
  obtain ⟨at_, ds, rfl, h_at_, hw⟩ := of_wt_int hw
  obtain rfl := of_wt_nil hw
  exact ⟨0, ((spec_Get16_r 0 s at_).trans (spec_Get16_c Vm.bad _ s at_ h_s h_at_)).trans (by kernel_rfl)⟩

def spec_Get32_s : Sum := { ps := [⟨[.str], false⟩, ⟨[.int .i64], false⟩], rs := [⟨[.imm (.int .i64)], false⟩], fn := fun ds => (true, [.int (Get32 (rS ds 0) (rI ds 1))]) }
def spec_Get32_G : Ctx := [(72, spec_l02Within_s), (73, spec_Get16_s)]
theorem spec_Get32_x : CtxHolds Try.prog spec_Get32_G := ctx_cons spec_l02Within_h (ctx_cons spec_Get16_h ctx_nil)
def spec_Get32_A : List (Nat × Ann) := []
theorem spec_Get32_r (N : Nat) (s : Bytes) (at_ : Int) : runF Try.prog spec_Get32_G spec_Get32_A N Try.f58 spec_Get32_s (.str s :: (.int at_ :: ([]))) = spec_Get32_t (fun r0 => ((true, [.int r0]) : Res)) s at_ := by kernel_rfl
theorem spec_Get32_h : Holds Try.prog 58 spec_Get32_s := by
  refine holds_of_run (A := spec_Get32_A) spec_Get32_x Try.func58 rfl (by kernel_rfl) (of_decide_eq_true (by kernel_rfl)) (of_decide_eq_true (by kernel_rfl)) ?_
  intro ds hw hok
  replace hw : WtL (.str :: ((.int .i64) :: ([]))) ds := hw
  obtain ⟨s, ds, rfl, h_s, hw⟩ := of_wt_str hw
  obtain ⟨at_, ds, rfl, h_at_, hw⟩ := of_wt_int hw
  obtain rfl := of_wt_nil hw
  exact ⟨0, ((spec_Get32_r 0 s at_).trans (spec_Get32_c _ s at_ h_s h_at_)).trans (by kernel_rfl)⟩

def impl_Word32_s : Sum := { ps := [⟨[.int .i64], false⟩], rs := [⟨[.imm .str], false⟩], fn := fun ds => (true, [.str (Word32 (rI ds 0))]) }
def impl_Word32_G : Ctx := [(50, impl_between_s)]
theorem impl_Word32_x : CtxHolds Try.prog impl_Word32_G := ctx_cons impl_between_h ctx_nil
def impl_Word32_A : List (Nat × Ann) := []
theorem impl_Word32_r (N : Nat) (v : Int) : runF Try.prog impl_Word32_G impl_Word32_A N Try.f56 impl_Word32_s (.int v :: ([])) = impl_Word32_t (fun r0 => ((true, [.str r0]) : Res)) v := by kernel_rfl
theorem impl_Word32_h : Holds Try.prog 56 impl_Word32_s := by
  refine holds_of_run (A := impl_Word32_A) impl_Word32_x Try.func56 rfl (by kernel_rfl) (of_decide_eq_true (by kernel_rfl)) (of_decide_eq_true (by kernel_rfl)) ?_
  intro ds hw hok
  replace hw : WtL ((.int .i64) :: ([])) ds := hw
  obtain ⟨v, ds, rfl, h_v, hw⟩ := of_wt_int hw
  obtain rfl := of_wt_nil hw
  exact ⟨0, ((impl_Word32_r 0 v).trans (impl_Word32_c _ v)).trans (by kernel_rfl)⟩

def spec_Word32_s : Sum := { ps := [⟨[.int .i64], false⟩], rs := [⟨[.imm .str], false⟩], fn := fun ds => (true, [.str (Word32 (rI ds 0))]) }
def spec_Word32_G : Ctx := [(49, spec_l01In_s)]
theorem spec_Word32_x : CtxHolds Try.prog spec_Word32_G := ctx_cons spec_l01In_h ctx_nil
def spec_Word32_A : List (Nat × Ann) := []
theorem spec_Word32_r (N : Nat) (v : Int) : runF Try.prog spec_Word32_G spec_Word32_A N Try.f54 spec_Word32_s (.int v :: ([])) = spec_Word32_t (fun r0 => ((true, [.str r0]) : Res)) v := by kernel_rfl
theorem spec_Word32_h : Holds Try.prog 54 spec_Word32_s := by
  refine holds_of_run (A := spec_Word32_A) spec_Word32_x Try.func54 rfl (by kernel_rfl) (of_decide_eq_true (by kernel_rfl)) (of_decide_eq_true (by kernel_rfl)) ?_
  intro ds hw hok
  replace hw : WtL ((.int .i64) :: ([])) ds := hw
  obtain ⟨v, ds, rfl, h_v, hw⟩ := of_wt_int hw
  obtain rfl := of_wt_nil hw
  exact ⟨0, ((spec_Word32_r 0 v).trans (spec_Word32_c _ v h_v)).trans (by kernel_rfl)⟩

def impl_Crc32_s : Sum := { ps := [⟨[.str], false⟩], rs := [⟨[.imm (.int .i64)], false⟩], fn := fun ds => (true, [.int (Crc32 (rS ds 0))]) }
def impl_Crc32_G : Ctx := []
theorem impl_Crc32_x : CtxHolds Try.prog impl_Crc32_G := ctx_nil
def impl_Crc32_A : List (Nat × Ann) := [(3, { slots := [(0, .asis), (3, .asis), (4, .asis)], boxes := [] }), (7, { slots := [(0, .asis), (3, .asis), (4, .asis), (5, .asis)], boxes := [] })]
def impl_Crc32_K : Int → Res := (fun r0 => ((true, [.int r0]) : Res))
def impl_Crc32_m0 (s : Bytes) (c : Int) (i : Int) : St := { n := 34, sl := [(0, .str s), (3, .int .u32 c), (4, .int .i64 i)], hp := [], ok := true, ls := [], lm := [] }
def impl_Crc32_m1 (s : Bytes) (c_1 : Int) (i : Int) (k : Int) : St := { n := 34, sl := [(0, .str s), (3, .int .u32 c_1), (4, .int .i64 i), (5, .int .i64 k)], hp := [], ok := true, ls := [], lm := [] }
noncomputable def impl_Crc32_B1 (N : Nat) (o0 : St → Res) : (St → Res) → St → Res := loopB Try.prog impl_Crc32_G impl_Crc32_A N Try.f57 impl_Crc32_s [true, true, false, true, false, false, true, false, false, true, true, false] [o0]
noncomputable def impl_Crc32_B0 (N : Nat) : (St → Res) → St → Res := loopB Try.prog impl_Crc32_G impl_Crc32_A N Try.f57 impl_Crc32_s [true, true, false, true, false] []
theorem impl_Crc32_b1 (N : Nat) (o0 : St → Res) (s : Bytes) (i : Int) (ih : St → Res) (c_1 : Int) (k : Int) : impl_Crc32_B1 N o0 ih (impl_Crc32_m1 s c_1 i k) = impl_Crc32_l1 Vm.bad impl_Crc32_K (fun c i => o0 (impl_Crc32_m0 s c i)) i (fun c_1 k => ih (impl_Crc32_m1 s c_1 i k)) c_1 k := by kernel_rfl
theorem impl_Crc32_n1 (N : Nat) (o0 : St → Res) (s : Bytes) (i : Int) (m_ : Nat) : (fun c_1 k => loopN (impl_Crc32_B1 N o0) m_ (impl_Crc32_m1 s c_1 i k)) = impl_Crc32_L1 Vm.bad impl_Crc32_K N (fun c i => o0 (impl_Crc32_m0 s c i)) i m_ := by
  induction m_ with
  | zero => rfl
  | succ m_ ih =>
    funext c_1 k
    show impl_Crc32_B1 N o0 (loopN (impl_Crc32_B1 N o0) m_) (impl_Crc32_m1 s c_1 i k) = _
    rw [impl_Crc32_b1 N o0 s i]
    rw [ih]
    rfl
theorem impl_Crc32_b0 (N : Nat) (s : Bytes) (ih : St → Res) (c : Int) (i : Int) : impl_Crc32_B0 N ih (impl_Crc32_m0 s c i) = impl_Crc32_l0 Vm.bad impl_Crc32_K (fun i c_1 k => loopN (impl_Crc32_B1 N ih) N (impl_Crc32_m1 s c_1 i k)) s (fun c i => ih (impl_Crc32_m0 s c i)) c i := by kernel_rfl
theorem impl_Crc32_n0 (N : Nat) (s : Bytes) (m_ : Nat) : (fun c i => loopN (impl_Crc32_B0 N) m_ (impl_Crc32_m0 s c i)) = impl_Crc32_L0 Vm.bad impl_Crc32_K N s m_ := by
  induction m_ with
  | zero => rfl
  | succ m_ ih =>
    funext c i
    show impl_Crc32_B0 N (loopN (impl_Crc32_B0 N) m_) (impl_Crc32_m0 s c i) = _
    rw [impl_Crc32_b0 N s]
    have e1 := funext fun i => impl_Crc32_n1 N (loopN (impl_Crc32_B0 N) m_) s i N
    rw [e1]
    rw [ih]
    rfl
theorem impl_Crc32_r (N : Nat) (s : Bytes) : runF Try.prog impl_Crc32_G impl_Crc32_A N Try.f57 impl_Crc32_s (.str s :: ([])) = impl_Crc32_f Vm.bad impl_Crc32_K N s := by
  have h : runF Try.prog impl_Crc32_G impl_Crc32_A N Try.f57 impl_Crc32_s (.str s :: ([])) = impl_Crc32_t Vm.bad impl_Crc32_K (fun c i => loopN (impl_Crc32_B0 N) N (impl_Crc32_m0 s c i)) s := by kernel_rfl
  refine h.trans ?_
  unfold impl_Crc32_f
  have e0 : (fun c i => loopN (impl_Crc32_B0 N) N (impl_Crc32_m0 s c i)) = (impl_Crc32_L0 Vm.bad impl_Crc32_K N s N) := by
    exact impl_Crc32_n0 N s N
  exact congrArg (fun l_ => impl_Crc32_t Vm.bad impl_Crc32_K l_ s) e0
theorem impl_Crc32_h : Holds Try.prog 57 impl_Crc32_s := by
  refine holds_of_run (A := impl_Crc32_A) impl_Crc32_x Try.func57 rfl (by kernel_rfl) (of_decide_eq_true (by kernel_rfl)) (of_decide_eq_true (by kernel_rfl)) ?_
  intro ds hw hok
  replace hw : WtL (.str :: ([])) ds := hw
  obtain ⟨s, ds, rfl, h_s, hw⟩ := of_wt_str hw
  obtain rfl := of_wt_nil hw
  obtain ⟨N, hN⟩ := impl_Crc32_c Vm.bad impl_Crc32_K s h_s
  exact ⟨N, ((impl_Crc32_r N s).trans hN).trans (by kernel_rfl)⟩

def spec_Crc32_s : Sum := { ps := [⟨[.str], false⟩], rs := [⟨[.imm (.int .i64)], false⟩], fn := fun ds => (true, [.int (Crc32 (rS ds 0))]) }
def spec_Crc32_G : Ctx := []
theorem spec_Crc32_x : CtxHolds Try.prog spec_Crc32_G := ctx_nil
def spec_Crc32_A : List (Nat × Ann) := [(3, { slots := [(0, .asis), (3, .asis), (4, .asis)], boxes := [] }), (7, { slots := [(0, .asis), (3, .asis), (4, .asis), (5, .asis)], boxes := [] })]
def spec_Crc32_K : Int → Res := (fun r0 => ((true, [.int r0]) : Res))
def spec_Crc32_m0 (s : Bytes) (c : Int) (i : Int) : St := { n := 32, sl := [(0, .str s), (3, .int .i64 c), (4, .int .i64 i)], hp := [], ok := true, ls := [], lm := [] }
def spec_Crc32_m1 (s : Bytes) (c_1 : Int) (i : Int) (k : Int) : St := { n := 32, sl := [(0, .str s), (3, .int .i64 c_1), (4, .int .i64 i), (5, .int .i64 k)], hp := [], ok := true, ls := [], lm := [] }
noncomputable def spec_Crc32_B1 (N : Nat) (o0 : St → Res) : (St → Res) → St → Res := loopB Try.prog spec_Crc32_G spec_Crc32_A N Try.f55 spec_Crc32_s [true, true, false, true, false, false, true, false, false, true, true, false] [o0]
noncomputable def spec_Crc32_B0 (N : Nat) : (St → Res) → St → Res := loopB Try.prog spec_Crc32_G spec_Crc32_A N Try.f55 spec_Crc32_s [true, true, false, true, false] []
theorem spec_Crc32_b1 (N : Nat) (o0 : St → Res) (s : Bytes) (i : Int) (ih : St → Res) (c_1 : Int) (k : Int) : spec_Crc32_B1 N o0 ih (spec_Crc32_m1 s c_1 i k) = spec_Crc32_l1 Vm.bad spec_Crc32_K (fun c i => o0 (spec_Crc32_m0 s c i)) i (fun c_1 k => ih (spec_Crc32_m1 s c_1 i k)) c_1 k := by kernel_rfl
theorem spec_Crc32_n1 (N : Nat) (o0 : St → Res) (s : Bytes) (i : Int) (m_ : Nat) : (fun c_1 k => loopN (spec_Crc32_B1 N o0) m_ (spec_Crc32_m1 s c_1 i k)) = spec_Crc32_L1 Vm.bad spec_Crc32_K N (fun c i => o0 (spec_Crc32_m0 s c i)) i m_ := by
  induction m_ with
  | zero => rfl
  | succ m_ ih =>
    funext c_1 k
    show spec_Crc32_B1 N o0 (loopN (spec_Crc32_B1 N o0) m_) (spec_Crc32_m1 s c_1 i k) = _
    rw [spec_Crc32_b1 N o0 s i]
    rw [ih]
    rfl
theorem spec_Crc32_b0 (N : Nat) (s : Bytes) (ih : St → Res) (c : Int) (i : Int) : spec_Crc32_B0 N ih (spec_Crc32_m0 s c i) = spec_Crc32_l0 Vm.bad spec_Crc32_K (fun i c_1 k => loopN (spec_Crc32_B1 N ih) N (spec_Crc32_m1 s c_1 i k)) s (fun c i => ih (spec_Crc32_m0 s c i)) c i := by kernel_rfl
theorem spec_Crc32_n0 (N : Nat) (s : Bytes) (m_ : Nat) : (fun c i => loopN (spec_Crc32_B0 N) m_ (spec_Crc32_m0 s c i)) = spec_Crc32_L0 Vm.bad spec_Crc32_K N s m_ := by
  induction m_ with
  | zero => rfl
  | succ m_ ih =>
    funext c i
    show spec_Crc32_B0 N (loopN (spec_Crc32_B0 N) m_) (spec_Crc32_m0 s c i) = _
    rw [spec_Crc32_b0 N s]
    have e1 := funext fun i => spec_Crc32_n1 N (loopN (spec_Crc32_B0 N) m_) s i N
    rw [e1]
    rw [ih]
    rfl
theorem spec_Crc32_r (N : Nat) (s : Bytes) : runF Try.prog spec_Crc32_G spec_Crc32_A N Try.f55 spec_Crc32_s (.str s :: ([])) = spec_Crc32_f Vm.bad spec_Crc32_K N s := by
  have h : runF Try.prog spec_Crc32_G spec_Crc32_A N Try.f55 spec_Crc32_s (.str s :: ([])) = spec_Crc32_t Vm.bad spec_Crc32_K (fun c i => loopN (spec_Crc32_B0 N) N (spec_Crc32_m0 s c i)) s := by kernel_rfl
  refine h.trans ?_
  unfold spec_Crc32_f
  have e0 : (fun c i => loopN (spec_Crc32_B0 N) N (spec_Crc32_m0 s c i)) = (spec_Crc32_L0 Vm.bad spec_Crc32_K N s N) := by
    exact spec_Crc32_n0 N s N
  exact congrArg (fun l_ => spec_Crc32_t Vm.bad spec_Crc32_K l_ s) e0
theorem spec_Crc32_h : Holds Try.prog 55 spec_Crc32_s := by
  refine holds_of_run (A := spec_Crc32_A) spec_Crc32_x Try.func55 rfl (by kernel_rfl) (of_decide_eq_true (by kernel_rfl)) (of_decide_eq_true (by kernel_rfl)) ?_
  intro ds hw hok
  replace hw : WtL (.str :: ([])) ds := hw
  obtain ⟨s, ds, rfl, h_s, hw⟩ := of_wt_str hw
  obtain rfl := of_wt_nil hw
  obtain ⟨N, hN⟩ := spec_Crc32_c Vm.bad spec_Crc32_K s h_s
  exact ⟨N, ((spec_Crc32_r N s).trans hN).trans (by kernel_rfl)⟩

end
end Go.Proofs.Ytjknoknkbfhelaa.Pl
