/- The contracts of functions of the program: each computes what its plain form says. Conditions: none. -/
import Derived.Test.YtfnkhejoihnlnaaPPk
import Derived.Test.YtfnkhejoihnlnaaRows
import Derived.Test.YtfnkhejoihnlnaaBSx
import Derived.Test.YtfnkhejoihnlnaaBBy
import Derived.Test.YtfnkhejoihnlnaaBLo
set_option linter.unusedVariables false
set_option linter.unusedSimpArgs false
set_option maxRecDepth 100000
namespace Go.Proofs.Ytfnkhejoihnlnaa.Pl
open Vm
noncomputable section

def impl_Word16_s : Sum := { ps := [⟨[.int .i64], false⟩], rs := [⟨[.imm .str], false⟩], fn := fun ds => (true, [.str (Word16 (rI ds 0))]) }
def impl_Word16_G : Ctx := [(68, impl_between_s)]
theorem impl_Word16_x : CtxHolds Try.prog impl_Word16_G := ctx_cons impl_between_h ctx_nil
def impl_Word16_A : List (Nat × Ann) := []
theorem impl_Word16_r (N : Nat) (v : Int) : runF Try.prog impl_Word16_G impl_Word16_A N Try.f143 impl_Word16_s (.int v :: ([])) = impl_Word16_t (fun r0 => ((true, [.str r0]) : Res)) v := by kernel_rfl
theorem impl_Word16_h : Holds Try.prog 143 impl_Word16_s := by
  refine holds_of_run (A := impl_Word16_A) impl_Word16_x Try.func143 rfl (by kernel_rfl) (of_decide_eq_true (by kernel_rfl)) (of_decide_eq_true (by kernel_rfl)) ?_
  intro ds hw hok
  replace hw : WtL ((.int .i64) :: ([])) ds := hw
  obtain ⟨v, ds, rfl, h_v, hw⟩ := of_wt_int hw
  obtain rfl := of_wt_nil hw
  exact ⟨0, ((impl_Word16_r 0 v).trans (impl_Word16_c _ v)).trans (by kernel_rfl)⟩

def spec_Word16_s : Sum := { ps := [⟨[.int .i64], false⟩], rs := [⟨[.imm .str], false⟩], fn := fun ds => (true, [.str (Word16 (rI ds 0))]) }
def spec_Word16_G : Ctx := [(64, spec_l01In_s)]
theorem spec_Word16_x : CtxHolds Try.prog spec_Word16_G := ctx_cons spec_l01In_h ctx_nil
def spec_Word16_A : List (Nat × Ann) := []
theorem spec_Word16_r (N : Nat) (v : Int) : runF Try.prog spec_Word16_G spec_Word16_A N Try.f121 spec_Word16_s (.int v :: ([])) = spec_Word16_t (fun r0 => ((true, [.str r0]) : Res)) v := by kernel_rfl
theorem spec_Word16_h : Holds Try.prog 121 spec_Word16_s := by
  refine holds_of_run (A := spec_Word16_A) spec_Word16_x Try.func121 rfl (by kernel_rfl) (of_decide_eq_true (by kernel_rfl)) (of_decide_eq_true (by kernel_rfl)) ?_
  intro ds hw hok
  replace hw : WtL ((.int .i64) :: ([])) ds := hw
  obtain ⟨v, ds, rfl, h_v, hw⟩ := of_wt_int hw
  obtain rfl := of_wt_nil hw
  exact ⟨0, ((spec_Word16_r 0 v).trans (spec_Word16_c _ v h_v)).trans (by kernel_rfl)⟩

def impl_AddSums_s : Sum := { ps := [⟨[.int .i64], false⟩, ⟨[.int .i64], false⟩], rs := [⟨[.imm (.int .i64)], false⟩], fn := fun ds => (true, [.int (AddSums (rI ds 0) (rI ds 1))]) }
def impl_AddSums_G : Ctx := [(68, impl_between_s)]
theorem impl_AddSums_x : CtxHolds Try.prog impl_AddSums_G := ctx_cons impl_between_h ctx_nil
def impl_AddSums_A : List (Nat × Ann) := []
theorem impl_AddSums_r (N : Nat) (a : Int) (b : Int) : runF Try.prog impl_AddSums_G impl_AddSums_A N Try.f156 impl_AddSums_s (.int a :: (.int b :: ([]))) = impl_AddSums_t (fun r0 => ((true, [.int r0]) : Res)) a b := by kernel_rfl
theorem impl_AddSums_h : Holds Try.prog 156 impl_AddSums_s := by
  refine holds_of_run (A := impl_AddSums_A) impl_AddSums_x Try.func156 rfl (by kernel_rfl) (of_decide_eq_true (by kernel_rfl)) (of_decide_eq_true (by kernel_rfl)) ?_
  intro ds hw hok
  replace hw : WtL ((.int .i64) :: ((.int .i64) :: ([]))) ds := hw
  obtain ⟨a, ds, rfl, h_a, hw⟩ := of_wt_int hw
  obtain ⟨b, ds, rfl, h_b, hw⟩ := of_wt_int hw
  obtain rfl := of_wt_nil hw
  exact ⟨0, ((impl_AddSums_r 0 a b).trans (impl_AddSums_c _ a b)).trans (by kernel_rfl)⟩

def spec_AddSums_s : Sum := { ps := [⟨[.int .i64], false⟩, ⟨[.int .i64], false⟩], rs := [⟨[.imm (.int .i64)], false⟩], fn := fun ds => (true, [.int (AddSums (rI ds 0) (rI ds 1))]) }
def spec_AddSums_G : Ctx := [(64, spec_l01In_s)]
theorem spec_AddSums_x : CtxHolds Try.prog spec_AddSums_G := ctx_cons spec_l01In_h ctx_nil
def spec_AddSums_A : List (Nat × Ann) := []
theorem spec_AddSums_r (N : Nat) (a : Int) (b : Int) : runF Try.prog spec_AddSums_G spec_AddSums_A N Try.f155 spec_AddSums_s (.int a :: (.int b :: ([]))) = spec_AddSums_t (fun r0 => ((true, [.int r0]) : Res)) a b := by kernel_rfl
theorem spec_AddSums_h : Holds Try.prog 155 spec_AddSums_s := by
  refine holds_of_run (A := spec_AddSums_A) spec_AddSums_x Try.func155 rfl (by kernel_rfl) (of_decide_eq_true (by kernel_rfl)) (of_decide_eq_true (by kernel_rfl)) ?_
  intro ds hw hok
  replace hw : WtL ((.int .i64) :: ((.int .i64) :: ([]))) ds := hw
  obtain ⟨a, ds, rfl, h_a, hw⟩ := of_wt_int hw
  obtain ⟨b, ds, rfl, h_b, hw⟩ := of_wt_int hw
  obtain rfl := of_wt_nil hw
  exact ⟨0, ((spec_AddSums_r 0 a b).trans (spec_AddSums_c _ a b h_a h_b)).trans (by kernel_rfl)⟩

def impl_SumWords_s : Sum := { ps := [⟨[.str], false⟩], rs := [⟨[.imm (.int .i64)], false⟩], fn := fun ds => (ss (rS ds 0), [.int (SumWords (rS ds 0))]) }
def impl_SumWords_G : Ctx := [(156, impl_AddSums_s)]
theorem impl_SumWords_x : CtxHolds Try.prog impl_SumWords_G := ctx_cons impl_AddSums_h ctx_nil
def impl_SumWords_A : List (Nat × Ann) := [(3, { slots := [(0, .asis), (3, .asis), (4, .asis)], boxes := [] })]
def impl_SumWords_K : Int → Res := (fun r0 => ((true, [.int r0]) : Res))
def impl_SumWords_m0 (s : Bytes) (sum : Int) (i : Int) : St := { n := 33, sl := [(0, .str s), (3, .int .i64 sum), (4, .int .i64 i)], hp := [], ok := true, ls := [], lm := [] }
noncomputable def impl_SumWords_B0 (N : Nat) : (St → Res) → St → Res := loopB Try.prog impl_SumWords_G impl_SumWords_A N Try.f153 impl_SumWords_s [true, true, false, true, false] []
theorem impl_SumWords_b0 (N : Nat) (s : Bytes) (ih : St → Res) (sum : Int) (i : Int) : impl_SumWords_B0 N ih (impl_SumWords_m0 s sum i) = impl_SumWords_l0 Vm.bad impl_SumWords_K s (fun sum i => ih (impl_SumWords_m0 s sum i)) sum i := by kernel_rfl
theorem impl_SumWords_n0 (N : Nat) (s : Bytes) (m_ : Nat) : (fun sum i => loopN (impl_SumWords_B0 N) m_ (impl_SumWords_m0 s sum i)) = impl_SumWords_L0 Vm.bad impl_SumWords_K N s m_ := by
  induction m_ with
  | zero => rfl
  | succ m_ ih =>
    funext sum i
    show impl_SumWords_B0 N (loopN (impl_SumWords_B0 N) m_) (impl_SumWords_m0 s sum i) = _
    rw [impl_SumWords_b0 N s]
    rw [ih]
    rfl
theorem impl_SumWords_r (N : Nat) (s : Bytes) : runF Try.prog impl_SumWords_G impl_SumWords_A N Try.f153 impl_SumWords_s (.str s :: ([])) = impl_SumWords_f Vm.bad impl_SumWords_K N s := by
  have run_ : runF Try.prog impl_SumWords_G impl_SumWords_A N Try.f153 impl_SumWords_s (.str s :: ([])) = impl_SumWords_t Vm.bad impl_SumWords_K (fun sum i => loopN (impl_SumWords_B0 N) N (impl_SumWords_m0 s sum i)) s := by kernel_rfl
  refine run_.trans ?_
  unfold impl_SumWords_f
  have e0 : (fun sum i => loopN (impl_SumWords_B0 N) N (impl_SumWords_m0 s sum i)) = (impl_SumWords_L0 Vm.bad impl_SumWords_K N s N) := by
    exact impl_SumWords_n0 N s N
  exact congrArg (fun l_ => impl_SumWords_t Vm.bad impl_SumWords_K l_ s) e0
theorem impl_SumWords_h : Holds Try.prog 153 impl_SumWords_s := by
  refine holds_of_run (A := impl_SumWords_A) impl_SumWords_x Try.func153 rfl (by kernel_rfl) (of_decide_eq_true (by kernel_rfl)) (of_decide_eq_true (by kernel_rfl)) ?_
  intro ds hw hok
  replace hw : WtL (.str :: ([])) ds := hw
  obtain ⟨s, ds, rfl, h_s, hw⟩ := of_wt_str hw
  obtain rfl := of_wt_nil hw
  obtain ⟨N, hN⟩ := impl_SumWords_c Vm.bad impl_SumWords_K s h_s hok
  exact ⟨N, ((impl_SumWords_r N s).trans hN).trans (by kernel_rfl)⟩

def spec_SumWords_s : Sum := { ps := [⟨[.str], false⟩], rs := [⟨[.imm (.int .i64)], false⟩], fn := fun ds => (ss (rS ds 0), [.int (SumWords (rS ds 0))]) }
def spec_SumWords_G : Ctx := [(155, spec_AddSums_s)]
theorem spec_SumWords_x : CtxHolds Try.prog spec_SumWords_G := ctx_cons spec_AddSums_h ctx_nil
def spec_SumWords_A : List (Nat × Ann) := [(3, { slots := [(0, .asis), (3, .asis), (4, .asis)], boxes := [] })]
def spec_SumWords_K : Int → Res := (fun r0 => ((true, [.int r0]) : Res))
def spec_SumWords_m0 (s : Bytes) (sum : Int) (i : Int) : St := { n := 33, sl := [(0, .str s), (3, .int .i64 sum), (4, .int .i64 i)], hp := [], ok := true, ls := [], lm := [] }
noncomputable def spec_SumWords_B0 (N : Nat) : (St → Res) → St → Res := loopB Try.prog spec_SumWords_G spec_SumWords_A N Try.f148 spec_SumWords_s [true, true, false, true, false] []
theorem spec_SumWords_b0 (N : Nat) (s : Bytes) (ih : St → Res) (sum : Int) (i : Int) : spec_SumWords_B0 N ih (spec_SumWords_m0 s sum i) = spec_SumWords_l0 Vm.bad spec_SumWords_K s (fun sum i => ih (spec_SumWords_m0 s sum i)) sum i := by kernel_rfl
theorem spec_SumWords_n0 (N : Nat) (s : Bytes) (m_ : Nat) : (fun sum i => loopN (spec_SumWords_B0 N) m_ (spec_SumWords_m0 s sum i)) = spec_SumWords_L0 Vm.bad spec_SumWords_K N s m_ := by
  induction m_ with
  | zero => rfl
  | succ m_ ih =>
    funext sum i
    show spec_SumWords_B0 N (loopN (spec_SumWords_B0 N) m_) (spec_SumWords_m0 s sum i) = _
    rw [spec_SumWords_b0 N s]
    rw [ih]
    rfl
theorem spec_SumWords_r (N : Nat) (s : Bytes) : runF Try.prog spec_SumWords_G spec_SumWords_A N Try.f148 spec_SumWords_s (.str s :: ([])) = spec_SumWords_f Vm.bad spec_SumWords_K N s := by
  have run_ : runF Try.prog spec_SumWords_G spec_SumWords_A N Try.f148 spec_SumWords_s (.str s :: ([])) = spec_SumWords_t Vm.bad spec_SumWords_K (fun sum i => loopN (spec_SumWords_B0 N) N (spec_SumWords_m0 s sum i)) s := by kernel_rfl
  refine run_.trans ?_
  unfold spec_SumWords_f
  have e0 : (fun sum i => loopN (spec_SumWords_B0 N) N (spec_SumWords_m0 s sum i)) = (spec_SumWords_L0 Vm.bad spec_SumWords_K N s N) := by
    exact spec_SumWords_n0 N s N
  exact congrArg (fun l_ => spec_SumWords_t Vm.bad spec_SumWords_K l_ s) e0
theorem spec_SumWords_h : Holds Try.prog 148 spec_SumWords_s := by
  refine holds_of_run (A := spec_SumWords_A) spec_SumWords_x Try.func148 rfl (by kernel_rfl) (of_decide_eq_true (by kernel_rfl)) (of_decide_eq_true (by kernel_rfl)) ?_
  intro ds hw hok
  replace hw : WtL (.str :: ([])) ds := hw
  obtain ⟨s, ds, rfl, h_s, hw⟩ := of_wt_str hw
  obtain rfl := of_wt_nil hw
  obtain ⟨N, hN⟩ := spec_SumWords_c Vm.bad spec_SumWords_K s h_s hok
  exact ⟨N, ((spec_SumWords_r N s).trans hN).trans (by kernel_rfl)⟩

def impl_Checksum_s : Sum := { ps := [⟨[.str], false⟩], rs := [⟨[.imm (.int .i64)], false⟩], fn := fun ds => (ss (rS ds 0), [.int (Checksum (rS ds 0))]) }
def impl_Checksum_G : Ctx := [(153, impl_SumWords_s)]
theorem impl_Checksum_x : CtxHolds Try.prog impl_Checksum_G := ctx_cons impl_SumWords_h ctx_nil
def impl_Checksum_A : List (Nat × Ann) := []
theorem impl_Checksum_r (N : Nat) (s : Bytes) : runF Try.prog impl_Checksum_G impl_Checksum_A N Try.f140 impl_Checksum_s (.str s :: ([])) = impl_Checksum_t Vm.bad (fun r0 => ((true, [.int r0]) : Res)) s := by kernel_rfl
theorem impl_Checksum_h : Holds Try.prog 140 impl_Checksum_s := by
  refine holds_of_run (A := impl_Checksum_A) impl_Checksum_x Try.func140 rfl (by kernel_rfl) (of_decide_eq_true (by kernel_rfl)) (of_decide_eq_true (by kernel_rfl)) ?_
  intro ds hw hok
  replace hw : WtL (.str :: ([])) ds := hw
  obtain ⟨s, ds, rfl, h_s, hw⟩ := of_wt_str hw
  obtain rfl := of_wt_nil hw
  exact ⟨0, ((impl_Checksum_r 0 s).trans (impl_Checksum_c Vm.bad _ s h_s hok)).trans (by kernel_rfl)⟩

def spec_Checksum_s : Sum := { ps := [⟨[.str], false⟩], rs := [⟨[.imm (.int .i64)], false⟩], fn := fun ds => (ss (rS ds 0), [.int (Checksum (rS ds 0))]) }
def spec_Checksum_G : Ctx := [(148, spec_SumWords_s)]
theorem spec_Checksum_x : CtxHolds Try.prog spec_Checksum_G := ctx_cons spec_SumWords_h ctx_nil
def spec_Checksum_A : List (Nat × Ann) := []
theorem spec_Checksum_r (N : Nat) (s : Bytes) : runF Try.prog spec_Checksum_G spec_Checksum_A N Try.f124 spec_Checksum_s (.str s :: ([])) = spec_Checksum_t Vm.bad (fun r0 => ((true, [.int r0]) : Res)) s := by kernel_rfl
theorem spec_Checksum_h : Holds Try.prog 124 spec_Checksum_s := by
  refine holds_of_run (A := spec_Checksum_A) spec_Checksum_x Try.func124 rfl (by kernel_rfl) (of_decide_eq_true (by kernel_rfl)) (of_decide_eq_true (by kernel_rfl)) ?_
  intro ds hw hok
  replace hw : WtL (.str :: ([])) ds := hw
  obtain ⟨s, ds, rfl, h_s, hw⟩ := of_wt_str hw
  obtain rfl := of_wt_nil hw
  exact ⟨0, ((spec_Checksum_r 0 s).trans (spec_Checksum_c Vm.bad _ s h_s hok)).trans (by kernel_rfl)⟩

def spec_l02Within_s : Sum := { ps := [⟨[.str], false⟩, ⟨[.int .i64], false⟩, ⟨[.int .i64], false⟩], rs := [⟨[.imm .bool], false⟩], fn := fun ds => (true, [.bool (l02Within (rS ds 0) (rI ds 1) (rI ds 2))]) }
def spec_l02Within_G : Ctx := []
theorem spec_l02Within_x : CtxHolds Try.prog spec_l02Within_G := ctx_nil
def spec_l02Within_A : List (Nat × Ann) := []
theorem spec_l02Within_r (N : Nat) (s : Bytes) (at_ : Int) (n : Int) : runF Try.prog spec_l02Within_G spec_l02Within_A N Try.f149 spec_l02Within_s (.str s :: (.int at_ :: (.int n :: ([])))) = spec_l02Within_t (fun r0 => ((true, [.bool r0]) : Res)) s at_ n := by kernel_rfl
theorem spec_l02Within_h : Holds Try.prog 149 spec_l02Within_s := by
  refine holds_of_run (A := spec_l02Within_A) spec_l02Within_x Try.func149 rfl (by kernel_rfl) (of_decide_eq_true (by kernel_rfl)) (of_decide_eq_true (by kernel_rfl)) ?_
  intro ds hw hok
  replace hw : WtL (.str :: ((.int .i64) :: ((.int .i64) :: ([])))) ds := hw
  obtain ⟨s, ds, rfl, h_s, hw⟩ := of_wt_str hw
  obtain ⟨at_, ds, rfl, h_at_, hw⟩ := of_wt_int hw
  obtain ⟨n, ds, rfl, h_n, hw⟩ := of_wt_int hw
  obtain rfl := of_wt_nil hw
  exact ⟨0, ((spec_l02Within_r 0 s at_ n).trans (spec_l02Within_c _ s at_ n)).trans (by kernel_rfl)⟩

def impl_PutBytes_s : Sum := { ps := [⟨[.str], false⟩, ⟨[.int .i64], false⟩, ⟨[.str], false⟩], rs := [⟨[.imm .str], false⟩], fn := fun ds => (PutBytes_ok (rS ds 0) (rI ds 1) (rS ds 2), [.str (PutBytes (rS ds 0) (rI ds 1) (rS ds 2))]) }
def impl_PutBytes_G : Ctx := []
theorem impl_PutBytes_x : CtxHolds Try.prog impl_PutBytes_G := ctx_nil
def impl_PutBytes_A : List (Nat × Ann) := []
theorem impl_PutBytes_r (N : Nat) (s : Bytes) (at_ : Int) (part : Bytes) : runF Try.prog impl_PutBytes_G impl_PutBytes_A N Try.f141 impl_PutBytes_s (.str s :: (.int at_ :: (.str part :: ([])))) = impl_PutBytes_t Vm.bad (fun r0 => ((true, [.str r0]) : Res)) s at_ part := by kernel_rfl
theorem impl_PutBytes_h : Holds Try.prog 141 impl_PutBytes_s := by
  refine holds_of_run (A := impl_PutBytes_A) impl_PutBytes_x Try.func141 rfl (by kernel_rfl) (of_decide_eq_true (by kernel_rfl)) (of_decide_eq_true (by kernel_rfl)) ?_
  intro ds hw hok
  replace hw : WtL (.str :: ((.int .i64) :: (.str :: ([])))) ds := hw
  obtain ⟨s, ds, rfl, h_s, hw⟩ := of_wt_str hw
  obtain ⟨at_, ds, rfl, h_at_, hw⟩ := of_wt_int hw
  obtain ⟨part, ds, rfl, h_part, hw⟩ := of_wt_str hw
  obtain rfl := of_wt_nil hw
  exact ⟨0, ((impl_PutBytes_r 0 s at_ part).trans (impl_PutBytes_c Vm.bad _ s at_ part h_s h_at_ h_part hok)).trans (by kernel_rfl)⟩

def spec_PutBytes_s : Sum := { ps := [⟨[.str], false⟩, ⟨[.int .i64], false⟩, ⟨[.str], false⟩], rs := [⟨[.imm .str], false⟩], fn := fun ds => (PutBytes_ok (rS ds 0) (rI ds 1) (rS ds 2), [.str (PutBytes (rS ds 0) (rI ds 1) (rS ds 2))]) }
def spec_PutBytes_G : Ctx := [(149, spec_l02Within_s)]
theorem spec_PutBytes_x : CtxHolds Try.prog spec_PutBytes_G := ctx_cons spec_l02Within_h ctx_nil
def spec_PutBytes_A : List (Nat × Ann) := []
theorem spec_PutBytes_r (N : Nat) (s : Bytes) (at_ : Int) (part : Bytes) : runF Try.prog spec_PutBytes_G spec_PutBytes_A N Try.f125 spec_PutBytes_s (.str s :: (.int at_ :: (.str part :: ([])))) = spec_PutBytes_t Vm.bad (fun r0 => ((true, [.str r0]) : Res)) s at_ part := by kernel_rfl
theorem spec_PutBytes_h : Holds Try.prog 125 spec_PutBytes_s := by
  refine holds_of_run (A := spec_PutBytes_A) spec_PutBytes_x Try.func125 rfl (by kernel_rfl) (of_decide_eq_true (by kernel_rfl)) (of_decide_eq_true (by kernel_rfl)) ?_
  intro ds hw hok
  replace hw : WtL (.str :: ((.int .i64) :: (.str :: ([])))) ds := hw
  obtain ⟨s, ds, rfl, h_s, hw⟩ := of_wt_str hw
  obtain ⟨at_, ds, rfl, h_at_, hw⟩ := of_wt_int hw
  obtain ⟨part, ds, rfl, h_part, hw⟩ := of_wt_str hw
  obtain rfl := of_wt_nil hw
  exact ⟨0, ((spec_PutBytes_r 0 s at_ part).trans (spec_PutBytes_c Vm.bad _ s at_ part h_s h_at_ h_part hok)).trans (by kernel_rfl)⟩

def impl_PseudoHeader_s : Sum := { ps := [⟨[.int .i64], false⟩, ⟨[.int .i64], false⟩, ⟨[.int .i64], false⟩, ⟨[.int .i64], false⟩], rs := [⟨[.imm .str], false⟩, ⟨[.imm .bool], false⟩], fn := fun ds => (true, [.str (PseudoHeader (rI ds 0) (rI ds 1) (rI ds 2) (rI ds 3)).1] ++ [.bool (PseudoHeader (rI ds 0) (rI ds 1) (rI ds 2) (rI ds 3)).2]) }
def impl_PseudoHeader_G : Ctx := [(68, impl_between_s), (143, impl_Word16_s), (152, impl_Word32_s)]
theorem impl_PseudoHeader_x : CtxHolds Try.prog impl_PseudoHeader_G := ctx_cons impl_between_h (ctx_cons impl_Word16_h (ctx_cons impl_Word32_h ctx_nil))
def impl_PseudoHeader_A : List (Nat × Ann) := []
theorem impl_PseudoHeader_r (N : Nat) (src : Int) (dst : Int) (kind : Int) (length : Int) : runF Try.prog impl_PseudoHeader_G impl_PseudoHeader_A N Try.f139 impl_PseudoHeader_s (.int src :: (.int dst :: (.int kind :: (.int length :: ([]))))) = impl_PseudoHeader_t Vm.bad (fun r0 r1 => ((true, [.str r0] ++ [.bool r1]) : Res)) src dst kind length := by kernel_rfl
theorem impl_PseudoHeader_h : Holds Try.prog 139 impl_PseudoHeader_s := by
  refine holds_of_run (A := impl_PseudoHeader_A) impl_PseudoHeader_x Try.func139 rfl (by kernel_rfl) (of_decide_eq_true (by kernel_rfl)) (of_decide_eq_true (by kernel_rfl)) ?_
  intro ds hw hok
  replace hw : WtL ((.int .i64) :: ((.int .i64) :: ((.int .i64) :: ((.int .i64) :: ([]))))) ds := hw
  obtain ⟨src, ds, rfl, h_src, hw⟩ := of_wt_int hw
  obtain ⟨dst, ds, rfl, h_dst, hw⟩ := of_wt_int hw
  obtain ⟨kind, ds, rfl, h_kind, hw⟩ := of_wt_int hw
  obtain ⟨length, ds, rfl, h_length, hw⟩ := of_wt_int hw
  obtain rfl := of_wt_nil hw
  exact ⟨0, ((impl_PseudoHeader_r 0 src dst kind length).trans (impl_PseudoHeader_c Vm.bad _ src dst kind length h_src h_dst h_kind h_length)).trans (by kernel_rfl)⟩

def spec_PseudoHeader_s : Sum := { ps := [⟨[.int .i64], false⟩, ⟨[.int .i64], false⟩, ⟨[.int .i64], false⟩, ⟨[.int .i64], false⟩], rs := [⟨[.imm .str], false⟩, ⟨[.imm .bool], false⟩], fn := fun ds => (true, [.str (PseudoHeader (rI ds 0) (rI ds 1) (rI ds 2) (rI ds 3)).1] ++ [.bool (PseudoHeader (rI ds 0) (rI ds 1) (rI ds 2) (rI ds 3)).2]) }
def spec_PseudoHeader_G : Ctx := [(64, spec_l01In_s), (121, spec_Word16_s), (122, spec_Word32_s)]
theorem spec_PseudoHeader_x : CtxHolds Try.prog spec_PseudoHeader_G := ctx_cons spec_l01In_h (ctx_cons spec_Word16_h (ctx_cons spec_Word32_h ctx_nil))
def spec_PseudoHeader_A : List (Nat × Ann) := []
theorem spec_PseudoHeader_r (N : Nat) (src : Int) (dst : Int) (kind : Int) (length : Int) : runF Try.prog spec_PseudoHeader_G spec_PseudoHeader_A N Try.f123 spec_PseudoHeader_s (.int src :: (.int dst :: (.int kind :: (.int length :: ([]))))) = spec_PseudoHeader_t Vm.bad (fun r0 r1 => ((true, [.str r0] ++ [.bool r1]) : Res)) src dst kind length := by kernel_rfl
theorem spec_PseudoHeader_h : Holds Try.prog 123 spec_PseudoHeader_s := by
  refine holds_of_run (A := spec_PseudoHeader_A) spec_PseudoHeader_x Try.func123 rfl (by kernel_rfl) (of_decide_eq_true (by kernel_rfl)) (of_decide_eq_true (by kernel_rfl)) ?_
  intro ds hw hok
  replace hw : WtL ((.int .i64) :: ((.int .i64) :: ((.int .i64) :: ((.int .i64) :: ([]))))) ds := hw
  obtain ⟨src, ds, rfl, h_src, hw⟩ := of_wt_int hw
  obtain ⟨dst, ds, rfl, h_dst, hw⟩ := of_wt_int hw
  obtain ⟨kind, ds, rfl, h_kind, hw⟩ := of_wt_int hw
  obtain ⟨length, ds, rfl, h_length, hw⟩ := of_wt_int hw
  obtain rfl := of_wt_nil hw
  exact ⟨0, ((spec_PseudoHeader_r 0 src dst kind length).trans (spec_PseudoHeader_c Vm.bad _ src dst kind length h_src h_dst h_kind h_length)).trans (by kernel_rfl)⟩

def impl_sumPlace_s : Sum := { ps := [⟨[.int .i64], false⟩], rs := [⟨[.imm (.int .i64)], false⟩], fn := fun ds => (true, [.int (sumPlace (rI ds 0))]) }
def impl_sumPlace_G : Ctx := []
theorem impl_sumPlace_x : CtxHolds Try.prog impl_sumPlace_G := ctx_nil
def impl_sumPlace_A : List (Nat × Ann) := []
theorem impl_sumPlace_r (N : Nat) (kind : Int) : runF Try.prog impl_sumPlace_G impl_sumPlace_A N Try.f142 impl_sumPlace_s (.int kind :: ([])) = impl_sumPlace_t (fun r0 => ((true, [.int r0]) : Res)) kind := by kernel_rfl
theorem impl_sumPlace_h : Holds Try.prog 142 impl_sumPlace_s := by
  refine holds_of_run (A := impl_sumPlace_A) impl_sumPlace_x Try.func142 rfl (by kernel_rfl) (of_decide_eq_true (by kernel_rfl)) (of_decide_eq_true (by kernel_rfl)) ?_
  intro ds hw hok
  replace hw : WtL ((.int .i64) :: ([])) ds := hw
  obtain ⟨kind, ds, rfl, h_kind, hw⟩ := of_wt_int hw
  obtain rfl := of_wt_nil hw
  exact ⟨0, ((impl_sumPlace_r 0 kind).trans (impl_sumPlace_c _ kind)).trans (by kernel_rfl)⟩

def impl_bareSegment_s : Sum := { ps := [⟨[.int .i64, .int .i64, .int .i64, .int .i64, .int .i64, .int .i64, .int .i64, .str], true⟩], rs := [⟨[.imm .str], false⟩], fn := fun ds => (bareOk (SSegment.decAt ds 0), [.str (bareSegment (SSegment.decAt ds 0))]) }
def impl_bareSegment_G : Ctx := [(143, impl_Word16_s), (152, impl_Word32_s)]
theorem impl_bareSegment_x : CtxHolds Try.prog impl_bareSegment_G := ctx_cons impl_Word16_h (ctx_cons impl_Word32_h ctx_nil)
def impl_bareSegment_A : List (Nat × Ann) := []
theorem impl_bareSegment_r (N : Nat) (g : SSegment) : runF Try.prog impl_bareSegment_G impl_bareSegment_A N Try.f138 impl_bareSegment_s (g.enc ++ ([])) = impl_bareSegment_t Vm.bad (fun r0 => ((true, [.str r0]) : Res)) g := by kernel_rfl
theorem impl_bareSegment_h : Holds Try.prog 138 impl_bareSegment_s := by
  refine holds_of_run (A := impl_bareSegment_A) impl_bareSegment_x Try.func138 rfl (by kernel_rfl) (of_decide_eq_true (by kernel_rfl)) (of_decide_eq_true (by kernel_rfl)) ?_
  intro ds hw hok
  replace hw : WtL (SSegment.ct ++ ([])) ds := hw
  obtain ⟨g, ds, rfl, h_g, hw⟩ := SSegment.of_wt (r := _) hw
  obtain rfl := of_wt_nil hw
  exact ⟨0, ((impl_bareSegment_r 0 g).trans (impl_bareSegment_c Vm.bad _ g h_g hok)).trans (by kernel_rfl)⟩

def impl_BuildSegment_s : Sum := { ps := [⟨[.int .i64], false⟩, ⟨[.int .i64], false⟩, ⟨[.int .i64, .int .i64, .int .i64, .int .i64, .int .i64, .int .i64, .int .i64, .str], true⟩], rs := [⟨[.imm .str], false⟩, ⟨[.imm .bool], false⟩], fn := fun ds => (true, [.str (BuildSegment (rI ds 0) (rI ds 1) (SSegment.decAt ds 2)).1] ++ [.bool (BuildSegment (rI ds 0) (rI ds 1) (SSegment.decAt ds 2)).2]) }
def impl_BuildSegment_G : Ctx := [(136, impl_SegmentOk_s), (138, impl_bareSegment_s), (139, impl_PseudoHeader_s), (140, impl_Checksum_s), (141, impl_PutBytes_s), (142, impl_sumPlace_s), (143, impl_Word16_s)]
theorem impl_BuildSegment_x : CtxHolds Try.prog impl_BuildSegment_G := ctx_cons impl_SegmentOk_h (ctx_cons impl_bareSegment_h (ctx_cons impl_PseudoHeader_h (ctx_cons impl_Checksum_h (ctx_cons impl_PutBytes_h (ctx_cons impl_sumPlace_h (ctx_cons impl_Word16_h ctx_nil))))))
def impl_BuildSegment_A : List (Nat × Ann) := []
theorem impl_BuildSegment_r (N : Nat) (src : Int) (dst : Int) (g : SSegment) : runF Try.prog impl_BuildSegment_G impl_BuildSegment_A N Try.f116 impl_BuildSegment_s (.int src :: (.int dst :: (g.enc ++ ([])))) = impl_BuildSegment_t Vm.bad (fun r0 r1 => ((true, [.str r0] ++ [.bool r1]) : Res)) src dst g := by kernel_rfl
theorem impl_BuildSegment_h : Holds Try.prog 116 impl_BuildSegment_s := by
  refine holds_of_run (A := impl_BuildSegment_A) impl_BuildSegment_x Try.func116 rfl (by kernel_rfl) (of_decide_eq_true (by kernel_rfl)) (of_decide_eq_true (by kernel_rfl)) ?_
  intro ds hw hok
  replace hw : WtL ((.int .i64) :: ((.int .i64) :: (SSegment.ct ++ ([])))) ds := hw
  obtain ⟨src, ds, rfl, h_src, hw⟩ := of_wt_int hw
  obtain ⟨dst, ds, rfl, h_dst, hw⟩ := of_wt_int hw
  obtain ⟨g, ds, rfl, h_g, hw⟩ := SSegment.of_wt (r := _) hw
  obtain rfl := of_wt_nil hw
  exact ⟨0, ((impl_BuildSegment_r 0 src dst g).trans (impl_BuildSegment_c Vm.bad _ src dst g h_src h_dst h_g)).trans (by kernel_rfl)⟩

def spec_BuildSegment_s : Sum := { ps := [⟨[.int .i64], false⟩, ⟨[.int .i64], false⟩, ⟨[.int .i64, .int .i64, .int .i64, .int .i64, .int .i64, .int .i64, .int .i64, .str], true⟩], rs := [⟨[.imm .str], false⟩, ⟨[.imm .bool], false⟩], fn := fun ds => (true, [.str (BuildSegment (rI ds 0) (rI ds 1) (SSegment.decAt ds 2)).1] ++ [.bool (BuildSegment (rI ds 0) (rI ds 1) (SSegment.decAt ds 2)).2]) }
def spec_BuildSegment_G : Ctx := [(120, spec_SegmentOk_s), (121, spec_Word16_s), (122, spec_Word32_s), (123, spec_PseudoHeader_s), (124, spec_Checksum_s), (125, spec_PutBytes_s)]
theorem spec_BuildSegment_x : CtxHolds Try.prog spec_BuildSegment_G := ctx_cons spec_SegmentOk_h (ctx_cons spec_Word16_h (ctx_cons spec_Word32_h (ctx_cons spec_PseudoHeader_h (ctx_cons spec_Checksum_h (ctx_cons spec_PutBytes_h ctx_nil)))))
def spec_BuildSegment_A : List (Nat × Ann) := []
theorem spec_BuildSegment_r (N : Nat) (src : Int) (dst : Int) (g : SSegment) : runF Try.prog spec_BuildSegment_G spec_BuildSegment_A N Try.f86 spec_BuildSegment_s (.int src :: (.int dst :: (g.enc ++ ([])))) = spec_BuildSegment_t Vm.bad (fun r0 r1 => ((true, [.str r0] ++ [.bool r1]) : Res)) src dst g := by kernel_rfl
theorem spec_BuildSegment_h : Holds Try.prog 86 spec_BuildSegment_s := by
  refine holds_of_run (A := spec_BuildSegment_A) spec_BuildSegment_x Try.func86 rfl (by kernel_rfl) (of_decide_eq_true (by kernel_rfl)) (of_decide_eq_true (by kernel_rfl)) ?_
  intro ds hw hok
  replace hw : WtL ((.int .i64) :: ((.int .i64) :: (SSegment.ct ++ ([])))) ds := hw
  obtain ⟨src, ds, rfl, h_src, hw⟩ := of_wt_int hw
  obtain ⟨dst, ds, rfl, h_dst, hw⟩ := of_wt_int hw
  obtain ⟨g, ds, rfl, h_g, hw⟩ := SSegment.of_wt (r := _) hw
  obtain rfl := of_wt_nil hw
  exact ⟨0, ((spec_BuildSegment_r 0 src dst g).trans (spec_BuildSegment_c Vm.bad _ src dst g h_src h_dst h_g)).trans (by kernel_rfl)⟩

def impl_IpOk_s : Sum := { ps := [⟨[.int .i64, .int .i64, .int .i64, .int .i64, .int .i64, .int .i64, .str], true⟩], rs := [⟨[.imm .bool], false⟩], fn := fun ds => (true, [.bool (IpOk (SIp.decAt ds 0))]) }
def impl_IpOk_G : Ctx := [(68, impl_between_s)]
theorem impl_IpOk_x : CtxHolds Try.prog impl_IpOk_G := ctx_cons impl_between_h ctx_nil
def impl_IpOk_A : List (Nat × Ann) := []
theorem impl_IpOk_r (N : Nat) (d : SIp) : runF Try.prog impl_IpOk_G impl_IpOk_A N Try.f154 impl_IpOk_s (d.enc ++ ([])) = impl_IpOk_t (fun r0 => ((true, [.bool r0]) : Res)) d := by kernel_rfl
theorem impl_IpOk_h : Holds Try.prog 154 impl_IpOk_s := by
  refine holds_of_run (A := impl_IpOk_A) impl_IpOk_x Try.func154 rfl (by kernel_rfl) (of_decide_eq_true (by kernel_rfl)) (of_decide_eq_true (by kernel_rfl)) ?_
  intro ds hw hok
  replace hw : WtL (SIp.ct ++ ([])) ds := hw
  obtain ⟨d, ds, rfl, h_d, hw⟩ := SIp.of_wt (r := _) hw
  obtain rfl := of_wt_nil hw
  exact ⟨0, ((impl_IpOk_r 0 d).trans (impl_IpOk_c _ d)).trans (by kernel_rfl)⟩

def spec_IpOk_s : Sum := { ps := [⟨[.int .i64, .int .i64, .int .i64, .int .i64, .int .i64, .int .i64, .str], true⟩], rs := [⟨[.imm .bool], false⟩], fn := fun ds => (true, [.bool (IpOk (SIp.decAt ds 0))]) }
def spec_IpOk_G : Ctx := [(64, spec_l01In_s)]
theorem spec_IpOk_x : CtxHolds Try.prog spec_IpOk_G := ctx_cons spec_l01In_h ctx_nil
def spec_IpOk_A : List (Nat × Ann) := []
theorem spec_IpOk_r (N : Nat) (d : SIp) : runF Try.prog spec_IpOk_G spec_IpOk_A N Try.f150 spec_IpOk_s (d.enc ++ ([])) = spec_IpOk_t (fun r0 => ((true, [.bool r0]) : Res)) d := by kernel_rfl
theorem spec_IpOk_h : Holds Try.prog 150 spec_IpOk_s := by
  refine holds_of_run (A := spec_IpOk_A) spec_IpOk_x Try.func150 rfl (by kernel_rfl) (of_decide_eq_true (by kernel_rfl)) (of_decide_eq_true (by kernel_rfl)) ?_
  intro ds hw hok
  replace hw : WtL (SIp.ct ++ ([])) ds := hw
  obtain ⟨d, ds, rfl, h_d, hw⟩ := SIp.of_wt (r := _) hw
  obtain rfl := of_wt_nil hw
  exact ⟨0, ((spec_IpOk_r 0 d).trans (spec_IpOk_c _ d h_d)).trans (by kernel_rfl)⟩

def impl_IpHeader_s : Sum := { ps := [⟨[.int .i64, .int .i64, .int .i64, .int .i64, .int .i64, .int .i64, .str], true⟩], rs := [⟨[.imm .str], false⟩, ⟨[.imm .bool], false⟩], fn := fun ds => (true, [.str (IpHeader (SIp.decAt ds 0)).1] ++ [.bool (IpHeader (SIp.decAt ds 0)).2]) }
def impl_IpHeader_G : Ctx := [(140, impl_Checksum_s), (141, impl_PutBytes_s), (143, impl_Word16_s), (152, impl_Word32_s), (154, impl_IpOk_s)]
theorem impl_IpHeader_x : CtxHolds Try.prog impl_IpHeader_G := ctx_cons impl_Checksum_h (ctx_cons impl_PutBytes_h (ctx_cons impl_Word16_h (ctx_cons impl_Word32_h (ctx_cons impl_IpOk_h ctx_nil))))
def impl_IpHeader_A : List (Nat × Ann) := []
theorem impl_IpHeader_r (N : Nat) (d : SIp) : runF Try.prog impl_IpHeader_G impl_IpHeader_A N Try.f144 impl_IpHeader_s (d.enc ++ ([])) = impl_IpHeader_t Vm.bad (fun r0 r1 => ((true, [.str r0] ++ [.bool r1]) : Res)) d := by kernel_rfl
theorem impl_IpHeader_h : Holds Try.prog 144 impl_IpHeader_s := by
  refine holds_of_run (A := impl_IpHeader_A) impl_IpHeader_x Try.func144 rfl (by kernel_rfl) (of_decide_eq_true (by kernel_rfl)) (of_decide_eq_true (by kernel_rfl)) ?_
  intro ds hw hok
  replace hw : WtL (SIp.ct ++ ([])) ds := hw
  obtain ⟨d, ds, rfl, h_d, hw⟩ := SIp.of_wt (r := _) hw
  obtain rfl := of_wt_nil hw
  exact ⟨0, ((impl_IpHeader_r 0 d).trans (impl_IpHeader_c Vm.bad _ d h_d)).trans (by kernel_rfl)⟩

def spec_IpHeader_s : Sum := { ps := [⟨[.int .i64, .int .i64, .int .i64, .int .i64, .int .i64, .int .i64, .str], true⟩], rs := [⟨[.imm .str], false⟩, ⟨[.imm .bool], false⟩], fn := fun ds => (true, [.str (IpHeader (SIp.decAt ds 0)).1] ++ [.bool (IpHeader (SIp.decAt ds 0)).2]) }
def spec_IpHeader_G : Ctx := [(121, spec_Word16_s), (122, spec_Word32_s), (124, spec_Checksum_s), (125, spec_PutBytes_s), (150, spec_IpOk_s)]
theorem spec_IpHeader_x : CtxHolds Try.prog spec_IpHeader_G := ctx_cons spec_Word16_h (ctx_cons spec_Word32_h (ctx_cons spec_Checksum_h (ctx_cons spec_PutBytes_h (ctx_cons spec_IpOk_h ctx_nil))))
def spec_IpHeader_A : List (Nat × Ann) := []
theorem spec_IpHeader_r (N : Nat) (d : SIp) : runF Try.prog spec_IpHeader_G spec_IpHeader_A N Try.f126 spec_IpHeader_s (d.enc ++ ([])) = spec_IpHeader_t Vm.bad (fun r0 r1 => ((true, [.str r0] ++ [.bool r1]) : Res)) d := by kernel_rfl
theorem spec_IpHeader_h : Holds Try.prog 126 spec_IpHeader_s := by
  refine holds_of_run (A := spec_IpHeader_A) spec_IpHeader_x Try.func126 rfl (by kernel_rfl) (of_decide_eq_true (by kernel_rfl)) (of_decide_eq_true (by kernel_rfl)) ?_
  intro ds hw hok
  replace hw : WtL (SIp.ct ++ ([])) ds := hw
  obtain ⟨d, ds, rfl, h_d, hw⟩ := SIp.of_wt (r := _) hw
  obtain rfl := of_wt_nil hw
  exact ⟨0, ((spec_IpHeader_r 0 d).trans (spec_IpHeader_c Vm.bad _ d h_d)).trans (by kernel_rfl)⟩

def impl_BuildIp_s : Sum := { ps := [⟨[.int .i64, .int .i64, .int .i64, .int .i64, .int .i64, .int .i64, .str], true⟩], rs := [⟨[.imm .str], false⟩, ⟨[.imm .bool], false⟩], fn := fun ds => (true, [.str (BuildIp (SIp.decAt ds 0)).1] ++ [.bool (BuildIp (SIp.decAt ds 0)).2]) }
def impl_BuildIp_G : Ctx := [(144, impl_IpHeader_s)]
theorem impl_BuildIp_x : CtxHolds Try.prog impl_BuildIp_G := ctx_cons impl_IpHeader_h ctx_nil
def impl_BuildIp_A : List (Nat × Ann) := []
theorem impl_BuildIp_r (N : Nat) (d : SIp) : runF Try.prog impl_BuildIp_G impl_BuildIp_A N Try.f117 impl_BuildIp_s (d.enc ++ ([])) = impl_BuildIp_t Vm.bad (fun r0 r1 => ((true, [.str r0] ++ [.bool r1]) : Res)) d := by kernel_rfl
theorem impl_BuildIp_h : Holds Try.prog 117 impl_BuildIp_s := by
  refine holds_of_run (A := impl_BuildIp_A) impl_BuildIp_x Try.func117 rfl (by kernel_rfl) (of_decide_eq_true (by kernel_rfl)) (of_decide_eq_true (by kernel_rfl)) ?_
  intro ds hw hok
  replace hw : WtL (SIp.ct ++ ([])) ds := hw
  obtain ⟨d, ds, rfl, h_d, hw⟩ := SIp.of_wt (r := _) hw
  obtain rfl := of_wt_nil hw
  exact ⟨0, ((impl_BuildIp_r 0 d).trans (impl_BuildIp_c Vm.bad _ d h_d)).trans (by kernel_rfl)⟩

def spec_BuildIp_s : Sum := { ps := [⟨[.int .i64, .int .i64, .int .i64, .int .i64, .int .i64, .int .i64, .str], true⟩], rs := [⟨[.imm .str], false⟩, ⟨[.imm .bool], false⟩], fn := fun ds => (true, [.str (BuildIp (SIp.decAt ds 0)).1] ++ [.bool (BuildIp (SIp.decAt ds 0)).2]) }
def spec_BuildIp_G : Ctx := [(126, spec_IpHeader_s)]
theorem spec_BuildIp_x : CtxHolds Try.prog spec_BuildIp_G := ctx_cons spec_IpHeader_h ctx_nil
def spec_BuildIp_A : List (Nat × Ann) := []
theorem spec_BuildIp_r (N : Nat) (d : SIp) : runF Try.prog spec_BuildIp_G spec_BuildIp_A N Try.f87 spec_BuildIp_s (d.enc ++ ([])) = spec_BuildIp_t Vm.bad (fun r0 r1 => ((true, [.str r0] ++ [.bool r1]) : Res)) d := by kernel_rfl
theorem spec_BuildIp_h : Holds Try.prog 87 spec_BuildIp_s := by
  refine holds_of_run (A := spec_BuildIp_A) spec_BuildIp_x Try.func87 rfl (by kernel_rfl) (of_decide_eq_true (by kernel_rfl)) (of_decide_eq_true (by kernel_rfl)) ?_
  intro ds hw hok
  replace hw : WtL (SIp.ct ++ ([])) ds := hw
  obtain ⟨d, ds, rfl, h_d, hw⟩ := SIp.of_wt (r := _) hw
  obtain rfl := of_wt_nil hw
  exact ⟨0, ((spec_BuildIp_r 0 d).trans (spec_BuildIp_c Vm.bad _ d h_d)).trans (by kernel_rfl)⟩

def impl_PadBody_s : Sum := { ps := [⟨[.str], false⟩], rs := [⟨[.imm .str], false⟩], fn := fun ds => (true, [.str (PadBody (rS ds 0))]) }
def impl_PadBody_G : Ctx := [(147, impl_repeat_s)]
theorem impl_PadBody_x : CtxHolds Try.prog impl_PadBody_G := ctx_cons impl_repeat_h ctx_nil
def impl_PadBody_A : List (Nat × Ann) := []
theorem impl_PadBody_r (N : Nat) (s : Bytes) : runF Try.prog impl_PadBody_G impl_PadBody_A N Try.f119 impl_PadBody_s (.str s :: ([])) = impl_PadBody_t Vm.bad (fun r0 => ((true, [.str r0]) : Res)) s := by kernel_rfl
theorem impl_PadBody_h : Holds Try.prog 119 impl_PadBody_s := by
  refine holds_of_run (A := impl_PadBody_A) impl_PadBody_x Try.func119 rfl (by kernel_rfl) (of_decide_eq_true (by kernel_rfl)) (of_decide_eq_true (by kernel_rfl)) ?_
  intro ds hw hok
  replace hw : WtL (.str :: ([])) ds := hw
  obtain ⟨s, ds, rfl, h_s, hw⟩ := of_wt_str hw
  obtain rfl := of_wt_nil hw
  exact ⟨0, ((impl_PadBody_r 0 s).trans (impl_PadBody_c Vm.bad _ s h_s)).trans (by kernel_rfl)⟩

def spec_PadBody_s : Sum := { ps := [⟨[.str], false⟩], rs := [⟨[.imm .str], false⟩], fn := fun ds => (true, [.str (PadBody (rS ds 0))]) }
def spec_PadBody_G : Ctx := [(76, spec_l01Long_s)]
theorem spec_PadBody_x : CtxHolds Try.prog spec_PadBody_G := ctx_cons spec_l01Long_h ctx_nil
def spec_PadBody_A : List (Nat × Ann) := []
theorem spec_PadBody_r (N : Nat) (s : Bytes) : runF Try.prog spec_PadBody_G spec_PadBody_A N Try.f89 spec_PadBody_s (.str s :: ([])) = spec_PadBody_t Vm.bad (fun r0 => ((true, [.str r0]) : Res)) s := by kernel_rfl
theorem spec_PadBody_h : Holds Try.prog 89 spec_PadBody_s := by
  refine holds_of_run (A := spec_PadBody_A) spec_PadBody_x Try.func89 rfl (by kernel_rfl) (of_decide_eq_true (by kernel_rfl)) (of_decide_eq_true (by kernel_rfl)) ?_
  intro ds hw hok
  replace hw : WtL (.str :: ([])) ds := hw
  obtain ⟨s, ds, rfl, h_s, hw⟩ := of_wt_str hw
  obtain rfl := of_wt_nil hw
  exact ⟨0, ((spec_PadBody_r 0 s).trans (spec_PadBody_c Vm.bad _ s h_s)).trans (by kernel_rfl)⟩

def impl_EthOk_s : Sum := { ps := [⟨[.int .i64, .int .i64, .int .i64, .int .i64, .str], true⟩], rs := [⟨[.imm .bool], false⟩], fn := fun ds => (true, [.bool (EthOk (SEth.decAt ds 0))]) }
def impl_EthOk_G : Ctx := [(68, impl_between_s)]
theorem impl_EthOk_x : CtxHolds Try.prog impl_EthOk_G := ctx_cons impl_between_h ctx_nil
def impl_EthOk_A : List (Nat × Ann) := []
theorem impl_EthOk_r (N : Nat) (e : SEth) : runF Try.prog impl_EthOk_G impl_EthOk_A N Try.f145 impl_EthOk_s (e.enc ++ ([])) = impl_EthOk_t (fun r0 => ((true, [.bool r0]) : Res)) e := by kernel_rfl
theorem impl_EthOk_h : Holds Try.prog 145 impl_EthOk_s := by
  refine holds_of_run (A := impl_EthOk_A) impl_EthOk_x Try.func145 rfl (by kernel_rfl) (of_decide_eq_true (by kernel_rfl)) (of_decide_eq_true (by kernel_rfl)) ?_
  intro ds hw hok
  replace hw : WtL (SEth.ct ++ ([])) ds := hw
  obtain ⟨e, ds, rfl, h_e, hw⟩ := SEth.of_wt (r := _) hw
  obtain rfl := of_wt_nil hw
  exact ⟨0, ((impl_EthOk_r 0 e).trans (impl_EthOk_c _ e)).trans (by kernel_rfl)⟩

def spec_EthOk_s : Sum := { ps := [⟨[.int .i64, .int .i64, .int .i64, .int .i64, .str], true⟩], rs := [⟨[.imm .bool], false⟩], fn := fun ds => (true, [.bool (EthOk (SEth.decAt ds 0))]) }
def spec_EthOk_G : Ctx := [(64, spec_l01In_s)]
theorem spec_EthOk_x : CtxHolds Try.prog spec_EthOk_G := ctx_cons spec_l01In_h ctx_nil
def spec_EthOk_A : List (Nat × Ann) := []
theorem spec_EthOk_r (N : Nat) (e : SEth) : runF Try.prog spec_EthOk_G spec_EthOk_A N Try.f127 spec_EthOk_s (e.enc ++ ([])) = spec_EthOk_t (fun r0 => ((true, [.bool r0]) : Res)) e := by kernel_rfl
theorem spec_EthOk_h : Holds Try.prog 127 spec_EthOk_s := by
  refine holds_of_run (A := spec_EthOk_A) spec_EthOk_x Try.func127 rfl (by kernel_rfl) (of_decide_eq_true (by kernel_rfl)) (of_decide_eq_true (by kernel_rfl)) ?_
  intro ds hw hok
  replace hw : WtL (SEth.ct ++ ([])) ds := hw
  obtain ⟨e, ds, rfl, h_e, hw⟩ := SEth.of_wt (r := _) hw
  obtain rfl := of_wt_nil hw
  exact ⟨0, ((spec_EthOk_r 0 e).trans (spec_EthOk_c _ e h_e)).trans (by kernel_rfl)⟩

def impl_macBytes_s : Sum := { ps := [⟨[.int .i64], false⟩], rs := [⟨[.imm .str], false⟩], fn := fun ds => (true, [.str (macBytes (rI ds 0))]) }
def impl_macBytes_G : Ctx := [(143, impl_Word16_s), (152, impl_Word32_s)]
theorem impl_macBytes_x : CtxHolds Try.prog impl_macBytes_G := ctx_cons impl_Word16_h (ctx_cons impl_Word32_h ctx_nil)
def impl_macBytes_A : List (Nat × Ann) := []
theorem impl_macBytes_r (N : Nat) (a : Int) : runF Try.prog impl_macBytes_G impl_macBytes_A N Try.f146 impl_macBytes_s (.int a :: ([])) = impl_macBytes_t Vm.bad (fun r0 => ((true, [.str r0]) : Res)) a := by kernel_rfl
theorem impl_macBytes_h : Holds Try.prog 146 impl_macBytes_s := by
  refine holds_of_run (A := impl_macBytes_A) impl_macBytes_x Try.func146 rfl (by kernel_rfl) (of_decide_eq_true (by kernel_rfl)) (of_decide_eq_true (by kernel_rfl)) ?_
  intro ds hw hok
  replace hw : WtL ((.int .i64) :: ([])) ds := hw
  obtain ⟨a, ds, rfl, h_a, hw⟩ := of_wt_int hw
  obtain rfl := of_wt_nil hw
  exact ⟨0, ((impl_macBytes_r 0 a).trans (impl_macBytes_c Vm.bad _ a h_a)).trans (by kernel_rfl)⟩

def spec_l04Address_s : Sum := { ps := [⟨[.int .i64], false⟩], rs := [⟨[.imm .str], false⟩], fn := fun ds => (true, [.str (macBytes (rI ds 0))]) }
def spec_l04Address_G : Ctx := [(121, spec_Word16_s), (122, spec_Word32_s)]
theorem spec_l04Address_x : CtxHolds Try.prog spec_l04Address_G := ctx_cons spec_Word16_h (ctx_cons spec_Word32_h ctx_nil)
def spec_l04Address_A : List (Nat × Ann) := []
theorem spec_l04Address_r (N : Nat) (x : Int) : runF Try.prog spec_l04Address_G spec_l04Address_A N Try.f128 spec_l04Address_s (.int x :: ([])) = spec_l04Address_t Vm.bad (fun r0 => ((true, [.str r0]) : Res)) x := by kernel_rfl
theorem spec_l04Address_h : Holds Try.prog 128 spec_l04Address_s := by
  refine holds_of_run (A := spec_l04Address_A) spec_l04Address_x Try.func128 rfl (by kernel_rfl) (of_decide_eq_true (by kernel_rfl)) (of_decide_eq_true (by kernel_rfl)) ?_
  intro ds hw hok
  replace hw : WtL ((.int .i64) :: ([])) ds := hw
  obtain ⟨x, ds, rfl, h_x, hw⟩ := of_wt_int hw
  obtain rfl := of_wt_nil hw
  exact ⟨0, ((spec_l04Address_r 0 x).trans (spec_l04Address_c Vm.bad _ x h_x)).trans (by kernel_rfl)⟩

def impl_BuildEth_s : Sum := { ps := [⟨[.int .i64, .int .i64, .int .i64, .int .i64, .str], true⟩], rs := [⟨[.imm .str], false⟩, ⟨[.imm .bool], false⟩], fn := fun ds => (true, [.str (BuildEth (SEth.decAt ds 0)).1] ++ [.bool (BuildEth (SEth.decAt ds 0)).2]) }
def impl_BuildEth_G : Ctx := [(143, impl_Word16_s), (145, impl_EthOk_s), (146, impl_macBytes_s)]
theorem impl_BuildEth_x : CtxHolds Try.prog impl_BuildEth_G := ctx_cons impl_Word16_h (ctx_cons impl_EthOk_h (ctx_cons impl_macBytes_h ctx_nil))
def impl_BuildEth_A : List (Nat × Ann) := []
theorem impl_BuildEth_r (N : Nat) (e : SEth) : runF Try.prog impl_BuildEth_G impl_BuildEth_A N Try.f118 impl_BuildEth_s (e.enc ++ ([])) = impl_BuildEth_t Vm.bad (fun r0 r1 => ((true, [.str r0] ++ [.bool r1]) : Res)) e := by kernel_rfl
theorem impl_BuildEth_h : Holds Try.prog 118 impl_BuildEth_s := by
  refine holds_of_run (A := impl_BuildEth_A) impl_BuildEth_x Try.func118 rfl (by kernel_rfl) (of_decide_eq_true (by kernel_rfl)) (of_decide_eq_true (by kernel_rfl)) ?_
  intro ds hw hok
  replace hw : WtL (SEth.ct ++ ([])) ds := hw
  obtain ⟨e, ds, rfl, h_e, hw⟩ := SEth.of_wt (r := _) hw
  obtain rfl := of_wt_nil hw
  exact ⟨0, ((impl_BuildEth_r 0 e).trans (impl_BuildEth_c Vm.bad _ e h_e)).trans (by kernel_rfl)⟩

def spec_BuildEth_s : Sum := { ps := [⟨[.int .i64, .int .i64, .int .i64, .int .i64, .str], true⟩], rs := [⟨[.imm .str], false⟩, ⟨[.imm .bool], false⟩], fn := fun ds => (true, [.str (BuildEth (SEth.decAt ds 0)).1] ++ [.bool (BuildEth (SEth.decAt ds 0)).2]) }
def spec_BuildEth_G : Ctx := [(121, spec_Word16_s), (127, spec_EthOk_s), (128, spec_l04Address_s)]
theorem spec_BuildEth_x : CtxHolds Try.prog spec_BuildEth_G := ctx_cons spec_Word16_h (ctx_cons spec_EthOk_h (ctx_cons spec_l04Address_h ctx_nil))
def spec_BuildEth_A : List (Nat × Ann) := []
theorem spec_BuildEth_r (N : Nat) (e : SEth) : runF Try.prog spec_BuildEth_G spec_BuildEth_A N Try.f88 spec_BuildEth_s (e.enc ++ ([])) = spec_BuildEth_t Vm.bad (fun r0 r1 => ((true, [.str r0] ++ [.bool r1]) : Res)) e := by kernel_rfl
theorem spec_BuildEth_h : Holds Try.prog 88 spec_BuildEth_s := by
  refine holds_of_run (A := spec_BuildEth_A) spec_BuildEth_x Try.func88 rfl (by kernel_rfl) (of_decide_eq_true (by kernel_rfl)) (of_decide_eq_true (by kernel_rfl)) ?_
  intro ds hw hok
  replace hw : WtL (SEth.ct ++ ([])) ds := hw
  obtain ⟨e, ds, rfl, h_e, hw⟩ := SEth.of_wt (r := _) hw
  obtain rfl := of_wt_nil hw
  exact ⟨0, ((spec_BuildEth_r 0 e).trans (spec_BuildEth_c Vm.bad _ e h_e)).trans (by kernel_rfl)⟩

def impl_BuildImage_s : Sum := { ps := [⟨[.int .i64, .int .i64, .int .i64, .int .i64, .int .i64, .int .i64, .int .i64, .int .i64, .int .i64, .int .i64, .int .i64, .int .i64, .int .i64, .int .i64, .int .i64, .str], true⟩], rs := [⟨[.imm .str], false⟩, ⟨[.imm .bool], false⟩], fn := fun ds => (true, [.str (BuildImage (SPacket.decAt ds 0)).1] ++ [.bool (BuildImage (SPacket.decAt ds 0)).2]) }
def impl_BuildImage_G : Ctx := [(115, impl_SuperOk_s), (116, impl_BuildSegment_s), (117, impl_BuildIp_s), (118, impl_BuildEth_s), (119, impl_PadBody_s)]
theorem impl_BuildImage_x : CtxHolds Try.prog impl_BuildImage_G := ctx_cons impl_SuperOk_h (ctx_cons impl_BuildSegment_h (ctx_cons impl_BuildIp_h (ctx_cons impl_BuildEth_h (ctx_cons impl_PadBody_h ctx_nil))))
def impl_BuildImage_A : List (Nat × Ann) := []
theorem impl_BuildImage_r (N : Nat) (p : SPacket) : runF Try.prog impl_BuildImage_G impl_BuildImage_A N Try.f81 impl_BuildImage_s (p.enc ++ ([])) = impl_BuildImage_t (fun r0 r1 => ((true, [.str r0] ++ [.bool r1]) : Res)) p := by kernel_rfl
theorem impl_BuildImage_h : Holds Try.prog 81 impl_BuildImage_s := by
  refine holds_of_run (A := impl_BuildImage_A) impl_BuildImage_x Try.func81 rfl (by kernel_rfl) (of_decide_eq_true (by kernel_rfl)) (of_decide_eq_true (by kernel_rfl)) ?_
  intro ds hw hok
  replace hw : WtL (SPacket.ct ++ ([])) ds := hw
  obtain ⟨p, ds, rfl, h_p, hw⟩ := SPacket.of_wt (r := _) hw
  obtain rfl := of_wt_nil hw
  exact ⟨0, ((impl_BuildImage_r 0 p).trans (impl_BuildImage_c _ p h_p)).trans (by kernel_rfl)⟩

def spec_BuildImage_s : Sum := { ps := [⟨[.int .i64, .int .i64, .int .i64, .int .i64, .int .i64, .int .i64, .int .i64, .int .i64, .int .i64, .int .i64, .int .i64, .int .i64, .int .i64, .int .i64, .int .i64, .str], true⟩], rs := [⟨[.imm .str], false⟩, ⟨[.imm .bool], false⟩], fn := fun ds => (true, [.str (BuildImage (SPacket.decAt ds 0)).1] ++ [.bool (BuildImage (SPacket.decAt ds 0)).2]) }
def spec_BuildImage_G : Ctx := [(85, spec_SuperOk_s), (86, spec_BuildSegment_s), (87, spec_BuildIp_s), (88, spec_BuildEth_s), (89, spec_PadBody_s)]
theorem spec_BuildImage_x : CtxHolds Try.prog spec_BuildImage_G := ctx_cons spec_SuperOk_h (ctx_cons spec_BuildSegment_h (ctx_cons spec_BuildIp_h (ctx_cons spec_BuildEth_h (ctx_cons spec_PadBody_h ctx_nil))))
def spec_BuildImage_A : List (Nat × Ann) := []
theorem spec_BuildImage_r (N : Nat) (p : SPacket) : runF Try.prog spec_BuildImage_G spec_BuildImage_A N Try.f47 spec_BuildImage_s (p.enc ++ ([])) = spec_BuildImage_t (fun r0 r1 => ((true, [.str r0] ++ [.bool r1]) : Res)) p := by kernel_rfl
theorem spec_BuildImage_h : Holds Try.prog 47 spec_BuildImage_s := by
  refine holds_of_run (A := spec_BuildImage_A) spec_BuildImage_x Try.func47 rfl (by kernel_rfl) (of_decide_eq_true (by kernel_rfl)) (of_decide_eq_true (by kernel_rfl)) ?_
  intro ds hw hok
  replace hw : WtL (SPacket.ct ++ ([])) ds := hw
  obtain ⟨p, ds, rfl, h_p, hw⟩ := SPacket.of_wt (r := _) hw
  obtain rfl := of_wt_nil hw
  exact ⟨0, ((spec_BuildImage_r 0 p).trans (spec_BuildImage_c _ p h_p)).trans (by kernel_rfl)⟩

def impl_PacketOk_s : Sum := { ps := [⟨[.int .i64, .int .i64, .int .i64, .int .i64, .int .i64, .int .i64, .int .i64, .int .i64, .int .i64, .int .i64, .int .i64, .int .i64, .int .i64, .int .i64, .int .i64, .str], true⟩], rs := [⟨[.imm .bool], false⟩], fn := fun ds => (true, [.bool (PacketOk (SPacket.decAt ds 0))]) }
def impl_PacketOk_G : Ctx := [(115, impl_SuperOk_s)]
theorem impl_PacketOk_x : CtxHolds Try.prog impl_PacketOk_G := ctx_cons impl_SuperOk_h ctx_nil
def impl_PacketOk_A : List (Nat × Ann) := []
theorem impl_PacketOk_r (N : Nat) (p : SPacket) : runF Try.prog impl_PacketOk_G impl_PacketOk_A N Try.f80 impl_PacketOk_s (p.enc ++ ([])) = impl_PacketOk_t (fun r0 => ((true, [.bool r0]) : Res)) p := by kernel_rfl
theorem impl_PacketOk_h : Holds Try.prog 80 impl_PacketOk_s := by
  refine holds_of_run (A := impl_PacketOk_A) impl_PacketOk_x Try.func80 rfl (by kernel_rfl) (of_decide_eq_true (by kernel_rfl)) (of_decide_eq_true (by kernel_rfl)) ?_
  intro ds hw hok
  replace hw : WtL (SPacket.ct ++ ([])) ds := hw
  obtain ⟨p, ds, rfl, h_p, hw⟩ := SPacket.of_wt (r := _) hw
  obtain rfl := of_wt_nil hw
  exact ⟨0, ((impl_PacketOk_r 0 p).trans (impl_PacketOk_c _ p)).trans (by kernel_rfl)⟩

def spec_PacketOk_s : Sum := { ps := [⟨[.int .i64, .int .i64, .int .i64, .int .i64, .int .i64, .int .i64, .int .i64, .int .i64, .int .i64, .int .i64, .int .i64, .int .i64, .int .i64, .int .i64, .int .i64, .str], true⟩], rs := [⟨[.imm .bool], false⟩], fn := fun ds => (true, [.bool (PacketOk (SPacket.decAt ds 0))]) }
def spec_PacketOk_G : Ctx := [(85, spec_SuperOk_s)]
theorem spec_PacketOk_x : CtxHolds Try.prog spec_PacketOk_G := ctx_cons spec_SuperOk_h ctx_nil
def spec_PacketOk_A : List (Nat × Ann) := []
theorem spec_PacketOk_r (N : Nat) (p : SPacket) : runF Try.prog spec_PacketOk_G spec_PacketOk_A N Try.f91 spec_PacketOk_s (p.enc ++ ([])) = spec_PacketOk_t (fun r0 => ((true, [.bool r0]) : Res)) p := by kernel_rfl
theorem spec_PacketOk_h : Holds Try.prog 91 spec_PacketOk_s := by
  refine holds_of_run (A := spec_PacketOk_A) spec_PacketOk_x Try.func91 rfl (by kernel_rfl) (of_decide_eq_true (by kernel_rfl)) (of_decide_eq_true (by kernel_rfl)) ?_
  intro ds hw hok
  replace hw : WtL (SPacket.ct ++ ([])) ds := hw
  obtain ⟨p, ds, rfl, h_p, hw⟩ := SPacket.of_wt (r := _) hw
  obtain rfl := of_wt_nil hw
  exact ⟨0, ((spec_PacketOk_r 0 p).trans (spec_PacketOk_c _ p h_p)).trans (by kernel_rfl)⟩

end
end Go.Proofs.Ytfnkhejoihnlnaa.Pl
