/- The contracts of functions of the program: each computes what its plain form says. Conditions: none. -/
import Derived.Test.YtklbgnodgnlebaaPCu
import Derived.Test.YtklbgnodgnlebaaRows
import Derived.Test.YtklbgnodgnlebaaBBa
set_option linter.unusedVariables false
set_option linter.unusedSimpArgs false
set_option maxRecDepth 100000
namespace Go.Proofs.Ytklbgnodgnlebaa.Pl
open Vm
noncomputable section

def spec_l01New_s : Sum := { ps := [⟨[.sl [.int .u8]], false⟩], rs := [], fn := fun ds => (true, Sl01Cur.enc (l01New (rR ds 0))), pt := some (91, [.sl [.int .u8], .int .i64, .int .i64]) }
def spec_l01New_G : Ctx := []
theorem spec_l01New_x : CtxHolds Try.prog spec_l01New_G := ctx_nil
def spec_l01New_A : List (Nat × Ann) := [(3, { slots := [(0, .asis), (3, .asis), (4, .asis)], boxes := [] })]
def spec_l01New_K : Sl01Cur → Res := (fun r0 => ((true, Sl01Cur.enc r0) : Res))
def spec_l01New_m0 (code : Rows) (h : Int) (i : Int) : St := { n := 32, sl := [(0, .sl [.int .u8] code), (3, .int .i64 h), (4, .int .i64 i)], hp := [], ok := true, ls := [], lm := [] }
noncomputable def spec_l01New_B0 (N : Nat) : (St → Res) → St → Res := loopB Try.prog spec_l01New_G spec_l01New_A N Try.f55 spec_l01New_s [true, true, false, true, false] []
theorem spec_l01New_b0 (N : Nat) (code : Rows) (ih : St → Res) (h : Int) (i : Int) : spec_l01New_B0 N ih (spec_l01New_m0 code h i) = spec_l01New_l0 Vm.bad spec_l01New_K code (fun h i => ih (spec_l01New_m0 code h i)) h i := by kernel_rfl
theorem spec_l01New_n0 (N : Nat) (code : Rows) (m_ : Nat) : (fun h i => loopN (spec_l01New_B0 N) m_ (spec_l01New_m0 code h i)) = spec_l01New_L0 Vm.bad spec_l01New_K N code m_ := by
  induction m_ with
  | zero => rfl
  | succ m_ ih =>
    funext h i
    show spec_l01New_B0 N (loopN (spec_l01New_B0 N) m_) (spec_l01New_m0 code h i) = _
    rw [spec_l01New_b0 N code]
    rw [ih]
    rfl
theorem spec_l01New_r (N : Nat) (code : Rows) : runF Try.prog spec_l01New_G spec_l01New_A N Try.f55 spec_l01New_s (.sl code :: ([])) = spec_l01New_f Vm.bad spec_l01New_K N code := by
  have run_ : runF Try.prog spec_l01New_G spec_l01New_A N Try.f55 spec_l01New_s (.sl code :: ([])) = spec_l01New_t Vm.bad spec_l01New_K (fun h i => loopN (spec_l01New_B0 N) N (spec_l01New_m0 code h i)) code := by kernel_rfl
  refine run_.trans ?_
  unfold spec_l01New_f
  have e0 : (fun h i => loopN (spec_l01New_B0 N) N (spec_l01New_m0 code h i)) = (spec_l01New_L0 Vm.bad spec_l01New_K N code N) := by
    exact spec_l01New_n0 N code N
  exact congrArg (fun l_ => spec_l01New_t Vm.bad spec_l01New_K l_ code) e0
theorem spec_l01New_h : HoldsP Try.prog 55 spec_l01New_s 91 [.sl [.int .u8], .int .i64, .int .i64] := by
  refine holdsP_of_run (A := spec_l01New_A) spec_l01New_x Try.func55 rfl (by kernel_rfl) (of_decide_eq_true (by kernel_rfl)) (of_decide_eq_true (by kernel_rfl)) ?_
  intro ds hw hok
  replace hw : WtL ((.sl [.int .u8]) :: ([])) ds := hw
  obtain ⟨code, ds, rfl, h_code, hw⟩ := of_wt_sl hw
  obtain rfl := of_wt_nil hw
  obtain ⟨N, hN⟩ := spec_l01New_c Vm.bad spec_l01New_K code h_code
  exact ⟨N, ((spec_l01New_r N code).trans hN).trans (by kernel_rfl)⟩

def spec_l01Byte_s : Sum := { ps := [⟨[.sl [.int .u8], .int .i64, .int .i64], true⟩], rs := [⟨[.imm (.int .i64)], false⟩], fn := fun ds => (curOk (Sl01Cur.decAt ds 0), [.int (l01Byte (Sl01Cur.decAt ds 0)).1] ++ Sl01Cur.enc (l01Byte (Sl01Cur.decAt ds 0)).2), ms := [some (.box 91)] }
def spec_l01Byte_G : Ctx := []
theorem spec_l01Byte_x : CtxHolds Try.prog spec_l01Byte_G := ctx_nil
def spec_l01Byte_A : List (Nat × Ann) := []
theorem spec_l01Byte_r (N : Nat) (c : Sl01Cur) : runFM Try.prog spec_l01Byte_G spec_l01Byte_A N Try.f69 spec_l01Byte_s (c.enc ++ ([])) = spec_l01Byte_t Vm.bad (fun r0 r1 => ((true, [.int r0] ++ Sl01Cur.enc r1) : Res)) c := by kernel_rfl
theorem spec_l01Byte_h : HoldsM Try.prog 69 spec_l01Byte_s := by
  refine holdsM_of_run (A := spec_l01Byte_A) spec_l01Byte_x Try.func69 rfl (by kernel_rfl) (of_decide_eq_true (by kernel_rfl)) (of_decide_eq_true (by kernel_rfl)) (by kernel_rfl) (fun ds => by kernel_rfl) ?_
  intro ds hw hok
  replace hw : WtL (Sl01Cur.ct ++ ([])) ds := hw
  obtain ⟨c, ds, rfl, h_c, hw⟩ := Sl01Cur.of_wt (r := _) hw
  obtain rfl := of_wt_nil hw
  exact ⟨0, ((spec_l01Byte_r 0 c).trans (spec_l01Byte_c Vm.bad _ c h_c hok)).trans (by kernel_rfl)⟩

def spec_l01Below_s : Sum := { ps := [⟨[.sl [.int .u8], .int .i64, .int .i64], true⟩, ⟨[.int .i64], false⟩], rs := [⟨[.imm (.int .i64)], false⟩], fn := fun ds => (curOk1 (Sl01Cur.decAt ds 0) (rI ds 3), [.int (l01Below (Sl01Cur.decAt ds 0) (rI ds 3)).1] ++ Sl01Cur.enc (l01Below (Sl01Cur.decAt ds 0) (rI ds 3)).2), ms := [some (.box 91), none] }
def spec_l01Below_G : Ctx := [(69, spec_l01Byte_s)]
theorem spec_l01Below_x : CtxHolds Try.prog spec_l01Below_G := ctx_cons spec_l01Byte_h ctx_nil
def spec_l01Below_A : List (Nat × Ann) := []
theorem spec_l01Below_r (N : Nat) (c : Sl01Cur) (n : Int) : runFM Try.prog spec_l01Below_G spec_l01Below_A N Try.f57 spec_l01Below_s (c.enc ++ (.int n :: ([]))) = spec_l01Below_t Vm.bad (fun r0 r1 => ((true, [.int r0] ++ Sl01Cur.enc r1) : Res)) c n := by kernel_rfl
theorem spec_l01Below_h : HoldsM Try.prog 57 spec_l01Below_s := by
  refine holdsM_of_run (A := spec_l01Below_A) spec_l01Below_x Try.func57 rfl (by kernel_rfl) (of_decide_eq_true (by kernel_rfl)) (of_decide_eq_true (by kernel_rfl)) (by kernel_rfl) (fun ds => by kernel_rfl) ?_
  intro ds hw hok
  replace hw : WtL (Sl01Cur.ct ++ ((.int .i64) :: ([]))) ds := hw
  obtain ⟨c, ds, rfl, h_c, hw⟩ := Sl01Cur.of_wt (r := _) hw
  obtain ⟨n, ds, rfl, h_n, hw⟩ := of_wt_int hw
  obtain rfl := of_wt_nil hw
  exact ⟨0, ((spec_l01Below_r 0 c n).trans (spec_l01Below_c Vm.bad _ c n h_c h_n hok)).trans (by kernel_rfl)⟩

def spec_l01Once_s : Sum := { ps := [⟨[.sl [.int .u8], .int .i64, .int .i64], true⟩, ⟨[.int .i64], false⟩], rs := [⟨[.imm .bool], false⟩], fn := fun ds => (curOk1 (Sl01Cur.decAt ds 0) (rI ds 3), [.bool (l01Once (Sl01Cur.decAt ds 0) (rI ds 3)).1] ++ Sl01Cur.enc (l01Once (Sl01Cur.decAt ds 0) (rI ds 3)).2), ms := [some (.box 91), none] }
def spec_l01Once_G : Ctx := [(57, spec_l01Below_s)]
theorem spec_l01Once_x : CtxHolds Try.prog spec_l01Once_G := ctx_cons spec_l01Below_h ctx_nil
def spec_l01Once_A : List (Nat × Ann) := []
theorem spec_l01Once_r (N : Nat) (c : Sl01Cur) (n : Int) : runFM Try.prog spec_l01Once_G spec_l01Once_A N Try.f59 spec_l01Once_s (c.enc ++ (.int n :: ([]))) = spec_l01Once_t Vm.bad (fun r0 r1 => ((true, [.bool r0] ++ Sl01Cur.enc r1) : Res)) c n := by kernel_rfl
theorem spec_l01Once_h : HoldsM Try.prog 59 spec_l01Once_s := by
  refine holdsM_of_run (A := spec_l01Once_A) spec_l01Once_x Try.func59 rfl (by kernel_rfl) (of_decide_eq_true (by kernel_rfl)) (of_decide_eq_true (by kernel_rfl)) (by kernel_rfl) (fun ds => by kernel_rfl) ?_
  intro ds hw hok
  replace hw : WtL (Sl01Cur.ct ++ ((.int .i64) :: ([]))) ds := hw
  obtain ⟨c, ds, rfl, h_c, hw⟩ := Sl01Cur.of_wt (r := _) hw
  obtain ⟨n, ds, rfl, h_n, hw⟩ := of_wt_int hw
  obtain rfl := of_wt_nil hw
  exact ⟨0, ((spec_l01Once_r 0 c n).trans (spec_l01Once_c Vm.bad _ c n h_c h_n hok)).trans (by kernel_rfl)⟩

def spec_l01PickInt_s : Sum := { ps := [⟨[.sl [.int .u8], .int .i64, .int .i64], true⟩, ⟨[.sl [.int .i64]], false⟩], rs := [⟨[.imm (.int .i64)], false⟩], fn := fun ds => (pickOk (Sl01Cur.decAt ds 0) (rR ds 3), [.int (l01PickInt (Sl01Cur.decAt ds 0) (rR ds 3)).1] ++ Sl01Cur.enc (l01PickInt (Sl01Cur.decAt ds 0) (rR ds 3)).2), ms := [some (.box 91), none] }
def spec_l01PickInt_G : Ctx := [(57, spec_l01Below_s)]
theorem spec_l01PickInt_x : CtxHolds Try.prog spec_l01PickInt_G := ctx_cons spec_l01Below_h ctx_nil
def spec_l01PickInt_A : List (Nat × Ann) := []
theorem spec_l01PickInt_r (N : Nat) (c : Sl01Cur) (list_ : Rows) : runFM Try.prog spec_l01PickInt_G spec_l01PickInt_A N Try.f60 spec_l01PickInt_s (c.enc ++ (.sl list_ :: ([]))) = spec_l01PickInt_t Vm.bad (fun r0 r1 => ((true, [.int r0] ++ Sl01Cur.enc r1) : Res)) c list_ := by kernel_rfl
theorem spec_l01PickInt_h : HoldsM Try.prog 60 spec_l01PickInt_s := by
  refine holdsM_of_run (A := spec_l01PickInt_A) spec_l01PickInt_x Try.func60 rfl (by kernel_rfl) (of_decide_eq_true (by kernel_rfl)) (of_decide_eq_true (by kernel_rfl)) (by kernel_rfl) (fun ds => by kernel_rfl) ?_
  intro ds hw hok
  replace hw : WtL (Sl01Cur.ct ++ ((.sl [.int .i64]) :: ([]))) ds := hw
  obtain ⟨c, ds, rfl, h_c, hw⟩ := Sl01Cur.of_wt (r := _) hw
  obtain ⟨list_, ds, rfl, h_list_, hw⟩ := of_wt_sl hw
  obtain rfl := of_wt_nil hw
  exact ⟨0, ((spec_l01PickInt_r 0 c list_).trans (spec_l01PickInt_c Vm.bad _ c list_ h_c h_list_ hok)).trans (by kernel_rfl)⟩

def spec_l01Text_s : Sum := { ps := [⟨[.sl [.int .u8], .int .i64, .int .i64], true⟩, ⟨[.int .i64], false⟩], rs := [⟨[.imm .str], false⟩], fn := fun ds => (curOk1 (Sl01Cur.decAt ds 0) (rI ds 3), [.str (l01Text (Sl01Cur.decAt ds 0) (rI ds 3)).1] ++ Sl01Cur.enc (l01Text (Sl01Cur.decAt ds 0) (rI ds 3)).2), ms := [some (.box 91), none] }
def spec_l01Text_G : Ctx := [(69, spec_l01Byte_s)]
theorem spec_l01Text_x : CtxHolds Try.prog spec_l01Text_G := ctx_cons spec_l01Byte_h ctx_nil
def spec_l01Text_A : List (Nat × Ann) := [(5, { slots := [(0, .asis), (1, .asis), (5, .asis), (6, .asis)], boxes := [(320000000, [])] })]
def spec_l01Text_K : Bytes → Sl01Cur → Res := (fun r0 r1 => ((true, [.str r0] ++ Sl01Cur.enc r1) : Res))
def spec_l01Text_m0 (n_1 : Int) (i : Int) (b5000000 : Rows) (b5000000_1 : Int) (b5000000_2 : Int) (out_ : Rows) : St := { n := 1099511627799, sl := [(0, .ptr 320000000 0), (1, .int .i64 n_1), (5, .own 640320), (6, .int .i64 i)], hp := [(320000000, .box 91 [.sl [.int .u8] b5000000, .int .i64 b5000000_1, .int .i64 b5000000_2]), (640320, .row 5 [.int .u8] out_ false true)], ok := true, ls := [], lm := [] }
noncomputable def spec_l01Text_B0 (N : Nat) : (St → Res) → St → Res := loopBM Try.prog spec_l01Text_G spec_l01Text_A N Try.f72 spec_l01Text_s [true, true, true, false, true, false] []
theorem spec_l01Text_b0 (N : Nat) (n_1 : Int) (ih : St → Res) (i : Int) (b5000000 : Rows) (b5000000_1 : Int) (b5000000_2 : Int) (out_ : Rows) : spec_l01Text_B0 N ih (spec_l01Text_m0 n_1 i b5000000 b5000000_1 b5000000_2 out_) = spec_l01Text_l0 Vm.bad spec_l01Text_K n_1 (fun i b5000000 b5000000_1 b5000000_2 out_ => ih (spec_l01Text_m0 n_1 i b5000000 b5000000_1 b5000000_2 out_)) i b5000000 b5000000_1 b5000000_2 out_ := by kernel_rfl
theorem spec_l01Text_n0 (N : Nat) (n_1 : Int) (m_ : Nat) : (fun i b5000000 b5000000_1 b5000000_2 out_ => loopN (spec_l01Text_B0 N) m_ (spec_l01Text_m0 n_1 i b5000000 b5000000_1 b5000000_2 out_)) = spec_l01Text_L0 Vm.bad spec_l01Text_K N n_1 m_ := by
  induction m_ with
  | zero => rfl
  | succ m_ ih =>
    funext i b5000000 b5000000_1 b5000000_2 out_
    show spec_l01Text_B0 N (loopN (spec_l01Text_B0 N) m_) (spec_l01Text_m0 n_1 i b5000000 b5000000_1 b5000000_2 out_) = _
    rw [spec_l01Text_b0 N n_1]
    rw [ih]
    rfl
theorem spec_l01Text_r (N : Nat) (c : Sl01Cur) (n : Int) : runFM Try.prog spec_l01Text_G spec_l01Text_A N Try.f72 spec_l01Text_s (c.enc ++ (.int n :: ([]))) = spec_l01Text_f Vm.bad spec_l01Text_K N c n := by
  have run_ : runFM Try.prog spec_l01Text_G spec_l01Text_A N Try.f72 spec_l01Text_s (c.enc ++ (.int n :: ([]))) = spec_l01Text_t Vm.bad spec_l01Text_K (fun n_1 i b5000000 b5000000_1 b5000000_2 out_ => loopN (spec_l01Text_B0 N) N (spec_l01Text_m0 n_1 i b5000000 b5000000_1 b5000000_2 out_)) c n := by kernel_rfl
  refine run_.trans ?_
  unfold spec_l01Text_f
  have e0 : (fun n_1 i b5000000 b5000000_1 b5000000_2 out_ => loopN (spec_l01Text_B0 N) N (spec_l01Text_m0 n_1 i b5000000 b5000000_1 b5000000_2 out_)) = (fun n_1 => spec_l01Text_L0 Vm.bad spec_l01Text_K N n_1 N) := by
    funext n_1
    exact spec_l01Text_n0 N n_1 N
  exact congrArg (fun l_ => spec_l01Text_t Vm.bad spec_l01Text_K l_ c n) e0
theorem spec_l01Text_h : HoldsM Try.prog 72 spec_l01Text_s := by
  refine holdsM_of_run (A := spec_l01Text_A) spec_l01Text_x Try.func72 rfl (by kernel_rfl) (of_decide_eq_true (by kernel_rfl)) (of_decide_eq_true (by kernel_rfl)) (by kernel_rfl) (fun ds => by kernel_rfl) ?_
  intro ds hw hok
  replace hw : WtL (Sl01Cur.ct ++ ((.int .i64) :: ([]))) ds := hw
  obtain ⟨c, ds, rfl, h_c, hw⟩ := Sl01Cur.of_wt (r := _) hw
  obtain ⟨n, ds, rfl, h_n, hw⟩ := of_wt_int hw
  obtain rfl := of_wt_nil hw
  obtain ⟨N, hN⟩ := spec_l01Text_c Vm.bad spec_l01Text_K c n h_c h_n hok
  exact ⟨N, ((spec_l01Text_r N c n).trans hN).trans (by kernel_rfl)⟩

end
end Go.Proofs.Ytklbgnodgnlebaa.Pl
