/- The contracts of functions of the program: each computes what its plain form says. Conditions: none. -/
import Derived.Test.YtfnkhejoihnlnaaPDq
import Derived.Test.YtfnkhejoihnlnaaRows
import Derived.Test.YtfnkhejoihnlnaaBDp
set_option linter.unusedVariables false
set_option linter.unusedSimpArgs false
set_option maxRecDepth 100000
namespace Go.Proofs.Ytfnkhejoihnlnaa.Pl
open Vm
noncomputable section

def spec_l09List_s : Sum := { ps := [⟨[.sl [.int .u8], .int .i64, .int .i64], true⟩, ⟨[.int .i64], false⟩], rs := [⟨[.own 75 [.int .i64, .int .i64, .int .i64, .int .i64, .int .i64, .int .i64, .int .i64, .int .i64, .int .i64, .int .i64, .int .i64, .int .i64, .int .i64, .int .i64, .int .i64, .str]], false⟩], fn := fun ds => (cur09 (Sl01Cur.decAt ds 0) (rI ds 3), [.sl (l09List (Sl01Cur.decAt ds 0) (rI ds 3)).1] ++ Sl01Cur.enc (l09List (Sl01Cur.decAt ds 0) (rI ds 3)).2), ms := [some (.box 141), none] }
def spec_l09List_G : Ctx := [(106, spec_l01PickInt_s), (107, spec_l01Once_s), (112, spec_l07Packet_s), (113, spec_l01Below_s), (114, spec_l01Text_s)]
theorem spec_l09List_x : CtxHolds Try.prog spec_l09List_G := ctx_cons spec_l01PickInt_h (ctx_cons spec_l01Once_h (ctx_cons spec_l07Packet_h (ctx_cons spec_l01Below_h (ctx_cons spec_l01Text_h ctx_nil))))
def spec_l09List_A : List (Nat × Ann) := [(5, { slots := [(0, .asis), (5, .asis), (6, .asis), (7, .asis), (8, .asis)], boxes := [(320000000, []), (384, [])] })]
def spec_l09List_K : Rows → Sl01Cur → Res := (fun r0 r1 => ((true, [.sl r0] ++ Sl01Cur.enc r1) : Res))
def spec_l09List_m0 (size : Int) (k : Int) (b5000000 : Rows) (b5000000_1 : Int) (b5000000_2 : Int) (p : Int) (p_1 : Int) (p_2 : Int) (p_3 : Int) (p_4 : Int) (p_5 : Int) (p_6 : Int) (p_7 : Int) (p_8 : Int) (p_9 : Int) (p_10 : Int) (p_11 : Int) (p_12 : Int) (p_13 : Int) (p_14 : Int) (p_15 : Bytes) (out_ : Rows) : St := { n := 1099511627853, sl := [(0, .ptr 320000000 0), (5, .own 640320), (6, .ptr 384 0), (7, .int .i64 size), (8, .int .i64 k)], hp := [(320000000, .box 141 [.sl [.int .u8] b5000000, .int .i64 b5000000_1, .int .i64 b5000000_2]), (384, .box 75 [.int .i64 p, .int .i64 p_1, .int .i64 p_2, .int .i64 p_3, .int .i64 p_4, .int .i64 p_5, .int .i64 p_6, .int .i64 p_7, .int .i64 p_8, .int .i64 p_9, .int .i64 p_10, .int .i64 p_11, .int .i64 p_12, .int .i64 p_13, .int .i64 p_14, .str p_15]), (640320, .row 75 [.int .i64, .int .i64, .int .i64, .int .i64, .int .i64, .int .i64, .int .i64, .int .i64, .int .i64, .int .i64, .int .i64, .int .i64, .int .i64, .int .i64, .int .i64, .str] out_ false true)], ok := true, ls := [], lm := [] }
noncomputable def spec_l09List_B0 (N : Nat) : (St → Res) → St → Res := loopBM Try.prog spec_l09List_G spec_l09List_A N Try.f79 spec_l09List_s [true, true, true, true, false, true, false] []
theorem spec_l09List_b0 (N : Nat) (ih : St → Res) (size : Int) (k : Int) (b5000000 : Rows) (b5000000_1 : Int) (b5000000_2 : Int) (p : Int) (p_1 : Int) (p_2 : Int) (p_3 : Int) (p_4 : Int) (p_5 : Int) (p_6 : Int) (p_7 : Int) (p_8 : Int) (p_9 : Int) (p_10 : Int) (p_11 : Int) (p_12 : Int) (p_13 : Int) (p_14 : Int) (p_15 : Bytes) (out_ : Rows) : spec_l09List_B0 N ih (spec_l09List_m0 size k b5000000 b5000000_1 b5000000_2 p p_1 p_2 p_3 p_4 p_5 p_6 p_7 p_8 p_9 p_10 p_11 p_12 p_13 p_14 p_15 out_) = spec_l09List_l0 Vm.bad spec_l09List_K (fun size k b5000000 b5000000_1 b5000000_2 p p_1 p_2 p_3 p_4 p_5 p_6 p_7 p_8 p_9 p_10 p_11 p_12 p_13 p_14 p_15 out_ => ih (spec_l09List_m0 size k b5000000 b5000000_1 b5000000_2 p p_1 p_2 p_3 p_4 p_5 p_6 p_7 p_8 p_9 p_10 p_11 p_12 p_13 p_14 p_15 out_)) size k b5000000 b5000000_1 b5000000_2 p p_1 p_2 p_3 p_4 p_5 p_6 p_7 p_8 p_9 p_10 p_11 p_12 p_13 p_14 p_15 out_ := by kernel_rfl
theorem spec_l09List_n0 (N : Nat) (m_ : Nat) : (fun size k b5000000 b5000000_1 b5000000_2 p p_1 p_2 p_3 p_4 p_5 p_6 p_7 p_8 p_9 p_10 p_11 p_12 p_13 p_14 p_15 out_ => loopN (spec_l09List_B0 N) m_ (spec_l09List_m0 size k b5000000 b5000000_1 b5000000_2 p p_1 p_2 p_3 p_4 p_5 p_6 p_7 p_8 p_9 p_10 p_11 p_12 p_13 p_14 p_15 out_)) = spec_l09List_L0 Vm.bad spec_l09List_K N m_ := by
  induction m_ with
  | zero => rfl
  | succ m_ ih =>
    funext size k b5000000 b5000000_1 b5000000_2 p p_1 p_2 p_3 p_4 p_5 p_6 p_7 p_8 p_9 p_10 p_11 p_12 p_13 p_14 p_15 out_
    show spec_l09List_B0 N (loopN (spec_l09List_B0 N) m_) (spec_l09List_m0 size k b5000000 b5000000_1 b5000000_2 p p_1 p_2 p_3 p_4 p_5 p_6 p_7 p_8 p_9 p_10 p_11 p_12 p_13 p_14 p_15 out_) = _
    rw [spec_l09List_b0 N]
    rw [ih]
    rfl
theorem spec_l09List_r (N : Nat) (c : Sl01Cur) (most : Int) : runFM Try.prog spec_l09List_G spec_l09List_A N Try.f79 spec_l09List_s (c.enc ++ (.int most :: ([]))) = spec_l09List_f Vm.bad spec_l09List_K N c most := by
  have h : runFM Try.prog spec_l09List_G spec_l09List_A N Try.f79 spec_l09List_s (c.enc ++ (.int most :: ([]))) = spec_l09List_t Vm.bad spec_l09List_K (fun size k b5000000 b5000000_1 b5000000_2 p p_1 p_2 p_3 p_4 p_5 p_6 p_7 p_8 p_9 p_10 p_11 p_12 p_13 p_14 p_15 out_ => loopN (spec_l09List_B0 N) N (spec_l09List_m0 size k b5000000 b5000000_1 b5000000_2 p p_1 p_2 p_3 p_4 p_5 p_6 p_7 p_8 p_9 p_10 p_11 p_12 p_13 p_14 p_15 out_)) c most := by kernel_rfl
  refine h.trans ?_
  unfold spec_l09List_f
  have e0 : (fun size k b5000000 b5000000_1 b5000000_2 p p_1 p_2 p_3 p_4 p_5 p_6 p_7 p_8 p_9 p_10 p_11 p_12 p_13 p_14 p_15 out_ => loopN (spec_l09List_B0 N) N (spec_l09List_m0 size k b5000000 b5000000_1 b5000000_2 p p_1 p_2 p_3 p_4 p_5 p_6 p_7 p_8 p_9 p_10 p_11 p_12 p_13 p_14 p_15 out_)) = (spec_l09List_L0 Vm.bad spec_l09List_K N N) := by
    exact spec_l09List_n0 N N
  exact congrArg (fun l_ => spec_l09List_t Vm.bad spec_l09List_K l_ c most) e0
theorem spec_l09List_h : HoldsM Try.prog 79 spec_l09List_s := by
  refine holdsM_of_run (A := spec_l09List_A) spec_l09List_x Try.func79 rfl (by kernel_rfl) (of_decide_eq_true (by kernel_rfl)) (of_decide_eq_true (by kernel_rfl)) (by kernel_rfl) (fun ds => by kernel_rfl) ?_
  intro ds hw hok
  replace hw : WtL (Sl01Cur.ct ++ ((.int .i64) :: ([]))) ds := hw
  obtain ⟨c, ds, rfl, h_c, hw⟩ := Sl01Cur.of_wt (r := _) hw
  obtain ⟨most, ds, rfl, h_most, hw⟩ := of_wt_int hw
  obtain rfl := of_wt_nil hw
  obtain ⟨N, hN⟩ := spec_l09List_c Vm.bad spec_l09List_K c most h_c h_most hok
  exact ⟨N, ((spec_l09List_r N c most).trans hN).trans (by kernel_rfl)⟩

end
end Go.Proofs.Ytfnkhejoihnlnaa.Pl
