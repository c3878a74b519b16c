/- The contracts of functions of the program: each computes what its plain form says. Conditions: none. -/
import Derived.Test.YtklbgnodgnlebaaPLs
import Derived.Test.YtklbgnodgnlebaaRows
set_option linter.unusedVariables false
set_option linter.unusedSimpArgs false
set_option maxRecDepth 100000
namespace Go.Proofs.Ytklbgnodgnlebaa.Pl
open Vm
noncomputable section

def laws_eqSegment_s : Sum := { ps := [⟨[.int .i64, .int .i64, .int .i64, .int .i64, .int .i64, .int .i64, .int .i64, .str], true⟩, ⟨[.int .i64, .int .i64, .int .i64, .int .i64, .int .i64, .int .i64, .int .i64, .str], true⟩], rs := [⟨[.imm .bool], false⟩], fn := fun ds => (same (SSegment.decAt ds 0) (SSegment.decAt ds 8), [.bool (yes2 (SSegment.decAt ds 0) (SSegment.decAt ds 8))]) }
def laws_eqSegment_G : Ctx := []
theorem laws_eqSegment_x : CtxHolds Try.prog laws_eqSegment_G := ctx_nil
def laws_eqSegment_A : List (Nat × Ann) := []
theorem laws_eqSegment_r (N : Nat) (a : SSegment) (b : SSegment) : runF Try.prog laws_eqSegment_G laws_eqSegment_A N Try.f61 laws_eqSegment_s (a.enc ++ (b.enc ++ ([]))) = laws_eqSegment_t (fun r0 => ((true, [.bool r0]) : Res)) a b := by kernel_rfl
theorem laws_eqSegment_h : Holds Try.prog 61 laws_eqSegment_s := by
  refine holds_of_run (A := laws_eqSegment_A) laws_eqSegment_x Try.func61 rfl (by kernel_rfl) (of_decide_eq_true (by kernel_rfl)) (of_decide_eq_true (by kernel_rfl)) ?_
  intro ds hw hok
  replace hw : WtL (SSegment.ct ++ (SSegment.ct ++ ([]))) ds := hw
  obtain ⟨a, ds, rfl, h_a, hw⟩ := SSegment.of_wt (r := _) hw
  obtain ⟨b, ds, rfl, h_b, hw⟩ := SSegment.of_wt (r := _) hw
  obtain rfl := of_wt_nil hw
  exact ⟨0, ((laws_eqSegment_r 0 a b).trans (laws_eqSegment_c _ a b h_a h_b hok)).trans (by kernel_rfl)⟩

def laws_eqPacket_s : Sum := { ps := [⟨[.int .i64, .int .i64, .int .i64, .int .i64, .int .i64, .int .i64, .int .i64, .int .i64, .int .i64, .int .i64, .int .i64, .int .i64, .int .i64, .int .i64, .int .i64, .str], true⟩, ⟨[.int .i64, .int .i64, .int .i64, .int .i64, .int .i64, .int .i64, .int .i64, .int .i64, .int .i64, .int .i64, .int .i64, .int .i64, .int .i64, .int .i64, .int .i64, .str], true⟩], rs := [⟨[.imm .bool], false⟩], fn := fun ds => (same (SPacket.decAt ds 0) (SPacket.decAt ds 16), [.bool (yes2 (SPacket.decAt ds 0) (SPacket.decAt ds 16))]) }
def laws_eqPacket_G : Ctx := [(61, laws_eqSegment_s)]
theorem laws_eqPacket_x : CtxHolds Try.prog laws_eqPacket_G := ctx_cons laws_eqSegment_h ctx_nil
def laws_eqPacket_A : List (Nat × Ann) := []
theorem laws_eqPacket_r (N : Nat) (a : SPacket) (b : SPacket) : runF Try.prog laws_eqPacket_G laws_eqPacket_A N Try.f27 laws_eqPacket_s (a.enc ++ (b.enc ++ ([]))) = laws_eqPacket_t Vm.bad (fun r0 => ((true, [.bool r0]) : Res)) a b := by kernel_rfl
theorem laws_eqPacket_h : Holds Try.prog 27 laws_eqPacket_s := by
  refine holds_of_run (A := laws_eqPacket_A) laws_eqPacket_x Try.func27 rfl (by kernel_rfl) (of_decide_eq_true (by kernel_rfl)) (of_decide_eq_true (by kernel_rfl)) ?_
  intro ds hw hok
  replace hw : WtL (SPacket.ct ++ (SPacket.ct ++ ([]))) ds := hw
  obtain ⟨a, ds, rfl, h_a, hw⟩ := SPacket.of_wt (r := _) hw
  obtain ⟨b, ds, rfl, h_b, hw⟩ := SPacket.of_wt (r := _) hw
  obtain rfl := of_wt_nil hw
  exact ⟨0, ((laws_eqPacket_r 0 a b).trans (laws_eqPacket_c Vm.bad _ a b h_a h_b hok)).trans (by kernel_rfl)⟩

def laws_eqPacketS_s : Sum := { ps := [⟨[.sl [.int .i64, .int .i64, .int .i64, .int .i64, .int .i64, .int .i64, .int .i64, .int .i64, .int .i64, .int .i64, .int .i64, .int .i64, .int .i64, .int .i64, .int .i64, .str]], false⟩, ⟨[.sl [.int .i64, .int .i64, .int .i64, .int .i64, .int .i64, .int .i64, .int .i64, .int .i64, .int .i64, .int .i64, .int .i64, .int .i64, .int .i64, .int .i64, .int .i64, .str]], false⟩], rs := [⟨[.imm .bool], false⟩], fn := fun ds => (same (rR ds 0) (rR ds 1), [.bool (yes2 (rR ds 0) (rR ds 1))]) }
def laws_eqPacketS_G : Ctx := [(27, laws_eqPacket_s)]
theorem laws_eqPacketS_x : CtxHolds Try.prog laws_eqPacketS_G := ctx_cons laws_eqPacket_h ctx_nil
def laws_eqPacketS_A : List (Nat × Ann) := [(4, { slots := [(0, .asis), (1, .asis), (5, .asis)], boxes := [] })]
def laws_eqPacketS_K : Bool → Res := (fun r0 => ((true, [.bool r0]) : Res))
def laws_eqPacketS_m0 (a : Rows) (b : Rows) (i : Int) : St := { n := 27, sl := [(0, .sl [.int .i64, .int .i64, .int .i64, .int .i64, .int .i64, .int .i64, .int .i64, .int .i64, .int .i64, .int .i64, .int .i64, .int .i64, .int .i64, .int .i64, .int .i64, .str] a), (1, .sl [.int .i64, .int .i64, .int .i64, .int .i64, .int .i64, .int .i64, .int .i64, .int .i64, .int .i64, .int .i64, .int .i64, .int .i64, .int .i64, .int .i64, .int .i64, .str] b), (5, .int .i64 i)], hp := [], ok := true, ls := [], lm := [] }
noncomputable def laws_eqPacketS_B0 (N : Nat) : (St → Res) → St → Res := loopB Try.prog laws_eqPacketS_G laws_eqPacketS_A N Try.f36 laws_eqPacketS_s [true, true, false, true, false] []
theorem laws_eqPacketS_b0 (N : Nat) (a : Rows) (b : Rows) (ih : St → Res) (i : Int) : laws_eqPacketS_B0 N ih (laws_eqPacketS_m0 a b i) = laws_eqPacketS_l0 Vm.bad laws_eqPacketS_K a b (fun i => ih (laws_eqPacketS_m0 a b i)) i := by kernel_rfl
theorem laws_eqPacketS_n0 (N : Nat) (a : Rows) (b : Rows) (m_ : Nat) : (fun i => loopN (laws_eqPacketS_B0 N) m_ (laws_eqPacketS_m0 a b i)) = laws_eqPacketS_L0 Vm.bad laws_eqPacketS_K N a b m_ := by
  induction m_ with
  | zero => rfl
  | succ m_ ih =>
    funext i
    show laws_eqPacketS_B0 N (loopN (laws_eqPacketS_B0 N) m_) (laws_eqPacketS_m0 a b i) = _
    rw [laws_eqPacketS_b0 N a b]
    rw [ih]
    rfl
theorem laws_eqPacketS_r (N : Nat) (a : Rows) (b : Rows) : runF Try.prog laws_eqPacketS_G laws_eqPacketS_A N Try.f36 laws_eqPacketS_s (.sl a :: (.sl b :: ([]))) = laws_eqPacketS_f Vm.bad laws_eqPacketS_K N a b := by
  have run_ : runF Try.prog laws_eqPacketS_G laws_eqPacketS_A N Try.f36 laws_eqPacketS_s (.sl a :: (.sl b :: ([]))) = laws_eqPacketS_t Vm.bad laws_eqPacketS_K (fun i => loopN (laws_eqPacketS_B0 N) N (laws_eqPacketS_m0 a b i)) a b := by kernel_rfl
  refine run_.trans ?_
  unfold laws_eqPacketS_f
  have e0 : (fun i => loopN (laws_eqPacketS_B0 N) N (laws_eqPacketS_m0 a b i)) = (laws_eqPacketS_L0 Vm.bad laws_eqPacketS_K N a b N) := by
    exact laws_eqPacketS_n0 N a b N
  exact congrArg (fun l_ => laws_eqPacketS_t Vm.bad laws_eqPacketS_K l_ a b) e0
theorem laws_eqPacketS_h : Holds Try.prog 36 laws_eqPacketS_s := by
  refine holds_of_run (A := laws_eqPacketS_A) laws_eqPacketS_x Try.func36 rfl (by kernel_rfl) (of_decide_eq_true (by kernel_rfl)) (of_decide_eq_true (by kernel_rfl)) ?_
  intro ds hw hok
  replace hw : WtL ((.sl [.int .i64, .int .i64, .int .i64, .int .i64, .int .i64, .int .i64, .int .i64, .int .i64, .int .i64, .int .i64, .int .i64, .int .i64, .int .i64, .int .i64, .int .i64, .str]) :: ((.sl [.int .i64, .int .i64, .int .i64, .int .i64, .int .i64, .int .i64, .int .i64, .int .i64, .int .i64, .int .i64, .int .i64, .int .i64, .int .i64, .int .i64, .int .i64, .str]) :: ([]))) ds := hw
  obtain ⟨a, ds, rfl, h_a, hw⟩ := of_wt_sl hw
  obtain ⟨b, ds, rfl, h_b, hw⟩ := of_wt_sl hw
  obtain rfl := of_wt_nil hw
  obtain ⟨N, hN⟩ := laws_eqPacketS_c Vm.bad laws_eqPacketS_K a b h_a h_b hok
  exact ⟨N, ((laws_eqPacketS_r N a b).trans hN).trans (by kernel_rfl)⟩

def laws_toSegment_s : Sum := { ps := [⟨[.int .i64, .int .i64, .int .i64, .int .i64, .int .i64, .int .i64, .int .i64, .str], true⟩], rs := [⟨[.imm (.int .i64), .imm (.int .i64), .imm (.int .i64), .imm (.int .i64), .imm (.int .i64), .imm (.int .i64), .imm (.int .i64), .imm .str], true⟩], fn := fun ds => (true, SSegment.enc (idf (SSegment.decAt ds 0))) }
def laws_toSegment_G : Ctx := []
theorem laws_toSegment_x : CtxHolds Try.prog laws_toSegment_G := ctx_nil
def laws_toSegment_A : List (Nat × Ann) := []
theorem laws_toSegment_r (N : Nat) (a : SSegment) : runF Try.prog laws_toSegment_G laws_toSegment_A N Try.f53 laws_toSegment_s (a.enc ++ ([])) = laws_toSegment_t (fun r0 => ((true, SSegment.enc r0) : Res)) a := by kernel_rfl
theorem laws_toSegment_h : Holds Try.prog 53 laws_toSegment_s := by
  refine holds_of_run (A := laws_toSegment_A) laws_toSegment_x Try.func53 rfl (by kernel_rfl) (of_decide_eq_true (by kernel_rfl)) (of_decide_eq_true (by kernel_rfl)) ?_
  intro ds hw hok
  replace hw : WtL (SSegment.ct ++ ([])) ds := hw
  obtain ⟨a, ds, rfl, h_a, hw⟩ := SSegment.of_wt (r := _) hw
  obtain rfl := of_wt_nil hw
  exact ⟨0, ((laws_toSegment_r 0 a).trans (laws_toSegment_c _ a h_a)).trans (by kernel_rfl)⟩

def laws_toPacket_s : Sum := { ps := [⟨[.int .i64, .int .i64, .int .i64, .int .i64, .int .i64, .int .i64, .int .i64, .int .i64, .int .i64, .int .i64, .int .i64, .int .i64, .int .i64, .int .i64, .int .i64, .str], true⟩], rs := [⟨[.imm (.int .i64), .imm (.int .i64), .imm (.int .i64), .imm (.int .i64), .imm (.int .i64), .imm (.int .i64), .imm (.int .i64), .imm (.int .i64), .imm (.int .i64), .imm (.int .i64), .imm (.int .i64), .imm (.int .i64), .imm (.int .i64), .imm (.int .i64), .imm (.int .i64), .imm .str], true⟩], fn := fun ds => (true, SPacket.enc (idf (SPacket.decAt ds 0))) }
def laws_toPacket_G : Ctx := [(53, laws_toSegment_s)]
theorem laws_toPacket_x : CtxHolds Try.prog laws_toPacket_G := ctx_cons laws_toSegment_h ctx_nil
def laws_toPacket_A : List (Nat × Ann) := []
theorem laws_toPacket_r (N : Nat) (a : SPacket) : runF Try.prog laws_toPacket_G laws_toPacket_A N Try.f17 laws_toPacket_s (a.enc ++ ([])) = laws_toPacket_t (fun r0 => ((true, SPacket.enc r0) : Res)) a := by kernel_rfl
theorem laws_toPacket_h : Holds Try.prog 17 laws_toPacket_s := by
  refine holds_of_run (A := laws_toPacket_A) laws_toPacket_x Try.func17 rfl (by kernel_rfl) (of_decide_eq_true (by kernel_rfl)) (of_decide_eq_true (by kernel_rfl)) ?_
  intro ds hw hok
  replace hw : WtL (SPacket.ct ++ ([])) ds := hw
  obtain ⟨a, ds, rfl, h_a, hw⟩ := SPacket.of_wt (r := _) hw
  obtain rfl := of_wt_nil hw
  exact ⟨0, ((laws_toPacket_r 0 a).trans (laws_toPacket_c _ a h_a)).trans (by kernel_rfl)⟩

def laws_szSegment_s : Sum := { ps := [⟨[.int .i64, .int .i64, .int .i64, .int .i64, .int .i64, .int .i64, .int .i64, .str], true⟩, ⟨[.int .i64], false⟩], rs := [⟨[.imm (.int .i64)], false⟩], fn := fun ds => (true, [.int (laws_szSegment (SSegment.decAt ds 0) (rI ds 8))]) }
def laws_szSegment_G : Ctx := []
theorem laws_szSegment_x : CtxHolds Try.prog laws_szSegment_G := ctx_nil
def laws_szSegment_A : List (Nat × Ann) := []
theorem laws_szSegment_r (N : Nat) (a : SSegment) (left : Int) : runF Try.prog laws_szSegment_G laws_szSegment_A N Try.f51 laws_szSegment_s (a.enc ++ (.int left :: ([]))) = laws_szSegment_t (fun r0 => ((true, [.int r0]) : Res)) a left := by kernel_rfl
theorem laws_szSegment_h : Holds Try.prog 51 laws_szSegment_s := by
  refine holds_of_run (A := laws_szSegment_A) laws_szSegment_x Try.func51 rfl (by kernel_rfl) (of_decide_eq_true (by kernel_rfl)) (of_decide_eq_true (by kernel_rfl)) ?_
  intro ds hw hok
  replace hw : WtL (SSegment.ct ++ ((.int .i64) :: ([]))) ds := hw
  obtain ⟨a, ds, rfl, h_a, hw⟩ := SSegment.of_wt (r := _) hw
  obtain ⟨left, ds, rfl, h_left, hw⟩ := of_wt_int hw
  obtain rfl := of_wt_nil hw
  exact ⟨0, ((laws_szSegment_r 0 a left).trans (laws_szSegment_c _ a left)).trans (by kernel_rfl)⟩

def laws_szPacket_s : Sum := { ps := [⟨[.int .i64, .int .i64, .int .i64, .int .i64, .int .i64, .int .i64, .int .i64, .int .i64, .int .i64, .int .i64, .int .i64, .int .i64, .int .i64, .int .i64, .int .i64, .str], true⟩, ⟨[.int .i64], false⟩], rs := [⟨[.imm (.int .i64)], false⟩], fn := fun ds => (true, [.int (laws_szPacket (SPacket.decAt ds 0) (rI ds 16))]) }
def laws_szPacket_G : Ctx := [(51, laws_szSegment_s)]
theorem laws_szPacket_x : CtxHolds Try.prog laws_szPacket_G := ctx_cons laws_szSegment_h ctx_nil
def laws_szPacket_A : List (Nat × Ann) := []
theorem laws_szPacket_r (N : Nat) (a : SPacket) (left : Int) : runF Try.prog laws_szPacket_G laws_szPacket_A N Try.f15 laws_szPacket_s (a.enc ++ (.int left :: ([]))) = laws_szPacket_t (fun r0 => ((true, [.int r0]) : Res)) a left := by kernel_rfl
theorem laws_szPacket_h : Holds Try.prog 15 laws_szPacket_s := by
  refine holds_of_run (A := laws_szPacket_A) laws_szPacket_x Try.func15 rfl (by kernel_rfl) (of_decide_eq_true (by kernel_rfl)) (of_decide_eq_true (by kernel_rfl)) ?_
  intro ds hw hok
  replace hw : WtL (SPacket.ct ++ ((.int .i64) :: ([]))) ds := hw
  obtain ⟨a, ds, rfl, h_a, hw⟩ := SPacket.of_wt (r := _) hw
  obtain ⟨left, ds, rfl, h_left, hw⟩ := of_wt_int hw
  obtain rfl := of_wt_nil hw
  exact ⟨0, ((laws_szPacket_r 0 a left).trans (laws_szPacket_c _ a left)).trans (by kernel_rfl)⟩

def laws_eqPacketSS_s : Sum := { ps := [⟨[.sl [.sl [.int .i64, .int .i64, .int .i64, .int .i64, .int .i64, .int .i64, .int .i64, .int .i64, .int .i64, .int .i64, .int .i64, .int .i64, .int .i64, .int .i64, .int .i64, .str]]], false⟩, ⟨[.sl [.sl [.int .i64, .int .i64, .int .i64, .int .i64, .int .i64, .int .i64, .int .i64, .int .i64, .int .i64, .int .i64, .int .i64, .int .i64, .int .i64, .int .i64, .int .i64, .str]]], false⟩], rs := [⟨[.imm .bool], false⟩], fn := fun ds => (same (rR ds 0) (rR ds 1), [.bool (yes2 (rR ds 0) (rR ds 1))]) }
def laws_eqPacketSS_G : Ctx := [(36, laws_eqPacketS_s)]
theorem laws_eqPacketSS_x : CtxHolds Try.prog laws_eqPacketSS_G := ctx_cons laws_eqPacketS_h ctx_nil
def laws_eqPacketSS_A : List (Nat × Ann) := [(4, { slots := [(0, .asis), (1, .asis), (5, .asis)], boxes := [] })]
def laws_eqPacketSS_K : Bool → Res := (fun r0 => ((true, [.bool r0]) : Res))
def laws_eqPacketSS_m0 (a : Rows) (b : Rows) (i : Int) : St := { n := 27, sl := [(0, .sl [.sl [.int .i64, .int .i64, .int .i64, .int .i64, .int .i64, .int .i64, .int .i64, .int .i64, .int .i64, .int .i64, .int .i64, .int .i64, .int .i64, .int .i64, .int .i64, .str]] a), (1, .sl [.sl [.int .i64, .int .i64, .int .i64, .int .i64, .int .i64, .int .i64, .int .i64, .int .i64, .int .i64, .int .i64, .int .i64, .int .i64, .int .i64, .int .i64, .int .i64, .str]] b), (5, .int .i64 i)], hp := [], ok := true, ls := [], lm := [] }
noncomputable def laws_eqPacketSS_B0 (N : Nat) : (St → Res) → St → Res := loopB Try.prog laws_eqPacketSS_G laws_eqPacketSS_A N Try.f35 laws_eqPacketSS_s [true, true, false, true, false] []
theorem laws_eqPacketSS_b0 (N : Nat) (a : Rows) (b : Rows) (ih : St → Res) (i : Int) : laws_eqPacketSS_B0 N ih (laws_eqPacketSS_m0 a b i) = laws_eqPacketSS_l0 Vm.bad laws_eqPacketSS_K a b (fun i => ih (laws_eqPacketSS_m0 a b i)) i := by kernel_rfl
theorem laws_eqPacketSS_n0 (N : Nat) (a : Rows) (b : Rows) (m_ : Nat) : (fun i => loopN (laws_eqPacketSS_B0 N) m_ (laws_eqPacketSS_m0 a b i)) = laws_eqPacketSS_L0 Vm.bad laws_eqPacketSS_K N a b m_ := by
  induction m_ with
  | zero => rfl
  | succ m_ ih =>
    funext i
    show laws_eqPacketSS_B0 N (loopN (laws_eqPacketSS_B0 N) m_) (laws_eqPacketSS_m0 a b i) = _
    rw [laws_eqPacketSS_b0 N a b]
    rw [ih]
    rfl
theorem laws_eqPacketSS_r (N : Nat) (a : Rows) (b : Rows) : runF Try.prog laws_eqPacketSS_G laws_eqPacketSS_A N Try.f35 laws_eqPacketSS_s (.sl a :: (.sl b :: ([]))) = laws_eqPacketSS_f Vm.bad laws_eqPacketSS_K N a b := by
  have run_ : runF Try.prog laws_eqPacketSS_G laws_eqPacketSS_A N Try.f35 laws_eqPacketSS_s (.sl a :: (.sl b :: ([]))) = laws_eqPacketSS_t Vm.bad laws_eqPacketSS_K (fun i => loopN (laws_eqPacketSS_B0 N) N (laws_eqPacketSS_m0 a b i)) a b := by kernel_rfl
  refine run_.trans ?_
  unfold laws_eqPacketSS_f
  have e0 : (fun i => loopN (laws_eqPacketSS_B0 N) N (laws_eqPacketSS_m0 a b i)) = (laws_eqPacketSS_L0 Vm.bad laws_eqPacketSS_K N a b N) := by
    exact laws_eqPacketSS_n0 N a b N
  exact congrArg (fun l_ => laws_eqPacketSS_t Vm.bad laws_eqPacketSS_K l_ a b) e0
theorem laws_eqPacketSS_h : Holds Try.prog 35 laws_eqPacketSS_s := by
  refine holds_of_run (A := laws_eqPacketSS_A) laws_eqPacketSS_x Try.func35 rfl (by kernel_rfl) (of_decide_eq_true (by kernel_rfl)) (of_decide_eq_true (by kernel_rfl)) ?_
  intro ds hw hok
  replace hw : WtL ((.sl [.sl [.int .i64, .int .i64, .int .i64, .int .i64, .int .i64, .int .i64, .int .i64, .int .i64, .int .i64, .int .i64, .int .i64, .int .i64, .int .i64, .int .i64, .int .i64, .str]]) :: ((.sl [.sl [.int .i64, .int .i64, .int .i64, .int .i64, .int .i64, .int .i64, .int .i64, .int .i64, .int .i64, .int .i64, .int .i64, .int .i64, .int .i64, .int .i64, .int .i64, .str]]) :: ([]))) ds := hw
  obtain ⟨a, ds, rfl, h_a, hw⟩ := of_wt_sl hw
  obtain ⟨b, ds, rfl, h_b, hw⟩ := of_wt_sl hw
  obtain rfl := of_wt_nil hw
  obtain ⟨N, hN⟩ := laws_eqPacketSS_c Vm.bad laws_eqPacketSS_K a b h_a h_b hok
  exact ⟨N, ((laws_eqPacketSS_r N a b).trans hN).trans (by kernel_rfl)⟩

def laws_szPacketS_s : Sum := { ps := [⟨[.sl [.int .i64, .int .i64, .int .i64, .int .i64, .int .i64, .int .i64, .int .i64, .int .i64, .int .i64, .int .i64, .int .i64, .int .i64, .int .i64, .int .i64, .int .i64, .str]], false⟩, ⟨[.int .i64], false⟩], rs := [⟨[.imm (.int .i64)], false⟩], fn := fun ds => (true, [.int (laws_szPacketS (rR ds 0) (rI ds 1))]) }
def laws_szPacketS_G : Ctx := [(15, laws_szPacket_s)]
theorem laws_szPacketS_x : CtxHolds Try.prog laws_szPacketS_G := ctx_cons laws_szPacket_h ctx_nil
def laws_szPacketS_A : List (Nat × Ann) := [(5, { slots := [(0, .asis), (1, .asis), (5, .asis)], boxes := [] })]
def laws_szPacketS_K : Int → Res := (fun r0 => ((true, [.int r0]) : Res))
def laws_szPacketS_m0 (a : Rows) (left_1 : Int) (i : Int) : St := { n := 27, sl := [(0, .sl [.int .i64, .int .i64, .int .i64, .int .i64, .int .i64, .int .i64, .int .i64, .int .i64, .int .i64, .int .i64, .int .i64, .int .i64, .int .i64, .int .i64, .int .i64, .str] a), (1, .int .i64 left_1), (5, .int .i64 i)], hp := [], ok := true, ls := [], lm := [] }
noncomputable def laws_szPacketS_B0 (N : Nat) : (St → Res) → St → Res := loopB Try.prog laws_szPacketS_G laws_szPacketS_A N Try.f32 laws_szPacketS_s [true, true, true, false, true, false] []
theorem laws_szPacketS_b0 (N : Nat) (a : Rows) (ih : St → Res) (left_1 : Int) (i : Int) : laws_szPacketS_B0 N ih (laws_szPacketS_m0 a left_1 i) = laws_szPacketS_l0 Vm.bad laws_szPacketS_K a (fun left_1 i => ih (laws_szPacketS_m0 a left_1 i)) left_1 i := by kernel_rfl
theorem laws_szPacketS_n0 (N : Nat) (a : Rows) (m_ : Nat) : (fun left_1 i => loopN (laws_szPacketS_B0 N) m_ (laws_szPacketS_m0 a left_1 i)) = laws_szPacketS_L0 Vm.bad laws_szPacketS_K N a m_ := by
  induction m_ with
  | zero => rfl
  | succ m_ ih =>
    funext left_1 i
    show laws_szPacketS_B0 N (loopN (laws_szPacketS_B0 N) m_) (laws_szPacketS_m0 a left_1 i) = _
    rw [laws_szPacketS_b0 N a]
    rw [ih]
    rfl
theorem laws_szPacketS_r (N : Nat) (a : Rows) (left : Int) : runF Try.prog laws_szPacketS_G laws_szPacketS_A N Try.f32 laws_szPacketS_s (.sl a :: (.int left :: ([]))) = laws_szPacketS_f Vm.bad laws_szPacketS_K N a left := by
  have run_ : runF Try.prog laws_szPacketS_G laws_szPacketS_A N Try.f32 laws_szPacketS_s (.sl a :: (.int left :: ([]))) = laws_szPacketS_t Vm.bad laws_szPacketS_K (fun left_1 i => loopN (laws_szPacketS_B0 N) N (laws_szPacketS_m0 a left_1 i)) a left := by kernel_rfl
  refine run_.trans ?_
  unfold laws_szPacketS_f
  have e0 : (fun left_1 i => loopN (laws_szPacketS_B0 N) N (laws_szPacketS_m0 a left_1 i)) = (laws_szPacketS_L0 Vm.bad laws_szPacketS_K N a N) := by
    exact laws_szPacketS_n0 N a N
  exact congrArg (fun l_ => laws_szPacketS_t Vm.bad laws_szPacketS_K l_ a left) e0
theorem laws_szPacketS_h : Holds Try.prog 32 laws_szPacketS_s := by
  refine holds_of_run (A := laws_szPacketS_A) laws_szPacketS_x Try.func32 rfl (by kernel_rfl) (of_decide_eq_true (by kernel_rfl)) (of_decide_eq_true (by kernel_rfl)) ?_
  intro ds hw hok
  replace hw : WtL ((.sl [.int .i64, .int .i64, .int .i64, .int .i64, .int .i64, .int .i64, .int .i64, .int .i64, .int .i64, .int .i64, .int .i64, .int .i64, .int .i64, .int .i64, .int .i64, .str]) :: ((.int .i64) :: ([]))) ds := hw
  obtain ⟨a, ds, rfl, h_a, hw⟩ := of_wt_sl hw
  obtain ⟨left, ds, rfl, h_left, hw⟩ := of_wt_int hw
  obtain rfl := of_wt_nil hw
  obtain ⟨N, hN⟩ := laws_szPacketS_c Vm.bad laws_szPacketS_K a left h_a h_left
  exact ⟨N, ((laws_szPacketS_r N a left).trans hN).trans (by kernel_rfl)⟩

def laws_eqIntS_s : Sum := { ps := [⟨[.sl [.int .i64]], false⟩, ⟨[.sl [.int .i64]], false⟩], rs := [⟨[.imm .bool], false⟩], fn := fun ds => (same (rR ds 0) (rR ds 1), [.bool (yes2 (rR ds 0) (rR ds 1))]) }
def laws_eqIntS_G : Ctx := []
theorem laws_eqIntS_x : CtxHolds Try.prog laws_eqIntS_G := ctx_nil
def laws_eqIntS_A : List (Nat × Ann) := [(4, { slots := [(0, .asis), (1, .asis), (5, .asis)], boxes := [] })]
def laws_eqIntS_K : Bool → Res := (fun r0 => ((true, [.bool r0]) : Res))
def laws_eqIntS_m0 (a : Rows) (b : Rows) (i : Int) : St := { n := 26, sl := [(0, .sl [.int .i64] a), (1, .sl [.int .i64] b), (5, .int .i64 i)], hp := [], ok := true, ls := [], lm := [] }
noncomputable def laws_eqIntS_B0 (N : Nat) : (St → Res) → St → Res := loopB Try.prog laws_eqIntS_G laws_eqIntS_A N Try.f28 laws_eqIntS_s [true, true, false, true, false] []
theorem laws_eqIntS_b0 (N : Nat) (a : Rows) (b : Rows) (ih : St → Res) (i : Int) : laws_eqIntS_B0 N ih (laws_eqIntS_m0 a b i) = laws_eqIntS_l0 Vm.bad laws_eqIntS_K a b (fun i => ih (laws_eqIntS_m0 a b i)) i := by kernel_rfl
theorem laws_eqIntS_n0 (N : Nat) (a : Rows) (b : Rows) (m_ : Nat) : (fun i => loopN (laws_eqIntS_B0 N) m_ (laws_eqIntS_m0 a b i)) = laws_eqIntS_L0 Vm.bad laws_eqIntS_K N a b m_ := by
  induction m_ with
  | zero => rfl
  | succ m_ ih =>
    funext i
    show laws_eqIntS_B0 N (loopN (laws_eqIntS_B0 N) m_) (laws_eqIntS_m0 a b i) = _
    rw [laws_eqIntS_b0 N a b]
    rw [ih]
    rfl
theorem laws_eqIntS_r (N : Nat) (a : Rows) (b : Rows) : runF Try.prog laws_eqIntS_G laws_eqIntS_A N Try.f28 laws_eqIntS_s (.sl a :: (.sl b :: ([]))) = laws_eqIntS_f Vm.bad laws_eqIntS_K N a b := by
  have run_ : runF Try.prog laws_eqIntS_G laws_eqIntS_A N Try.f28 laws_eqIntS_s (.sl a :: (.sl b :: ([]))) = laws_eqIntS_t Vm.bad laws_eqIntS_K (fun i => loopN (laws_eqIntS_B0 N) N (laws_eqIntS_m0 a b i)) a b := by kernel_rfl
  refine run_.trans ?_
  unfold laws_eqIntS_f
  have e0 : (fun i => loopN (laws_eqIntS_B0 N) N (laws_eqIntS_m0 a b i)) = (laws_eqIntS_L0 Vm.bad laws_eqIntS_K N a b N) := by
    exact laws_eqIntS_n0 N a b N
  exact congrArg (fun l_ => laws_eqIntS_t Vm.bad laws_eqIntS_K l_ a b) e0
theorem laws_eqIntS_h : Holds Try.prog 28 laws_eqIntS_s := by
  refine holds_of_run (A := laws_eqIntS_A) laws_eqIntS_x Try.func28 rfl (by kernel_rfl) (of_decide_eq_true (by kernel_rfl)) (of_decide_eq_true (by kernel_rfl)) ?_
  intro ds hw hok
  replace hw : WtL ((.sl [.int .i64]) :: ((.sl [.int .i64]) :: ([]))) ds := hw
  obtain ⟨a, ds, rfl, h_a, hw⟩ := of_wt_sl hw
  obtain ⟨b, ds, rfl, h_b, hw⟩ := of_wt_sl hw
  obtain rfl := of_wt_nil hw
  obtain ⟨N, hN⟩ := laws_eqIntS_c Vm.bad laws_eqIntS_K a b h_a h_b hok
  exact ⟨N, ((laws_eqIntS_r N a b).trans hN).trans (by kernel_rfl)⟩

def laws_eqPort_s : Sum := { ps := [⟨[.int .i64, .sl [.int .i64], .int .i64, .bool], true⟩, ⟨[.int .i64, .sl [.int .i64], .int .i64, .bool], true⟩], rs := [⟨[.imm .bool], false⟩], fn := fun ds => (same (SPort.decAt ds 0) (SPort.decAt ds 4), [.bool (yes2 (SPort.decAt ds 0) (SPort.decAt ds 4))]) }
def laws_eqPort_G : Ctx := [(28, laws_eqIntS_s)]
theorem laws_eqPort_x : CtxHolds Try.prog laws_eqPort_G := ctx_cons laws_eqIntS_h ctx_nil
def laws_eqPort_A : List (Nat × Ann) := []
theorem laws_eqPort_r (N : Nat) (a : SPort) (b : SPort) : runF Try.prog laws_eqPort_G laws_eqPort_A N Try.f50 laws_eqPort_s (a.enc ++ (b.enc ++ ([]))) = laws_eqPort_t Vm.bad (fun r0 => ((true, [.bool r0]) : Res)) a b := by kernel_rfl
theorem laws_eqPort_h : Holds Try.prog 50 laws_eqPort_s := by
  refine holds_of_run (A := laws_eqPort_A) laws_eqPort_x Try.func50 rfl (by kernel_rfl) (of_decide_eq_true (by kernel_rfl)) (of_decide_eq_true (by kernel_rfl)) ?_
  intro ds hw hok
  replace hw : WtL (SPort.ct ++ (SPort.ct ++ ([]))) ds := hw
  obtain ⟨a, ds, rfl, h_a, hw⟩ := SPort.of_wt (r := _) hw
  obtain ⟨b, ds, rfl, h_b, hw⟩ := SPort.of_wt (r := _) hw
  obtain rfl := of_wt_nil hw
  exact ⟨0, ((laws_eqPort_r 0 a b).trans (laws_eqPort_c Vm.bad _ a b h_a h_b hok)).trans (by kernel_rfl)⟩

def laws_szIntS_s : Sum := { ps := [⟨[.sl [.int .i64]], false⟩, ⟨[.int .i64], false⟩], rs := [⟨[.imm (.int .i64)], false⟩], fn := fun ds => (true, [.int (szFlat (rR ds 0) (rI ds 1))]) }
def laws_szIntS_G : Ctx := []
theorem laws_szIntS_x : CtxHolds Try.prog laws_szIntS_G := ctx_nil
def laws_szIntS_A : List (Nat × Ann) := []
theorem laws_szIntS_r (N : Nat) (a : Rows) (left : Int) : runF Try.prog laws_szIntS_G laws_szIntS_A N Try.f64 laws_szIntS_s (.sl a :: (.int left :: ([]))) = laws_szIntS_t (fun r0 => ((true, [.int r0]) : Res)) a left := by kernel_rfl
theorem laws_szIntS_h : Holds Try.prog 64 laws_szIntS_s := by
  refine holds_of_run (A := laws_szIntS_A) laws_szIntS_x Try.func64 rfl (by kernel_rfl) (of_decide_eq_true (by kernel_rfl)) (of_decide_eq_true (by kernel_rfl)) ?_
  intro ds hw hok
  replace hw : WtL ((.sl [.int .i64]) :: ((.int .i64) :: ([]))) ds := hw
  obtain ⟨a, ds, rfl, h_a, hw⟩ := of_wt_sl hw
  obtain ⟨left, ds, rfl, h_left, hw⟩ := of_wt_int hw
  obtain rfl := of_wt_nil hw
  exact ⟨0, ((laws_szIntS_r 0 a left).trans (laws_szIntS_c _ a left h_a h_left)).trans (by kernel_rfl)⟩

def laws_toIntS_s : Sum := { ps := [⟨[.sl [.int .i64]], false⟩], rs := [⟨[.own 3 [.int .i64]], false⟩], fn := fun ds => (sm (rR ds 0), [.sl (idf (rR ds 0))]) }
def laws_toIntS_G : Ctx := []
theorem laws_toIntS_x : CtxHolds Try.prog laws_toIntS_G := ctx_nil
def laws_toIntS_A : List (Nat × Ann) := [(3, { slots := [(0, .asis), (3, .asis), (4, .asis)], boxes := [] })]
def laws_toIntS_K : Rows → Res := (fun r0 => ((true, [.sl r0]) : Res))
def laws_toIntS_m0 (a : Rows) (i : Int) (out_ : Rows) : St := { n := 22, sl := [(0, .sl [.int .i64] a), (3, .own 640192), (4, .int .i64 i)], hp := [(640192, .row 3 [.int .i64] out_ false true)], ok := true, ls := [], lm := [] }
noncomputable def laws_toIntS_B0 (N : Nat) : (St → Res) → St → Res := loopB Try.prog laws_toIntS_G laws_toIntS_A N Try.f65 laws_toIntS_s [true, true, false, true, false] []
theorem laws_toIntS_b0 (N : Nat) (a : Rows) (ih : St → Res) (i : Int) (out_ : Rows) : laws_toIntS_B0 N ih (laws_toIntS_m0 a i out_) = laws_toIntS_l0 Vm.bad laws_toIntS_K a (fun i out_ => ih (laws_toIntS_m0 a i out_)) i out_ := by kernel_rfl
theorem laws_toIntS_n0 (N : Nat) (a : Rows) (m_ : Nat) : (fun i out_ => loopN (laws_toIntS_B0 N) m_ (laws_toIntS_m0 a i out_)) = laws_toIntS_L0 Vm.bad laws_toIntS_K N a m_ := by
  induction m_ with
  | zero => rfl
  | succ m_ ih =>
    funext i out_
    show laws_toIntS_B0 N (loopN (laws_toIntS_B0 N) m_) (laws_toIntS_m0 a i out_) = _
    rw [laws_toIntS_b0 N a]
    rw [ih]
    rfl
theorem laws_toIntS_r (N : Nat) (a : Rows) : runF Try.prog laws_toIntS_G laws_toIntS_A N Try.f65 laws_toIntS_s (.sl a :: ([])) = laws_toIntS_f Vm.bad laws_toIntS_K N a := by
  have run_ : runF Try.prog laws_toIntS_G laws_toIntS_A N Try.f65 laws_toIntS_s (.sl a :: ([])) = laws_toIntS_t Vm.bad laws_toIntS_K (fun i out_ => loopN (laws_toIntS_B0 N) N (laws_toIntS_m0 a i out_)) a := by kernel_rfl
  refine run_.trans ?_
  unfold laws_toIntS_f
  have e0 : (fun i out_ => loopN (laws_toIntS_B0 N) N (laws_toIntS_m0 a i out_)) = (laws_toIntS_L0 Vm.bad laws_toIntS_K N a N) := by
    exact laws_toIntS_n0 N a N
  exact congrArg (fun l_ => laws_toIntS_t Vm.bad laws_toIntS_K l_ a) e0
theorem laws_toIntS_h : Holds Try.prog 65 laws_toIntS_s := by
  refine holds_of_run (A := laws_toIntS_A) laws_toIntS_x Try.func65 rfl (by kernel_rfl) (of_decide_eq_true (by kernel_rfl)) (of_decide_eq_true (by kernel_rfl)) ?_
  intro ds hw hok
  replace hw : WtL ((.sl [.int .i64]) :: ([])) ds := hw
  obtain ⟨a, ds, rfl, h_a, hw⟩ := of_wt_sl hw
  obtain rfl := of_wt_nil hw
  obtain ⟨N, hN⟩ := laws_toIntS_c Vm.bad laws_toIntS_K a h_a hok
  exact ⟨N, ((laws_toIntS_r N a).trans hN).trans (by kernel_rfl)⟩

def laws_toPort_s : Sum := { ps := [⟨[.int .i64, .sl [.int .i64], .int .i64, .bool], true⟩], rs := [⟨[.imm (.int .i64), .own 3 [.int .i64], .imm (.int .i64), .imm .bool], true⟩], fn := fun ds => (laws_toPort_ok (SPort.decAt ds 0), SPort.enc (idf (SPort.decAt ds 0))) }
def laws_toPort_G : Ctx := [(65, laws_toIntS_s)]
theorem laws_toPort_x : CtxHolds Try.prog laws_toPort_G := ctx_cons laws_toIntS_h ctx_nil
def laws_toPort_A : List (Nat × Ann) := []
theorem laws_toPort_r (N : Nat) (a : SPort) : runF Try.prog laws_toPort_G laws_toPort_A N Try.f44 laws_toPort_s (a.enc ++ ([])) = laws_toPort_t Vm.bad (fun r0 => ((true, SPort.enc r0) : Res)) a := by kernel_rfl
theorem laws_toPort_h : Holds Try.prog 44 laws_toPort_s := by
  refine holds_of_run (A := laws_toPort_A) laws_toPort_x Try.func44 rfl (by kernel_rfl) (of_decide_eq_true (by kernel_rfl)) (of_decide_eq_true (by kernel_rfl)) ?_
  intro ds hw hok
  replace hw : WtL (SPort.ct ++ ([])) ds := hw
  obtain ⟨a, ds, rfl, h_a, hw⟩ := SPort.of_wt (r := _) hw
  obtain rfl := of_wt_nil hw
  exact ⟨0, ((laws_toPort_r 0 a).trans (laws_toPort_c Vm.bad _ a h_a hok)).trans (by kernel_rfl)⟩

def laws_szPort_s : Sum := { ps := [⟨[.int .i64, .sl [.int .i64], .int .i64, .bool], true⟩, ⟨[.int .i64], false⟩], rs := [⟨[.imm (.int .i64)], false⟩], fn := fun ds => (true, [.int (laws_szPort (SPort.decAt ds 0) (rI ds 4))]) }
def laws_szPort_G : Ctx := [(64, laws_szIntS_s)]
theorem laws_szPort_x : CtxHolds Try.prog laws_szPort_G := ctx_cons laws_szIntS_h ctx_nil
def laws_szPort_A : List (Nat × Ann) := []
theorem laws_szPort_r (N : Nat) (a : SPort) (left : Int) : runF Try.prog laws_szPort_G laws_szPort_A N Try.f40 laws_szPort_s (a.enc ++ (.int left :: ([]))) = laws_szPort_t (fun r0 => ((true, [.int r0]) : Res)) a left := by kernel_rfl
theorem laws_szPort_h : Holds Try.prog 40 laws_szPort_s := by
  refine holds_of_run (A := laws_szPort_A) laws_szPort_x Try.func40 rfl (by kernel_rfl) (of_decide_eq_true (by kernel_rfl)) (of_decide_eq_true (by kernel_rfl)) ?_
  intro ds hw hok
  replace hw : WtL (SPort.ct ++ ((.int .i64) :: ([]))) ds := hw
  obtain ⟨a, ds, rfl, h_a, hw⟩ := SPort.of_wt (r := _) hw
  obtain ⟨left, ds, rfl, h_left, hw⟩ := of_wt_int hw
  obtain rfl := of_wt_nil hw
  exact ⟨0, ((laws_szPort_r 0 a left).trans (laws_szPort_c _ a left)).trans (by kernel_rfl)⟩

def laws_szPortS_s : Sum := { ps := [⟨[.sl [.int .i64, .sl [.int .i64], .int .i64, .bool]], false⟩, ⟨[.int .i64], false⟩], rs := [⟨[.imm (.int .i64)], false⟩], fn := fun ds => (true, [.int (laws_szPortS (rR ds 0) (rI ds 1))]) }
def laws_szPortS_G : Ctx := [(40, laws_szPort_s)]
theorem laws_szPortS_x : CtxHolds Try.prog laws_szPortS_G := ctx_cons laws_szPort_h ctx_nil
def laws_szPortS_A : List (Nat × Ann) := [(5, { slots := [(0, .asis), (1, .asis), (5, .asis)], boxes := [] })]
def laws_szPortS_K : Int → Res := (fun r0 => ((true, [.int r0]) : Res))
def laws_szPortS_m0 (a : Rows) (left_1 : Int) (i : Int) : St := { n := 27, sl := [(0, .sl [.int .i64, .sl [.int .i64], .int .i64, .bool] a), (1, .int .i64 left_1), (5, .int .i64 i)], hp := [], ok := true, ls := [], lm := [] }
noncomputable def laws_szPortS_B0 (N : Nat) : (St → Res) → St → Res := loopB Try.prog laws_szPortS_G laws_szPortS_A N Try.f10 laws_szPortS_s [true, true, true, false, true, false] []
theorem laws_szPortS_b0 (N : Nat) (a : Rows) (ih : St → Res) (left_1 : Int) (i : Int) : laws_szPortS_B0 N ih (laws_szPortS_m0 a left_1 i) = laws_szPortS_l0 Vm.bad laws_szPortS_K a (fun left_1 i => ih (laws_szPortS_m0 a left_1 i)) left_1 i := by kernel_rfl
theorem laws_szPortS_n0 (N : Nat) (a : Rows) (m_ : Nat) : (fun left_1 i => loopN (laws_szPortS_B0 N) m_ (laws_szPortS_m0 a left_1 i)) = laws_szPortS_L0 Vm.bad laws_szPortS_K N a m_ := by
  induction m_ with
  | zero => rfl
  | succ m_ ih =>
    funext left_1 i
    show laws_szPortS_B0 N (loopN (laws_szPortS_B0 N) m_) (laws_szPortS_m0 a left_1 i) = _
    rw [laws_szPortS_b0 N a]
    rw [ih]
    rfl
theorem laws_szPortS_r (N : Nat) (a : Rows) (left : Int) : runF Try.prog laws_szPortS_G laws_szPortS_A N Try.f10 laws_szPortS_s (.sl a :: (.int left :: ([]))) = laws_szPortS_f Vm.bad laws_szPortS_K N a left := by
  have run_ : runF Try.prog laws_szPortS_G laws_szPortS_A N Try.f10 laws_szPortS_s (.sl a :: (.int left :: ([]))) = laws_szPortS_t Vm.bad laws_szPortS_K (fun left_1 i => loopN (laws_szPortS_B0 N) N (laws_szPortS_m0 a left_1 i)) a left := by kernel_rfl
  refine run_.trans ?_
  unfold laws_szPortS_f
  have e0 : (fun left_1 i => loopN (laws_szPortS_B0 N) N (laws_szPortS_m0 a left_1 i)) = (laws_szPortS_L0 Vm.bad laws_szPortS_K N a N) := by
    exact laws_szPortS_n0 N a N
  exact congrArg (fun l_ => laws_szPortS_t Vm.bad laws_szPortS_K l_ a left) e0
theorem laws_szPortS_h : Holds Try.prog 10 laws_szPortS_s := by
  refine holds_of_run (A := laws_szPortS_A) laws_szPortS_x Try.func10 rfl (by kernel_rfl) (of_decide_eq_true (by kernel_rfl)) (of_decide_eq_true (by kernel_rfl)) ?_
  intro ds hw hok
  replace hw : WtL ((.sl [.int .i64, .sl [.int .i64], .int .i64, .bool]) :: ((.int .i64) :: ([]))) ds := hw
  obtain ⟨a, ds, rfl, h_a, hw⟩ := of_wt_sl hw
  obtain ⟨left, ds, rfl, h_left, hw⟩ := of_wt_int hw
  obtain rfl := of_wt_nil hw
  obtain ⟨N, hN⟩ := laws_szPortS_c Vm.bad laws_szPortS_K a left h_a h_left
  exact ⟨N, ((laws_szPortS_r N a left).trans hN).trans (by kernel_rfl)⟩

def laws_toPortS_s : Sum := { ps := [⟨[.sl [.int .i64, .sl [.int .i64], .int .i64, .bool]], false⟩], rs := [⟨[.deep 48 [.int .i64, .sl [.int .i64], .int .i64, .bool] [3]], false⟩], fn := fun ds => (laws_toPortS_ok (rR ds 0), [.sl (idf (rR ds 0))]) }
def laws_toPortS_G : Ctx := [(1125899906842631, annS), (44, laws_toPort_s)]
theorem laws_toPortS_x : CtxHolds Try.prog laws_toPortS_G := ctx_cons ann_h (ctx_cons laws_toPort_h ctx_nil)
def laws_toPortS_A : List (Nat × Ann) := [(3, { slots := [(0, .asis), (3, .asis), (4, .asis)], boxes := [] })]
def laws_toPortS_K : Rows → Res := (fun r0 => ((true, [.sl r0]) : Res))
def laws_toPortS_m0 (a : Rows) (i : Int) (out_ : Rows) : St := { n := 23, sl := [(0, .sl [.int .i64, .sl [.int .i64], .int .i64, .bool] a), (3, .own 640192), (4, .int .i64 i)], hp := [(640192, .deep 48 [.int .i64, .sl [.int .i64], .int .i64, .bool] [3] out_ none)], ok := true, ls := [], lm := [] }
noncomputable def laws_toPortS_B0 (N : Nat) : (St → Res) → St → Res := loopB Try.prog laws_toPortS_G laws_toPortS_A N Try.f12 laws_toPortS_s [true, true, false, true, false] []
theorem laws_toPortS_b0 (N : Nat) (a : Rows) (ih : St → Res) (i : Int) (out_ : Rows) : laws_toPortS_B0 N ih (laws_toPortS_m0 a i out_) = laws_toPortS_l0 Vm.bad laws_toPortS_K a (fun i out_ => ih (laws_toPortS_m0 a i out_)) i out_ := by kernel_rfl
theorem laws_toPortS_n0 (N : Nat) (a : Rows) (m_ : Nat) : (fun i out_ => loopN (laws_toPortS_B0 N) m_ (laws_toPortS_m0 a i out_)) = laws_toPortS_L0 Vm.bad laws_toPortS_K N a m_ := by
  induction m_ with
  | zero => rfl
  | succ m_ ih =>
    funext i out_
    show laws_toPortS_B0 N (loopN (laws_toPortS_B0 N) m_) (laws_toPortS_m0 a i out_) = _
    rw [laws_toPortS_b0 N a]
    rw [ih]
    rfl
theorem laws_toPortS_r (N : Nat) (a : Rows) : runF Try.prog laws_toPortS_G laws_toPortS_A N Try.f12 laws_toPortS_s (.sl a :: ([])) = laws_toPortS_f Vm.bad laws_toPortS_K N a := by
  have run_ : runF Try.prog laws_toPortS_G laws_toPortS_A N Try.f12 laws_toPortS_s (.sl a :: ([])) = laws_toPortS_t Vm.bad laws_toPortS_K (fun i out_ => loopN (laws_toPortS_B0 N) N (laws_toPortS_m0 a i out_)) a := by kernel_rfl
  refine run_.trans ?_
  unfold laws_toPortS_f
  have e0 : (fun i out_ => loopN (laws_toPortS_B0 N) N (laws_toPortS_m0 a i out_)) = (laws_toPortS_L0 Vm.bad laws_toPortS_K N a N) := by
    exact laws_toPortS_n0 N a N
  exact congrArg (fun l_ => laws_toPortS_t Vm.bad laws_toPortS_K l_ a) e0
theorem laws_toPortS_h : Holds Try.prog 12 laws_toPortS_s := by
  refine holds_of_run (A := laws_toPortS_A) laws_toPortS_x Try.func12 rfl (by kernel_rfl) (of_decide_eq_true (by kernel_rfl)) (of_decide_eq_true (by kernel_rfl)) ?_
  intro ds hw hok
  replace hw : WtL ((.sl [.int .i64, .sl [.int .i64], .int .i64, .bool]) :: ([])) ds := hw
  obtain ⟨a, ds, rfl, h_a, hw⟩ := of_wt_sl hw
  obtain rfl := of_wt_nil hw
  obtain ⟨N, hN⟩ := laws_toPortS_c Vm.bad laws_toPortS_K a h_a hok
  exact ⟨N, ((laws_toPortS_r N a).trans hN).trans (by kernel_rfl)⟩

def laws_toPacketS_s : Sum := { ps := [⟨[.sl [.int .i64, .int .i64, .int .i64, .int .i64, .int .i64, .int .i64, .int .i64, .int .i64, .int .i64, .int .i64, .int .i64, .int .i64, .int .i64, .int .i64, .int .i64, .str]], false⟩], rs := [⟨[.own 37 [.int .i64, .int .i64, .int .i64, .int .i64, .int .i64, .int .i64, .int .i64, .int .i64, .int .i64, .int .i64, .int .i64, .int .i64, .int .i64, .int .i64, .int .i64, .str]], false⟩], fn := fun ds => (sm (rR ds 0), [.sl (idf (rR ds 0))]) }
def laws_toPacketS_G : Ctx := [(17, laws_toPacket_s)]
theorem laws_toPacketS_x : CtxHolds Try.prog laws_toPacketS_G := ctx_cons laws_toPacket_h ctx_nil
def laws_toPacketS_A : List (Nat × Ann) := [(3, { slots := [(0, .asis), (3, .asis), (4, .asis)], boxes := [] })]
def laws_toPacketS_K : Rows → Res := (fun r0 => ((true, [.sl r0]) : Res))
def laws_toPacketS_m0 (a : Rows) (i : Int) (out_ : Rows) : St := { n := 23, sl := [(0, .sl [.int .i64, .int .i64, .int .i64, .int .i64, .int .i64, .int .i64, .int .i64, .int .i64, .int .i64, .int .i64, .int .i64, .int .i64, .int .i64, .int .i64, .int .i64, .str] a), (3, .own 640192), (4, .int .i64 i)], hp := [(640192, .row 37 [.int .i64, .int .i64, .int .i64, .int .i64, .int .i64, .int .i64, .int .i64, .int .i64, .int .i64, .int .i64, .int .i64, .int .i64, .int .i64, .int .i64, .int .i64, .str] out_ false true)], ok := true, ls := [], lm := [] }
noncomputable def laws_toPacketS_B0 (N : Nat) : (St → Res) → St → Res := loopB Try.prog laws_toPacketS_G laws_toPacketS_A N Try.f34 laws_toPacketS_s [true, true, false, true, false] []
theorem laws_toPacketS_b0 (N : Nat) (a : Rows) (ih : St → Res) (i : Int) (out_ : Rows) : laws_toPacketS_B0 N ih (laws_toPacketS_m0 a i out_) = laws_toPacketS_l0 Vm.bad laws_toPacketS_K a (fun i out_ => ih (laws_toPacketS_m0 a i out_)) i out_ := by kernel_rfl
theorem laws_toPacketS_n0 (N : Nat) (a : Rows) (m_ : Nat) : (fun i out_ => loopN (laws_toPacketS_B0 N) m_ (laws_toPacketS_m0 a i out_)) = laws_toPacketS_L0 Vm.bad laws_toPacketS_K N a m_ := by
  induction m_ with
  | zero => rfl
  | succ m_ ih =>
    funext i out_
    show laws_toPacketS_B0 N (loopN (laws_toPacketS_B0 N) m_) (laws_toPacketS_m0 a i out_) = _
    rw [laws_toPacketS_b0 N a]
    rw [ih]
    rfl
theorem laws_toPacketS_r (N : Nat) (a : Rows) : runF Try.prog laws_toPacketS_G laws_toPacketS_A N Try.f34 laws_toPacketS_s (.sl a :: ([])) = laws_toPacketS_f Vm.bad laws_toPacketS_K N a := by
  have run_ : runF Try.prog laws_toPacketS_G laws_toPacketS_A N Try.f34 laws_toPacketS_s (.sl a :: ([])) = laws_toPacketS_t Vm.bad laws_toPacketS_K (fun i out_ => loopN (laws_toPacketS_B0 N) N (laws_toPacketS_m0 a i out_)) a := by kernel_rfl
  refine run_.trans ?_
  unfold laws_toPacketS_f
  have e0 : (fun i out_ => loopN (laws_toPacketS_B0 N) N (laws_toPacketS_m0 a i out_)) = (laws_toPacketS_L0 Vm.bad laws_toPacketS_K N a N) := by
    exact laws_toPacketS_n0 N a N
  exact congrArg (fun l_ => laws_toPacketS_t Vm.bad laws_toPacketS_K l_ a) e0
theorem laws_toPacketS_h : Holds Try.prog 34 laws_toPacketS_s := by
  refine holds_of_run (A := laws_toPacketS_A) laws_toPacketS_x Try.func34 rfl (by kernel_rfl) (of_decide_eq_true (by kernel_rfl)) (of_decide_eq_true (by kernel_rfl)) ?_
  intro ds hw hok
  replace hw : WtL ((.sl [.int .i64, .int .i64, .int .i64, .int .i64, .int .i64, .int .i64, .int .i64, .int .i64, .int .i64, .int .i64, .int .i64, .int .i64, .int .i64, .int .i64, .int .i64, .str]) :: ([])) ds := hw
  obtain ⟨a, ds, rfl, h_a, hw⟩ := of_wt_sl hw
  obtain rfl := of_wt_nil hw
  obtain ⟨N, hN⟩ := laws_toPacketS_c Vm.bad laws_toPacketS_K a h_a hok
  exact ⟨N, ((laws_toPacketS_r N a).trans hN).trans (by kernel_rfl)⟩

def laws_eqPortS_s : Sum := { ps := [⟨[.sl [.int .i64, .sl [.int .i64], .int .i64, .bool]], false⟩, ⟨[.sl [.int .i64, .sl [.int .i64], .int .i64, .bool]], false⟩], rs := [⟨[.imm .bool], false⟩], fn := fun ds => (same (rR ds 0) (rR ds 1), [.bool (yes2 (rR ds 0) (rR ds 1))]) }
def laws_eqPortS_G : Ctx := [(50, laws_eqPort_s)]
theorem laws_eqPortS_x : CtxHolds Try.prog laws_eqPortS_G := ctx_cons laws_eqPort_h ctx_nil
def laws_eqPortS_A : List (Nat × Ann) := [(4, { slots := [(0, .asis), (1, .asis), (5, .asis)], boxes := [] })]
def laws_eqPortS_K : Bool → Res := (fun r0 => ((true, [.bool r0]) : Res))
def laws_eqPortS_m0 (a : Rows) (b : Rows) (i : Int) : St := { n := 27, sl := [(0, .sl [.int .i64, .sl [.int .i64], .int .i64, .bool] a), (1, .sl [.int .i64, .sl [.int .i64], .int .i64, .bool] b), (5, .int .i64 i)], hp := [], ok := true, ls := [], lm := [] }
noncomputable def laws_eqPortS_B0 (N : Nat) : (St → Res) → St → Res := loopB Try.prog laws_eqPortS_G laws_eqPortS_A N Try.f14 laws_eqPortS_s [true, true, false, true, false] []
theorem laws_eqPortS_b0 (N : Nat) (a : Rows) (b : Rows) (ih : St → Res) (i : Int) : laws_eqPortS_B0 N ih (laws_eqPortS_m0 a b i) = laws_eqPortS_l0 Vm.bad laws_eqPortS_K a b (fun i => ih (laws_eqPortS_m0 a b i)) i := by kernel_rfl
theorem laws_eqPortS_n0 (N : Nat) (a : Rows) (b : Rows) (m_ : Nat) : (fun i => loopN (laws_eqPortS_B0 N) m_ (laws_eqPortS_m0 a b i)) = laws_eqPortS_L0 Vm.bad laws_eqPortS_K N a b m_ := by
  induction m_ with
  | zero => rfl
  | succ m_ ih =>
    funext i
    show laws_eqPortS_B0 N (loopN (laws_eqPortS_B0 N) m_) (laws_eqPortS_m0 a b i) = _
    rw [laws_eqPortS_b0 N a b]
    rw [ih]
    rfl
theorem laws_eqPortS_r (N : Nat) (a : Rows) (b : Rows) : runF Try.prog laws_eqPortS_G laws_eqPortS_A N Try.f14 laws_eqPortS_s (.sl a :: (.sl b :: ([]))) = laws_eqPortS_f Vm.bad laws_eqPortS_K N a b := by
  have run_ : runF Try.prog laws_eqPortS_G laws_eqPortS_A N Try.f14 laws_eqPortS_s (.sl a :: (.sl b :: ([]))) = laws_eqPortS_t Vm.bad laws_eqPortS_K (fun i => loopN (laws_eqPortS_B0 N) N (laws_eqPortS_m0 a b i)) a b := by kernel_rfl
  refine run_.trans ?_
  unfold laws_eqPortS_f
  have e0 : (fun i => loopN (laws_eqPortS_B0 N) N (laws_eqPortS_m0 a b i)) = (laws_eqPortS_L0 Vm.bad laws_eqPortS_K N a b N) := by
    exact laws_eqPortS_n0 N a b N
  exact congrArg (fun l_ => laws_eqPortS_t Vm.bad laws_eqPortS_K l_ a b) e0
theorem laws_eqPortS_h : Holds Try.prog 14 laws_eqPortS_s := by
  refine holds_of_run (A := laws_eqPortS_A) laws_eqPortS_x Try.func14 rfl (by kernel_rfl) (of_decide_eq_true (by kernel_rfl)) (of_decide_eq_true (by kernel_rfl)) ?_
  intro ds hw hok
  replace hw : WtL ((.sl [.int .i64, .sl [.int .i64], .int .i64, .bool]) :: ((.sl [.int .i64, .sl [.int .i64], .int .i64, .bool]) :: ([]))) ds := hw
  obtain ⟨a, ds, rfl, h_a, hw⟩ := of_wt_sl hw
  obtain ⟨b, ds, rfl, h_b, hw⟩ := of_wt_sl hw
  obtain rfl := of_wt_nil hw
  obtain ⟨N, hN⟩ := laws_eqPortS_c Vm.bad laws_eqPortS_K a b h_a h_b hok
  exact ⟨N, ((laws_eqPortS_r N a b).trans hN).trans (by kernel_rfl)⟩

def laws_markIntS_s : Sum := { ps := [⟨[.sl [.int .i64]], false⟩, ⟨[.int .i64], false⟩], rs := [⟨[.imm (.int .i64)], false⟩], fn := fun ds => (mko 1 (rR ds 0) (rI ds 1), [.int (markIntS (rR ds 0) (rI ds 1)).1] ++ [.sl (markIntS (rR ds 0) (rI ds 1)).2]), ms := [some (.rows [.flat 3]), none] }
def laws_markIntS_G : Ctx := []
theorem laws_markIntS_x : CtxHolds Try.prog laws_markIntS_G := ctx_nil
def laws_markIntS_A : List (Nat × Ann) := [(2, { slots := [(0, .asis), (1, .asis), (5, .asis)], boxes := [] })]
def laws_markIntS_K : Int → Rows → Res := (fun r0 r1 => ((true, [.int r0] ++ [.sl r1]) : Res))
def laws_markIntS_m0 (k_1 : Int) (i : Int) (a_1 : Rows) : St := { n := 1099511627795, sl := [(0, .own 640000), (1, .int .i64 k_1), (5, .int .i64 i)], hp := [(640000, .row 3 [.int .i64] a_1 false true)], ok := true, ls := [], lm := [] }
noncomputable def laws_markIntS_B0 (N : Nat) : (St → Res) → St → Res := loopBM Try.prog laws_markIntS_G laws_markIntS_A N Try.f30 laws_markIntS_s [true, false, true, false] []
theorem laws_markIntS_b0 (N : Nat) (ih : St → Res) (k_1 : Int) (i : Int) (a_1 : Rows) : laws_markIntS_B0 N ih (laws_markIntS_m0 k_1 i a_1) = laws_markIntS_l0 Vm.bad laws_markIntS_K (fun k_1 i a_1 => ih (laws_markIntS_m0 k_1 i a_1)) k_1 i a_1 := by kernel_rfl
theorem laws_markIntS_n0 (N : Nat) (m_ : Nat) : (fun k_1 i a_1 => loopN (laws_markIntS_B0 N) m_ (laws_markIntS_m0 k_1 i a_1)) = laws_markIntS_L0 Vm.bad laws_markIntS_K N m_ := by
  induction m_ with
  | zero => rfl
  | succ m_ ih =>
    funext k_1 i a_1
    show laws_markIntS_B0 N (loopN (laws_markIntS_B0 N) m_) (laws_markIntS_m0 k_1 i a_1) = _
    rw [laws_markIntS_b0 N]
    rw [ih]
    rfl
theorem laws_markIntS_r (N : Nat) (a : Rows) (k : Int) : runFM Try.prog laws_markIntS_G laws_markIntS_A N Try.f30 laws_markIntS_s (.sl a :: (.int k :: ([]))) = laws_markIntS_f Vm.bad laws_markIntS_K N a k := by
  have run_ : runFM Try.prog laws_markIntS_G laws_markIntS_A N Try.f30 laws_markIntS_s (.sl a :: (.int k :: ([]))) = laws_markIntS_t Vm.bad laws_markIntS_K (fun k_1 i a_1 => loopN (laws_markIntS_B0 N) N (laws_markIntS_m0 k_1 i a_1)) a k := by kernel_rfl
  refine run_.trans ?_
  unfold laws_markIntS_f
  have e0 : (fun k_1 i a_1 => loopN (laws_markIntS_B0 N) N (laws_markIntS_m0 k_1 i a_1)) = (laws_markIntS_L0 Vm.bad laws_markIntS_K N N) := by
    exact laws_markIntS_n0 N N
  exact congrArg (fun l_ => laws_markIntS_t Vm.bad laws_markIntS_K l_ a k) e0
theorem laws_markIntS_h : HoldsM Try.prog 30 laws_markIntS_s := by
  refine holdsM_of_run (A := laws_markIntS_A) laws_markIntS_x Try.func30 rfl (by kernel_rfl) (of_decide_eq_true (by kernel_rfl)) (of_decide_eq_true (by kernel_rfl)) (by kernel_rfl) (fun ds => by kernel_rfl) ?_
  intro ds hw hok
  replace hw : WtL ((.sl [.int .i64]) :: ((.int .i64) :: ([]))) ds := hw
  obtain ⟨a, ds, rfl, h_a, hw⟩ := of_wt_sl hw
  obtain ⟨k, ds, rfl, h_k, hw⟩ := of_wt_int hw
  obtain rfl := of_wt_nil hw
  obtain ⟨N, hN⟩ := laws_markIntS_c Vm.bad laws_markIntS_K a k h_a h_k hok
  exact ⟨N, ((laws_markIntS_r N a k).trans hN).trans (by kernel_rfl)⟩

def laws_heldIntS_s : Sum := { ps := [⟨[.sl [.int .i64]], false⟩, ⟨[.int .i64], false⟩], rs := [⟨[.imm (.int .i64)], false⟩], fn := fun ds => (hdo fIntS 1 (rR ds 0) (rI ds 1), [.int (heldIntS (rR ds 0) (rI ds 1))]) }
def laws_heldIntS_G : Ctx := []
theorem laws_heldIntS_x : CtxHolds Try.prog laws_heldIntS_G := ctx_nil
def laws_heldIntS_A : List (Nat × Ann) := [(2, { slots := [(0, .asis), (1, .asis), (5, .asis)], boxes := [] })]
def laws_heldIntS_K : Int → Res := (fun r0 => ((true, [.int r0]) : Res))
def laws_heldIntS_m0 (a : Rows) (k_1 : Int) (i : Int) : St := { n := 21, sl := [(0, .sl [.int .i64] a), (1, .int .i64 k_1), (5, .int .i64 i)], hp := [], ok := true, ls := [], lm := [] }
noncomputable def laws_heldIntS_B0 (N : Nat) : (St → Res) → St → Res := loopB Try.prog laws_heldIntS_G laws_heldIntS_A N Try.f31 laws_heldIntS_s [true, false, true, false] []
theorem laws_heldIntS_b0 (N : Nat) (a : Rows) (ih : St → Res) (k_1 : Int) (i : Int) : laws_heldIntS_B0 N ih (laws_heldIntS_m0 a k_1 i) = laws_heldIntS_l0 Vm.bad laws_heldIntS_K a (fun k_1 i => ih (laws_heldIntS_m0 a k_1 i)) k_1 i := by kernel_rfl
theorem laws_heldIntS_n0 (N : Nat) (a : Rows) (m_ : Nat) : (fun k_1 i => loopN (laws_heldIntS_B0 N) m_ (laws_heldIntS_m0 a k_1 i)) = laws_heldIntS_L0 Vm.bad laws_heldIntS_K N a m_ := by
  induction m_ with
  | zero => rfl
  | succ m_ ih =>
    funext k_1 i
    show laws_heldIntS_B0 N (loopN (laws_heldIntS_B0 N) m_) (laws_heldIntS_m0 a k_1 i) = _
    rw [laws_heldIntS_b0 N a]
    rw [ih]
    rfl
theorem laws_heldIntS_r (N : Nat) (a : Rows) (k : Int) : runF Try.prog laws_heldIntS_G laws_heldIntS_A N Try.f31 laws_heldIntS_s (.sl a :: (.int k :: ([]))) = laws_heldIntS_f Vm.bad laws_heldIntS_K N a k := by
  have run_ : runF Try.prog laws_heldIntS_G laws_heldIntS_A N Try.f31 laws_heldIntS_s (.sl a :: (.int k :: ([]))) = laws_heldIntS_t Vm.bad laws_heldIntS_K (fun k_1 i => loopN (laws_heldIntS_B0 N) N (laws_heldIntS_m0 a k_1 i)) a k := by kernel_rfl
  refine run_.trans ?_
  unfold laws_heldIntS_f
  have e0 : (fun k_1 i => loopN (laws_heldIntS_B0 N) N (laws_heldIntS_m0 a k_1 i)) = (laws_heldIntS_L0 Vm.bad laws_heldIntS_K N a N) := by
    exact laws_heldIntS_n0 N a N
  exact congrArg (fun l_ => laws_heldIntS_t Vm.bad laws_heldIntS_K l_ a k) e0
theorem laws_heldIntS_h : Holds Try.prog 31 laws_heldIntS_s := by
  refine holds_of_run (A := laws_heldIntS_A) laws_heldIntS_x Try.func31 rfl (by kernel_rfl) (of_decide_eq_true (by kernel_rfl)) (of_decide_eq_true (by kernel_rfl)) ?_
  intro ds hw hok
  replace hw : WtL ((.sl [.int .i64]) :: ((.int .i64) :: ([]))) ds := hw
  obtain ⟨a, ds, rfl, h_a, hw⟩ := of_wt_sl hw
  obtain ⟨k, ds, rfl, h_k, hw⟩ := of_wt_int hw
  obtain rfl := of_wt_nil hw
  obtain ⟨N, hN⟩ := laws_heldIntS_c Vm.bad laws_heldIntS_K a k h_a h_k hok
  exact ⟨N, ((laws_heldIntS_r N a k).trans hN).trans (by kernel_rfl)⟩

def laws_markText_s : Sum := { ps := [⟨[.int .i64], false⟩], rs := [⟨[.imm .str], false⟩], fn := fun ds => (true, [.str (markText (rI ds 0))]) }
def laws_markText_G : Ctx := []
theorem laws_markText_x : CtxHolds Try.prog laws_markText_G := ctx_nil
def laws_markText_A : List (Nat × Ann) := [(4, { slots := [(0, .asis), (3, .asis)], boxes := [] })]
def laws_markText_K : Bytes → Res := (fun r0 => ((true, [.str r0]) : Res))
def laws_markText_m0 (k_1 : Int) (out_ : Bytes) : St := { n := 20, sl := [(0, .int .i64 k_1), (3, .str out_)], hp := [], ok := true, ls := [], lm := [] }
noncomputable def laws_markText_B0 (N : Nat) : (St → Res) → St → Res := loopB Try.prog laws_markText_G laws_markText_A N Try.f62 laws_markText_s [true, true, true, false, false] []
theorem laws_markText_b0 (N : Nat) (ih : St → Res) (k_1 : Int) (out_ : Bytes) : laws_markText_B0 N ih (laws_markText_m0 k_1 out_) = laws_markText_l0 Vm.bad laws_markText_K (fun k_1 out_ => ih (laws_markText_m0 k_1 out_)) k_1 out_ := by kernel_rfl
theorem laws_markText_n0 (N : Nat) (m_ : Nat) : (fun k_1 out_ => loopN (laws_markText_B0 N) m_ (laws_markText_m0 k_1 out_)) = laws_markText_L0 Vm.bad laws_markText_K N m_ := by
  induction m_ with
  | zero => rfl
  | succ m_ ih =>
    funext k_1 out_
    show laws_markText_B0 N (loopN (laws_markText_B0 N) m_) (laws_markText_m0 k_1 out_) = _
    rw [laws_markText_b0 N]
    rw [ih]
    rfl
theorem laws_markText_r (N : Nat) (k : Int) : runF Try.prog laws_markText_G laws_markText_A N Try.f62 laws_markText_s (.int k :: ([])) = laws_markText_f Vm.bad laws_markText_K N k := by
  have run_ : runF Try.prog laws_markText_G laws_markText_A N Try.f62 laws_markText_s (.int k :: ([])) = laws_markText_t Vm.bad laws_markText_K (fun k_1 out_ => loopN (laws_markText_B0 N) N (laws_markText_m0 k_1 out_)) k := by kernel_rfl
  refine run_.trans ?_
  unfold laws_markText_f
  have e0 : (fun k_1 out_ => loopN (laws_markText_B0 N) N (laws_markText_m0 k_1 out_)) = (laws_markText_L0 Vm.bad laws_markText_K N N) := by
    exact laws_markText_n0 N N
  exact congrArg (fun l_ => laws_markText_t Vm.bad laws_markText_K l_ k) e0
theorem laws_markText_h : Holds Try.prog 62 laws_markText_s := by
  refine holds_of_run (A := laws_markText_A) laws_markText_x Try.func62 rfl (by kernel_rfl) (of_decide_eq_true (by kernel_rfl)) (of_decide_eq_true (by kernel_rfl)) ?_
  intro ds hw hok
  replace hw : WtL ((.int .i64) :: ([])) ds := hw
  obtain ⟨k, ds, rfl, h_k, hw⟩ := of_wt_int hw
  obtain rfl := of_wt_nil hw
  obtain ⟨N, hN⟩ := laws_markText_c Vm.bad laws_markText_K k h_k
  exact ⟨N, ((laws_markText_r N k).trans hN).trans (by kernel_rfl)⟩

end
end Go.Proofs.Ytklbgnodgnlebaa.Pl
