/- What functions of the program compute, in plain Lean, as the value machine runs them. Conditions: none. -/
import Derived.Test.YtjknoknkbfhelaaPre
import Derived.Test.YtjknoknkbfhelaaLem
set_option linter.unusedVariables false
set_option linter.unusedSimpArgs false
namespace Go.Proofs.Ytjknoknkbfhelaa.Pl
open Vm
noncomputable section

structure SFlashStep where
  Kind : Int
  Bank : Int
  At : Int
  Data : Bytes
def SFlashStep.enc (x : SFlashStep) : List DC := [.int x.Kind, .int x.Bank, .int x.At, .str x.Data]
def SFlashStep.decAt (r : List DC) (o : Nat) : SFlashStep := ⟨rI r (o + 0), rI r (o + 1), rI r (o + 2), rS r (o + 3)⟩
def SFlashStep.ct : List CT := [.int .i64, .int .i64, .int .i64, .str]
theorem SFlashStep.of_wt {r : List CT} {ds : List DC} (h : WtL (SFlashStep.ct ++ r) ds) : ∃ (x : SFlashStep) (ds' : List DC), ds = x.enc ++ ds' ∧ WtL SFlashStep.ct x.enc ∧ WtL r ds' := by
  simp only [SFlashStep.ct, List.cons_append, List.nil_append, WtL, WtC] at h
  obtain ⟨_, _, rfl, ⟨a0, rfl, p0⟩, _, _, rfl, ⟨a1, rfl, p1⟩, _, _, rfl, ⟨a2, rfl, p2⟩, _, _, rfl, ⟨a3, rfl, p3⟩, h⟩ := h
  exact ⟨⟨a0, a1, a2, a3⟩, _, rfl, by simp only [SFlashStep.ct, SFlashStep.enc, WtL, WtC]; exact ⟨_, _, rfl, ⟨_, rfl, p0⟩, _, _, rfl, ⟨_, rfl, p1⟩, _, _, rfl, ⟨_, rfl, p2⟩, _, _, rfl, ⟨_, rfl, p3⟩, rfl⟩, h⟩
theorem SFlashStep.wt_Kind {x : SFlashStep} (h : WtL SFlashStep.ct x.enc) : WtC (.int .i64) (.int x.Kind) := by
  obtain ⟨w0, h⟩ := wtl_uncons h
  obtain ⟨w1, h⟩ := wtl_uncons h
  obtain ⟨w2, h⟩ := wtl_uncons h
  obtain ⟨w3, h⟩ := wtl_uncons h
  exact w0
theorem SFlashStep.wt_Bank {x : SFlashStep} (h : WtL SFlashStep.ct x.enc) : WtC (.int .i64) (.int x.Bank) := by
  obtain ⟨w0, h⟩ := wtl_uncons h
  obtain ⟨w1, h⟩ := wtl_uncons h
  obtain ⟨w2, h⟩ := wtl_uncons h
  obtain ⟨w3, h⟩ := wtl_uncons h
  exact w1
theorem SFlashStep.wt_At {x : SFlashStep} (h : WtL SFlashStep.ct x.enc) : WtC (.int .i64) (.int x.At) := by
  obtain ⟨w0, h⟩ := wtl_uncons h
  obtain ⟨w1, h⟩ := wtl_uncons h
  obtain ⟨w2, h⟩ := wtl_uncons h
  obtain ⟨w3, h⟩ := wtl_uncons h
  exact w2
theorem SFlashStep.wt_Data {x : SFlashStep} (h : WtL SFlashStep.ct x.enc) : WtC .str (.str x.Data) := by
  obtain ⟨w0, h⟩ := wtl_uncons h
  obtain ⟨w1, h⟩ := wtl_uncons h
  obtain ⟨w2, h⟩ := wtl_uncons h
  obtain ⟨w3, h⟩ := wtl_uncons h
  exact w3
theorem SFlashStep.eta {r : List DC} (h : WtL SFlashStep.ct r) : (SFlashStep.decAt r 0).enc = r := by
  have h : WtL (SFlashStep.ct ++ []) r := by simpa using h
  obtain ⟨x, ds, rfl, _, hn⟩ := SFlashStep.of_wt h
  obtain rfl := of_wt_nil hn
  rfl

structure SFlash where
  Banks : Rows
def SFlash.enc (x : SFlash) : List DC := [.sl x.Banks]
def SFlash.decAt (r : List DC) (o : Nat) : SFlash := ⟨rR r (o + 0)⟩
def SFlash.ct : List CT := [.sl [.str]]
theorem SFlash.of_wt {r : List CT} {ds : List DC} (h : WtL (SFlash.ct ++ r) ds) : ∃ (x : SFlash) (ds' : List DC), ds = x.enc ++ ds' ∧ WtL SFlash.ct x.enc ∧ WtL r ds' := by
  simp only [SFlash.ct, List.cons_append, List.nil_append, WtL, WtC] at h
  obtain ⟨_, _, rfl, ⟨a0, rfl, p0, q0⟩, h⟩ := h
  exact ⟨⟨a0⟩, _, rfl, by simp only [SFlash.ct, SFlash.enc, WtL, WtC]; exact ⟨_, _, rfl, ⟨_, rfl, p0, q0⟩, rfl⟩, h⟩
theorem SFlash.wt_Banks {x : SFlash} (h : WtL SFlash.ct x.enc) : WtC (.sl [.str]) (.sl x.Banks) := by
  obtain ⟨w0, h⟩ := wtl_uncons h
  exact w0
theorem SFlash.eta {r : List DC} (h : WtL SFlash.ct r) : (SFlash.decAt r 0).enc = r := by
  have h : WtL (SFlash.ct ++ []) r := by simpa using h
  obtain ⟨x, ds, rfl, _, hn⟩ := SFlash.of_wt h
  obtain rfl := of_wt_nil hn
  rfl

def laws_szFlashStep_t {α : Type} (k_ : Int → α) (a : SFlashStep) (left : Int) : α :=
  let z0 : Int := w64 (left - (len a.Data))
  bif decide (z0 < 0) then k_ (-1)
  else k_ z0
def laws_szFlashStep (a : SFlashStep) (left : Int) : Int := laws_szFlashStep_t id a left
theorem laws_szFlashStep_c {α : Type} (k_ : Int → α) (a : SFlashStep) (left : Int) : laws_szFlashStep_t k_ a left = k_ (laws_szFlashStep a left) := by
  exact cond_k rfl rfl

def laws_szFlashStepS_l0 {α : Type} (bad : α) (k_ : Int → α) (a : Rows) (ih0 : Int → Int → α) (left_1 : Int) (i : Int) : α :=
  let z0 : Int := laws_szFlashStep (SFlashStep.decAt (nth a (Int.toNat i)) 0) left_1
  bif decide (i < len a) then
    bif andt true (idx i a) then
      bif decide (z0 < 0) then k_ (-1)
      else ih0 z0 (w64 (i + 1))
    else bad
  else k_ left_1
def laws_szFlashStepS_L0 {α : Type} (bad : α) (k_ : Int → α) (N : Nat) (a : Rows) (m_ : Nat) : Int → Int → α :=
  Nat.rec (motive := fun _ => Int → Int → α) (fun _ _ => bad) (fun _ ih0 => laws_szFlashStepS_l0 bad k_ a ih0) m_
theorem laws_szFlashStepS_L0_z {α : Type} (bad : α) (k_ : Int → α) (N : Nat) (a : Rows) (left_1 : Int) (i : Int) : laws_szFlashStepS_L0 bad k_ N a 0 left_1 i = bad := rfl
theorem laws_szFlashStepS_L0_s {α : Type} (bad : α) (k_ : Int → α) (N : Nat) (a : Rows) (m_ : Nat) (left_1 : Int) (i : Int) : laws_szFlashStepS_L0 bad k_ N a (m_ + 1) left_1 i = laws_szFlashStepS_l0 bad k_ a (laws_szFlashStepS_L0 bad k_ N a m_) left_1 i := rfl
def laws_szFlashStepS_t {α : Type} (bad : α) (k_ : Int → α) (l0 : Int → Int → α) (a : Rows) (left : Int) : α :=
  bif decide (w64 (left - (len a)) < 0) then k_ (-1)
  else l0 (w64 (left - (len a))) 0
def laws_szFlashStepS_f {α : Type} (bad : α) (k_ : Int → α) (N : Nat) (a : Rows) (left : Int) : α := laws_szFlashStepS_t bad k_ (laws_szFlashStepS_L0 bad k_ N a N) a left
def laws_szFlashStepS (a : Rows) (left : Int) : Int := szAll (fun r l => laws_szFlashStep (SFlashStep.decAt r 0) l) a left
theorem laws_szFlashStepS_c {α : Type} (bad : α) (k_ : Int → α) (a : Rows) (left : Int) (h_a : WtC (.sl [.int .i64, .int .i64, .int .i64, .str]) (.sl a)) (h_left : WtC (.int .i64) (.int left)) : ∃ N, laws_szFlashStepS_f bad k_ N a left = k_ (laws_szFlashStepS a left) := by
  obtain ⟨hl, _⟩ := wt_sl h_a
  refine ⟨a.length + 1, ?_⟩
  unfold laws_szFlashStepS_f laws_szFlashStepS_t laws_szFlashStepS szAll
  refine cond_k rfl ?_
  refine (loop_rows a (fun n i l => laws_szFlashStepS_L0 bad k_ (a.length + 1) a n l i) (fun _ r c l => bif decide ((fun r l => laws_szFlashStep (SFlashStep.decAt r 0) l) r l < 0) then k_ (-1) else c ((fun r l => laws_szFlashStep (SFlashStep.decAt r 0) l) r l)) k_ ?_ ?_ _).trans (go_sz (fun r l => laws_szFlashStep (SFlashStep.decAt r 0) l) k_ a 0 _)
  · intro n i l h
    try dsimp only
    rw [laws_szFlashStepS_L0_s]
    simp only [laws_szFlashStepS_l0, lt_len h, idx_nat h, w64_succ h hl, Int.toNat_natCast, andt_true_l, andt_true_r, cond_true]
  · intro n l
    try dsimp only
    rw [laws_szFlashStepS_L0_s]
    simp only [laws_szFlashStepS_l0, not_lt_len, cond_false]

def laws_eqFlashStep_t {α : Type} (k_ : Bool → α) (a : SFlashStep) (b : SFlashStep) : α :=
  bif a.Kind != b.Kind then k_ false
  else bif a.Bank != b.Bank then k_ false
  else bif a.At != b.At then k_ false
  else bif !(a.Data == b.Data) then k_ false
  else k_ true
theorem laws_eqFlashStep_c {α : Type} (k_ : Bool → α) (a : SFlashStep) (b : SFlashStep) (h_a : WtL SFlashStep.ct a.enc) (h_b : WtL SFlashStep.ct b.enc) (hok : same a b = true) : laws_eqFlashStep_t k_ a b = k_ (yes2 a b) := by
  obtain rfl := same_eq hok
  simp only [laws_eqFlashStep_t, same_refl, yes2, bne_self_eq_false, beq_self_eq_true, Bool.not_true, cond_false, cond_true, andt_true_l, andt_true_r]

def laws_eqFlashStepS_l0 {α : Type} (bad : α) (k_ : Bool → α) (a : Rows) (b : Rows) (ih0 : Int → α) (i : Int) : α :=
  bif decide (i < len a) then
    bif andt (andt (andt true (idx i a)) (idx i b)) (same (SFlashStep.decAt (nth a (Int.toNat i)) 0) (SFlashStep.decAt (nth b (Int.toNat i)) 0)) then
      bif !(yes2 (SFlashStep.decAt (nth a (Int.toNat i)) 0) (SFlashStep.decAt (nth b (Int.toNat i)) 0)) then k_ false
      else ih0 (w64 (i + 1))
    else bad
  else k_ true
def laws_eqFlashStepS_L0 {α : Type} (bad : α) (k_ : Bool → α) (N : Nat) (a : Rows) (b : Rows) (m_ : Nat) : Int → α :=
  Nat.rec (motive := fun _ => Int → α) (fun _ => bad) (fun _ ih0 => laws_eqFlashStepS_l0 bad k_ a b ih0) m_
theorem laws_eqFlashStepS_L0_z {α : Type} (bad : α) (k_ : Bool → α) (N : Nat) (a : Rows) (b : Rows) (i : Int) : laws_eqFlashStepS_L0 bad k_ N a b 0 i = bad := rfl
theorem laws_eqFlashStepS_L0_s {α : Type} (bad : α) (k_ : Bool → α) (N : Nat) (a : Rows) (b : Rows) (m_ : Nat) (i : Int) : laws_eqFlashStepS_L0 bad k_ N a b (m_ + 1) i = laws_eqFlashStepS_l0 bad k_ a b (laws_eqFlashStepS_L0 bad k_ N a b m_) i := rfl
def laws_eqFlashStepS_t {α : Type} (bad : α) (k_ : Bool → α) (l0 : Int → α) (a : Rows) (b : Rows) : α :=
  bif (len a) != (len b) then k_ false
  else l0 0
def laws_eqFlashStepS_f {α : Type} (bad : α) (k_ : Bool → α) (N : Nat) (a : Rows) (b : Rows) : α := laws_eqFlashStepS_t bad k_ (laws_eqFlashStepS_L0 bad k_ N a b N) a b
theorem laws_eqFlashStepS_c {α : Type} (bad : α) (k_ : Bool → α) (a : Rows) (b : Rows) (h_a : WtC (.sl [.int .i64, .int .i64, .int .i64, .str]) (.sl a)) (h_b : WtC (.sl [.int .i64, .int .i64, .int .i64, .str]) (.sl b)) (hok : same a b = true) : ∃ N, laws_eqFlashStepS_f bad k_ N a b = k_ (yes2 a b) := by
  obtain rfl := same_eq hok
  obtain ⟨hl, _⟩ := wt_sl h_a
  refine ⟨a.length + 1, ?_⟩
  unfold laws_eqFlashStepS_f laws_eqFlashStepS_t
  simp only [bne_self_eq_false, cond_false]
  refine (loop_rows0 a (laws_eqFlashStepS_L0 bad k_ (a.length + 1) a a) (fun _ _ c => c) (k_ true) ?_ ?_).trans (go_skip _ _ _)
  · intro n i h
    rw [laws_eqFlashStepS_L0_s]
    simp only [laws_eqFlashStepS_l0, lt_len h, idx_nat h, w64_succ h hl, Int.toNat_natCast, andt_true_l, andt_true_r, cond_true, cond_false, bne_self_eq_false, beq_self_eq_true, Bool.not_true, same_refl, yes2]
  · intro n
    rw [laws_eqFlashStepS_L0_s]
    simp only [laws_eqFlashStepS_l0, not_lt_len, cond_false]

def laws_toStringS_l0 {α : Type} (bad : α) (k_ : Rows → α) (a : Rows) (ih0 : Int → Rows → α) (i : Int) (out_ : Rows) : α :=
  bif decide (i < len a) then
    bif andt (andt (andt true (idx i a)) (idx i out_)) (inl (Int.toNat i) out_) then
      ih0 (w64 (i + 1)) (List.set out_ (Int.toNat i) (splice (nth out_ (Int.toNat i)) 0 [.str (rS (nth a (Int.toNat i)) 0)]))
    else bad
  else k_ out_
def laws_toStringS_L0 {α : Type} (bad : α) (k_ : Rows → α) (N : Nat) (a : Rows) (m_ : Nat) : Int → Rows → α :=
  Nat.rec (motive := fun _ => Int → Rows → α) (fun _ _ => bad) (fun _ ih0 => laws_toStringS_l0 bad k_ a ih0) m_
theorem laws_toStringS_L0_z {α : Type} (bad : α) (k_ : Rows → α) (N : Nat) (a : Rows) (i : Int) (out_ : Rows) : laws_toStringS_L0 bad k_ N a 0 i out_ = bad := rfl
theorem laws_toStringS_L0_s {α : Type} (bad : α) (k_ : Rows → α) (N : Nat) (a : Rows) (m_ : Nat) (i : Int) (out_ : Rows) : laws_toStringS_L0 bad k_ N a (m_ + 1) i out_ = laws_toStringS_l0 bad k_ a (laws_toStringS_L0 bad k_ N a m_) i out_ := rfl
def laws_toStringS_t {α : Type} (bad : α) (k_ : Rows → α) (l0 : Int → Rows → α) (a : Rows) : α :=
  bif andt true (makeOk 16 (len a) (len a)) then
    l0 0 (List.replicate (Int.toNat (len a)) ([.str []]))
  else bad
def laws_toStringS_f {α : Type} (bad : α) (k_ : Rows → α) (N : Nat) (a : Rows) : α := laws_toStringS_t bad k_ (laws_toStringS_L0 bad k_ N a N) a
theorem laws_toStringS_c {α : Type} (bad : α) (k_ : Rows → α) (a : Rows) (h_a : WtC (.sl [.str]) (.sl a)) (hok : sm a = true) : ∃ N, laws_toStringS_f bad k_ N a = k_ (idf a) := by
  obtain ⟨hl, hw⟩ := wt_sl h_a
  have hsm := hok
  refine ⟨a.length + 1, ?_⟩
  unfold laws_toStringS_f laws_toStringS_t
  have e0 : Int.toNat (len a) = a.length := by simp [len]
  simp only [make_sm hsm (show 16 ≤ 8388608 by omega), andt_true_l, cond_true, e0]
  refine copy_set a (laws_toStringS_L0 bad k_ (a.length + 1) a) k_ [.str []] (fun o r => splice o 0 ([.str (rS r 0)])) ?_ ?_ ?_
  · intro n i out h ho
    rw [laws_toStringS_L0_s]
    simp only [laws_toStringS_l0, lt_len h, idx_nat h, idx_set ho h, inl_nat (show i < out.length by omega), w64_succ h hl, Int.toNat_natCast, andt_true_l, andt_true_r, cond_true]
    try rfl
  · intro n out ho
    rw [laws_toStringS_L0_s]
    simp only [laws_toStringS_l0, not_lt_len, cond_false]
  · intro r hr
    refine (splice_all ?_).trans ?_
    · rfl
    · exact row_str (hw r hr)

def laws_toFlashStep_t {α : Type} (k_ : SFlashStep → α) (a : SFlashStep) : α :=
  k_ a
theorem laws_toFlashStep_c {α : Type} (k_ : SFlashStep → α) (a : SFlashStep) (h_a : WtL SFlashStep.ct a.enc) : laws_toFlashStep_t k_ a = k_ (idf a) := by
  rfl

def laws_toFlashStepS_l0 {α : Type} (bad : α) (k_ : Rows → α) (a : Rows) (ih0 : Int → Rows → α) (i : Int) (out_ : Rows) : α :=
  bif decide (i < len a) then
    bif andt (andt (andt true (idx i a)) (idx i out_)) (inl (Int.toNat i) out_) then
      ih0 (w64 (i + 1)) (List.set out_ (Int.toNat i) (splice (nth out_ (Int.toNat i)) 0 (SFlashStep.enc (idf (SFlashStep.decAt (nth a (Int.toNat i)) 0)))))
    else bad
  else k_ out_
def laws_toFlashStepS_L0 {α : Type} (bad : α) (k_ : Rows → α) (N : Nat) (a : Rows) (m_ : Nat) : Int → Rows → α :=
  Nat.rec (motive := fun _ => Int → Rows → α) (fun _ _ => bad) (fun _ ih0 => laws_toFlashStepS_l0 bad k_ a ih0) m_
theorem laws_toFlashStepS_L0_z {α : Type} (bad : α) (k_ : Rows → α) (N : Nat) (a : Rows) (i : Int) (out_ : Rows) : laws_toFlashStepS_L0 bad k_ N a 0 i out_ = bad := rfl
theorem laws_toFlashStepS_L0_s {α : Type} (bad : α) (k_ : Rows → α) (N : Nat) (a : Rows) (m_ : Nat) (i : Int) (out_ : Rows) : laws_toFlashStepS_L0 bad k_ N a (m_ + 1) i out_ = laws_toFlashStepS_l0 bad k_ a (laws_toFlashStepS_L0 bad k_ N a m_) i out_ := rfl
def laws_toFlashStepS_t {α : Type} (bad : α) (k_ : Rows → α) (l0 : Int → Rows → α) (a : Rows) : α :=
  bif andt true (makeOk 40 (len a) (len a)) then
    l0 0 (List.replicate (Int.toNat (len a)) ([.int 0, .int 0, .int 0, .str []]))
  else bad
def laws_toFlashStepS_f {α : Type} (bad : α) (k_ : Rows → α) (N : Nat) (a : Rows) : α := laws_toFlashStepS_t bad k_ (laws_toFlashStepS_L0 bad k_ N a N) a
theorem laws_toFlashStepS_c {α : Type} (bad : α) (k_ : Rows → α) (a : Rows) (h_a : WtC (.sl [.int .i64, .int .i64, .int .i64, .str]) (.sl a)) (hok : sm a = true) : ∃ N, laws_toFlashStepS_f bad k_ N a = k_ (idf a) := by
  obtain ⟨hl, hw⟩ := wt_sl h_a
  have hsm := hok
  refine ⟨a.length + 1, ?_⟩
  unfold laws_toFlashStepS_f laws_toFlashStepS_t
  have e0 : Int.toNat (len a) = a.length := by simp [len]
  simp only [make_sm hsm (show 40 ≤ 8388608 by omega), andt_true_l, cond_true, e0]
  refine copy_set a (laws_toFlashStepS_L0 bad k_ (a.length + 1) a) k_ [.int 0, .int 0, .int 0, .str []] (fun o r => splice o 0 (SFlashStep.enc (idf (SFlashStep.decAt r 0)))) ?_ ?_ ?_
  · intro n i out h ho
    rw [laws_toFlashStepS_L0_s]
    simp only [laws_toFlashStepS_l0, lt_len h, idx_nat h, idx_set ho h, inl_nat (show i < out.length by omega), w64_succ h hl, Int.toNat_natCast, andt_true_l, andt_true_r, cond_true]
    try rfl
  · intro n out ho
    rw [laws_toFlashStepS_L0_s]
    simp only [laws_toFlashStepS_l0, not_lt_len, cond_false]
  · intro r hr
    refine (splice_all ?_).trans ?_
    · rfl
    · exact SFlashStep.eta (hw r hr)

def laws_szStringS_l0 {α : Type} (bad : α) (k_ : Int → α) (a : Rows) (ih0 : Int → Int → α) (left_1 : Int) (i : Int) : α :=
  let z0 : Int := w64 (left_1 - (len (rS (nth a (Int.toNat i)) 0)))
  bif decide (i < len a) then
    bif andt true (idx i a) then
      bif decide (z0 < 0) then k_ (-1)
      else ih0 z0 (w64 (i + 1))
    else bad
  else k_ left_1
def laws_szStringS_L0 {α : Type} (bad : α) (k_ : Int → α) (N : Nat) (a : Rows) (m_ : Nat) : Int → Int → α :=
  Nat.rec (motive := fun _ => Int → Int → α) (fun _ _ => bad) (fun _ ih0 => laws_szStringS_l0 bad k_ a ih0) m_
theorem laws_szStringS_L0_z {α : Type} (bad : α) (k_ : Int → α) (N : Nat) (a : Rows) (left_1 : Int) (i : Int) : laws_szStringS_L0 bad k_ N a 0 left_1 i = bad := rfl
theorem laws_szStringS_L0_s {α : Type} (bad : α) (k_ : Int → α) (N : Nat) (a : Rows) (m_ : Nat) (left_1 : Int) (i : Int) : laws_szStringS_L0 bad k_ N a (m_ + 1) left_1 i = laws_szStringS_l0 bad k_ a (laws_szStringS_L0 bad k_ N a m_) left_1 i := rfl
def laws_szStringS_t {α : Type} (bad : α) (k_ : Int → α) (l0 : Int → Int → α) (a : Rows) (left : Int) : α :=
  bif decide (w64 (left - (len a)) < 0) then k_ (-1)
  else l0 (w64 (left - (len a))) 0
def laws_szStringS_f {α : Type} (bad : α) (k_ : Int → α) (N : Nat) (a : Rows) (left : Int) : α := laws_szStringS_t bad k_ (laws_szStringS_L0 bad k_ N a N) a left
def laws_szStringS (a : Rows) (left : Int) : Int := szAll (fun r l => w64 (l - len (rS r 0))) a left
theorem laws_szStringS_c {α : Type} (bad : α) (k_ : Int → α) (a : Rows) (left : Int) (h_a : WtC (.sl [.str]) (.sl a)) (h_left : WtC (.int .i64) (.int left)) : ∃ N, laws_szStringS_f bad k_ N a left = k_ (laws_szStringS a left) := by
  obtain ⟨hl, _⟩ := wt_sl h_a
  refine ⟨a.length + 1, ?_⟩
  unfold laws_szStringS_f laws_szStringS_t laws_szStringS szAll
  refine cond_k rfl ?_
  refine (loop_rows a (fun n i l => laws_szStringS_L0 bad k_ (a.length + 1) a n l i) (fun _ r c l => bif decide ((fun r l => w64 (l - len (rS r 0))) r l < 0) then k_ (-1) else c ((fun r l => w64 (l - len (rS r 0))) r l)) k_ ?_ ?_ _).trans (go_sz (fun r l => w64 (l - len (rS r 0))) k_ a 0 _)
  · intro n i l h
    try dsimp only
    rw [laws_szStringS_L0_s]
    simp only [laws_szStringS_l0, lt_len h, idx_nat h, w64_succ h hl, Int.toNat_natCast, andt_true_l, andt_true_r, cond_true]
  · intro n l
    try dsimp only
    rw [laws_szStringS_L0_s]
    simp only [laws_szStringS_l0, not_lt_len, cond_false]

def laws_eqStringS_l0 {α : Type} (bad : α) (k_ : Bool → α) (a : Rows) (b : Rows) (ih0 : Int → α) (i : Int) : α :=
  bif decide (i < len a) then
    bif andt (andt true (idx i a)) (idx i b) then
      bif !((rS (nth a (Int.toNat i)) 0) == (rS (nth b (Int.toNat i)) 0)) then k_ false
      else ih0 (w64 (i + 1))
    else bad
  else k_ true
def laws_eqStringS_L0 {α : Type} (bad : α) (k_ : Bool → α) (N : Nat) (a : Rows) (b : Rows) (m_ : Nat) : Int → α :=
  Nat.rec (motive := fun _ => Int → α) (fun _ => bad) (fun _ ih0 => laws_eqStringS_l0 bad k_ a b ih0) m_
theorem laws_eqStringS_L0_z {α : Type} (bad : α) (k_ : Bool → α) (N : Nat) (a : Rows) (b : Rows) (i : Int) : laws_eqStringS_L0 bad k_ N a b 0 i = bad := rfl
theorem laws_eqStringS_L0_s {α : Type} (bad : α) (k_ : Bool → α) (N : Nat) (a : Rows) (b : Rows) (m_ : Nat) (i : Int) : laws_eqStringS_L0 bad k_ N a b (m_ + 1) i = laws_eqStringS_l0 bad k_ a b (laws_eqStringS_L0 bad k_ N a b m_) i := rfl
def laws_eqStringS_t {α : Type} (bad : α) (k_ : Bool → α) (l0 : Int → α) (a : Rows) (b : Rows) : α :=
  bif (len a) != (len b) then k_ false
  else l0 0
def laws_eqStringS_f {α : Type} (bad : α) (k_ : Bool → α) (N : Nat) (a : Rows) (b : Rows) : α := laws_eqStringS_t bad k_ (laws_eqStringS_L0 bad k_ N a b N) a b
theorem laws_eqStringS_c {α : Type} (bad : α) (k_ : Bool → α) (a : Rows) (b : Rows) (h_a : WtC (.sl [.str]) (.sl a)) (h_b : WtC (.sl [.str]) (.sl b)) (hok : same a b = true) : ∃ N, laws_eqStringS_f bad k_ N a b = k_ (yes2 a b) := by
  obtain rfl := same_eq hok
  obtain ⟨hl, _⟩ := wt_sl h_a
  refine ⟨a.length + 1, ?_⟩
  unfold laws_eqStringS_f laws_eqStringS_t
  simp only [bne_self_eq_false, cond_false]
  refine (loop_rows0 a (laws_eqStringS_L0 bad k_ (a.length + 1) a a) (fun _ _ c => c) (k_ true) ?_ ?_).trans (go_skip _ _ _)
  · intro n i h
    rw [laws_eqStringS_L0_s]
    simp only [laws_eqStringS_l0, lt_len h, idx_nat h, w64_succ h hl, Int.toNat_natCast, andt_true_l, andt_true_r, cond_true, cond_false, bne_self_eq_false, beq_self_eq_true, Bool.not_true, same_refl, yes2]
  · intro n
    rw [laws_eqStringS_L0_s]
    simp only [laws_eqStringS_l0, not_lt_len, cond_false]

def laws_toFlash_t {α : Type} (bad : α) (k_ : SFlash → α) (a : SFlash) : α :=
  bif andt true (sm a.Banks) then
    k_ (⟨idf a.Banks⟩ : SFlash)
  else bad
def laws_toFlash_ok (a : SFlash) : Bool := laws_toFlash_t false (fun _ => true) a
theorem laws_toFlash_c {α : Type} (bad : α) (k_ : SFlash → α) (a : SFlash) (h_a : WtL SFlash.ct a.enc) (hok : laws_toFlash_ok a = true) : laws_toFlash_t bad k_ a = k_ (idf a) := by
  exact guard_id (fun _ => rfl) hok

def laws_szFlash_t {α : Type} (k_ : Int → α) (a : SFlash) (left : Int) : α :=
  bif decide (laws_szStringS a.Banks left < 0) then k_ (-1)
  else k_ (laws_szStringS a.Banks left)
def laws_szFlash (a : SFlash) (left : Int) : Int := laws_szFlash_t id a left
theorem laws_szFlash_c {α : Type} (k_ : Int → α) (a : SFlash) (left : Int) : laws_szFlash_t k_ a left = k_ (laws_szFlash a left) := by
  exact cond_k rfl rfl

def laws_eqFlash_t {α : Type} (bad : α) (k_ : Bool → α) (a : SFlash) (b : SFlash) : α :=
  bif andt true (same a.Banks b.Banks) then
    bif !(yes2 a.Banks b.Banks) then k_ false
    else k_ true
  else bad
theorem laws_eqFlash_c {α : Type} (bad : α) (k_ : Bool → α) (a : SFlash) (b : SFlash) (h_a : WtL SFlash.ct a.enc) (h_b : WtL SFlash.ct b.enc) (hok : same a b = true) : laws_eqFlash_t bad k_ a b = k_ (yes2 a b) := by
  obtain rfl := same_eq hok
  simp only [laws_eqFlash_t, same_refl, yes2, bne_self_eq_false, beq_self_eq_true, Bool.not_true, cond_false, cond_true, andt_true_l, andt_true_r]

theorem laws_szFlashStep_ok {a : SFlashStep} {left : Int} (hwt : WtL SFlashStep.ct a.enc) (h1 : 0 ≤ left) (h2 : left ≤ 1048576) (h0 : 0 ≤ laws_szFlashStep a left) : laws_szFlashStep a left ≤ 1048576 ∧ True := by
  simp only [laws_szFlashStep, laws_szFlashStep_t, id] at h0 ⊢
  by_cases c0 : w64 (left - (len a.Data)) < 0
  · simp only [c0, decide_true, cond_true] at h0; omega
  simp only [c0, decide_false, cond_false] at h0 ⊢
  have k0 := sz_str (wt_str (SFlashStep.wt_Data hwt)) h1 h2 (Int.not_lt.1 c0)
  exact ⟨k0.1, trivial⟩

theorem laws_szFlashStepS_ok {a : Rows} {left : Int} (hwt : WtC (.sl [.int .i64, .int .i64, .int .i64, .str]) (.sl a)) (h1 : 0 ≤ left) (h2 : left ≤ 1048576) (h0 : 0 ≤ laws_szFlashStepS a left) : laws_szFlashStepS a left ≤ 1048576 ∧ sm a = true := by
  obtain ⟨hl, hw⟩ := wt_sl hwt
  have h3 := szAll_ok (P := fun _ => True) (fun r hr l hl0 hl1 h => ⟨(laws_szFlashStep_ok (by rw [SFlashStep.eta (hw r hr)]; exact hw r hr) hl0 hl1 h).1, trivial⟩) h1 h2 hl h0
  exact ⟨h3.1, h3.2.1⟩

theorem laws_szStringS_ok {a : Rows} {left : Int} (hwt : WtC (.sl [.str]) (.sl a)) (h1 : 0 ≤ left) (h2 : left ≤ 1048576) (h0 : 0 ≤ laws_szStringS a left) : laws_szStringS a left ≤ 1048576 ∧ sm a = true := by
  obtain ⟨hl, hw⟩ := wt_sl hwt
  have h3 := szAll_ok (P := fun _ => True) (fun r hr l hl0 hl1 h => ⟨(sz_str (wt_str (show WtC .str (.str (rS r 0)) by have := hw r hr; rw [← row_str this] at this; exact (wtl_uncons this).1)) hl0 hl1 h).1, trivial⟩) h1 h2 hl h0
  exact ⟨h3.1, h3.2.1⟩

theorem laws_szFlash_ok {a : SFlash} {left : Int} (hwt : WtL SFlash.ct a.enc) (h1 : 0 ≤ left) (h2 : left ≤ 1048576) (h0 : 0 ≤ laws_szFlash a left) : laws_szFlash a left ≤ 1048576 ∧ laws_toFlash_ok a = true := by
  simp only [laws_szFlash, laws_szFlash_t, id] at h0 ⊢
  by_cases c0 : laws_szStringS a.Banks left < 0
  · simp only [c0, decide_true, cond_true] at h0; omega
  simp only [c0, decide_false, cond_false] at h0 ⊢
  have k0 := laws_szStringS_ok (SFlash.wt_Banks hwt) h1 h2 (Int.not_lt.1 c0)
  exact ⟨k0.1, by simp only [laws_toFlash_ok, laws_toFlash_t, k0.2, andt_true_l, andt_true_r, cond_true]⟩


def laws_markText_l0 {α : Type} (bad : α) (k_ : Bytes → α) (ih0 : Int → Bytes → α) (k_1 : Int) (out_ : Bytes) : α :=
  bif decide (0 < k_1) then
    bif andt true (catOk (toStr ([[.int (IntKind.wrap .u8 (w64 (48 + (Int.tmod k_1 10))))]])) out_) then
      ih0 (w64 (Int.tdiv k_1 10)) ((toStr ([[.int (IntKind.wrap .u8 (w64 (48 + (Int.tmod k_1 10))))]])) ++ out_)
    else bad
  else bif andt true (catOk [109] out_) then
      k_ ([109] ++ out_)
    else bad
def laws_markText_L0 {α : Type} (bad : α) (k_ : Bytes → α) (N : Nat) (m_ : Nat) : Int → Bytes → α :=
  Nat.rec (motive := fun _ => Int → Bytes → α) (fun _ _ => bad) (fun _ ih0 => laws_markText_l0 bad k_ ih0) m_
theorem laws_markText_L0_z {α : Type} (bad : α) (k_ : Bytes → α) (N : Nat) (k_1 : Int) (out_ : Bytes) : laws_markText_L0 bad k_ N 0 k_1 out_ = bad := rfl
theorem laws_markText_L0_s {α : Type} (bad : α) (k_ : Bytes → α) (N : Nat) (m_ : Nat) (k_1 : Int) (out_ : Bytes) : laws_markText_L0 bad k_ N (m_ + 1) k_1 out_ = laws_markText_l0 bad k_ (laws_markText_L0 bad k_ N m_) k_1 out_ := rfl
def laws_markText_t {α : Type} (bad : α) (k_ : Bytes → α) (l0 : Int → Bytes → α) (k : Int) : α :=
  bif decide (k ≤ 0) then k_ [109, 48]
  else l0 k []
def laws_markText_f {α : Type} (bad : α) (k_ : Bytes → α) (N : Nat) (k : Int) : α := laws_markText_t bad k_ (laws_markText_L0 bad k_ N N) k
def mtD (k : Int) : Bytes := toStr ([[.int (IntKind.wrap .u8 (w64 (48 + (Int.tmod k 10))))]])
def mtl : Nat → Int → Bytes → Bytes
  | 0, _, o => o
  | n + 1, k, o => bif decide (0 < k) then mtl n (w64 (Int.tdiv k 10)) (mtD k ++ o) else o
def markText (k : Int) : Bytes := bif decide (k ≤ 0) then [109, 48] else [109] ++ mtl 25 k []
theorem laws_markText_c {α : Type} (bad : α) (k_ : Bytes → α) (k : Int) (h_k : WtC (.int .i64) (.int k)) : ∃ N, laws_markText_f bad k_ N k = k_ (markText k) := by
  have h63 := wt_int h_k
  refine ⟨26, ?_⟩
  have key : ∀ (n : Nat) (k : Int) (o : Bytes), 0 ≤ k → k ≤ 9223372036854775807 → k < 10 ^ n → o.length + n ≤ 100 →
      laws_markText_L0 bad k_ 26 (n + 1) k o = k_ ([109] ++ mtl n k o) := by
    intro n
    induction n with
    | zero =>
      intro k o h0 h1 h2 h3
      have : k = 0 := by simp only [Int.pow_zero] at h2; omega
      subst this
      rw [laws_markText_L0_s]
      have c1 : catOk [109] o = true := by simp only [catOk, List.length_cons, List.length_nil, decide_eq_true_eq]; omega
      simp only [laws_markText_l0, c1, andt_true_l, cond_true, mtl]
      rfl
    | succ n ih =>
      intro k o h0 h1 h2 h3
      rw [laws_markText_L0_s]
      have c1 : catOk [109] o = true := by simp only [catOk, List.length_cons, List.length_nil, decide_eq_true_eq]; omega
      by_cases hk : 0 < k
      · have l1 : (mtD k).length = 1 := rfl
        have c2 : catOk (mtD k) o = true := by simp only [catOk, l1, decide_eq_true_eq]; omega
        have e1 : Int.tdiv k 10 = k / 10 := Int.tdiv_eq_ediv_of_nonneg h0
        have e2 : w64 (Int.tdiv k 10) = k / 10 := by rw [e1]; exact w64_in (by omega) (by omega)
        have := ih (k / 10) (mtD k ++ o) (by omega) (by omega) (by rw [Int.pow_succ] at h2; omega) (by rw [List.length_append, l1]; omega)
        have hd : decide (0 < k) = true := decide_eq_true hk
        unfold laws_markText_l0 mtl
        rw [hd, e2]
        show (bif andt true (catOk (mtD k) o) then _ else bad) = _
        rw [c2]
        exact this
      · have hd : decide (0 < k) = false := decide_eq_false hk
        simp only [laws_markText_l0, hd, c1, andt_true_l, cond_true, cond_false, mtl]
  unfold laws_markText_f laws_markText_t markText
  by_cases h : k ≤ 0
  · simp only [decide_eq_true h, cond_true]
  · simp only [decide_eq_false h, cond_false]
    exact key 25 k [] (by omega) (by omega) (by omega) (by simp)

def laws_markStringS_l0 {α : Type} (bad : α) (k_ : Int → Rows → α) (ih0 : Int → Int → Rows → α) (k_1 : Int) (i : Int) (a_1 : Rows) : α :=
  bif decide (i < len a_1) then
    bif andt (andt true (idx i a_1)) (inl (Int.toNat i) a_1) then
      ih0 (w64 (k_1 + 1)) (w64 (i + 1)) (List.set a_1 (Int.toNat i) (splice (nth a_1 (Int.toNat i)) 0 [.str (markText k_1)]))
    else bad
  else k_ k_1 a_1
def laws_markStringS_L0 {α : Type} (bad : α) (k_ : Int → Rows → α) (N : Nat) (m_ : Nat) : Int → Int → Rows → α :=
  Nat.rec (motive := fun _ => Int → Int → Rows → α) (fun _ _ _ => bad) (fun _ ih0 => laws_markStringS_l0 bad k_ ih0) m_
theorem laws_markStringS_L0_z {α : Type} (bad : α) (k_ : Int → Rows → α) (N : Nat) (k_1 : Int) (i : Int) (a_1 : Rows) : laws_markStringS_L0 bad k_ N 0 k_1 i a_1 = bad := rfl
theorem laws_markStringS_L0_s {α : Type} (bad : α) (k_ : Int → Rows → α) (N : Nat) (m_ : Nat) (k_1 : Int) (i : Int) (a_1 : Rows) : laws_markStringS_L0 bad k_ N (m_ + 1) k_1 i a_1 = laws_markStringS_l0 bad k_ (laws_markStringS_L0 bad k_ N m_) k_1 i a_1 := rfl
def laws_markStringS_t {α : Type} (bad : α) (k_ : Int → Rows → α) (l0 : Int → Int → Rows → α) (a : Rows) (k : Int) : α :=
  l0 k 0 a
def laws_markStringS_f {α : Type} (bad : α) (k_ : Int → Rows → α) (N : Nat) (a : Rows) (k : Int) : α := laws_markStringS_t bad k_ (laws_markStringS_L0 bad k_ N N) a k
def fStringS (k : Int) : List DC := [.str (markText k)]
def markStringS (a : Rows) (k : Int) : Int × Rows := (k + 1 * a.length, mkl fStringS 1 a.length k)
theorem laws_markStringS_c {α : Type} (bad : α) (k_ : Int → Rows → α) (a : Rows) (k : Int) (h_a : WtC (.sl [.str]) (.sl a)) (h_k : WtC (.int .i64) (.int k)) (hok : mko 1 a k = true) : ∃ N, laws_markStringS_f bad k_ N a k = k_ (markStringS a k).1 (markStringS a k).2 := by
  obtain ⟨hl, hw⟩ := wt_sl h_a
  obtain ⟨h1, h2, h3⟩ := mko_of hok
  refine ⟨a.length + 1, ?_⟩
  unfold laws_markStringS_f laws_markStringS_t markStringS
  refine mark_loop a k 1 fStringS (laws_markStringS_L0 bad k_ (a.length + 1)) k_ ?_ ?_
  · intro n i b h hb hn
    rw [laws_markStringS_L0_s]
    have w1 : w64 (k + 1 * (i : Int) + 1) = k + 1 * (i : Int) + 1 := w64_in (by omega) (by omega)
    have hs : splice (nth a i) 0 (fStringS (k + 1 * (i : Int))) = fStringS (k + 1 * (i : Int)) := splice_all (by rw [wtl_len (hw (nth a i) (nth_mem h))]; rfl)
    simp only [laws_markStringS_l0, lt_len (show i < b.length by omega), idx_nat (show i < b.length by omega), inl_nat (show i < b.length by omega), w64_succ h hl, Int.toNat_natCast, andt_true_l, andt_true_r, cond_true, hn, w1]
    rw [← hs]; rfl
  · intro n b hb
    rw [laws_markStringS_L0_s]
    simp only [laws_markStringS_l0, ← hb, not_lt_len, cond_false]

def laws_heldStringS_l0 {α : Type} (bad : α) (k_ : Int → α) (a : Rows) (ih0 : Int → Int → α) (k_1 : Int) (i : Int) : α :=
  bif decide (i < len a) then
    bif andt true (idx i a) then
      bif !((rS (nth a (Int.toNat i)) 0) == (markText k_1)) then k_ (-1)
      else ih0 (w64 (k_1 + 1)) (w64 (i + 1))
    else bad
  else k_ k_1
def laws_heldStringS_L0 {α : Type} (bad : α) (k_ : Int → α) (N : Nat) (a : Rows) (m_ : Nat) : Int → Int → α :=
  Nat.rec (motive := fun _ => Int → Int → α) (fun _ _ => bad) (fun _ ih0 => laws_heldStringS_l0 bad k_ a ih0) m_
theorem laws_heldStringS_L0_z {α : Type} (bad : α) (k_ : Int → α) (N : Nat) (a : Rows) (k_1 : Int) (i : Int) : laws_heldStringS_L0 bad k_ N a 0 k_1 i = bad := rfl
theorem laws_heldStringS_L0_s {α : Type} (bad : α) (k_ : Int → α) (N : Nat) (a : Rows) (m_ : Nat) (k_1 : Int) (i : Int) : laws_heldStringS_L0 bad k_ N a (m_ + 1) k_1 i = laws_heldStringS_l0 bad k_ a (laws_heldStringS_L0 bad k_ N a m_) k_1 i := rfl
def laws_heldStringS_t {α : Type} (bad : α) (k_ : Int → α) (l0 : Int → Int → α) (a : Rows) (k : Int) : α :=
  l0 k 0
def laws_heldStringS_f {α : Type} (bad : α) (k_ : Int → α) (N : Nat) (a : Rows) (k : Int) : α := laws_heldStringS_t bad k_ (laws_heldStringS_L0 bad k_ N a N) a k
def heldStringS (a : Rows) (k : Int) : Int := k + 1 * a.length
theorem laws_heldStringS_c {α : Type} (bad : α) (k_ : Int → α) (a : Rows) (k : Int) (h_a : WtC (.sl [.str]) (.sl a)) (h_k : WtC (.int .i64) (.int k)) (hok : hdo fStringS 1 a k = true) : ∃ N, laws_heldStringS_f bad k_ N a k = k_ (heldStringS a k) := by
  obtain ⟨hl, hw⟩ := wt_sl h_a
  obtain ⟨h0, h1, h2, h3⟩ := hdo_of hok
  refine ⟨a.length + 1, ?_⟩
  unfold laws_heldStringS_f laws_heldStringS_t heldStringS
  refine held_loop a k 1 fStringS (laws_heldStringS_L0 bad k_ (a.length + 1) a) k_ h0 ?_ ?_
  · intro n i h hn
    rw [laws_heldStringS_L0_s]
    have w1 : w64 (k + 1 * (i : Int) + 1) = k + 1 * (i : Int) + 1 := w64_in (by omega) (by omega)
    simp only [laws_heldStringS_l0, lt_len h, idx_nat h, w64_succ h hl, Int.toNat_natCast, andt_true_l, andt_true_r, cond_true, hn, w1, rS_one, beq_self_eq_true, Bool.not_true, fStringS, cond_false]
  · intro n
    rw [laws_heldStringS_L0_s]
    simp only [laws_heldStringS_l0, not_lt_len, cond_false]

def laws_markFlashStepS_l0 {α : Type} (bad : α) (k_ : Int → Rows → α) (ih0 : Int → Int → Rows → α) (k_1 : Int) (i : Int) (a_1 : Rows) : α :=
  let z0 : Rows := List.set a_1 (Int.toNat i) (splice (nth a_1 (Int.toNat i)) 0 [.int k_1])
  let z1 : Rows := List.set z0 (Int.toNat i) (splice (nth z0 (Int.toNat i)) 1 [.int (w64 (k_1 + 1))])
  let z2 : Int := w64 ((w64 (k_1 + 1)) + 1)
  let z3 : Rows := List.set z1 (Int.toNat i) (splice (nth z1 (Int.toNat i)) 2 [.int z2])
  let z4 : Int := w64 (z2 + 1)
  bif decide (i < len a_1) then
    bif andt (andt true (idx i a_1)) (inl (Int.toNat i) a_1) then
      bif andt (andt true (idx i z0)) (inl (Int.toNat i) z0) then
        bif andt (andt true (idx i z1)) (inl (Int.toNat i) z1) then
          bif andt (andt true (idx i z3)) (inl (Int.toNat i) z3) then
            ih0 (w64 (z4 + 1)) (w64 (i + 1)) (List.set z3 (Int.toNat i) (splice (nth z3 (Int.toNat i)) 3 [.str (markText z4)]))
          else bad
        else bad
      else bad
    else bad
  else k_ k_1 a_1
def laws_markFlashStepS_L0 {α : Type} (bad : α) (k_ : Int → Rows → α) (N : Nat) (m_ : Nat) : Int → Int → Rows → α :=
  Nat.rec (motive := fun _ => Int → Int → Rows → α) (fun _ _ _ => bad) (fun _ ih0 => laws_markFlashStepS_l0 bad k_ ih0) m_
theorem laws_markFlashStepS_L0_z {α : Type} (bad : α) (k_ : Int → Rows → α) (N : Nat) (k_1 : Int) (i : Int) (a_1 : Rows) : laws_markFlashStepS_L0 bad k_ N 0 k_1 i a_1 = bad := rfl
theorem laws_markFlashStepS_L0_s {α : Type} (bad : α) (k_ : Int → Rows → α) (N : Nat) (m_ : Nat) (k_1 : Int) (i : Int) (a_1 : Rows) : laws_markFlashStepS_L0 bad k_ N (m_ + 1) k_1 i a_1 = laws_markFlashStepS_l0 bad k_ (laws_markFlashStepS_L0 bad k_ N m_) k_1 i a_1 := rfl
def laws_markFlashStepS_t {α : Type} (bad : α) (k_ : Int → Rows → α) (l0 : Int → Int → Rows → α) (a : Rows) (k : Int) : α :=
  l0 k 0 a
def laws_markFlashStepS_f {α : Type} (bad : α) (k_ : Int → Rows → α) (N : Nat) (a : Rows) (k : Int) : α := laws_markFlashStepS_t bad k_ (laws_markFlashStepS_L0 bad k_ N N) a k
def fFlashStepS (k : Int) : List DC := [.int (k), .int (k + 1), .int (k + 1 + 1), .str (markText (k + 1 + 1 + 1))]
def markFlashStepS (a : Rows) (k : Int) : Int × Rows := (k + 4 * a.length, mkl fFlashStepS 4 a.length k)
theorem laws_markFlashStepS_c {α : Type} (bad : α) (k_ : Int → Rows → α) (a : Rows) (k : Int) (h_a : WtC (.sl [.int .i64, .int .i64, .int .i64, .str]) (.sl a)) (h_k : WtC (.int .i64) (.int k)) (hok : mko 4 a k = true) : ∃ N, laws_markFlashStepS_f bad k_ N a k = k_ (markFlashStepS a k).1 (markFlashStepS a k).2 := by
  obtain ⟨hl, hw⟩ := wt_sl h_a
  obtain ⟨h1, h2, h3⟩ := mko_of hok
  refine ⟨a.length + 1, ?_⟩
  unfold laws_markFlashStepS_f laws_markFlashStepS_t markFlashStepS
  refine mark_loop a k 4 fFlashStepS (laws_markFlashStepS_L0 bad k_ (a.length + 1)) k_ ?_ ?_
  · intro n i b h hb hn
    rw [laws_markFlashStepS_L0_s]
    have hk0 : 0 ≤ k + 4 * (i : Int) := by omega
    have hk1 : k + 4 * (i : Int) ≤ 1125901000000000000 := by omega
    generalize k + 4 * (i : Int) = K at hk0 hk1 ⊢
    have w1 : w64 (K + 1) = K + 1 := w64_in (by omega) (by omega)
    have w2 : w64 (K + 1 + 1) = K + 1 + 1 := w64_in (by omega) (by omega)
    have w3 : w64 (K + 1 + 1 + 1) = K + 1 + 1 + 1 := w64_in (by omega) (by omega)
    have w4 : w64 (K + 1 + 1 + 1 + 1) = K + 1 + 1 + 1 + 1 := w64_in (by omega) (by omega)
    have hr := wtl_len (hw (nth a i) (nth_mem h))
    simp only [laws_markFlashStepS_l0, lt_len (show i < b.length by omega), idx_nat (show i < b.length by omega), inl_nat (show i < b.length by omega), w64_succ h hl, Int.toNat_natCast, andt_true_l, andt_true_r, cond_true, hn, w1, w2, w3, w4, idx_setl, inl_setl, List.set_set, nth_setl (show i < b.length by omega)]
    generalize nth a i = r at hr
    rw [show K + 1 + 1 + 1 + 1 = K + 4 by omega]
    congr 2
    match r, hr with
    | [_, _, _, _], _ => rfl
  · intro n b hb
    rw [laws_markFlashStepS_L0_s]
    simp only [laws_markFlashStepS_l0, ← hb, not_lt_len, cond_false]

def laws_heldFlashStepS_l0 {α : Type} (bad : α) (k_ : Int → α) (a : Rows) (ih0 : Int → Int → α) (k_1 : Int) (i : Int) : α :=
  let z0 : Int := w64 ((w64 (k_1 + 1)) + 1)
  let z1 : Int := w64 (z0 + 1)
  bif decide (i < len a) then
    bif andt true (idx i a) then
      bif (rI (nth a (Int.toNat i)) 0) != k_1 then k_ (-1)
      else bif andt true (idx i a) then
          bif (rI (nth a (Int.toNat i)) 1) != (w64 (k_1 + 1)) then k_ (-1)
          else bif andt true (idx i a) then
              bif (rI (nth a (Int.toNat i)) 2) != z0 then k_ (-1)
              else bif andt true (idx i a) then
                  bif !((rS (nth a (Int.toNat i)) 3) == (markText z1)) then k_ (-1)
                  else ih0 (w64 (z1 + 1)) (w64 (i + 1))
                else bad
            else bad
        else bad
    else bad
  else k_ k_1
def laws_heldFlashStepS_L0 {α : Type} (bad : α) (k_ : Int → α) (N : Nat) (a : Rows) (m_ : Nat) : Int → Int → α :=
  Nat.rec (motive := fun _ => Int → Int → α) (fun _ _ => bad) (fun _ ih0 => laws_heldFlashStepS_l0 bad k_ a ih0) m_
theorem laws_heldFlashStepS_L0_z {α : Type} (bad : α) (k_ : Int → α) (N : Nat) (a : Rows) (k_1 : Int) (i : Int) : laws_heldFlashStepS_L0 bad k_ N a 0 k_1 i = bad := rfl
theorem laws_heldFlashStepS_L0_s {α : Type} (bad : α) (k_ : Int → α) (N : Nat) (a : Rows) (m_ : Nat) (k_1 : Int) (i : Int) : laws_heldFlashStepS_L0 bad k_ N a (m_ + 1) k_1 i = laws_heldFlashStepS_l0 bad k_ a (laws_heldFlashStepS_L0 bad k_ N a m_) k_1 i := rfl
def laws_heldFlashStepS_t {α : Type} (bad : α) (k_ : Int → α) (l0 : Int → Int → α) (a : Rows) (k : Int) : α :=
  l0 k 0
def laws_heldFlashStepS_f {α : Type} (bad : α) (k_ : Int → α) (N : Nat) (a : Rows) (k : Int) : α := laws_heldFlashStepS_t bad k_ (laws_heldFlashStepS_L0 bad k_ N a N) a k
def heldFlashStepS (a : Rows) (k : Int) : Int := k + 4 * a.length
theorem laws_heldFlashStepS_c {α : Type} (bad : α) (k_ : Int → α) (a : Rows) (k : Int) (h_a : WtC (.sl [.int .i64, .int .i64, .int .i64, .str]) (.sl a)) (h_k : WtC (.int .i64) (.int k)) (hok : hdo fFlashStepS 4 a k = true) : ∃ N, laws_heldFlashStepS_f bad k_ N a k = k_ (heldFlashStepS a k) := by
  obtain ⟨hl, hw⟩ := wt_sl h_a
  obtain ⟨h0, h1, h2, h3⟩ := hdo_of hok
  refine ⟨a.length + 1, ?_⟩
  unfold laws_heldFlashStepS_f laws_heldFlashStepS_t heldFlashStepS
  refine held_loop a k 4 fFlashStepS (laws_heldFlashStepS_L0 bad k_ (a.length + 1) a) k_ h0 ?_ ?_
  · intro n i h hn
    rw [laws_heldFlashStepS_L0_s]
    have hk0 : 0 ≤ k + 4 * (i : Int) := by omega
    have hk1 : k + 4 * (i : Int) ≤ 1125901000000000000 := by omega
    generalize k + 4 * (i : Int) = K at hn hk0 hk1 ⊢
    have w1 : w64 (K + 1) = K + 1 := w64_in (by omega) (by omega)
    have w2 : w64 (K + 1 + 1) = K + 1 + 1 := w64_in (by omega) (by omega)
    have w3 : w64 (K + 1 + 1 + 1) = K + 1 + 1 + 1 := w64_in (by omega) (by omega)
    have w4 : w64 (K + 1 + 1 + 1 + 1) = K + 1 + 1 + 1 + 1 := w64_in (by omega) (by omega)
    have r0 : rI (nth a i) 0 = K := by rw [hn]; rfl
    have r1 : rI (nth a i) 1 = K + 1 := by rw [hn]; rfl
    have r2 : rI (nth a i) 2 = K + 1 + 1 := by rw [hn]; rfl
    have r3 : rS (nth a i) 3 = markText (K + 1 + 1 + 1) := by rw [hn]; rfl
    simp only [laws_heldFlashStepS_l0, lt_len h, idx_nat h, w64_succ h hl, Int.toNat_natCast, andt_true_l, andt_true_r, cond_true, w1, w2, w3, w4, r0, r1, r2, r3, bne_self_eq_false, beq_self_eq_true, Bool.not_true, cond_false]
    rw [show K + 1 + 1 + 1 + 1 = K + 4 by omega]
  · intro n
    rw [laws_heldFlashStepS_L0_s]
    simp only [laws_heldFlashStepS_l0, not_lt_len, cond_false]

end
end Go.Proofs.Ytjknoknkbfhelaa.Pl
