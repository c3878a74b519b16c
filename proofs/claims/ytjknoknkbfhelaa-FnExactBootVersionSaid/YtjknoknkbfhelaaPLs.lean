/- What functions of the program compute, in plain Lean, as the value machine runs them. Conditions: none. -/
import Derived.Test.YtjknoknkbfhelaaPre
import Derived.Test.YtjknoknkbfhelaaLem
set_option linter.unusedVariables false
set_option linter.unusedSimpArgs false
namespace Go.Proofs.Ytjknoknkbfhelaa.Pl
open Vm
noncomputable section

structure SFlashStep where
  Kind : Int
  Bank : Int
  At : Int
  Data : Bytes
def SFlashStep.enc (x : SFlashStep) : List DC := [.int x.Kind, .int x.Bank, .int x.At, .str x.Data]
def SFlashStep.decAt (r : List DC) (o : Nat) : SFlashStep := ⟨rI r (o + 0), rI r (o + 1), rI r (o + 2), rS r (o + 3)⟩
def SFlashStep.ct : List CT := [.int .i64, .int .i64, .int .i64, .str]
theorem SFlashStep.of_wt {r : List CT} {ds : List DC} (h : WtL (SFlashStep.ct ++ r) ds) : ∃ (x : SFlashStep) (ds' : List DC), ds = x.enc ++ ds' ∧ WtL SFlashStep.ct x.enc ∧ WtL r ds' := by
  simp only [SFlashStep.ct, List.cons_append, List.nil_append, WtL, WtC] at h
  obtain ⟨_, _, rfl, ⟨a0, rfl, p0⟩, _, _, rfl, ⟨a1, rfl, p1⟩, _, _, rfl, ⟨a2, rfl, p2⟩, _, _, rfl, ⟨a3, rfl, p3⟩, h⟩ := h
  exact ⟨⟨a0, a1, a2, a3⟩, _, rfl, by simp only [SFlashStep.ct, SFlashStep.enc, WtL, WtC]; exact ⟨_, _, rfl, ⟨_, rfl, p0⟩, _, _, rfl, ⟨_, rfl, p1⟩, _, _, rfl, ⟨_, rfl, p2⟩, _, _, rfl, ⟨_, rfl, p3⟩, rfl⟩, h⟩
theorem SFlashStep.wt_Kind {x : SFlashStep} (h : WtL SFlashStep.ct x.enc) : WtC (.int .i64) (.int x.Kind) := by
  obtain ⟨w0, h⟩ := wtl_uncons h
  obtain ⟨w1, h⟩ := wtl_uncons h
  obtain ⟨w2, h⟩ := wtl_uncons h
  obtain ⟨w3, h⟩ := wtl_uncons h
  exact w0
theorem SFlashStep.wt_Bank {x : SFlashStep} (h : WtL SFlashStep.ct x.enc) : WtC (.int .i64) (.int x.Bank) := by
  obtain ⟨w0, h⟩ := wtl_uncons h
  obtain ⟨w1, h⟩ := wtl_uncons h
  obtain ⟨w2, h⟩ := wtl_uncons h
  obtain ⟨w3, h⟩ := wtl_uncons h
  exact w1
theorem SFlashStep.wt_At {x : SFlashStep} (h : WtL SFlashStep.ct x.enc) : WtC (.int .i64) (.int x.At) := by
  obtain ⟨w0, h⟩ := wtl_uncons h
  obtain ⟨w1, h⟩ := wtl_uncons h
  obtain ⟨w2, h⟩ := wtl_uncons h
  obtain ⟨w3, h⟩ := wtl_uncons h
  exact w2
theorem SFlashStep.wt_Data {x : SFlashStep} (h : WtL SFlashStep.ct x.enc) : WtC .str (.str x.Data) := by
  obtain ⟨w0, h⟩ := wtl_uncons h
  obtain ⟨w1, h⟩ := wtl_uncons h
  obtain ⟨w2, h⟩ := wtl_uncons h
  obtain ⟨w3, h⟩ := wtl_uncons h
  exact w3
theorem SFlashStep.eta {r : List DC} (h : WtL SFlashStep.ct r) : (SFlashStep.decAt r 0).enc = r := by
  have h : WtL (SFlashStep.ct ++ []) r := by simpa using h
  obtain ⟨x, ds, rfl, _, hn⟩ := SFlashStep.of_wt h
  obtain rfl := of_wt_nil hn
  rfl

structure SFlash where
  Banks : Rows
def SFlash.enc (x : SFlash) : List DC := [.sl x.Banks]
def SFlash.decAt (r : List DC) (o : Nat) : SFlash := ⟨rR r (o + 0)⟩
def SFlash.ct : List CT := [.sl [.str]]
theorem SFlash.of_wt {r : List CT} {ds : List DC} (h : WtL (SFlash.ct ++ r) ds) : ∃ (x : SFlash) (ds' : List DC), ds = x.enc ++ ds' ∧ WtL SFlash.ct x.enc ∧ WtL r ds' := by
  simp only [SFlash.ct, List.cons_append, List.nil_append, WtL, WtC] at h
  obtain ⟨_, _, rfl, ⟨a0, rfl, p0, q0⟩, h⟩ := h
  exact ⟨⟨a0⟩, _, rfl, by simp only [SFlash.ct, SFlash.enc, WtL, WtC]; exact ⟨_, _, rfl, ⟨_, rfl, p0, q0⟩, rfl⟩, h⟩
theorem SFlash.wt_Banks {x : SFlash} (h : WtL SFlash.ct x.enc) : WtC (.sl [.str]) (.sl x.Banks) := by
  obtain ⟨w0, h⟩ := wtl_uncons h
  exact w0
theorem SFlash.eta {r : List DC} (h : WtL SFlash.ct r) : (SFlash.decAt r 0).enc = r := by
  have h : WtL (SFlash.ct ++ []) r := by simpa using h
  obtain ⟨x, ds, rfl, _, hn⟩ := SFlash.of_wt h
  obtain rfl := of_wt_nil hn
  rfl

def laws_szFlashStep_t {α : Type} (k_ : Int → α) (a : SFlashStep) (left : Int) : α :=
  let z0 : Int := w64 (left - (len a.Data))
  bif decide (z0 < 0) then k_ (-1)
  else k_ z0
def laws_szFlashStep (a : SFlashStep) (left : Int) : Int := laws_szFlashStep_t id a left
theorem laws_szFlashStep_c {α : Type} (k_ : Int → α) (a : SFlashStep) (left : Int) : laws_szFlashStep_t k_ a left = k_ (laws_szFlashStep a left) := by
  exact cond_k rfl rfl

def laws_szFlashStepS_l0 {α : Type} (bad : α) (k_ : Int → α) (a : Rows) (ih0 : Int → Int → α) (left_1 : Int) (i : Int) : α :=
  let z0 : Int := laws_szFlashStep (SFlashStep.decAt (nth a (Int.toNat i)) 0) left_1
  bif decide (i < len a) then
    bif andt true (idx i a) then
      bif decide (z0 < 0) then k_ (-1)
      else ih0 z0 (w64 (i + 1))
    else bad
  else k_ left_1
def laws_szFlashStepS_L0 {α : Type} (bad : α) (k_ : Int → α) (N : Nat) (a : Rows) (m_ : Nat) : Int → Int → α :=
  Nat.rec (motive := fun _ => Int → Int → α) (fun _ _ => bad) (fun _ ih0 => laws_szFlashStepS_l0 bad k_ a ih0) m_
theorem laws_szFlashStepS_L0_z {α : Type} (bad : α) (k_ : Int → α) (N : Nat) (a : Rows) (left_1 : Int) (i : Int) : laws_szFlashStepS_L0 bad k_ N a 0 left_1 i = bad := rfl
theorem laws_szFlashStepS_L0_s {α : Type} (bad : α) (k_ : Int → α) (N : Nat) (a : Rows) (m_ : Nat) (left_1 : Int) (i : Int) : laws_szFlashStepS_L0 bad k_ N a (m_ + 1) left_1 i = laws_szFlashStepS_l0 bad k_ a (laws_szFlashStepS_L0 bad k_ N a m_) left_1 i := rfl
def laws_szFlashStepS_t {α : Type} (bad : α) (k_ : Int → α) (l0 : Rows → Int → Int → α) (a : Rows) (left : Int) : α :=
  bif decide (w64 (left - (len a)) < 0) then k_ (-1)
  else l0 a (w64 (left - (len a))) 0
def laws_szFlashStepS_f {α : Type} (bad : α) (k_ : Int → α) (N : Nat) (a : Rows) (left : Int) : α := laws_szFlashStepS_t bad k_ (fun a => laws_szFlashStepS_L0 bad k_ N a N) a left
def laws_szFlashStepS (a : Rows) (left : Int) : Int := szAll (fun r l => laws_szFlashStep (SFlashStep.decAt r 0) l) a left
theorem laws_szFlashStepS_c {α : Type} (bad : α) (k_ : Int → α) (a : Rows) (left : Int) (h_a : WtC (.sl [.int .i64, .int .i64, .int .i64, .str]) (.sl a)) (h_left : WtC (.int .i64) (.int left)) : ∃ N, laws_szFlashStepS_f bad k_ N a left = k_ (laws_szFlashStepS a left) := by
  obtain ⟨hl, _⟩ := wt_sl h_a
  refine ⟨a.length + 1, ?_⟩
  unfold laws_szFlashStepS_f laws_szFlashStepS_t laws_szFlashStepS szAll
  refine cond_k rfl ?_
  refine (loop_rows a (fun n i l => laws_szFlashStepS_L0 bad k_ (a.length + 1) a n l i) (fun _ r c l => bif decide ((fun r l => laws_szFlashStep (SFlashStep.decAt r 0) l) r l < 0) then k_ (-1) else c ((fun r l => laws_szFlashStep (SFlashStep.decAt r 0) l) r l)) k_ ?_ ?_ _).trans (go_sz (fun r l => laws_szFlashStep (SFlashStep.decAt r 0) l) k_ a 0 _)
  · intro n i l h
    try dsimp only
    rw [laws_szFlashStepS_L0_s]
    simp only [laws_szFlashStepS_l0, lt_len h, idx_nat h, w64_succ h hl, Int.toNat_natCast, andt_true_l, andt_true_r, cond_true]
  · intro n l
    try dsimp only
    rw [laws_szFlashStepS_L0_s]
    simp only [laws_szFlashStepS_l0, not_lt_len, cond_false]

def laws_eqFlashStep_t {α : Type} (k_ : Bool → α) (a : SFlashStep) (b : SFlashStep) : α :=
  bif a.Kind != b.Kind then k_ false
  else bif a.Bank != b.Bank then k_ false
  else bif a.At != b.At then k_ false
  else bif !(a.Data == b.Data) then k_ false
  else k_ true
theorem laws_eqFlashStep_c {α : Type} (k_ : Bool → α) (a : SFlashStep) (b : SFlashStep) (h_a : WtL SFlashStep.ct a.enc) (h_b : WtL SFlashStep.ct b.enc) (hok : same a b = true) : laws_eqFlashStep_t k_ a b = k_ (yes2 a b) := by
  obtain rfl := same_eq hok
  simp only [laws_eqFlashStep_t, same_refl, yes2, bne_self_eq_false, beq_self_eq_true, Bool.not_true, cond_false, cond_true, andt_true_l, andt_true_r]

def laws_eqFlashStepS_l0 {α : Type} (bad : α) (k_ : Bool → α) (a : Rows) (b : Rows) (ih0 : Int → α) (i : Int) : α :=
  bif decide (i < len a) then
    bif andt (andt (andt true (idx i a)) (idx i b)) (same (SFlashStep.decAt (nth a (Int.toNat i)) 0) (SFlashStep.decAt (nth b (Int.toNat i)) 0)) then
      bif !(yes2 (SFlashStep.decAt (nth a (Int.toNat i)) 0) (SFlashStep.decAt (nth b (Int.toNat i)) 0)) then k_ false
      else ih0 (w64 (i + 1))
    else bad
  else k_ true
def laws_eqFlashStepS_L0 {α : Type} (bad : α) (k_ : Bool → α) (N : Nat) (a : Rows) (b : Rows) (m_ : Nat) : Int → α :=
  Nat.rec (motive := fun _ => Int → α) (fun _ => bad) (fun _ ih0 => laws_eqFlashStepS_l0 bad k_ a b ih0) m_
theorem laws_eqFlashStepS_L0_z {α : Type} (bad : α) (k_ : Bool → α) (N : Nat) (a : Rows) (b : Rows) (i : Int) : laws_eqFlashStepS_L0 bad k_ N a b 0 i = bad := rfl
theorem laws_eqFlashStepS_L0_s {α : Type} (bad : α) (k_ : Bool → α) (N : Nat) (a : Rows) (b : Rows) (m_ : Nat) (i : Int) : laws_eqFlashStepS_L0 bad k_ N a b (m_ + 1) i = laws_eqFlashStepS_l0 bad k_ a b (laws_eqFlashStepS_L0 bad k_ N a b m_) i := rfl
def laws_eqFlashStepS_t {α : Type} (bad : α) (k_ : Bool → α) (l0 : Rows → Rows → Int → α) (a : Rows) (b : Rows) : α :=
  bif (len a) != (len b) then k_ false
  else l0 a b 0
def laws_eqFlashStepS_f {α : Type} (bad : α) (k_ : Bool → α) (N : Nat) (a : Rows) (b : Rows) : α := laws_eqFlashStepS_t bad k_ (fun a b => laws_eqFlashStepS_L0 bad k_ N a b N) a b
theorem laws_eqFlashStepS_c {α : Type} (bad : α) (k_ : Bool → α) (a : Rows) (b : Rows) (h_a : WtC (.sl [.int .i64, .int .i64, .int .i64, .str]) (.sl a)) (h_b : WtC (.sl [.int .i64, .int .i64, .int .i64, .str]) (.sl b)) (hok : same a b = true) : ∃ N, laws_eqFlashStepS_f bad k_ N a b = k_ (yes2 a b) := by
  obtain rfl := same_eq hok
  obtain ⟨hl, _⟩ := wt_sl h_a
  refine ⟨a.length + 1, ?_⟩
  unfold laws_eqFlashStepS_f laws_eqFlashStepS_t
  simp only [bne_self_eq_false, cond_false]
  refine (loop_rows0 a (laws_eqFlashStepS_L0 bad k_ (a.length + 1) a a) (fun _ _ c => c) (k_ true) ?_ ?_).trans (go_skip _ _ _)
  · intro n i h
    rw [laws_eqFlashStepS_L0_s]
    simp only [laws_eqFlashStepS_l0, lt_len h, idx_nat h, w64_succ h hl, Int.toNat_natCast, andt_true_l, andt_true_r, cond_true, cond_false, bne_self_eq_false, beq_self_eq_true, Bool.not_true, same_refl, yes2]
  · intro n
    rw [laws_eqFlashStepS_L0_s]
    simp only [laws_eqFlashStepS_l0, not_lt_len, cond_false]

def laws_toStringS_l0 {α : Type} (bad : α) (k_ : Rows → α) (a : Rows) (ih0 : Int → Rows → α) (i : Int) (out_ : Rows) : α :=
  bif decide (i < len a) then
    bif andt (andt (andt true (idx i a)) (idx i out_)) (inl (Int.toNat i) out_) then
      ih0 (w64 (i + 1)) (List.set out_ (Int.toNat i) (splice (nth out_ (Int.toNat i)) 0 [.str (rS (nth a (Int.toNat i)) 0)]))
    else bad
  else k_ out_
def laws_toStringS_L0 {α : Type} (bad : α) (k_ : Rows → α) (N : Nat) (a : Rows) (m_ : Nat) : Int → Rows → α :=
  Nat.rec (motive := fun _ => Int → Rows → α) (fun _ _ => bad) (fun _ ih0 => laws_toStringS_l0 bad k_ a ih0) m_
theorem laws_toStringS_L0_z {α : Type} (bad : α) (k_ : Rows → α) (N : Nat) (a : Rows) (i : Int) (out_ : Rows) : laws_toStringS_L0 bad k_ N a 0 i out_ = bad := rfl
theorem laws_toStringS_L0_s {α : Type} (bad : α) (k_ : Rows → α) (N : Nat) (a : Rows) (m_ : Nat) (i : Int) (out_ : Rows) : laws_toStringS_L0 bad k_ N a (m_ + 1) i out_ = laws_toStringS_l0 bad k_ a (laws_toStringS_L0 bad k_ N a m_) i out_ := rfl
def laws_toStringS_t {α : Type} (bad : α) (k_ : Rows → α) (l0 : Rows → Int → Rows → α) (a : Rows) : α :=
  bif andt true (makeOk 16 (len a) (len a)) then
    l0 a 0 (List.replicate (Int.toNat (len a)) ([.str []]))
  else bad
def laws_toStringS_f {α : Type} (bad : α) (k_ : Rows → α) (N : Nat) (a : Rows) : α := laws_toStringS_t bad k_ (fun a => laws_toStringS_L0 bad k_ N a N) a
theorem laws_toStringS_c {α : Type} (bad : α) (k_ : Rows → α) (a : Rows) (h_a : WtC (.sl [.str]) (.sl a)) (hok : sm a = true) : ∃ N, laws_toStringS_f bad k_ N a = k_ (idf a) := by
  obtain ⟨hl, hw⟩ := wt_sl h_a
  have hsm := hok
  refine ⟨a.length + 1, ?_⟩
  unfold laws_toStringS_f laws_toStringS_t
  have e0 : Int.toNat (len a) = a.length := by simp [len]
  simp only [make_sm hsm (show 16 ≤ 8388608 by omega), andt_true_l, cond_true, e0]
  refine copy_set a (laws_toStringS_L0 bad k_ (a.length + 1) a) k_ [.str []] (fun o r => splice o 0 ([.str (rS r 0)])) ?_ ?_ ?_
  · intro n i out h ho
    rw [laws_toStringS_L0_s]
    simp only [laws_toStringS_l0, lt_len h, idx_nat h, idx_set ho h, inl_nat (show i < out.length by omega), w64_succ h hl, Int.toNat_natCast, andt_true_l, andt_true_r, cond_true]
    try rfl
  · intro n out ho
    rw [laws_toStringS_L0_s]
    simp only [laws_toStringS_l0, not_lt_len, cond_false]
  · intro r hr
    refine (splice_all ?_).trans ?_
    · rfl
    · exact row_str (hw r hr)

def laws_toFlashStep_t {α : Type} (k_ : SFlashStep → α) (a : SFlashStep) : α :=
  k_ a
theorem laws_toFlashStep_c {α : Type} (k_ : SFlashStep → α) (a : SFlashStep) (h_a : WtL SFlashStep.ct a.enc) : laws_toFlashStep_t k_ a = k_ (idf a) := by
  rfl

def laws_toFlashStepS_l0 {α : Type} (bad : α) (k_ : Rows → α) (a : Rows) (ih0 : Int → Rows → α) (i : Int) (out_ : Rows) : α :=
  bif decide (i < len a) then
    bif andt (andt (andt true (idx i a)) (idx i out_)) (inl (Int.toNat i) out_) then
      ih0 (w64 (i + 1)) (List.set out_ (Int.toNat i) (splice (nth out_ (Int.toNat i)) 0 (SFlashStep.enc (idf (SFlashStep.decAt (nth a (Int.toNat i)) 0)))))
    else bad
  else k_ out_
def laws_toFlashStepS_L0 {α : Type} (bad : α) (k_ : Rows → α) (N : Nat) (a : Rows) (m_ : Nat) : Int → Rows → α :=
  Nat.rec (motive := fun _ => Int → Rows → α) (fun _ _ => bad) (fun _ ih0 => laws_toFlashStepS_l0 bad k_ a ih0) m_
theorem laws_toFlashStepS_L0_z {α : Type} (bad : α) (k_ : Rows → α) (N : Nat) (a : Rows) (i : Int) (out_ : Rows) : laws_toFlashStepS_L0 bad k_ N a 0 i out_ = bad := rfl
theorem laws_toFlashStepS_L0_s {α : Type} (bad : α) (k_ : Rows → α) (N : Nat) (a : Rows) (m_ : Nat) (i : Int) (out_ : Rows) : laws_toFlashStepS_L0 bad k_ N a (m_ + 1) i out_ = laws_toFlashStepS_l0 bad k_ a (laws_toFlashStepS_L0 bad k_ N a m_) i out_ := rfl
def laws_toFlashStepS_t {α : Type} (bad : α) (k_ : Rows → α) (l0 : Rows → Int → Rows → α) (a : Rows) : α :=
  bif andt true (makeOk 40 (len a) (len a)) then
    l0 a 0 (List.replicate (Int.toNat (len a)) ([.int 0, .int 0, .int 0, .str []]))
  else bad
def laws_toFlashStepS_f {α : Type} (bad : α) (k_ : Rows → α) (N : Nat) (a : Rows) : α := laws_toFlashStepS_t bad k_ (fun a => laws_toFlashStepS_L0 bad k_ N a N) a
theorem laws_toFlashStepS_c {α : Type} (bad : α) (k_ : Rows → α) (a : Rows) (h_a : WtC (.sl [.int .i64, .int .i64, .int .i64, .str]) (.sl a)) (hok : sm a = true) : ∃ N, laws_toFlashStepS_f bad k_ N a = k_ (idf a) := by
  obtain ⟨hl, hw⟩ := wt_sl h_a
  have hsm := hok
  refine ⟨a.length + 1, ?_⟩
  unfold laws_toFlashStepS_f laws_toFlashStepS_t
  have e0 : Int.toNat (len a) = a.length := by simp [len]
  simp only [make_sm hsm (show 40 ≤ 8388608 by omega), andt_true_l, cond_true, e0]
  refine copy_set a (laws_toFlashStepS_L0 bad k_ (a.length + 1) a) k_ [.int 0, .int 0, .int 0, .str []] (fun o r => splice o 0 (SFlashStep.enc (idf (SFlashStep.decAt r 0)))) ?_ ?_ ?_
  · intro n i out h ho
    rw [laws_toFlashStepS_L0_s]
    simp only [laws_toFlashStepS_l0, lt_len h, idx_nat h, idx_set ho h, inl_nat (show i < out.length by omega), w64_succ h hl, Int.toNat_natCast, andt_true_l, andt_true_r, cond_true]
    try rfl
  · intro n out ho
    rw [laws_toFlashStepS_L0_s]
    simp only [laws_toFlashStepS_l0, not_lt_len, cond_false]
  · intro r hr
    refine (splice_all ?_).trans ?_
    · rfl
    · exact SFlashStep.eta (hw r hr)

def laws_szStringS_l0 {α : Type} (bad : α) (k_ : Int → α) (a : Rows) (ih0 : Int → Int → α) (left_1 : Int) (i : Int) : α :=
  let z0 : Int := w64 (left_1 - (len (rS (nth a (Int.toNat i)) 0)))
  bif decide (i < len a) then
    bif andt true (idx i a) then
      bif decide (z0 < 0) then k_ (-1)
      else ih0 z0 (w64 (i + 1))
    else bad
  else k_ left_1
def laws_szStringS_L0 {α : Type} (bad : α) (k_ : Int → α) (N : Nat) (a : Rows) (m_ : Nat) : Int → Int → α :=
  Nat.rec (motive := fun _ => Int → Int → α) (fun _ _ => bad) (fun _ ih0 => laws_szStringS_l0 bad k_ a ih0) m_
theorem laws_szStringS_L0_z {α : Type} (bad : α) (k_ : Int → α) (N : Nat) (a : Rows) (left_1 : Int) (i : Int) : laws_szStringS_L0 bad k_ N a 0 left_1 i = bad := rfl
theorem laws_szStringS_L0_s {α : Type} (bad : α) (k_ : Int → α) (N : Nat) (a : Rows) (m_ : Nat) (left_1 : Int) (i : Int) : laws_szStringS_L0 bad k_ N a (m_ + 1) left_1 i = laws_szStringS_l0 bad k_ a (laws_szStringS_L0 bad k_ N a m_) left_1 i := rfl
def laws_szStringS_t {α : Type} (bad : α) (k_ : Int → α) (l0 : Rows → Int → Int → α) (a : Rows) (left : Int) : α :=
  bif decide (w64 (left - (len a)) < 0) then k_ (-1)
  else l0 a (w64 (left - (len a))) 0
def laws_szStringS_f {α : Type} (bad : α) (k_ : Int → α) (N : Nat) (a : Rows) (left : Int) : α := laws_szStringS_t bad k_ (fun a => laws_szStringS_L0 bad k_ N a N) a left
def laws_szStringS (a : Rows) (left : Int) : Int := szAll (fun r l => w64 (l - len (rS r 0))) a left
theorem laws_szStringS_c {α : Type} (bad : α) (k_ : Int → α) (a : Rows) (left : Int) (h_a : WtC (.sl [.str]) (.sl a)) (h_left : WtC (.int .i64) (.int left)) : ∃ N, laws_szStringS_f bad k_ N a left = k_ (laws_szStringS a left) := by
  obtain ⟨hl, _⟩ := wt_sl h_a
  refine ⟨a.length + 1, ?_⟩
  unfold laws_szStringS_f laws_szStringS_t laws_szStringS szAll
  refine cond_k rfl ?_
  refine (loop_rows a (fun n i l => laws_szStringS_L0 bad k_ (a.length + 1) a n l i) (fun _ r c l => bif decide ((fun r l => w64 (l - len (rS r 0))) r l < 0) then k_ (-1) else c ((fun r l => w64 (l - len (rS r 0))) r l)) k_ ?_ ?_ _).trans (go_sz (fun r l => w64 (l - len (rS r 0))) k_ a 0 _)
  · intro n i l h
    try dsimp only
    rw [laws_szStringS_L0_s]
    simp only [laws_szStringS_l0, lt_len h, idx_nat h, w64_succ h hl, Int.toNat_natCast, andt_true_l, andt_true_r, cond_true]
  · intro n l
    try dsimp only
    rw [laws_szStringS_L0_s]
    simp only [laws_szStringS_l0, not_lt_len, cond_false]

def laws_eqStringS_l0 {α : Type} (bad : α) (k_ : Bool → α) (a : Rows) (b : Rows) (ih0 : Int → α) (i : Int) : α :=
  bif decide (i < len a) then
    bif andt (andt true (idx i a)) (idx i b) then
      bif !((rS (nth a (Int.toNat i)) 0) == (rS (nth b (Int.toNat i)) 0)) then k_ false
      else ih0 (w64 (i + 1))
    else bad
  else k_ true
def laws_eqStringS_L0 {α : Type} (bad : α) (k_ : Bool → α) (N : Nat) (a : Rows) (b : Rows) (m_ : Nat) : Int → α :=
  Nat.rec (motive := fun _ => Int → α) (fun _ => bad) (fun _ ih0 => laws_eqStringS_l0 bad k_ a b ih0) m_
theorem laws_eqStringS_L0_z {α : Type} (bad : α) (k_ : Bool → α) (N : Nat) (a : Rows) (b : Rows) (i : Int) : laws_eqStringS_L0 bad k_ N a b 0 i = bad := rfl
theorem laws_eqStringS_L0_s {α : Type} (bad : α) (k_ : Bool → α) (N : Nat) (a : Rows) (b : Rows) (m_ : Nat) (i : Int) : laws_eqStringS_L0 bad k_ N a b (m_ + 1) i = laws_eqStringS_l0 bad k_ a b (laws_eqStringS_L0 bad k_ N a b m_) i := rfl
def laws_eqStringS_t {α : Type} (bad : α) (k_ : Bool → α) (l0 : Rows → Rows → Int → α) (a : Rows) (b : Rows) : α :=
  bif (len a) != (len b) then k_ false
  else l0 a b 0
def laws_eqStringS_f {α : Type} (bad : α) (k_ : Bool → α) (N : Nat) (a : Rows) (b : Rows) : α := laws_eqStringS_t bad k_ (fun a b => laws_eqStringS_L0 bad k_ N a b N) a b
theorem laws_eqStringS_c {α : Type} (bad : α) (k_ : Bool → α) (a : Rows) (b : Rows) (h_a : WtC (.sl [.str]) (.sl a)) (h_b : WtC (.sl [.str]) (.sl b)) (hok : same a b = true) : ∃ N, laws_eqStringS_f bad k_ N a b = k_ (yes2 a b) := by
  obtain rfl := same_eq hok
  obtain ⟨hl, _⟩ := wt_sl h_a
  refine ⟨a.length + 1, ?_⟩
  unfold laws_eqStringS_f laws_eqStringS_t
  simp only [bne_self_eq_false, cond_false]
  refine (loop_rows0 a (laws_eqStringS_L0 bad k_ (a.length + 1) a a) (fun _ _ c => c) (k_ true) ?_ ?_).trans (go_skip _ _ _)
  · intro n i h
    rw [laws_eqStringS_L0_s]
    simp only [laws_eqStringS_l0, lt_len h, idx_nat h, w64_succ h hl, Int.toNat_natCast, andt_true_l, andt_true_r, cond_true, cond_false, bne_self_eq_false, beq_self_eq_true, Bool.not_true, same_refl, yes2]
  · intro n
    rw [laws_eqStringS_L0_s]
    simp only [laws_eqStringS_l0, not_lt_len, cond_false]

def laws_toFlash_t {α : Type} (bad : α) (k_ : SFlash → α) (a : SFlash) : α :=
  bif andt true (sm a.Banks) then
    k_ (⟨idf a.Banks⟩ : SFlash)
  else bad
def laws_toFlash_ok (a : SFlash) : Bool := laws_toFlash_t false (fun _ => true) a
theorem laws_toFlash_c {α : Type} (bad : α) (k_ : SFlash → α) (a : SFlash) (h_a : WtL SFlash.ct a.enc) (hok : laws_toFlash_ok a = true) : laws_toFlash_t bad k_ a = k_ (idf a) := by
  exact guard_id (fun _ => rfl) hok

def laws_szFlash_t {α : Type} (k_ : Int → α) (a : SFlash) (left : Int) : α :=
  bif decide (laws_szStringS a.Banks left < 0) then k_ (-1)
  else k_ (laws_szStringS a.Banks left)
def laws_szFlash (a : SFlash) (left : Int) : Int := laws_szFlash_t id a left
theorem laws_szFlash_c {α : Type} (k_ : Int → α) (a : SFlash) (left : Int) : laws_szFlash_t k_ a left = k_ (laws_szFlash a left) := by
  exact cond_k rfl rfl

def laws_eqFlash_t {α : Type} (bad : α) (k_ : Bool → α) (a : SFlash) (b : SFlash) : α :=
  bif andt true (same a.Banks b.Banks) then
    bif !(yes2 a.Banks b.Banks) then k_ false
    else k_ true
  else bad
theorem laws_eqFlash_c {α : Type} (bad : α) (k_ : Bool → α) (a : SFlash) (b : SFlash) (h_a : WtL SFlash.ct a.enc) (h_b : WtL SFlash.ct b.enc) (hok : same a b = true) : laws_eqFlash_t bad k_ a b = k_ (yes2 a b) := by
  obtain rfl := same_eq hok
  simp only [laws_eqFlash_t, same_refl, yes2, bne_self_eq_false, beq_self_eq_true, Bool.not_true, cond_false, cond_true, andt_true_l, andt_true_r]

theorem laws_szFlashStep_ok {a : SFlashStep} {left : Int} (hwt : WtL SFlashStep.ct a.enc) (h1 : 0 ≤ left) (h2 : left ≤ 1048576) (h0 : 0 ≤ laws_szFlashStep a left) : laws_szFlashStep a left ≤ 1048576 ∧ True := by
  simp only [laws_szFlashStep, laws_szFlashStep_t, id] at h0 ⊢
  by_cases c0 : w64 (left - (len a.Data)) < 0
  · simp only [c0, decide_true, cond_true] at h0; omega
  simp only [c0, decide_false, cond_false] at h0 ⊢
  have k0 := sz_str (wt_str (SFlashStep.wt_Data hwt)) h1 h2 (Int.not_lt.1 c0)
  exact ⟨k0.1, trivial⟩

theorem laws_szFlashStepS_ok {a : Rows} {left : Int} (hwt : WtC (.sl [.int .i64, .int .i64, .int .i64, .str]) (.sl a)) (h1 : 0 ≤ left) (h2 : left ≤ 1048576) (h0 : 0 ≤ laws_szFlashStepS a left) : laws_szFlashStepS a left ≤ 1048576 ∧ sm a = true := by
  obtain ⟨hl, hw⟩ := wt_sl hwt
  have h3 := szAll_ok (P := fun _ => True) (fun r hr l hl0 hl1 h => ⟨(laws_szFlashStep_ok (by rw [SFlashStep.eta (hw r hr)]; exact hw r hr) hl0 hl1 h).1, trivial⟩) h1 h2 hl h0
  exact ⟨h3.1, h3.2.1⟩

theorem laws_szStringS_ok {a : Rows} {left : Int} (hwt : WtC (.sl [.str]) (.sl a)) (h1 : 0 ≤ left) (h2 : left ≤ 1048576) (h0 : 0 ≤ laws_szStringS a left) : laws_szStringS a left ≤ 1048576 ∧ sm a = true := by
  obtain ⟨hl, hw⟩ := wt_sl hwt
  have h3 := szAll_ok (P := fun _ => True) (fun r hr l hl0 hl1 h => ⟨(sz_str (wt_str (show WtC .str (.str (rS r 0)) by have := hw r hr; rw [← row_str this] at this; exact (wtl_uncons this).1)) hl0 hl1 h).1, trivial⟩) h1 h2 hl h0
  exact ⟨h3.1, h3.2.1⟩

theorem laws_szFlash_ok {a : SFlash} {left : Int} (hwt : WtL SFlash.ct a.enc) (h1 : 0 ≤ left) (h2 : left ≤ 1048576) (h0 : 0 ≤ laws_szFlash a left) : laws_szFlash a left ≤ 1048576 ∧ laws_toFlash_ok a = true := by
  simp only [laws_szFlash, laws_szFlash_t, id] at h0 ⊢
  by_cases c0 : laws_szStringS a.Banks left < 0
  · simp only [c0, decide_true, cond_true] at h0; omega
  simp only [c0, decide_false, cond_false] at h0 ⊢
  have k0 := laws_szStringS_ok (SFlash.wt_Banks hwt) h1 h2 (Int.not_lt.1 c0)
  exact ⟨k0.1, by simp only [laws_toFlash_ok, laws_toFlash_t, k0.2, andt_true_l, andt_true_r, cond_true]⟩


end
end Go.Proofs.Ytjknoknkbfhelaa.Pl
