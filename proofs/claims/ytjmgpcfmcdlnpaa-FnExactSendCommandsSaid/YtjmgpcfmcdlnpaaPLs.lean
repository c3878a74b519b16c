/- What functions of the program compute, in plain Lean, as the value machine runs them. Conditions: none. -/
import Derived.Test.YtjmgpcfmcdlnpaaPre
import Derived.Test.YtjmgpcfmcdlnpaaLem
set_option linter.unusedVariables false
set_option linter.unusedSimpArgs false
namespace Go.Proofs.Ytjmgpcfmcdlnpaa.Pl
open Vm
noncomputable section

structure SMessage where
  Seq : Int
  Op : Int
  Arg : Int
def SMessage.enc (x : SMessage) : List DC := [.int x.Seq, .int x.Op, .int x.Arg]
def SMessage.decAt (r : List DC) (o : Nat) : SMessage := ⟨rI r (o + 0), rI r (o + 1), rI r (o + 2)⟩
def SMessage.ct : List CT := [.int .i64, .int .i64, .int .i64]
theorem SMessage.of_wt {r : List CT} {ds : List DC} (h : WtL (SMessage.ct ++ r) ds) : ∃ (x : SMessage) (ds' : List DC), ds = x.enc ++ ds' ∧ WtL SMessage.ct x.enc ∧ WtL r ds' := by
  simp only [SMessage.ct, List.cons_append, List.nil_append, WtL, WtC] at h
  obtain ⟨_, _, rfl, ⟨a0, rfl, p0⟩, _, _, rfl, ⟨a1, rfl, p1⟩, _, _, rfl, ⟨a2, rfl, p2⟩, h⟩ := h
  exact ⟨⟨a0, a1, a2⟩, _, rfl, by simp only [SMessage.ct, SMessage.enc, WtL, WtC]; exact ⟨_, _, rfl, ⟨_, rfl, p0⟩, _, _, rfl, ⟨_, rfl, p1⟩, _, _, rfl, ⟨_, rfl, p2⟩, rfl⟩, h⟩
theorem SMessage.wt_Seq {x : SMessage} (h : WtL SMessage.ct x.enc) : WtC (.int .i64) (.int x.Seq) := by
  obtain ⟨w0, h⟩ := wtl_uncons h
  obtain ⟨w1, h⟩ := wtl_uncons h
  obtain ⟨w2, h⟩ := wtl_uncons h
  exact w0
theorem SMessage.wt_Op {x : SMessage} (h : WtL SMessage.ct x.enc) : WtC (.int .i64) (.int x.Op) := by
  obtain ⟨w0, h⟩ := wtl_uncons h
  obtain ⟨w1, h⟩ := wtl_uncons h
  obtain ⟨w2, h⟩ := wtl_uncons h
  exact w1
theorem SMessage.wt_Arg {x : SMessage} (h : WtL SMessage.ct x.enc) : WtC (.int .i64) (.int x.Arg) := by
  obtain ⟨w0, h⟩ := wtl_uncons h
  obtain ⟨w1, h⟩ := wtl_uncons h
  obtain ⟨w2, h⟩ := wtl_uncons h
  exact w2
theorem SMessage.eta {r : List DC} (h : WtL SMessage.ct r) : (SMessage.decAt r 0).enc = r := by
  have h : WtL (SMessage.ct ++ []) r := by simpa using h
  obtain ⟨x, ds, rfl, _, hn⟩ := SMessage.of_wt h
  obtain rfl := of_wt_nil hn
  rfl

structure SFilter where
  Mac : Int
  Promiscuous : Bool
  Vlans : Rows
def SFilter.enc (x : SFilter) : List DC := [.int x.Mac, .bool x.Promiscuous, .sl x.Vlans]
def SFilter.decAt (r : List DC) (o : Nat) : SFilter := ⟨rI r (o + 0), rB r (o + 1), rR r (o + 2)⟩
def SFilter.ct : List CT := [.int .i64, .bool, .sl [.int .i64]]
theorem SFilter.of_wt {r : List CT} {ds : List DC} (h : WtL (SFilter.ct ++ r) ds) : ∃ (x : SFilter) (ds' : List DC), ds = x.enc ++ ds' ∧ WtL SFilter.ct x.enc ∧ WtL r ds' := by
  simp only [SFilter.ct, List.cons_append, List.nil_append, WtL, WtC] at h
  obtain ⟨_, _, rfl, ⟨a0, rfl, p0⟩, _, _, rfl, ⟨a1, rfl⟩, _, _, rfl, ⟨a2, rfl, p2, q2⟩, h⟩ := h
  exact ⟨⟨a0, a1, a2⟩, _, rfl, by simp only [SFilter.ct, SFilter.enc, WtL, WtC]; exact ⟨_, _, rfl, ⟨_, rfl, p0⟩, _, _, rfl, ⟨_, rfl⟩, _, _, rfl, ⟨_, rfl, p2, q2⟩, rfl⟩, h⟩
theorem SFilter.wt_Mac {x : SFilter} (h : WtL SFilter.ct x.enc) : WtC (.int .i64) (.int x.Mac) := by
  obtain ⟨w0, h⟩ := wtl_uncons h
  obtain ⟨w1, h⟩ := wtl_uncons h
  obtain ⟨w2, h⟩ := wtl_uncons h
  exact w0
theorem SFilter.wt_Promiscuous {x : SFilter} (h : WtL SFilter.ct x.enc) : WtC .bool (.bool x.Promiscuous) := by
  obtain ⟨w0, h⟩ := wtl_uncons h
  obtain ⟨w1, h⟩ := wtl_uncons h
  obtain ⟨w2, h⟩ := wtl_uncons h
  exact w1
theorem SFilter.wt_Vlans {x : SFilter} (h : WtL SFilter.ct x.enc) : WtC (.sl [.int .i64]) (.sl x.Vlans) := by
  obtain ⟨w0, h⟩ := wtl_uncons h
  obtain ⟨w1, h⟩ := wtl_uncons h
  obtain ⟨w2, h⟩ := wtl_uncons h
  exact w2
theorem SFilter.eta {r : List DC} (h : WtL SFilter.ct r) : (SFilter.decAt r 0).enc = r := by
  have h : WtL (SFilter.ct ++ []) r := by simpa using h
  obtain ⟨x, ds, rfl, _, hn⟩ := SFilter.of_wt h
  obtain rfl := of_wt_nil hn
  rfl

structure SMailbox where
  Filter : SFilter
  Last : Int
  Answer : Int
  Done : Int
def SMailbox.enc (x : SMailbox) : List DC := [.int x.Filter.Mac, .bool x.Filter.Promiscuous, .sl x.Filter.Vlans, .int x.Last, .int x.Answer, .int x.Done]
def SMailbox.decAt (r : List DC) (o : Nat) : SMailbox := ⟨SFilter.decAt r (o + 0), rI r (o + 3), rI r (o + 4), rI r (o + 5)⟩
def SMailbox.ct : List CT := [.int .i64, .bool, .sl [.int .i64], .int .i64, .int .i64, .int .i64]
theorem SMailbox.of_wt {r : List CT} {ds : List DC} (h : WtL (SMailbox.ct ++ r) ds) : ∃ (x : SMailbox) (ds' : List DC), ds = x.enc ++ ds' ∧ WtL SMailbox.ct x.enc ∧ WtL r ds' := by
  simp only [SMailbox.ct, List.cons_append, List.nil_append, WtL, WtC] at h
  obtain ⟨_, _, rfl, ⟨a0, rfl, p0⟩, _, _, rfl, ⟨a1, rfl⟩, _, _, rfl, ⟨a2, rfl, p2, q2⟩, _, _, rfl, ⟨a3, rfl, p3⟩, _, _, rfl, ⟨a4, rfl, p4⟩, _, _, rfl, ⟨a5, rfl, p5⟩, h⟩ := h
  exact ⟨⟨⟨a0, a1, a2⟩, a3, a4, a5⟩, _, rfl, by simp only [SMailbox.ct, SMailbox.enc, WtL, WtC]; exact ⟨_, _, rfl, ⟨_, rfl, p0⟩, _, _, rfl, ⟨_, rfl⟩, _, _, rfl, ⟨_, rfl, p2, q2⟩, _, _, rfl, ⟨_, rfl, p3⟩, _, _, rfl, ⟨_, rfl, p4⟩, _, _, rfl, ⟨_, rfl, p5⟩, rfl⟩, h⟩
theorem SMailbox.wt_Filter {x : SMailbox} (h : WtL SMailbox.ct x.enc) : WtL SFilter.ct x.Filter.enc := by
  obtain ⟨w0, h⟩ := wtl_uncons h
  obtain ⟨w1, h⟩ := wtl_uncons h
  obtain ⟨w2, h⟩ := wtl_uncons h
  obtain ⟨w3, h⟩ := wtl_uncons h
  obtain ⟨w4, h⟩ := wtl_uncons h
  obtain ⟨w5, h⟩ := wtl_uncons h
  exact wtl_mk w0 (wtl_mk w1 (wtl_mk w2 (wtl_nil)))
theorem SMailbox.wt_Last {x : SMailbox} (h : WtL SMailbox.ct x.enc) : WtC (.int .i64) (.int x.Last) := by
  obtain ⟨w0, h⟩ := wtl_uncons h
  obtain ⟨w1, h⟩ := wtl_uncons h
  obtain ⟨w2, h⟩ := wtl_uncons h
  obtain ⟨w3, h⟩ := wtl_uncons h
  obtain ⟨w4, h⟩ := wtl_uncons h
  obtain ⟨w5, h⟩ := wtl_uncons h
  exact w3
theorem SMailbox.wt_Answer {x : SMailbox} (h : WtL SMailbox.ct x.enc) : WtC (.int .i64) (.int x.Answer) := by
  obtain ⟨w0, h⟩ := wtl_uncons h
  obtain ⟨w1, h⟩ := wtl_uncons h
  obtain ⟨w2, h⟩ := wtl_uncons h
  obtain ⟨w3, h⟩ := wtl_uncons h
  obtain ⟨w4, h⟩ := wtl_uncons h
  obtain ⟨w5, h⟩ := wtl_uncons h
  exact w4
theorem SMailbox.wt_Done {x : SMailbox} (h : WtL SMailbox.ct x.enc) : WtC (.int .i64) (.int x.Done) := by
  obtain ⟨w0, h⟩ := wtl_uncons h
  obtain ⟨w1, h⟩ := wtl_uncons h
  obtain ⟨w2, h⟩ := wtl_uncons h
  obtain ⟨w3, h⟩ := wtl_uncons h
  obtain ⟨w4, h⟩ := wtl_uncons h
  obtain ⟨w5, h⟩ := wtl_uncons h
  exact w5
theorem SMailbox.eta {r : List DC} (h : WtL SMailbox.ct r) : (SMailbox.decAt r 0).enc = r := by
  have h : WtL (SMailbox.ct ++ []) r := by simpa using h
  obtain ⟨x, ds, rfl, _, hn⟩ := SMailbox.of_wt h
  obtain rfl := of_wt_nil hn
  rfl

def laws_eqIntS_l0 {α : Type} (bad : α) (k_ : Bool → α) (a : Rows) (b : Rows) (ih0 : Int → α) (i : Int) : α :=
  bif decide (i < len a) then
    bif andt (andt true (idx i a)) (idx i b) then
      bif (rI (nth a (Int.toNat i)) 0) != (rI (nth b (Int.toNat i)) 0) then k_ false
      else ih0 (w64 (i + 1))
    else bad
  else k_ true
def laws_eqIntS_L0 {α : Type} (bad : α) (k_ : Bool → α) (N : Nat) (a : Rows) (b : Rows) (m_ : Nat) : Int → α :=
  Nat.rec (motive := fun _ => Int → α) (fun _ => bad) (fun _ ih0 => laws_eqIntS_l0 bad k_ a b ih0) m_
theorem laws_eqIntS_L0_z {α : Type} (bad : α) (k_ : Bool → α) (N : Nat) (a : Rows) (b : Rows) (i : Int) : laws_eqIntS_L0 bad k_ N a b 0 i = bad := rfl
theorem laws_eqIntS_L0_s {α : Type} (bad : α) (k_ : Bool → α) (N : Nat) (a : Rows) (b : Rows) (m_ : Nat) (i : Int) : laws_eqIntS_L0 bad k_ N a b (m_ + 1) i = laws_eqIntS_l0 bad k_ a b (laws_eqIntS_L0 bad k_ N a b m_) i := rfl
def laws_eqIntS_t {α : Type} (bad : α) (k_ : Bool → α) (l0 : Int → α) (a : Rows) (b : Rows) : α :=
  bif (len a) != (len b) then k_ false
  else l0 0
def laws_eqIntS_f {α : Type} (bad : α) (k_ : Bool → α) (N : Nat) (a : Rows) (b : Rows) : α := laws_eqIntS_t bad k_ (laws_eqIntS_L0 bad k_ N a b N) a b
theorem laws_eqIntS_c {α : Type} (bad : α) (k_ : Bool → α) (a : Rows) (b : Rows) (h_a : WtC (.sl [.int .i64]) (.sl a)) (h_b : WtC (.sl [.int .i64]) (.sl b)) (hok : same a b = true) : ∃ N, laws_eqIntS_f bad k_ N a b = k_ (yes2 a b) := by
  obtain rfl := same_eq hok
  obtain ⟨hl, _⟩ := wt_sl h_a
  refine ⟨a.length + 1, ?_⟩
  unfold laws_eqIntS_f laws_eqIntS_t
  simp only [bne_self_eq_false, cond_false]
  refine (loop_rows0 a (laws_eqIntS_L0 bad k_ (a.length + 1) a a) (fun _ _ c => c) (k_ true) ?_ ?_).trans (go_skip _ _ _)
  · intro n i h
    rw [laws_eqIntS_L0_s]
    simp only [laws_eqIntS_l0, lt_len h, idx_nat h, w64_succ h hl, Int.toNat_natCast, andt_true_l, andt_true_r, cond_true, cond_false, bne_self_eq_false, beq_self_eq_true, Bool.not_true, same_refl, yes2]
  · intro n
    rw [laws_eqIntS_L0_s]
    simp only [laws_eqIntS_l0, not_lt_len, cond_false]

def laws_toBoolS_l0 {α : Type} (bad : α) (k_ : Rows → α) (a : Rows) (ih0 : Int → Rows → α) (i : Int) (out_ : Rows) : α :=
  bif decide (i < len a) then
    bif andt (andt (andt true (idx i a)) (idx i out_)) (inl (Int.toNat i) out_) then
      ih0 (w64 (i + 1)) (List.set out_ (Int.toNat i) (splice (nth out_ (Int.toNat i)) 0 [.bool (rB (nth a (Int.toNat i)) 0)]))
    else bad
  else k_ out_
def laws_toBoolS_L0 {α : Type} (bad : α) (k_ : Rows → α) (N : Nat) (a : Rows) (m_ : Nat) : Int → Rows → α :=
  Nat.rec (motive := fun _ => Int → Rows → α) (fun _ _ => bad) (fun _ ih0 => laws_toBoolS_l0 bad k_ a ih0) m_
theorem laws_toBoolS_L0_z {α : Type} (bad : α) (k_ : Rows → α) (N : Nat) (a : Rows) (i : Int) (out_ : Rows) : laws_toBoolS_L0 bad k_ N a 0 i out_ = bad := rfl
theorem laws_toBoolS_L0_s {α : Type} (bad : α) (k_ : Rows → α) (N : Nat) (a : Rows) (m_ : Nat) (i : Int) (out_ : Rows) : laws_toBoolS_L0 bad k_ N a (m_ + 1) i out_ = laws_toBoolS_l0 bad k_ a (laws_toBoolS_L0 bad k_ N a m_) i out_ := rfl
def laws_toBoolS_t {α : Type} (bad : α) (k_ : Rows → α) (l0 : Int → Rows → α) (a : Rows) : α :=
  bif andt true (makeOk 1 (len a) (len a)) then
    l0 0 (List.replicate (Int.toNat (len a)) [.bool false])
  else bad
def laws_toBoolS_f {α : Type} (bad : α) (k_ : Rows → α) (N : Nat) (a : Rows) : α := laws_toBoolS_t bad k_ (laws_toBoolS_L0 bad k_ N a N) a
theorem laws_toBoolS_c {α : Type} (bad : α) (k_ : Rows → α) (a : Rows) (h_a : WtC (.sl [.bool]) (.sl a)) (hok : sm a = true) : ∃ N, laws_toBoolS_f bad k_ N a = k_ (idf a) := by
  obtain ⟨hl, hw⟩ := wt_sl h_a
  have hsm := hok
  refine ⟨a.length + 1, ?_⟩
  unfold laws_toBoolS_f laws_toBoolS_t
  have e0 : Int.toNat (len a) = a.length := by simp [len]
  simp only [make_sm hsm (show 1 ≤ 8388608 by omega), andt_true_l, cond_true, e0]
  refine copy_set a (laws_toBoolS_L0 bad k_ (a.length + 1) a) k_ [.bool false] (fun o r => splice o 0 ([.bool (rB r 0)])) ?_ ?_ ?_
  · intro n i out h ho
    rw [laws_toBoolS_L0_s]
    simp only [laws_toBoolS_l0, lt_len h, idx_nat h, idx_set ho h, inl_nat (show i < out.length by omega), w64_succ h hl, Int.toNat_natCast, andt_true_l, andt_true_r, cond_true]
    try rfl
  · intro n out ho
    rw [laws_toBoolS_L0_s]
    simp only [laws_toBoolS_l0, not_lt_len, cond_false]
  · intro r hr
    refine (splice_all ?_).trans ?_
    · rfl
    · exact row_bool (hw r hr)

def laws_eqMessage_t {α : Type} (k_ : Bool → α) (a : SMessage) (b : SMessage) : α :=
  bif a.Seq != b.Seq then k_ false
  else bif a.Op != b.Op then k_ false
  else bif a.Arg != b.Arg then k_ false
  else k_ true
theorem laws_eqMessage_c {α : Type} (k_ : Bool → α) (a : SMessage) (b : SMessage) (h_a : WtL SMessage.ct a.enc) (h_b : WtL SMessage.ct b.enc) (hok : same a b = true) : laws_eqMessage_t k_ a b = k_ (yes2 a b) := by
  obtain rfl := same_eq hok
  simp only [laws_eqMessage_t, same_refl, yes2, bne_self_eq_false, beq_self_eq_true, Bool.not_true, cond_false, cond_true, andt_true_l, andt_true_r]

def laws_eqFilter_t {α : Type} (bad : α) (k_ : Bool → α) (a : SFilter) (b : SFilter) : α :=
  bif a.Mac != b.Mac then k_ false
  else bif !(a.Promiscuous == b.Promiscuous) then k_ false
  else bif andt true (same a.Vlans b.Vlans) then
      bif !(yes2 a.Vlans b.Vlans) then k_ false
      else k_ true
    else bad
theorem laws_eqFilter_c {α : Type} (bad : α) (k_ : Bool → α) (a : SFilter) (b : SFilter) (h_a : WtL SFilter.ct a.enc) (h_b : WtL SFilter.ct b.enc) (hok : same a b = true) : laws_eqFilter_t bad k_ a b = k_ (yes2 a b) := by
  obtain rfl := same_eq hok
  simp only [laws_eqFilter_t, same_refl, yes2, bne_self_eq_false, beq_self_eq_true, Bool.not_true, cond_false, cond_true, andt_true_l, andt_true_r]

def laws_toIntS_l0 {α : Type} (bad : α) (k_ : Rows → α) (a : Rows) (ih0 : Int → Rows → α) (i : Int) (out_ : Rows) : α :=
  bif decide (i < len a) then
    bif andt (andt (andt true (idx i a)) (idx i out_)) (inl (Int.toNat i) out_) then
      ih0 (w64 (i + 1)) (List.set out_ (Int.toNat i) (splice (nth out_ (Int.toNat i)) 0 [.int (rI (nth a (Int.toNat i)) 0)]))
    else bad
  else k_ out_
def laws_toIntS_L0 {α : Type} (bad : α) (k_ : Rows → α) (N : Nat) (a : Rows) (m_ : Nat) : Int → Rows → α :=
  Nat.rec (motive := fun _ => Int → Rows → α) (fun _ _ => bad) (fun _ ih0 => laws_toIntS_l0 bad k_ a ih0) m_
theorem laws_toIntS_L0_z {α : Type} (bad : α) (k_ : Rows → α) (N : Nat) (a : Rows) (i : Int) (out_ : Rows) : laws_toIntS_L0 bad k_ N a 0 i out_ = bad := rfl
theorem laws_toIntS_L0_s {α : Type} (bad : α) (k_ : Rows → α) (N : Nat) (a : Rows) (m_ : Nat) (i : Int) (out_ : Rows) : laws_toIntS_L0 bad k_ N a (m_ + 1) i out_ = laws_toIntS_l0 bad k_ a (laws_toIntS_L0 bad k_ N a m_) i out_ := rfl
def laws_toIntS_t {α : Type} (bad : α) (k_ : Rows → α) (l0 : Int → Rows → α) (a : Rows) : α :=
  bif andt true (makeOk 8 (len a) (len a)) then
    l0 0 (List.replicate (Int.toNat (len a)) [.int 0])
  else bad
def laws_toIntS_f {α : Type} (bad : α) (k_ : Rows → α) (N : Nat) (a : Rows) : α := laws_toIntS_t bad k_ (laws_toIntS_L0 bad k_ N a N) a
theorem laws_toIntS_c {α : Type} (bad : α) (k_ : Rows → α) (a : Rows) (h_a : WtC (.sl [.int .i64]) (.sl a)) (hok : sm a = true) : ∃ N, laws_toIntS_f bad k_ N a = k_ (idf a) := by
  obtain ⟨hl, hw⟩ := wt_sl h_a
  have hsm := hok
  refine ⟨a.length + 1, ?_⟩
  unfold laws_toIntS_f laws_toIntS_t
  have e0 : Int.toNat (len a) = a.length := by simp [len]
  simp only [make_sm hsm (show 8 ≤ 8388608 by omega), andt_true_l, cond_true, e0]
  refine copy_set a (laws_toIntS_L0 bad k_ (a.length + 1) a) k_ [.int 0] (fun o r => splice o 0 ([.int (rI r 0)])) ?_ ?_ ?_
  · intro n i out h ho
    rw [laws_toIntS_L0_s]
    simp only [laws_toIntS_l0, lt_len h, idx_nat h, idx_set ho h, inl_nat (show i < out.length by omega), w64_succ h hl, Int.toNat_natCast, andt_true_l, andt_true_r, cond_true]
    try rfl
  · intro n out ho
    rw [laws_toIntS_L0_s]
    simp only [laws_toIntS_l0, not_lt_len, cond_false]
  · intro r hr
    refine (splice_all ?_).trans ?_
    · rfl
    · exact row_int (hw r hr)

def laws_toFilter_t {α : Type} (bad : α) (k_ : SFilter → α) (a : SFilter) : α :=
  bif andt true (sm a.Vlans) then
    k_ (⟨a.Mac, a.Promiscuous, idf a.Vlans⟩ : SFilter)
  else bad
def laws_toFilter_ok (a : SFilter) : Bool := laws_toFilter_t false (fun _ => true) a
theorem laws_toFilter_c {α : Type} (bad : α) (k_ : SFilter → α) (a : SFilter) (h_a : WtL SFilter.ct a.enc) (hok : laws_toFilter_ok a = true) : laws_toFilter_t bad k_ a = k_ (idf a) := by
  exact guard_id (fun _ => rfl) hok

def laws_eqBoolS_l0 {α : Type} (bad : α) (k_ : Bool → α) (a : Rows) (b : Rows) (ih0 : Int → α) (i : Int) : α :=
  bif decide (i < len a) then
    bif andt (andt true (idx i a)) (idx i b) then
      bif !((rB (nth a (Int.toNat i)) 0) == (rB (nth b (Int.toNat i)) 0)) then k_ false
      else ih0 (w64 (i + 1))
    else bad
  else k_ true
def laws_eqBoolS_L0 {α : Type} (bad : α) (k_ : Bool → α) (N : Nat) (a : Rows) (b : Rows) (m_ : Nat) : Int → α :=
  Nat.rec (motive := fun _ => Int → α) (fun _ => bad) (fun _ ih0 => laws_eqBoolS_l0 bad k_ a b ih0) m_
theorem laws_eqBoolS_L0_z {α : Type} (bad : α) (k_ : Bool → α) (N : Nat) (a : Rows) (b : Rows) (i : Int) : laws_eqBoolS_L0 bad k_ N a b 0 i = bad := rfl
theorem laws_eqBoolS_L0_s {α : Type} (bad : α) (k_ : Bool → α) (N : Nat) (a : Rows) (b : Rows) (m_ : Nat) (i : Int) : laws_eqBoolS_L0 bad k_ N a b (m_ + 1) i = laws_eqBoolS_l0 bad k_ a b (laws_eqBoolS_L0 bad k_ N a b m_) i := rfl
def laws_eqBoolS_t {α : Type} (bad : α) (k_ : Bool → α) (l0 : Int → α) (a : Rows) (b : Rows) : α :=
  bif (len a) != (len b) then k_ false
  else l0 0
def laws_eqBoolS_f {α : Type} (bad : α) (k_ : Bool → α) (N : Nat) (a : Rows) (b : Rows) : α := laws_eqBoolS_t bad k_ (laws_eqBoolS_L0 bad k_ N a b N) a b
theorem laws_eqBoolS_c {α : Type} (bad : α) (k_ : Bool → α) (a : Rows) (b : Rows) (h_a : WtC (.sl [.bool]) (.sl a)) (h_b : WtC (.sl [.bool]) (.sl b)) (hok : same a b = true) : ∃ N, laws_eqBoolS_f bad k_ N a b = k_ (yes2 a b) := by
  obtain rfl := same_eq hok
  obtain ⟨hl, _⟩ := wt_sl h_a
  refine ⟨a.length + 1, ?_⟩
  unfold laws_eqBoolS_f laws_eqBoolS_t
  simp only [bne_self_eq_false, cond_false]
  refine (loop_rows0 a (laws_eqBoolS_L0 bad k_ (a.length + 1) a a) (fun _ _ c => c) (k_ true) ?_ ?_).trans (go_skip _ _ _)
  · intro n i h
    rw [laws_eqBoolS_L0_s]
    simp only [laws_eqBoolS_l0, lt_len h, idx_nat h, w64_succ h hl, Int.toNat_natCast, andt_true_l, andt_true_r, cond_true, cond_false, bne_self_eq_false, beq_self_eq_true, Bool.not_true, same_refl, yes2]
  · intro n
    rw [laws_eqBoolS_L0_s]
    simp only [laws_eqBoolS_l0, not_lt_len, cond_false]

def laws_szIntS_t {α : Type} (k_ : Int → α) (a : Rows) (left : Int) : α :=
  bif decide (w64 (left - (len a)) < 0) then k_ (-1)
  else k_ (w64 (left - (len a)))
theorem laws_szIntS_c {α : Type} (k_ : Int → α) (a : Rows) (left : Int) (h_a : WtC (.sl [.int .i64]) (.sl a)) (h_left : WtC (.int .i64) (.int left)) : laws_szIntS_t k_ a left = k_ (szFlat a left) := by
  exact cond_k rfl rfl

def laws_eqMessageS_l0 {α : Type} (bad : α) (k_ : Bool → α) (a : Rows) (b : Rows) (ih0 : Int → α) (i : Int) : α :=
  bif decide (i < len a) then
    bif andt (andt (andt true (idx i a)) (idx i b)) (same (SMessage.decAt (nth a (Int.toNat i)) 0) (SMessage.decAt (nth b (Int.toNat i)) 0)) then
      bif !(yes2 (SMessage.decAt (nth a (Int.toNat i)) 0) (SMessage.decAt (nth b (Int.toNat i)) 0)) then k_ false
      else ih0 (w64 (i + 1))
    else bad
  else k_ true
def laws_eqMessageS_L0 {α : Type} (bad : α) (k_ : Bool → α) (N : Nat) (a : Rows) (b : Rows) (m_ : Nat) : Int → α :=
  Nat.rec (motive := fun _ => Int → α) (fun _ => bad) (fun _ ih0 => laws_eqMessageS_l0 bad k_ a b ih0) m_
theorem laws_eqMessageS_L0_z {α : Type} (bad : α) (k_ : Bool → α) (N : Nat) (a : Rows) (b : Rows) (i : Int) : laws_eqMessageS_L0 bad k_ N a b 0 i = bad := rfl
theorem laws_eqMessageS_L0_s {α : Type} (bad : α) (k_ : Bool → α) (N : Nat) (a : Rows) (b : Rows) (m_ : Nat) (i : Int) : laws_eqMessageS_L0 bad k_ N a b (m_ + 1) i = laws_eqMessageS_l0 bad k_ a b (laws_eqMessageS_L0 bad k_ N a b m_) i := rfl
def laws_eqMessageS_t {α : Type} (bad : α) (k_ : Bool → α) (l0 : Int → α) (a : Rows) (b : Rows) : α :=
  bif (len a) != (len b) then k_ false
  else l0 0
def laws_eqMessageS_f {α : Type} (bad : α) (k_ : Bool → α) (N : Nat) (a : Rows) (b : Rows) : α := laws_eqMessageS_t bad k_ (laws_eqMessageS_L0 bad k_ N a b N) a b
theorem laws_eqMessageS_c {α : Type} (bad : α) (k_ : Bool → α) (a : Rows) (b : Rows) (h_a : WtC (.sl [.int .i64, .int .i64, .int .i64]) (.sl a)) (h_b : WtC (.sl [.int .i64, .int .i64, .int .i64]) (.sl b)) (hok : same a b = true) : ∃ N, laws_eqMessageS_f bad k_ N a b = k_ (yes2 a b) := by
  obtain rfl := same_eq hok
  obtain ⟨hl, _⟩ := wt_sl h_a
  refine ⟨a.length + 1, ?_⟩
  unfold laws_eqMessageS_f laws_eqMessageS_t
  simp only [bne_self_eq_false, cond_false]
  refine (loop_rows0 a (laws_eqMessageS_L0 bad k_ (a.length + 1) a a) (fun _ _ c => c) (k_ true) ?_ ?_).trans (go_skip _ _ _)
  · intro n i h
    rw [laws_eqMessageS_L0_s]
    simp only [laws_eqMessageS_l0, lt_len h, idx_nat h, w64_succ h hl, Int.toNat_natCast, andt_true_l, andt_true_r, cond_true, cond_false, bne_self_eq_false, beq_self_eq_true, Bool.not_true, same_refl, yes2]
  · intro n
    rw [laws_eqMessageS_L0_s]
    simp only [laws_eqMessageS_l0, not_lt_len, cond_false]

def laws_szMessageS_t {α : Type} (k_ : Int → α) (a : Rows) (left : Int) : α :=
  bif decide (w64 (left - (len a)) < 0) then k_ (-1)
  else k_ (w64 (left - (len a)))
theorem laws_szMessageS_c {α : Type} (k_ : Int → α) (a : Rows) (left : Int) (h_a : WtC (.sl [.int .i64, .int .i64, .int .i64]) (.sl a)) (h_left : WtC (.int .i64) (.int left)) : laws_szMessageS_t k_ a left = k_ (szFlat a left) := by
  exact cond_k rfl rfl

def laws_toMessage_t {α : Type} (k_ : SMessage → α) (a : SMessage) : α :=
  k_ a
theorem laws_toMessage_c {α : Type} (k_ : SMessage → α) (a : SMessage) (h_a : WtL SMessage.ct a.enc) : laws_toMessage_t k_ a = k_ (idf a) := by
  rfl

def laws_toMessageS_l0 {α : Type} (bad : α) (k_ : Rows → α) (a : Rows) (ih0 : Int → Rows → α) (i : Int) (out_ : Rows) : α :=
  bif decide (i < len a) then
    bif andt (andt (andt true (idx i a)) (idx i out_)) (inl (Int.toNat i) out_) then
      ih0 (w64 (i + 1)) (List.set out_ (Int.toNat i) (splice (nth out_ (Int.toNat i)) 0 (SMessage.enc (idf (SMessage.decAt (nth a (Int.toNat i)) 0)))))
    else bad
  else k_ out_
def laws_toMessageS_L0 {α : Type} (bad : α) (k_ : Rows → α) (N : Nat) (a : Rows) (m_ : Nat) : Int → Rows → α :=
  Nat.rec (motive := fun _ => Int → Rows → α) (fun _ _ => bad) (fun _ ih0 => laws_toMessageS_l0 bad k_ a ih0) m_
theorem laws_toMessageS_L0_z {α : Type} (bad : α) (k_ : Rows → α) (N : Nat) (a : Rows) (i : Int) (out_ : Rows) : laws_toMessageS_L0 bad k_ N a 0 i out_ = bad := rfl
theorem laws_toMessageS_L0_s {α : Type} (bad : α) (k_ : Rows → α) (N : Nat) (a : Rows) (m_ : Nat) (i : Int) (out_ : Rows) : laws_toMessageS_L0 bad k_ N a (m_ + 1) i out_ = laws_toMessageS_l0 bad k_ a (laws_toMessageS_L0 bad k_ N a m_) i out_ := rfl
def laws_toMessageS_t {α : Type} (bad : α) (k_ : Rows → α) (l0 : Int → Rows → α) (a : Rows) : α :=
  bif andt true (makeOk 24 (len a) (len a)) then
    l0 0 (List.replicate (Int.toNat (len a)) [.int 0, .int 0, .int 0])
  else bad
def laws_toMessageS_f {α : Type} (bad : α) (k_ : Rows → α) (N : Nat) (a : Rows) : α := laws_toMessageS_t bad k_ (laws_toMessageS_L0 bad k_ N a N) a
theorem laws_toMessageS_c {α : Type} (bad : α) (k_ : Rows → α) (a : Rows) (h_a : WtC (.sl [.int .i64, .int .i64, .int .i64]) (.sl a)) (hok : sm a = true) : ∃ N, laws_toMessageS_f bad k_ N a = k_ (idf a) := by
  obtain ⟨hl, hw⟩ := wt_sl h_a
  have hsm := hok
  refine ⟨a.length + 1, ?_⟩
  unfold laws_toMessageS_f laws_toMessageS_t
  have e0 : Int.toNat (len a) = a.length := by simp [len]
  simp only [make_sm hsm (show 24 ≤ 8388608 by omega), andt_true_l, cond_true, e0]
  refine copy_set a (laws_toMessageS_L0 bad k_ (a.length + 1) a) k_ [.int 0, .int 0, .int 0] (fun o r => splice o 0 (SMessage.enc (idf (SMessage.decAt r 0)))) ?_ ?_ ?_
  · intro n i out h ho
    rw [laws_toMessageS_L0_s]
    simp only [laws_toMessageS_l0, lt_len h, idx_nat h, idx_set ho h, inl_nat (show i < out.length by omega), w64_succ h hl, Int.toNat_natCast, andt_true_l, andt_true_r, cond_true]
    try rfl
  · intro n out ho
    rw [laws_toMessageS_L0_s]
    simp only [laws_toMessageS_l0, not_lt_len, cond_false]
  · intro r hr
    refine (splice_all ?_).trans ?_
    · rfl
    · exact SMessage.eta (hw r hr)

def laws_szFilter_t {α : Type} (k_ : Int → α) (a : SFilter) (left : Int) : α :=
  bif decide (szFlat a.Vlans left < 0) then k_ (-1)
  else k_ (szFlat a.Vlans left)
def laws_szFilter (a : SFilter) (left : Int) : Int := laws_szFilter_t id a left
theorem laws_szFilter_c {α : Type} (k_ : Int → α) (a : SFilter) (left : Int) : laws_szFilter_t k_ a left = k_ (laws_szFilter a left) := by
  exact cond_k rfl rfl

def laws_szMailbox_t {α : Type} (k_ : Int → α) (a : SMailbox) (left : Int) : α :=
  bif decide (laws_szFilter a.Filter left < 0) then k_ (-1)
  else k_ (laws_szFilter a.Filter left)
def laws_szMailbox (a : SMailbox) (left : Int) : Int := laws_szMailbox_t id a left
theorem laws_szMailbox_c {α : Type} (k_ : Int → α) (a : SMailbox) (left : Int) : laws_szMailbox_t k_ a left = k_ (laws_szMailbox a left) := by
  exact cond_k rfl rfl

def laws_toMailbox_t {α : Type} (bad : α) (k_ : SMailbox → α) (a : SMailbox) : α :=
  bif andt true (laws_toFilter_ok a.Filter) then
    k_ (⟨idf a.Filter, a.Last, a.Answer, a.Done⟩ : SMailbox)
  else bad
def laws_toMailbox_ok (a : SMailbox) : Bool := laws_toMailbox_t false (fun _ => true) a
theorem laws_toMailbox_c {α : Type} (bad : α) (k_ : SMailbox → α) (a : SMailbox) (h_a : WtL SMailbox.ct a.enc) (hok : laws_toMailbox_ok a = true) : laws_toMailbox_t bad k_ a = k_ (idf a) := by
  exact guard_id (fun _ => rfl) hok

def laws_eqMailbox_t {α : Type} (bad : α) (k_ : Bool → α) (a : SMailbox) (b : SMailbox) : α :=
  bif andt true (same a.Filter b.Filter) then
    bif !(yes2 a.Filter b.Filter) then k_ false
    else bif a.Last != b.Last then k_ false
    else bif a.Answer != b.Answer then k_ false
    else bif a.Done != b.Done then k_ false
    else k_ true
  else bad
theorem laws_eqMailbox_c {α : Type} (bad : α) (k_ : Bool → α) (a : SMailbox) (b : SMailbox) (h_a : WtL SMailbox.ct a.enc) (h_b : WtL SMailbox.ct b.enc) (hok : same a b = true) : laws_eqMailbox_t bad k_ a b = k_ (yes2 a b) := by
  obtain rfl := same_eq hok
  simp only [laws_eqMailbox_t, same_refl, yes2, bne_self_eq_false, beq_self_eq_true, Bool.not_true, cond_false, cond_true, andt_true_l, andt_true_r]

theorem laws_szFilter_ok {a : SFilter} {left : Int} (hwt : WtL SFilter.ct a.enc) (h1 : 0 ≤ left) (h2 : left ≤ 1048576) (h0 : 0 ≤ laws_szFilter a left) : laws_szFilter a left ≤ 1048576 ∧ laws_toFilter_ok a = true := by
  simp only [laws_szFilter, laws_szFilter_t, id] at h0 ⊢
  by_cases c0 : szFlat a.Vlans left < 0
  · simp only [c0, decide_true, cond_true] at h0; omega
  simp only [c0, decide_false, cond_false] at h0 ⊢
  have k0 := szFlat_ok h1 h2 (wt_sl (SFilter.wt_Vlans hwt)).1 (Int.not_lt.1 c0)
  exact ⟨k0.1, by simp only [laws_toFilter_ok, laws_toFilter_t, k0.2, andt_true_l, andt_true_r, cond_true]⟩

theorem laws_szMailbox_ok {a : SMailbox} {left : Int} (hwt : WtL SMailbox.ct a.enc) (h1 : 0 ≤ left) (h2 : left ≤ 1048576) (h0 : 0 ≤ laws_szMailbox a left) : laws_szMailbox a left ≤ 1048576 ∧ laws_toMailbox_ok a = true := by
  simp only [laws_szMailbox, laws_szMailbox_t, id] at h0 ⊢
  by_cases c0 : laws_szFilter a.Filter left < 0
  · simp only [c0, decide_true, cond_true] at h0; omega
  simp only [c0, decide_false, cond_false] at h0 ⊢
  have k0 := laws_szFilter_ok (SMailbox.wt_Filter hwt) h1 h2 (Int.not_lt.1 c0)
  exact ⟨k0.1, by simp only [laws_toMailbox_ok, laws_toMailbox_t, k0.2, andt_true_l, andt_true_r, cond_true]⟩


def laws_markIntS_l0 {α : Type} (bad : α) (k_ : Int → Rows → α) (ih0 : Int → Int → Rows → α) (k_1 : Int) (i : Int) (a_1 : Rows) : α :=
  bif decide (i < len a_1) then
    bif andt (andt true (idx i a_1)) (inl (Int.toNat i) a_1) then
      ih0 (w64 (k_1 + 1)) (w64 (i + 1)) (List.set a_1 (Int.toNat i) (splice (nth a_1 (Int.toNat i)) 0 [.int k_1]))
    else bad
  else k_ k_1 a_1
def laws_markIntS_L0 {α : Type} (bad : α) (k_ : Int → Rows → α) (N : Nat) (m_ : Nat) : Int → Int → Rows → α :=
  Nat.rec (motive := fun _ => Int → Int → Rows → α) (fun _ _ _ => bad) (fun _ ih0 => laws_markIntS_l0 bad k_ ih0) m_
theorem laws_markIntS_L0_z {α : Type} (bad : α) (k_ : Int → Rows → α) (N : Nat) (k_1 : Int) (i : Int) (a_1 : Rows) : laws_markIntS_L0 bad k_ N 0 k_1 i a_1 = bad := rfl
theorem laws_markIntS_L0_s {α : Type} (bad : α) (k_ : Int → Rows → α) (N : Nat) (m_ : Nat) (k_1 : Int) (i : Int) (a_1 : Rows) : laws_markIntS_L0 bad k_ N (m_ + 1) k_1 i a_1 = laws_markIntS_l0 bad k_ (laws_markIntS_L0 bad k_ N m_) k_1 i a_1 := rfl
def laws_markIntS_t {α : Type} (bad : α) (k_ : Int → Rows → α) (l0 : Int → Int → Rows → α) (a : Rows) (k : Int) : α :=
  l0 k 0 a
def laws_markIntS_f {α : Type} (bad : α) (k_ : Int → Rows → α) (N : Nat) (a : Rows) (k : Int) : α := laws_markIntS_t bad k_ (laws_markIntS_L0 bad k_ N N) a k
def fIntS (k : Int) : List DC := [.int k]
def markIntS (a : Rows) (k : Int) : Int × Rows := (k + 1 * a.length, mkl fIntS 1 a.length k)
theorem laws_markIntS_c {α : Type} (bad : α) (k_ : Int → Rows → α) (a : Rows) (k : Int) (h_a : WtC (.sl [.int .i64]) (.sl a)) (h_k : WtC (.int .i64) (.int k)) (hok : mko 1 a k = true) : ∃ N, laws_markIntS_f bad k_ N a k = k_ (markIntS a k).1 (markIntS a k).2 := by
  obtain ⟨hl, hw⟩ := wt_sl h_a
  obtain ⟨h1, h2, h3⟩ := mko_of hok
  refine ⟨a.length + 1, ?_⟩
  unfold laws_markIntS_f laws_markIntS_t markIntS
  refine mark_loop a k 1 fIntS (laws_markIntS_L0 bad k_ (a.length + 1)) k_ ?_ ?_
  · intro n i b h hb hn
    rw [laws_markIntS_L0_s]
    have w1 : w64 (k + 1 * (i : Int) + 1) = k + 1 * (i : Int) + 1 := w64_in (by omega) (by omega)
    have hs : splice (nth a i) 0 (fIntS (k + 1 * (i : Int))) = fIntS (k + 1 * (i : Int)) := splice_all (by rw [wtl_len (hw (nth a i) (nth_mem h))]; rfl)
    simp only [laws_markIntS_l0, lt_len (show i < b.length by omega), idx_nat (show i < b.length by omega), inl_nat (show i < b.length by omega), w64_succ h hl, Int.toNat_natCast, andt_true_l, andt_true_r, cond_true, hn, w1]
    rw [← hs]; rfl
  · intro n b hb
    rw [laws_markIntS_L0_s]
    simp only [laws_markIntS_l0, ← hb, not_lt_len, cond_false]

def laws_heldIntS_l0 {α : Type} (bad : α) (k_ : Int → α) (a : Rows) (ih0 : Int → Int → α) (k_1 : Int) (i : Int) : α :=
  bif decide (i < len a) then
    bif andt true (idx i a) then
      bif (rI (nth a (Int.toNat i)) 0) != k_1 then k_ (-1)
      else ih0 (w64 (k_1 + 1)) (w64 (i + 1))
    else bad
  else k_ k_1
def laws_heldIntS_L0 {α : Type} (bad : α) (k_ : Int → α) (N : Nat) (a : Rows) (m_ : Nat) : Int → Int → α :=
  Nat.rec (motive := fun _ => Int → Int → α) (fun _ _ => bad) (fun _ ih0 => laws_heldIntS_l0 bad k_ a ih0) m_
theorem laws_heldIntS_L0_z {α : Type} (bad : α) (k_ : Int → α) (N : Nat) (a : Rows) (k_1 : Int) (i : Int) : laws_heldIntS_L0 bad k_ N a 0 k_1 i = bad := rfl
theorem laws_heldIntS_L0_s {α : Type} (bad : α) (k_ : Int → α) (N : Nat) (a : Rows) (m_ : Nat) (k_1 : Int) (i : Int) : laws_heldIntS_L0 bad k_ N a (m_ + 1) k_1 i = laws_heldIntS_l0 bad k_ a (laws_heldIntS_L0 bad k_ N a m_) k_1 i := rfl
def laws_heldIntS_t {α : Type} (bad : α) (k_ : Int → α) (l0 : Int → Int → α) (a : Rows) (k : Int) : α :=
  l0 k 0
def laws_heldIntS_f {α : Type} (bad : α) (k_ : Int → α) (N : Nat) (a : Rows) (k : Int) : α := laws_heldIntS_t bad k_ (laws_heldIntS_L0 bad k_ N a N) a k
def heldIntS (a : Rows) (k : Int) : Int := k + 1 * a.length
theorem laws_heldIntS_c {α : Type} (bad : α) (k_ : Int → α) (a : Rows) (k : Int) (h_a : WtC (.sl [.int .i64]) (.sl a)) (h_k : WtC (.int .i64) (.int k)) (hok : hdo fIntS 1 a k = true) : ∃ N, laws_heldIntS_f bad k_ N a k = k_ (heldIntS a k) := by
  obtain ⟨hl, hw⟩ := wt_sl h_a
  obtain ⟨h0, h1, h2, h3⟩ := hdo_of hok
  refine ⟨a.length + 1, ?_⟩
  unfold laws_heldIntS_f laws_heldIntS_t heldIntS
  refine held_loop a k 1 fIntS (laws_heldIntS_L0 bad k_ (a.length + 1) a) k_ h0 ?_ ?_
  · intro n i h hn
    rw [laws_heldIntS_L0_s]
    have w1 : w64 (k + 1 * (i : Int) + 1) = k + 1 * (i : Int) + 1 := w64_in (by omega) (by omega)
    simp only [laws_heldIntS_l0, lt_len h, idx_nat h, w64_succ h hl, Int.toNat_natCast, andt_true_l, andt_true_r, cond_true, hn, w1, rI_one, bne_self_eq_false, fIntS, cond_false]
  · intro n
    rw [laws_heldIntS_L0_s]
    simp only [laws_heldIntS_l0, not_lt_len, cond_false]

def laws_markBoolS_l0 {α : Type} (bad : α) (k_ : Int → Rows → α) (ih0 : Int → Int → Rows → α) (k_1 : Int) (i : Int) (a_1 : Rows) : α :=
  bif decide (i < len a_1) then
    bif andt (andt true (idx i a_1)) (inl (Int.toNat i) a_1) then
      ih0 (w64 (k_1 + 1)) (w64 (i + 1)) (List.set a_1 (Int.toNat i) (splice (nth a_1 (Int.toNat i)) 0 [.bool ((Int.tmod k_1 3) == 0)]))
    else bad
  else k_ k_1 a_1
def laws_markBoolS_L0 {α : Type} (bad : α) (k_ : Int → Rows → α) (N : Nat) (m_ : Nat) : Int → Int → Rows → α :=
  Nat.rec (motive := fun _ => Int → Int → Rows → α) (fun _ _ _ => bad) (fun _ ih0 => laws_markBoolS_l0 bad k_ ih0) m_
theorem laws_markBoolS_L0_z {α : Type} (bad : α) (k_ : Int → Rows → α) (N : Nat) (k_1 : Int) (i : Int) (a_1 : Rows) : laws_markBoolS_L0 bad k_ N 0 k_1 i a_1 = bad := rfl
theorem laws_markBoolS_L0_s {α : Type} (bad : α) (k_ : Int → Rows → α) (N : Nat) (m_ : Nat) (k_1 : Int) (i : Int) (a_1 : Rows) : laws_markBoolS_L0 bad k_ N (m_ + 1) k_1 i a_1 = laws_markBoolS_l0 bad k_ (laws_markBoolS_L0 bad k_ N m_) k_1 i a_1 := rfl
def laws_markBoolS_t {α : Type} (bad : α) (k_ : Int → Rows → α) (l0 : Int → Int → Rows → α) (a : Rows) (k : Int) : α :=
  l0 k 0 a
def laws_markBoolS_f {α : Type} (bad : α) (k_ : Int → Rows → α) (N : Nat) (a : Rows) (k : Int) : α := laws_markBoolS_t bad k_ (laws_markBoolS_L0 bad k_ N N) a k
def fBoolS (k : Int) : List DC := [.bool (Int.tmod k 3 == 0)]
def markBoolS (a : Rows) (k : Int) : Int × Rows := (k + 1 * a.length, mkl fBoolS 1 a.length k)
theorem laws_markBoolS_c {α : Type} (bad : α) (k_ : Int → Rows → α) (a : Rows) (k : Int) (h_a : WtC (.sl [.bool]) (.sl a)) (h_k : WtC (.int .i64) (.int k)) (hok : mko 1 a k = true) : ∃ N, laws_markBoolS_f bad k_ N a k = k_ (markBoolS a k).1 (markBoolS a k).2 := by
  obtain ⟨hl, hw⟩ := wt_sl h_a
  obtain ⟨h1, h2, h3⟩ := mko_of hok
  refine ⟨a.length + 1, ?_⟩
  unfold laws_markBoolS_f laws_markBoolS_t markBoolS
  refine mark_loop a k 1 fBoolS (laws_markBoolS_L0 bad k_ (a.length + 1)) k_ ?_ ?_
  · intro n i b h hb hn
    rw [laws_markBoolS_L0_s]
    have w1 : w64 (k + 1 * (i : Int) + 1) = k + 1 * (i : Int) + 1 := w64_in (by omega) (by omega)
    have hs : splice (nth a i) 0 (fBoolS (k + 1 * (i : Int))) = fBoolS (k + 1 * (i : Int)) := splice_all (by rw [wtl_len (hw (nth a i) (nth_mem h))]; rfl)
    simp only [laws_markBoolS_l0, lt_len (show i < b.length by omega), idx_nat (show i < b.length by omega), inl_nat (show i < b.length by omega), w64_succ h hl, Int.toNat_natCast, andt_true_l, andt_true_r, cond_true, hn, w1]
    rw [← hs]; rfl
  · intro n b hb
    rw [laws_markBoolS_L0_s]
    simp only [laws_markBoolS_l0, ← hb, not_lt_len, cond_false]

end
end Go.Proofs.Ytjmgpcfmcdlnpaa.Pl
