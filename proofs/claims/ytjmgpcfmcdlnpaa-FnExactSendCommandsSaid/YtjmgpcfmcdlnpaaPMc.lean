/- What functions of the program compute, in plain Lean, as the value machine runs them. Conditions: none. -/
import Derived.Test.YtjmgpcfmcdlnpaaPHa
set_option linter.unusedVariables false
set_option linter.unusedSimpArgs false
namespace Go.Proofs.Ytjmgpcfmcdlnpaa.Pl
open Vm
noncomputable section


def impl_SendCommands_c1_t {α : Type} (bad : α) (k_ : Bool → Int → Rows → α) (a0 : Int) (a1 : Rows) : α :=
  let z0 : Bool := decide (w64 (a0 + 1) ≤ len a1)
  let z1 : Int := w64 ((w64 (a0 + 1)) - 1)
  bif okm z0 (andt true (idx z1 a1)) true then
    k_ (bif z0 then rB (nth a1 (Int.toNat z1)) 0 else false) (w64 (a0 + 1)) a1
  else bad
def lbI (l : Rows) (a : Int) : Bool := bif decide (a < len l) then rB (nth l (Int.toNat a)) 0 else false
def gone (a0 : Int) (a1 : Rows) : Bool × Int × Rows := (lbI a1 a0, a0 + 1, a1)
def goneOk0 (a0 : Int) (_ : Rows) : Bool := decide (0 ≤ a0) && decide (a0 ≤ 1000000000)
def goneOk (a0 : Int) (a1 : Rows) : Bool := shut goneOk0 a0 a1
theorem goneOk_iff {a0 : Int} {a1 : Rows} : goneOk a0 a1 = true ↔ 0 ≤ a0 ∧ a0 ≤ 1000000000 := by
  unfold goneOk
  rw [congrFun (congrFun (shut_eq goneOk0) a0) a1]
  simp only [goneOk0, Bool.and_eq_true, decide_eq_true_eq]
theorem impl_SendCommands_c1_c {α : Type} (bad : α) (k_ : Bool → Int → Rows → α) (a0 : Int) (a1 : Rows) (h_a0 : WtC (.int .i64) (.int a0)) (h_a1 : WtC (.sl [.bool]) (.sl a1)) (hok : goneOk a0 a1 = true) : impl_SendCommands_c1_t bad k_ a0 a1 = k_ (gone a0 a1).1 (gone a0 a1).2.1 (gone a0 a1).2.2 := by
  have hok := goneOk_iff.1 hok
  have w1 : w64 (a0 + 1) = a0 + 1 := w64_in (by omega) (by omega)
  have w2 : w64 (a0 + 1 - 1) = a0 := by rw [w64_in (by omega) (by omega)]; omega
  unfold impl_SendCommands_c1_t gone lbI
  simp only [w1, w2]
  by_cases h : a0 < len a1
  · have h2 : (a0 + 1 ≤ len a1) = True := eq_true (by omega)
    have hx : idx a0 a1 = true := by simp only [len] at h; simp only [idx, Bool.and_eq_true, decide_eq_true_eq]; omega
    simp only [h, h2, hx, decide_true, andt_true_l, okm_tt, cond_true]
  · have h2 : (a0 + 1 ≤ len a1) = False := eq_false (by omega)
    simp only [h, h2, decide_false, cond_false, okm_eq, cond_true]


def inn (lost : Rows) (x : SMessage) : Nat → Nat → SMailbox → SMailbox × Int × Nat
  | 0, a, o => (o, 0, a)
  | n + 1, a, o => bif lbI lost (a : Int) then inn lost x n (a + 1) o
    else bif lbI lost ((a + 1 : Nat) : Int) then inn lost x n (a + 2) (HandleMessage o x).1
    else ((HandleMessage o x).1, (HandleMessage o x).2, a + 2)
theorem lbI_past {l : Rows} {a : Nat} (h : l.length ≤ a) : lbI l (a : Int) = false := by
  unfold lbI
  rw [decide_eq_false (show ¬ (a : Int) < len l by simp only [len]; omega)]
  rfl
theorem lbI_lt {l : Rows} {a : Nat} (h : lbI l (a : Int) = true) : a < l.length := by
  rcases Nat.lt_or_ge a l.length with h1 | h1
  · exact h1
  · rw [lbI_past h1] at h; cases h
theorem inn_at (lost : Rows) (x : SMessage) : ∀ (m a : Nat) (o : SMailbox), (inn lost x m a o).2.2 ≤ max a lost.length + 2
  | 0, a, o => by simp only [inn]; omega
  | m + 1, a, o => by
    unfold inn
    cases h1 : lbI lost (a : Int)
    · cases h2 : lbI lost ((a + 1 : Nat) : Int)
      · simp only [cond_false]; omega
      · have := lbI_lt h2
        have := inn_at lost x m (a + 2) (HandleMessage o x).1
        simp only [cond_false, cond_true]; omega
    · have := lbI_lt h1
      have := inn_at lost x m (a + 1) o
      simp only [cond_true]; omega
theorem inn_sm (lost : Rows) (x : SMessage) : ∀ (m a : Nat) (o : SMailbox), sm o.Filter.Vlans = true → sm (inn lost x m a o).1.Filter.Vlans = true
  | 0, a, o, h => h
  | m + 1, a, o, h => by
    unfold inn
    cases lbI lost (a : Int)
    · cases lbI lost ((a + 1 : Nat) : Int)
      · exact HandleMessage_sm h
      · exact inn_sm lost x m (a + 2) _ (HandleMessage_sm h)
    · exact inn_sm lost x m (a + 1) o h
def scX (list_ : Rows) (last : Int) (k : Nat) : SMessage := ⟨w64 (w64 (last + 1) + (k : Int)), rI (nth list_ k) 1, rI (nth list_ k) 2⟩
def scF (list_ lost : Rows) (last : Int) (k : Nat) (s : Nat × SMailbox × Rows) : Nat × SMailbox × Rows :=
  ((inn lost (scX list_ last k) (lost.length + list_.length + 2) s.1 s.2.1).2.2, (inn lost (scX list_ last k) (lost.length + list_.length + 2) s.1 s.2.1).1, s.2.2 ++ [[.int (inn lost (scX list_ last k) (lost.length + list_.length + 2) s.1 s.2.1).2.1]])
def SendCommands_ok (b : SMailbox) (list_ : Rows) (lost : Rows) : Bool := sm b.Filter.Vlans
def SendCommands (b : SMailbox) (list_ : Rows) (lost : Rows) : SMailbox × Rows :=
  bif bif !(MailboxOk b) then true else bif decide (100 < len list_) then true else decide (1000 < len lost) then (b, [])
  else (itN (scF list_ lost b.Last) list_.length 0 (0, b, [])).2
theorem sc_inv {list_ lost : Rows} {last : Int} (i : Nat) {s : Nat × SMailbox × Rows} (h : s.1 ≤ lost.length + 2 * i ∧ sm s.2.1.Filter.Vlans = true ∧ s.2.2.length = i) :
    (scF list_ lost last i s).1 ≤ lost.length + 2 * (i + 1) ∧ sm (scF list_ lost last i s).2.1.Filter.Vlans = true ∧ (scF list_ lost last i s).2.2.length = i + 1 := by
  obtain ⟨h1, h2, h3⟩ := h
  have := inn_at lost (scX list_ last i) (lost.length + list_.length + 2) s.1 s.2.1
  refine ⟨?_, inn_sm _ _ _ _ _ h2, ?_⟩
  · simp only [scF]; omega
  · simp only [scF, List.length_append, List.length_cons, List.length_nil]; omega
theorem itN_ind {σ : Type} {f : Nat → σ → σ} {I : Nat → σ → Prop} (hI : ∀ i s, I i s → I (i + 1) (f i s)) : ∀ (m i : Nat) (s : σ), I i s → I (i + m) (itN f m i s)
  | 0, _, _, h => h
  | m + 1, i, s, h => by
    have := itN_ind hI m (i + 1) (f i s) (hI i s h)
    rw [show i + 1 + m = i + (m + 1) by omega] at this
    exact this
theorem SendCommands_sm {b : SMailbox} (h : sm b.Filter.Vlans = true) (list_ lost : Rows) : sm (SendCommands b list_ lost).1.Filter.Vlans = true ∧ (SendCommands b list_ lost).2.length ≤ 100 := by
  unfold SendCommands
  cases hc : (bif !(MailboxOk b) then true else bif decide (100 < len list_) then true else decide (1000 < len lost))
  · have := itN_ind (f := scF list_ lost b.Last) (I := fun i s => s.1 ≤ lost.length + 2 * i ∧ sm s.2.1.Filter.Vlans = true ∧ s.2.2.length = i) (fun i s h => sc_inv i h) list_.length 0 (0, b, []) ⟨by simp, h, rfl⟩
    have hl : len list_ ≤ 100 := by
      cases h1 : MailboxOk b
      · rw [h1] at hc; cases hc
      · rw [h1] at hc
        by_cases h2 : 100 < len list_
        · rw [decide_eq_true h2] at hc; cases hc
        · omega
    simp only [len] at hl
    refine ⟨this.2.1, ?_⟩
    have h3 := this.2.2
    simp only [cond_false]
    omega
  · exact ⟨h, by simp⟩
theorem sc_cond {b : SMailbox} {list_ lost : Rows} (hc : (bif !(MailboxOk b) then true else bif decide (100 < len list_) then true else decide (1000 < len lost)) = false) : MailboxOk b = true ∧ list_.length ≤ 100 ∧ lost.length ≤ 1000 := by
  cases h1 : MailboxOk b
  · rw [h1] at hc; cases hc
  · rw [h1] at hc
    by_cases h2 : 100 < len list_
    · rw [decide_eq_true h2] at hc; cases hc
    · rw [decide_eq_false h2] at hc
      have h3 := of_decide_eq_false (show decide (1000 < len lost) = false from hc)
      simp only [len] at h2 h3
      exact ⟨rfl, by omega, by omega⟩

def impl_SendCommands_l0 {α : Type} (bad : α) (k_ : SMailbox → Rows → α) (l1 : Int → Int → Int → Int → Rows → Rows → Int → Bool → Int → Int → Int → Int → Rows → α) (list_ : Rows) (x_1 : Int) (b_4 : Int) (ih0 : Int → Rows → Int → Bool → Int → Int → Int → Int → Rows → Rows → α) (x_2 : Int) (lost_1 : Rows) (out_ : Int) (out_1 : Bool) (out_2 : Int) (out_3 : Int) (out_4 : Int) (at_ : Int) (answers : Rows) (out_2_1 : Rows) : α :=
  bif decide (x_2 < x_1) then
    bif andt true (idx x_2 list_) then
      l1 x_2 (w64 ((w64 (b_4 + 1)) + x_2)) (rI (nth list_ (Int.toNat x_2)) 1) (rI (nth list_ (Int.toNat x_2)) 2) answers lost_1 out_ out_1 out_2 out_3 out_4 at_ out_2_1
    else bad
  else k_ (⟨(⟨out_, out_1, out_2_1⟩ : SFilter), out_2, out_3, out_4⟩ : SMailbox) answers
def impl_SendCommands_l1 {α : Type} (bad : α) (k_ : SMailbox → Rows → α) (ih0 : Int → Rows → Int → Bool → Int → Int → Int → Int → Rows → Rows → α) (x_2 : Int) (x_6 : Int) (x_7 : Int) (x_8 : Int) (answers : Rows) (ih1 : Rows → Int → Bool → Int → Int → Int → Int → Rows → α) (lost_2 : Rows) (out_5 : Int) (out_6 : Bool) (out_7 : Int) (out_8 : Int) (out_9 : Int) (at_1 : Int) (out_2_2 : Rows) : α :=
  let z0 : SMailbox := (⟨(⟨out_5, out_6, out_2_2⟩ : SFilter), out_7, out_8, out_9⟩ : SMailbox)
  let z1 : Bool × Int × Rows := gone ((gone at_1 lost_2).2.1) ((gone at_1 lost_2).2.2)
  let z2 : SMailbox := (HandleMessage z0 (⟨x_6, x_7, x_8⟩ : SMessage)).1
  let z3 : SFilter := z2.Filter
  let z4 : Int := z3.Mac
  let z5 : Bool := z3.Promiscuous
  let z6 : Int := z2.Last
  let z7 : Int := z2.Answer
  let z8 : Int := z2.Done
  let z9 : Rows := z3.Vlans
  bif andt true (goneOk at_1 lost_2) then
    bif (gone at_1 lost_2).1 then ih1 ((gone at_1 lost_2).2.2) out_5 out_6 out_7 out_8 out_9 ((gone at_1 lost_2).2.1) out_2_2
    else bif andt true (mbSm2 z0 (⟨x_6, x_7, x_8⟩ : SMessage)) then
        bif andt true (goneOk ((gone at_1 lost_2).2.1) ((gone at_1 lost_2).2.2)) then
          bif !z1.1 then
            bif andt true (room2 8 answers ([[.int ((HandleMessage z0 (⟨x_6, x_7, x_8⟩ : SMessage)).2)]])) then
              ih0 (w64 (x_2 + 1)) z1.2.2 z4 z5 z6 z7 z8 z1.2.1 (answers ++ ([[.int ((HandleMessage z0 (⟨x_6, x_7, x_8⟩ : SMessage)).2)]])) z9
            else bad
          else ih1 z1.2.2 z4 z5 z6 z7 z8 z1.2.1 z9
        else bad
      else bad
  else bad
def impl_SendCommands_L1 {α : Type} (bad : α) (k_ : SMailbox → Rows → α) (N : Nat) (ih0 : Int → Rows → Int → Bool → Int → Int → Int → Int → Rows → Rows → α) (x_2 : Int) (x_6 : Int) (x_7 : Int) (x_8 : Int) (answers : Rows) (m_ : Nat) : Rows → Int → Bool → Int → Int → Int → Int → Rows → α :=
  Nat.rec (motive := fun _ => Rows → Int → Bool → Int → Int → Int → Int → Rows → α) (fun _ _ _ _ _ _ _ _ => bad) (fun _ ih1 => impl_SendCommands_l1 bad k_ ih0 x_2 x_6 x_7 x_8 answers ih1) m_
theorem impl_SendCommands_L1_z {α : Type} (bad : α) (k_ : SMailbox → Rows → α) (N : Nat) (ih0 : Int → Rows → Int → Bool → Int → Int → Int → Int → Rows → Rows → α) (x_2 : Int) (x_6 : Int) (x_7 : Int) (x_8 : Int) (answers : Rows) (lost_2 : Rows) (out_5 : Int) (out_6 : Bool) (out_7 : Int) (out_8 : Int) (out_9 : Int) (at_1 : Int) (out_2_2 : Rows) : impl_SendCommands_L1 bad k_ N ih0 x_2 x_6 x_7 x_8 answers 0 lost_2 out_5 out_6 out_7 out_8 out_9 at_1 out_2_2 = bad := rfl
theorem impl_SendCommands_L1_s {α : Type} (bad : α) (k_ : SMailbox → Rows → α) (N : Nat) (ih0 : Int → Rows → Int → Bool → Int → Int → Int → Int → Rows → Rows → α) (x_2 : Int) (x_6 : Int) (x_7 : Int) (x_8 : Int) (answers : Rows) (m_ : Nat) (lost_2 : Rows) (out_5 : Int) (out_6 : Bool) (out_7 : Int) (out_8 : Int) (out_9 : Int) (at_1 : Int) (out_2_2 : Rows) : impl_SendCommands_L1 bad k_ N ih0 x_2 x_6 x_7 x_8 answers (m_ + 1) lost_2 out_5 out_6 out_7 out_8 out_9 at_1 out_2_2 = impl_SendCommands_l1 bad k_ ih0 x_2 x_6 x_7 x_8 answers (impl_SendCommands_L1 bad k_ N ih0 x_2 x_6 x_7 x_8 answers m_) lost_2 out_5 out_6 out_7 out_8 out_9 at_1 out_2_2 := rfl
def impl_SendCommands_L0 {α : Type} (bad : α) (k_ : SMailbox → Rows → α) (N : Nat) (list_ : Rows) (x_1 : Int) (b_4 : Int) (m_ : Nat) : Int → Rows → Int → Bool → Int → Int → Int → Int → Rows → Rows → α :=
  Nat.rec (motive := fun _ => Int → Rows → Int → Bool → Int → Int → Int → Int → Rows → Rows → α) (fun _ _ _ _ _ _ _ _ _ _ => bad) (fun _ ih0 => impl_SendCommands_l0 bad k_ (fun x_2 x_6 x_7 x_8 answers => impl_SendCommands_L1 bad k_ N ih0 x_2 x_6 x_7 x_8 answers N) list_ x_1 b_4 ih0) m_
theorem impl_SendCommands_L0_z {α : Type} (bad : α) (k_ : SMailbox → Rows → α) (N : Nat) (list_ : Rows) (x_1 : Int) (b_4 : Int) (x_2 : Int) (lost_1 : Rows) (out_ : Int) (out_1 : Bool) (out_2 : Int) (out_3 : Int) (out_4 : Int) (at_ : Int) (answers : Rows) (out_2_1 : Rows) : impl_SendCommands_L0 bad k_ N list_ x_1 b_4 0 x_2 lost_1 out_ out_1 out_2 out_3 out_4 at_ answers out_2_1 = bad := rfl
theorem impl_SendCommands_L0_s {α : Type} (bad : α) (k_ : SMailbox → Rows → α) (N : Nat) (list_ : Rows) (x_1 : Int) (b_4 : Int) (m_ : Nat) (x_2 : Int) (lost_1 : Rows) (out_ : Int) (out_1 : Bool) (out_2 : Int) (out_3 : Int) (out_4 : Int) (at_ : Int) (answers : Rows) (out_2_1 : Rows) : impl_SendCommands_L0 bad k_ N list_ x_1 b_4 (m_ + 1) x_2 lost_1 out_ out_1 out_2 out_3 out_4 at_ answers out_2_1 = impl_SendCommands_l0 bad k_ (fun x_2 x_6 x_7 x_8 answers => impl_SendCommands_L1 bad k_ N (impl_SendCommands_L0 bad k_ N list_ x_1 b_4 m_) x_2 x_6 x_7 x_8 answers N) list_ x_1 b_4 (impl_SendCommands_L0 bad k_ N list_ x_1 b_4 m_) x_2 lost_1 out_ out_1 out_2 out_3 out_4 at_ answers out_2_1 := rfl
def impl_SendCommands_t {α : Type} (bad : α) (k_ : SMailbox → Rows → α) (l0 : Int → Int → Int → Rows → Int → Bool → Int → Int → Int → Int → Rows → Rows → α) (b : SMailbox) (list_ : Rows) (lost : Rows) : α :=
  bif andt true (mbSm b) then
    bif bif !(MailboxOk b) then true else bif decide (100 < len list_) then true else decide (1000 < len lost) then k_ (idf b) []
    else l0 (len list_) b.Last 0 lost (((idf b).Filter).Mac) (((idf b).Filter).Promiscuous) ((idf b).Last) ((idf b).Answer) ((idf b).Done) 0 [] (((idf b).Filter).Vlans)
  else bad
def impl_SendCommands_f {α : Type} (bad : α) (k_ : SMailbox → Rows → α) (N : Nat) (b : SMailbox) (list_ : Rows) (lost : Rows) : α := impl_SendCommands_t bad k_ (fun x_1 b_4 => impl_SendCommands_L0 bad k_ N list_ x_1 b_4 N) b list_ lost
theorem impl_SendCommands_c {α : Type} (bad : α) (k_ : SMailbox → Rows → α) (b : SMailbox) (list_ : Rows) (lost : Rows) (h_b : WtL SMailbox.ct b.enc) (h_list_ : WtC (.sl [.int .i64, .int .i64, .int .i64]) (.sl list_)) (h_lost : WtC (.sl [.bool]) (.sl lost)) (hok : SendCommands_ok b list_ lost = true) : ∃ N, impl_SendCommands_f bad k_ N b list_ lost = k_ (SendCommands b list_ lost).1 (SendCommands b list_ lost).2 := by
  have hms : mbSm b = true := hok
  obtain ⟨hl, _⟩ := wt_sl h_list_
  refine ⟨lost.length + list_.length + 2, ?_⟩
  unfold impl_SendCommands_f impl_SendCommands_t SendCommands
  simp only [idf, hms, andt_true_l, cond_true]
  refine cond_c (K := fun r : SMailbox × Rows => k_ r.1 r.2) (fun _ => rfl) (fun hg => ?_)
  obtain ⟨hmo, hl1, hl2⟩ := sc_cond hg
  have eta : ∀ o : SMailbox, (⟨(⟨o.Filter.Mac, o.Filter.Promiscuous, o.Filter.Vlans⟩ : SFilter), o.Last, o.Answer, o.Done⟩ : SMailbox) = o := fun _ => rfl

  have inner : ∀ (ih0 : Int → Rows → Int → Bool → Int → Int → Int → Int → Rows → Rows → α) (x2 : Int) (X : SMessage) (answers : Rows), answers.length ≤ 200 → ∀ (m a : Nat) (o : SMailbox), lost.length ≤ a + m → a + 2 * m ≤ 1000000 → sm o.Filter.Vlans = true →
      impl_SendCommands_L1 bad k_ (lost.length + list_.length + 2) ih0 x2 X.Seq X.Op X.Arg answers (m + 1) lost o.Filter.Mac o.Filter.Promiscuous o.Last o.Answer o.Done (a : Int) o.Filter.Vlans =
      ih0 (w64 (x2 + 1)) lost (inn lost X (m + 1) a o).1.Filter.Mac (inn lost X (m + 1) a o).1.Filter.Promiscuous (inn lost X (m + 1) a o).1.Last (inn lost X (m + 1) a o).1.Answer (inn lost X (m + 1) a o).1.Done ((inn lost X (m + 1) a o).2.2 : Nat) (answers ++ [[.int (inn lost X (m + 1) a o).2.1]]) (inn lost X (m + 1) a o).1.Filter.Vlans := by
    intro ih0 x2 X answers hans m
    have hr : ∀ q : List DC, room2 8 answers [q] = true := fun q => room2_le (by simp only [List.length_cons, List.length_nil]; omega) (by omega)
    have etaX : (⟨X.Seq, X.Op, X.Arg⟩ : SMessage) = X := rfl
    induction m with
    | zero =>
      intro a o h1 h2 h3
      rw [impl_SendCommands_L1_s]
      have g1 : goneOk (a : Int) lost = true := goneOk_iff.2 (by omega)
      have e1 : (a : Int) + 1 = ((a + 1 : Nat) : Int) := by omega
      have e2 : ((a + 1 : Nat) : Int) + 1 = ((a + 2 : Nat) : Int) := by omega
      have g2 : goneOk ((a + 1 : Nat) : Int) lost = true := goneOk_iff.2 (by omega)
      have hs : ∀ x, mbSm2 o x = true := fun _ => h3
      have f1 := lbI_past (l := lost) (a := a) (by omega)
      have f2 := lbI_past (l := lost) (a := a + 1) (by omega)
      simp only [impl_SendCommands_l1, gone, g1, eta, etaX, e1, g2, e2, hs, hr, f1, f2, inn, andt_true_l, cond_true, cond_false, Bool.not_false]
    | succ m ihm =>
      intro a o h1 h2 h3
      rw [impl_SendCommands_L1_s]
      have g1 : goneOk (a : Int) lost = true := goneOk_iff.2 (by omega)
      have e1 : (a : Int) + 1 = ((a + 1 : Nat) : Int) := by omega
      have e2 : ((a + 1 : Nat) : Int) + 1 = ((a + 2 : Nat) : Int) := by omega
      have g2 : goneOk ((a + 1 : Nat) : Int) lost = true := goneOk_iff.2 (by omega)
      have hs : ∀ x, mbSm2 o x = true := fun _ => h3
      have i1 := ihm (a + 1) o (by omega) (by omega) h3
      have i2 := ihm (a + 2) (HandleMessage o X).1 (by omega) (by omega) (HandleMessage_sm h3)
      rw [inn]
      simp only [impl_SendCommands_l1, gone, g1, eta, etaX, e1, g2, e2, hs, hr, andt_true_l, cond_true]
      cases f1 : lbI lost (a : Int)
      · cases f2 : lbI lost ((a + 1 : Nat) : Int)
        · simp only [cond_false, cond_true, Bool.not_false]
        · simp only [cond_false, cond_true, Bool.not_true]
          exact i2
      · simp only [cond_true]
        exact i1
  refine (loop_inv list_.length (fun n i (s : Nat × SMailbox × Rows) => impl_SendCommands_L0 bad k_ (lost.length + list_.length + 2) list_ (len list_) b.Last n i lost s.2.1.Filter.Mac s.2.1.Filter.Promiscuous s.2.1.Last s.2.1.Answer s.2.1.Done (s.1 : Int) s.2.2 s.2.1.Filter.Vlans) (scF list_ lost b.Last) (fun s => k_ s.2.1 s.2.2) (fun i s => s.1 ≤ lost.length + 2 * i ∧ sm s.2.1.Filter.Vlans = true ∧ s.2.2.length = i) (fun i s _ h => sc_inv i h) ?_ ?_ (lost.length + list_.length + 2) (0, b, []) ⟨by simp, hms, rfl⟩ (by omega))
  · intro n i s hi hs
    show impl_SendCommands_L0 bad k_ (lost.length + list_.length + 2) list_ (len list_) b.Last (n + 1) (i : Int) lost s.2.1.Filter.Mac s.2.1.Filter.Promiscuous s.2.1.Last s.2.1.Answer s.2.1.Done (s.1 : Int) s.2.2 s.2.1.Filter.Vlans = _
    rw [impl_SendCommands_L0_s]
    have := inner (impl_SendCommands_L0 bad k_ (lost.length + list_.length + 2) list_ (len list_) b.Last n) (i : Int) (scX list_ b.Last i) s.2.2 (by omega) (lost.length + list_.length + 1) s.1 s.2.1 (by omega) (by omega) hs.2.1
    simp only [impl_SendCommands_l0, lt_len hi, idx_nat hi, Int.toNat_natCast, andt_true_l, cond_true]
    rw [w64_succ hi hl, show lost.length + list_.length + 1 + 1 = lost.length + list_.length + 2 from rfl] at this
    refine Eq.trans ?_ (this.trans ?_)
    · rfl
    · unfold scF
      rfl
  · intro n s hs
    show impl_SendCommands_L0 bad k_ (lost.length + list_.length + 2) list_ (len list_) b.Last (n + 1) (list_.length : Int) lost s.2.1.Filter.Mac s.2.1.Filter.Promiscuous s.2.1.Last s.2.1.Answer s.2.1.Done (s.1 : Int) s.2.2 s.2.1.Filter.Vlans = _
    rw [impl_SendCommands_L0_s]
    simp only [impl_SendCommands_l0, not_lt_len, eta, cond_false]

def spec_SendCommands_l0 {α : Type} (bad : α) (k_ : SMailbox → Rows → α) (l1 : Int → Int → Int → Int → Rows → Int → Int → Bool → Int → Int → Int → Rows → α) (list_ : Rows) (lost : Rows) (b_4 : Int) (ih0 : Int → Int → Int → Bool → Int → Int → Int → Rows → Rows → α) (at_ : Int) (k : Int) (out_ : Int) (out_1 : Bool) (out_2 : Int) (out_3 : Int) (out_4 : Int) (answers : Rows) (out_2_1 : Rows) : α :=
  bif decide (k < len list_) then
    bif andt true (idx k list_) then
      l1 k (w64 ((w64 (b_4 + 1)) + k)) (rI (nth list_ (Int.toNat k)) 1) (rI (nth list_ (Int.toNat k)) 2) answers at_ out_ out_1 out_2 out_3 out_4 out_2_1
    else bad
  else k_ (⟨(⟨out_, out_1, out_2_1⟩ : SFilter), out_2, out_3, out_4⟩ : SMailbox) answers
def spec_SendCommands_l1 {α : Type} (bad : α) (k_ : SMailbox → Rows → α) (ih0 : Int → Int → Int → Bool → Int → Int → Int → Rows → Rows → α) (lost : Rows) (k : Int) (x : Int) (x_1 : Int) (x_2 : Int) (answers : Rows) (ih1 : Int → Int → Bool → Int → Int → Int → Rows → α) (at_1 : Int) (out_5 : Int) (out_6 : Bool) (out_7 : Int) (out_8 : Int) (out_9 : Int) (out_2_2 : Rows) : α :=
  let z0 : SMailbox := (⟨(⟨out_5, out_6, out_2_2⟩ : SFilter), out_7, out_8, out_9⟩ : SMailbox)
  let z1 : Bool := decide (w64 (at_1 + 1) < len lost)
  let z2 : Int := w64 ((w64 (at_1 + 1)) + 1)
  let z3 : SMailbox := (HandleMessage z0 (⟨x, x_1, x_2⟩ : SMessage)).1
  let z4 : SFilter := z3.Filter
  let z5 : Int := z4.Mac
  let z6 : Bool := z4.Promiscuous
  let z7 : Int := z3.Last
  let z8 : Int := z3.Answer
  let z9 : Int := z3.Done
  let z10 : Rows := z4.Vlans
  bif okm (decide (at_1 < len lost)) (andt true (idx at_1 lost)) true then
    bif bif decide (at_1 < len lost) then rB (nth lost (Int.toNat at_1)) 0 else false then ih1 (w64 (at_1 + 1)) out_5 out_6 out_7 out_8 out_9 out_2_2
    else bif andt true (mbSm2 z0 (⟨x, x_1, x_2⟩ : SMessage)) then
        bif okm z1 (andt true (idx (w64 (at_1 + 1)) lost)) true then
          bif !(bif z1 then rB (nth lost (Int.toNat (w64 (at_1 + 1)))) 0 else false) then
            bif andt true (room2 8 answers ([[.int ((HandleMessage z0 (⟨x, x_1, x_2⟩ : SMessage)).2)]])) then
              ih0 z2 (w64 (k + 1)) z5 z6 z7 z8 z9 (answers ++ ([[.int ((HandleMessage z0 (⟨x, x_1, x_2⟩ : SMessage)).2)]])) z10
            else bad
          else ih1 z2 z5 z6 z7 z8 z9 z10
        else bad
      else bad
  else bad
def spec_SendCommands_L1 {α : Type} (bad : α) (k_ : SMailbox → Rows → α) (N : Nat) (ih0 : Int → Int → Int → Bool → Int → Int → Int → Rows → Rows → α) (lost : Rows) (k : Int) (x : Int) (x_1 : Int) (x_2 : Int) (answers : Rows) (m_ : Nat) : Int → Int → Bool → Int → Int → Int → Rows → α :=
  Nat.rec (motive := fun _ => Int → Int → Bool → Int → Int → Int → Rows → α) (fun _ _ _ _ _ _ _ => bad) (fun _ ih1 => spec_SendCommands_l1 bad k_ ih0 lost k x x_1 x_2 answers ih1) m_
theorem spec_SendCommands_L1_z {α : Type} (bad : α) (k_ : SMailbox → Rows → α) (N : Nat) (ih0 : Int → Int → Int → Bool → Int → Int → Int → Rows → Rows → α) (lost : Rows) (k : Int) (x : Int) (x_1 : Int) (x_2 : Int) (answers : Rows) (at_1 : Int) (out_5 : Int) (out_6 : Bool) (out_7 : Int) (out_8 : Int) (out_9 : Int) (out_2_2 : Rows) : spec_SendCommands_L1 bad k_ N ih0 lost k x x_1 x_2 answers 0 at_1 out_5 out_6 out_7 out_8 out_9 out_2_2 = bad := rfl
theorem spec_SendCommands_L1_s {α : Type} (bad : α) (k_ : SMailbox → Rows → α) (N : Nat) (ih0 : Int → Int → Int → Bool → Int → Int → Int → Rows → Rows → α) (lost : Rows) (k : Int) (x : Int) (x_1 : Int) (x_2 : Int) (answers : Rows) (m_ : Nat) (at_1 : Int) (out_5 : Int) (out_6 : Bool) (out_7 : Int) (out_8 : Int) (out_9 : Int) (out_2_2 : Rows) : spec_SendCommands_L1 bad k_ N ih0 lost k x x_1 x_2 answers (m_ + 1) at_1 out_5 out_6 out_7 out_8 out_9 out_2_2 = spec_SendCommands_l1 bad k_ ih0 lost k x x_1 x_2 answers (spec_SendCommands_L1 bad k_ N ih0 lost k x x_1 x_2 answers m_) at_1 out_5 out_6 out_7 out_8 out_9 out_2_2 := rfl
def spec_SendCommands_L0 {α : Type} (bad : α) (k_ : SMailbox → Rows → α) (N : Nat) (list_ : Rows) (lost : Rows) (b_4 : Int) (m_ : Nat) : Int → Int → Int → Bool → Int → Int → Int → Rows → Rows → α :=
  Nat.rec (motive := fun _ => Int → Int → Int → Bool → Int → Int → Int → Rows → Rows → α) (fun _ _ _ _ _ _ _ _ _ => bad) (fun _ ih0 => spec_SendCommands_l0 bad k_ (fun k x x_1 x_2 answers => spec_SendCommands_L1 bad k_ N ih0 lost k x x_1 x_2 answers N) list_ lost b_4 ih0) m_
theorem spec_SendCommands_L0_z {α : Type} (bad : α) (k_ : SMailbox → Rows → α) (N : Nat) (list_ : Rows) (lost : Rows) (b_4 : Int) (at_ : Int) (k : Int) (out_ : Int) (out_1 : Bool) (out_2 : Int) (out_3 : Int) (out_4 : Int) (answers : Rows) (out_2_1 : Rows) : spec_SendCommands_L0 bad k_ N list_ lost b_4 0 at_ k out_ out_1 out_2 out_3 out_4 answers out_2_1 = bad := rfl
theorem spec_SendCommands_L0_s {α : Type} (bad : α) (k_ : SMailbox → Rows → α) (N : Nat) (list_ : Rows) (lost : Rows) (b_4 : Int) (m_ : Nat) (at_ : Int) (k : Int) (out_ : Int) (out_1 : Bool) (out_2 : Int) (out_3 : Int) (out_4 : Int) (answers : Rows) (out_2_1 : Rows) : spec_SendCommands_L0 bad k_ N list_ lost b_4 (m_ + 1) at_ k out_ out_1 out_2 out_3 out_4 answers out_2_1 = spec_SendCommands_l0 bad k_ (fun k x x_1 x_2 answers => spec_SendCommands_L1 bad k_ N (spec_SendCommands_L0 bad k_ N list_ lost b_4 m_) lost k x x_1 x_2 answers N) list_ lost b_4 (spec_SendCommands_L0 bad k_ N list_ lost b_4 m_) at_ k out_ out_1 out_2 out_3 out_4 answers out_2_1 := rfl
def spec_SendCommands_t {α : Type} (bad : α) (k_ : SMailbox → Rows → α) (l0 : Int → Int → Int → Int → Bool → Int → Int → Int → Rows → Rows → α) (b : SMailbox) (list_ : Rows) (lost : Rows) : α :=
  bif andt true (mbSm b) then
    bif bif !(MailboxOk b) then true else bif decide (100 < len list_) then true else decide (1000 < len lost) then k_ (idf b) []
    else l0 b.Last 0 0 (((idf b).Filter).Mac) (((idf b).Filter).Promiscuous) ((idf b).Last) ((idf b).Answer) ((idf b).Done) [] (((idf b).Filter).Vlans)
  else bad
def spec_SendCommands_f {α : Type} (bad : α) (k_ : SMailbox → Rows → α) (N : Nat) (b : SMailbox) (list_ : Rows) (lost : Rows) : α := spec_SendCommands_t bad k_ (fun b_4 => spec_SendCommands_L0 bad k_ N list_ lost b_4 N) b list_ lost
theorem spec_SendCommands_c {α : Type} (bad : α) (k_ : SMailbox → Rows → α) (b : SMailbox) (list_ : Rows) (lost : Rows) (h_b : WtL SMailbox.ct b.enc) (h_list_ : WtC (.sl [.int .i64, .int .i64, .int .i64]) (.sl list_)) (h_lost : WtC (.sl [.bool]) (.sl lost)) (hok : SendCommands_ok b list_ lost = true) : ∃ N, spec_SendCommands_f bad k_ N b list_ lost = k_ (SendCommands b list_ lost).1 (SendCommands b list_ lost).2 := by
  have hms : mbSm b = true := hok
  obtain ⟨hl, _⟩ := wt_sl h_list_
  refine ⟨lost.length + list_.length + 2, ?_⟩
  unfold spec_SendCommands_f spec_SendCommands_t SendCommands
  simp only [idf, hms, andt_true_l, cond_true]
  refine cond_c (K := fun r : SMailbox × Rows => k_ r.1 r.2) (fun _ => rfl) (fun hg => ?_)
  obtain ⟨hmo, hl1, hl2⟩ := sc_cond hg
  have eta : ∀ o : SMailbox, (⟨(⟨o.Filter.Mac, o.Filter.Promiscuous, o.Filter.Vlans⟩ : SFilter), o.Last, o.Answer, o.Done⟩ : SMailbox) = o := fun _ => rfl

  have inner : ∀ (ih0 : Int → Int → Int → Bool → Int → Int → Int → Rows → Rows → α) (x2 : Int) (X : SMessage) (answers : Rows), answers.length ≤ 200 → ∀ (m a : Nat) (o : SMailbox), lost.length ≤ a + m → a + 2 * m ≤ 1000000 → sm o.Filter.Vlans = true →
      spec_SendCommands_L1 bad k_ (lost.length + list_.length + 2) ih0 lost x2 X.Seq X.Op X.Arg answers (m + 1) (a : Int) o.Filter.Mac o.Filter.Promiscuous o.Last o.Answer o.Done o.Filter.Vlans =
      ih0 ((inn lost X (m + 1) a o).2.2 : Nat) (w64 (x2 + 1)) (inn lost X (m + 1) a o).1.Filter.Mac (inn lost X (m + 1) a o).1.Filter.Promiscuous (inn lost X (m + 1) a o).1.Last (inn lost X (m + 1) a o).1.Answer (inn lost X (m + 1) a o).1.Done (answers ++ [[.int (inn lost X (m + 1) a o).2.1]]) (inn lost X (m + 1) a o).1.Filter.Vlans := by
    intro ih0 x2 X answers hans m
    have hr : ∀ q : List DC, room2 8 answers [q] = true := fun q => room2_le (by simp only [List.length_cons, List.length_nil]; omega) (by omega)
    have etaX : (⟨X.Seq, X.Op, X.Arg⟩ : SMessage) = X := rfl
    have hid : ∀ a : Nat, decide ((a : Int) < len lost) = true → idx (a : Int) lost = true := fun a h => idx_nat (by have := of_decide_eq_true h; simp only [len] at this; omega)
    have hlb : ∀ a : Nat, (bif decide ((a : Int) < len lost) then rB (nth lost a) 0 else false) = lbI lost (a : Int) := fun a => by unfold lbI; rw [Int.toNat_natCast]
    have hok1 : ∀ a : Nat, okm (decide ((a : Int) < len lost)) (idx (a : Int) lost) true = true := fun a => okm_t (fun h => hid a h) (fun _ => rfl)
    induction m with
    | zero =>
      intro a o h1 h2 h3
      rw [spec_SendCommands_L1_s]
      have e1 : w64 ((a : Int) + 1) = ((a + 1 : Nat) : Int) := by rw [w64_in (by omega) (by omega)]; omega
      have e2 : w64 (((a + 1 : Nat) : Int) + 1) = ((a + 2 : Nat) : Int) := by rw [w64_in (by omega) (by omega)]; omega
      have hs : ∀ x, mbSm2 o x = true := fun _ => h3
      have f1 := lbI_past (l := lost) (a := a) (by omega)
      have f2 := lbI_past (l := lost) (a := a + 1) (by omega)
      simp only [spec_SendCommands_l1, eta, etaX, e1, e2, hok1, hlb, hs, hr, f1, f2, inn, Int.toNat_natCast, andt_true_l, cond_true, cond_false, Bool.not_false]
    | succ m ihm =>
      intro a o h1 h2 h3
      rw [spec_SendCommands_L1_s]
      have e1 : w64 ((a : Int) + 1) = ((a + 1 : Nat) : Int) := by rw [w64_in (by omega) (by omega)]; omega
      have e2 : w64 (((a + 1 : Nat) : Int) + 1) = ((a + 2 : Nat) : Int) := by rw [w64_in (by omega) (by omega)]; omega
      have hs : ∀ x, mbSm2 o x = true := fun _ => h3
      have i1 := ihm (a + 1) o (by omega) (by omega) h3
      have i2 := ihm (a + 2) (HandleMessage o X).1 (by omega) (by omega) (HandleMessage_sm h3)
      rw [inn]
      simp only [spec_SendCommands_l1, eta, etaX, e1, e2, hok1, hlb, hs, hr, Int.toNat_natCast, andt_true_l, cond_true]
      cases f1 : lbI lost (a : Int)
      · cases f2 : lbI lost ((a + 1 : Nat) : Int)
        · simp only [cond_false, cond_true, Bool.not_false]
        · simp only [cond_false, cond_true, Bool.not_true]
          exact i2
      · simp only [cond_true]
        exact i1
  refine (loop_inv list_.length (fun n i (s : Nat × SMailbox × Rows) => spec_SendCommands_L0 bad k_ (lost.length + list_.length + 2) list_ lost b.Last n (s.1 : Int) i s.2.1.Filter.Mac s.2.1.Filter.Promiscuous s.2.1.Last s.2.1.Answer s.2.1.Done s.2.2 s.2.1.Filter.Vlans) (scF list_ lost b.Last) (fun s => k_ s.2.1 s.2.2) (fun i s => s.1 ≤ lost.length + 2 * i ∧ sm s.2.1.Filter.Vlans = true ∧ s.2.2.length = i) (fun i s _ h => sc_inv i h) ?_ ?_ (lost.length + list_.length + 2) (0, b, []) ⟨by simp, hms, rfl⟩ (by omega))
  · intro n i s hi hs
    show spec_SendCommands_L0 bad k_ (lost.length + list_.length + 2) list_ lost b.Last (n + 1) (s.1 : Int) (i : Int) s.2.1.Filter.Mac s.2.1.Filter.Promiscuous s.2.1.Last s.2.1.Answer s.2.1.Done s.2.2 s.2.1.Filter.Vlans = _
    rw [spec_SendCommands_L0_s]
    have := inner (spec_SendCommands_L0 bad k_ (lost.length + list_.length + 2) list_ lost b.Last n) (i : Int) (scX list_ b.Last i) s.2.2 (by omega) (lost.length + list_.length + 1) s.1 s.2.1 (by omega) (by omega) hs.2.1
    simp only [spec_SendCommands_l0, lt_len hi, idx_nat hi, Int.toNat_natCast, andt_true_l, cond_true]
    rw [w64_succ hi hl, show lost.length + list_.length + 1 + 1 = lost.length + list_.length + 2 from rfl] at this
    refine Eq.trans ?_ (this.trans ?_)
    · rfl
    · unfold scF
      rfl
  · intro n s hs
    show spec_SendCommands_L0 bad k_ (lost.length + list_.length + 2) list_ lost b.Last (n + 1) (s.1 : Int) (list_.length : Int) s.2.1.Filter.Mac s.2.1.Filter.Promiscuous s.2.1.Last s.2.1.Answer s.2.1.Done s.2.2 s.2.1.Filter.Vlans = _
    rw [spec_SendCommands_L0_s]
    simp only [spec_SendCommands_l0, not_lt_len, eta, cond_false]

def laws_markMessageS_l0 {α : Type} (bad : α) (k_ : Int → Rows → α) (ih0 : Int → Int → Rows → α) (k_1 : Int) (i : Int) (a_1 : Rows) : α :=
  let z0 : Rows := List.set a_1 (Int.toNat i) (splice (nth a_1 (Int.toNat i)) 0 [.int k_1])
  let z1 : Rows := List.set z0 (Int.toNat i) (splice (nth z0 (Int.toNat i)) 1 [.int (w64 (k_1 + 1))])
  let z2 : Int := w64 ((w64 (k_1 + 1)) + 1)
  bif decide (i < len a_1) then
    bif andt (andt true (idx i a_1)) (inl (Int.toNat i) a_1) then
      bif andt (andt true (idx i z0)) (inl (Int.toNat i) z0) then
        bif andt (andt true (idx i z1)) (inl (Int.toNat i) z1) then
          ih0 (w64 (z2 + 1)) (w64 (i + 1)) (List.set z1 (Int.toNat i) (splice (nth z1 (Int.toNat i)) 2 [.int z2]))
        else bad
      else bad
    else bad
  else k_ k_1 a_1
def laws_markMessageS_L0 {α : Type} (bad : α) (k_ : Int → Rows → α) (N : Nat) (m_ : Nat) : Int → Int → Rows → α :=
  Nat.rec (motive := fun _ => Int → Int → Rows → α) (fun _ _ _ => bad) (fun _ ih0 => laws_markMessageS_l0 bad k_ ih0) m_
theorem laws_markMessageS_L0_z {α : Type} (bad : α) (k_ : Int → Rows → α) (N : Nat) (k_1 : Int) (i : Int) (a_1 : Rows) : laws_markMessageS_L0 bad k_ N 0 k_1 i a_1 = bad := rfl
theorem laws_markMessageS_L0_s {α : Type} (bad : α) (k_ : Int → Rows → α) (N : Nat) (m_ : Nat) (k_1 : Int) (i : Int) (a_1 : Rows) : laws_markMessageS_L0 bad k_ N (m_ + 1) k_1 i a_1 = laws_markMessageS_l0 bad k_ (laws_markMessageS_L0 bad k_ N m_) k_1 i a_1 := rfl
def laws_markMessageS_t {α : Type} (bad : α) (k_ : Int → Rows → α) (l0 : Int → Int → Rows → α) (a : Rows) (k : Int) : α :=
  l0 k 0 a
def laws_markMessageS_f {α : Type} (bad : α) (k_ : Int → Rows → α) (N : Nat) (a : Rows) (k : Int) : α := laws_markMessageS_t bad k_ (laws_markMessageS_L0 bad k_ N N) a k
def fMessageS (k : Int) : List DC := [.int (k), .int (k + 1), .int (k + 1 + 1)]
def markMessageS (a : Rows) (k : Int) : Int × Rows := (k + 3 * a.length, mkl fMessageS 3 a.length k)
theorem laws_markMessageS_c {α : Type} (bad : α) (k_ : Int → Rows → α) (a : Rows) (k : Int) (h_a : WtC (.sl [.int .i64, .int .i64, .int .i64]) (.sl a)) (h_k : WtC (.int .i64) (.int k)) (hok : mko 3 a k = true) : ∃ N, laws_markMessageS_f bad k_ N a k = k_ (markMessageS a k).1 (markMessageS a k).2 := by
  obtain ⟨hl, hw⟩ := wt_sl h_a
  obtain ⟨h1, h2, h3⟩ := mko_of hok
  refine ⟨a.length + 1, ?_⟩
  unfold laws_markMessageS_f laws_markMessageS_t markMessageS
  refine mark_loop a k 3 fMessageS (laws_markMessageS_L0 bad k_ (a.length + 1)) k_ ?_ ?_
  · intro n i b h hb hn
    rw [laws_markMessageS_L0_s]
    have hk0 : 0 ≤ k + 3 * (i : Int) := by omega
    have hk1 : k + 3 * (i : Int) ≤ 1125901000000000000 := by omega
    generalize k + 3 * (i : Int) = K at hk0 hk1 ⊢
    have w1 : w64 (K + 1) = K + 1 := w64_in (by omega) (by omega)
    have w2 : w64 (K + 1 + 1) = K + 1 + 1 := w64_in (by omega) (by omega)
    have w3 : w64 (K + 1 + 1 + 1) = K + 1 + 1 + 1 := w64_in (by omega) (by omega)
    have hr := wtl_len (hw (nth a i) (nth_mem h))
    simp only [laws_markMessageS_l0, lt_len (show i < b.length by omega), idx_nat (show i < b.length by omega), inl_nat (show i < b.length by omega), w64_succ h hl, Int.toNat_natCast, andt_true_l, andt_true_r, cond_true, hn, w1, w2, w3, idx_setl, inl_setl, List.set_set, nth_setl (show i < b.length by omega)]
    generalize nth a i = r at hr
    rw [show K + 1 + 1 + 1 = K + 3 by omega]
    congr 2
    match r, hr with
    | [_, _, _], _ => rfl
  · intro n b hb
    rw [laws_markMessageS_L0_s]
    simp only [laws_markMessageS_l0, ← hb, not_lt_len, cond_false]

def laws_FnExactSendCommands_t {α : Type} (bad : α) (k_ : Bool → α) (aB : SMailbox) (aList : Rows) (aLost : Rows) : α :=
  let z0 : Bool := SendCommands_ok (idf aB) (idf aList) (idf aLost)
  let z1 : Bool := andt (andt (andt (andt true (laws_toMailbox_ok aB)) (sm aList)) (sm aLost)) z0
  let z2 : SMailbox × Rows := SendCommands (idf aB) (idf aList) (idf aLost)
  let z3 : Bool := !(yes2 z2.1 z2.1)
  let z4 : Bool := andt true (same z2.1 z2.1)
  let z5 : Bool := okm z3 z4 (andt z4 (same z2.2 z2.2))
  let z6 : Bool := bif z3 then true else !(yes2 z2.2 z2.2)
  let z7 : Bool := decide ((markBoolS (idf aLost) ((markMessageS (idf aList) ((markMailbox (idf aB) 1).1)).1)).1 < 0)
  let z8 : Int × Rows := markMailbox z2.1 1
  let z9 : SMailbox := (⟨(⟨z2.1.Filter.Mac, z2.1.Filter.Promiscuous, z8.2⟩ : SFilter), z2.1.Last, z2.1.Answer, z2.1.Done⟩ : SMailbox)
  let z10 : Bool := andt true (heldMailbox_ok z9 1)
  let z11 : Int := heldMailbox z9 1
  let z12 : Bool := decide (z11 < 0)
  let z13 : Int × Rows := markIntS z2.2 z8.1
  let z14 : Rows := z13.2
  let z15 : Bool := andt true (hdo fIntS 1 z14 z11)
  let z16 : Int := heldIntS z14 z11
  let z17 : Bool := decide (z16 < 0)
  let z18 : Bool := z16 != z13.1
  bif decide (1048576 < len aLost) then k_ true
  else bif decide (laws_szMailbox aB 1048576 < 0) then k_ true
  else bif decide (szFlat aList (laws_szMailbox aB 1048576) < 0) then k_ true
  else bif z1 then
      bif andt true (laws_toMailbox_ok aB) then
        bif andt true (sm aList) then
          bif andt true (sm aLost) then
            bif andt true z0 then
              bif z5 then
                bif z6 then k_ false
                else bif andt (andt true (laws_toMailbox_ok aB)) (same (idf aB) (idf aB)) then
                    bif !(yes2 (idf aB) (idf aB)) then k_ false
                    else bif andt (andt true (sm aList)) (same (idf aList) (idf aList)) then
                        bif !(yes2 (idf aList) (idf aList)) then k_ false
                        else bif andt (andt true (sm aLost)) (same (idf aLost) (idf aLost)) then
                            bif !(yes2 (idf aLost) (idf aLost)) then k_ false
                            else bif andt true (markMailbox_ok (idf aB) 1) then
                                bif andt true (mko 3 (idf aList) ((markMailbox (idf aB) 1).1)) then
                                  bif andt true (mko 1 (idf aLost) ((markMessageS (idf aList) ((markMailbox (idf aB) 1).1)).1)) then
                                    bif okm z7 true z5 then
                                      bif bif z7 then true else z6 then k_ false
                                      else bif andt true (markMailbox_ok z2.1 1) then
                                          bif andt true (mko 1 z2.2 z8.1) then
                                            bif z10 then
                                              bif z12 then k_ false
                                              else bif z15 then
                                                  bif z17 then k_ false
                                                  else bif z18 then k_ false
                                                  else bif z1 then
                                                      bif z5 then
                                                        bif z6 then k_ false
                                                        else bif z10 then
                                                            bif z12 then k_ false
                                                            else bif z15 then
                                                                bif z17 then k_ false
                                                                else bif z18 then k_ false
                                                                else k_ true
                                                              else bad
                                                          else bad
                                                      else bad
                                                    else bad
                                                else bad
                                            else bad
                                          else bad
                                        else bad
                                    else bad
                                  else bad
                                else bad
                              else bad
                          else bad
                      else bad
                  else bad
              else bad
            else bad
          else bad
        else bad
      else bad
    else bad
theorem laws_FnExactSendCommands_c {α : Type} (bad : α) (k_ : Bool → α) (aB : SMailbox) (aList : Rows) (aLost : Rows) (h_aB : WtL SMailbox.ct aB.enc) (h_aList : WtC (.sl [.int .i64, .int .i64, .int .i64]) (.sl aList)) (h_aLost : WtC (.sl [.bool]) (.sl aLost)) (hok : fitL (SMailbox.ct ++ ((.sl [.int .i64, .int .i64, .int .i64]) :: ((.sl [.bool]) :: ([])))) (aB.enc ++ (.sl aList :: (.sl aLost :: ([])))) = true) : laws_FnExactSendCommands_t bad k_ aB aList aLost = k_ true := by
  unfold laws_FnExactSendCommands_t
  by_cases c0 : 1048576 < len aLost
  · simp only [c0, decide_true, decide_false, cond_true, cond_false]
  have k0 : sm aLost = true := len_sm (Int.not_lt.1 c0)
  by_cases c1 : laws_szMailbox aB 1048576 < 0
  · simp only [c0, c1, decide_true, decide_false, cond_true, cond_false]
  have k1 := laws_szMailbox_ok h_aB (by omega) (by omega) (Int.not_lt.1 c1)
  by_cases c2 : szFlat aList (laws_szMailbox aB 1048576) < 0
  · simp only [c0, c1, c2, decide_true, decide_false, cond_true, cond_false]
  have k2 := szFlat_ok (Int.not_lt.1 c1) k1.1 (wt_sl h_aList).1 (Int.not_lt.1 c2)
  have hsm : sm aB.Filter.Vlans = true := by
    have k := k1.2
    cases h : sm aB.Filter.Vlans
    · simp only [laws_toMailbox_ok, laws_toMailbox_t, laws_toFilter_ok, laws_toFilter_t, h] at k
      cases k
    · rfl
  have hl := sm_le hsm
  have n2 := sm_le k2.2
  have n3 := sm_le k0
  obtain ⟨m1, m2, m3, m4⟩ := mh_Mailbox aB (k := 1) (by omega) (by omega) hsm
  have f1 : mko 3 aList (markMailbox aB 1).1 = true := mko_mk k2.2 (by rw [m4]; omega) (by rw [m4]; omega)
  have f2 : mko 1 aLost (markMessageS aList (markMailbox aB 1).1).1 = true := mko_mk k0 (by simp only [markMessageS, m4]; omega) (by simp only [markMessageS, m4]; omega)
  have f3 : ¬ (markBoolS aLost (markMessageS aList (markMailbox aB 1).1).1).1 < 0 := by simp only [markBoolS, markMessageS, m4]; omega
  have ko : SendCommands_ok aB aList aLost = true := hsm
  obtain ⟨u1, u2⟩ := SendCommands_sm hsm aList aLost
  have l1 := sm_le u1
  have u3 : sm (SendCommands aB aList aLost).2 = true := decide_eq_true (by omega)
  obtain ⟨q1, q2, q3, q4⟩ := mh_Mailbox (SendCommands aB aList aLost).1 (k := 1) (by omega) (by omega) u1
  have q5 : decide ((markMailbox (SendCommands aB aList aLost).1 1).1 < 0) = false := decide_eq_false (by rw [q4]; omega)
  have r1 : mko 1 (SendCommands aB aList aLost).2 (markMailbox (SendCommands aB aList aLost).1 1).1 = true := mko_mk u3 (by rw [q4]; omega) (by rw [q4]; omega)
  have r2 : hdo fIntS 1 (markIntS (SendCommands aB aList aLost).2 (markMailbox (SendCommands aB aList aLost).1 1).1).2 (markMailbox (SendCommands aB aList aLost).1 1).1 = true := hdo_mk u3 (by rw [q4]; omega) (by rw [q4]; omega)
  have r3 : heldIntS (markIntS (SendCommands aB aList aLost).2 (markMailbox (SendCommands aB aList aLost).1 1).1).2 (markMailbox (SendCommands aB aList aLost).1 1).1 = (markIntS (SendCommands aB aList aLost).2 (markMailbox (SendCommands aB aList aLost).1 1).1).1 := by simp only [heldIntS, markIntS, mkl_length]
  have r4 : decide ((markIntS (SendCommands aB aList aLost).2 (markMailbox (SendCommands aB aList aLost).1 1).1).1 < 0) = false := decide_eq_false (by simp only [markIntS]; rw [q4]; omega)
  simp only [c0, c1, c2, decide_false, cond_false, cond_true, idf, k0, k1.2, k2.2, m1, f1, f2, f3, ko, q1, q2, q3, q5, r1, r2, r3, r4, andt_true_l, andt_true_r, same_refl, yes2, beq_self_eq_true, bne_self_eq_false, Bool.not_true, okm_tt]

end
end Go.Proofs.Ytjmgpcfmcdlnpaa.Pl
