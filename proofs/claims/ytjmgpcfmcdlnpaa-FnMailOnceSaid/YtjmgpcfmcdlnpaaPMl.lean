/- What functions of the program compute, in plain Lean, as the value machine runs them. Conditions: none. -/
import Derived.Test.YtjmgpcfmcdlnpaaPHa
import Derived.Test.YtjmgpcfmcdlnpaaPCu
set_option linter.unusedVariables false
set_option linter.unusedSimpArgs false
namespace Go.Proofs.Ytjmgpcfmcdlnpaa.Pl
open Vm
noncomputable section


def laws_big_t {α : Type} (k_ : Bool → α) (code : Rows) : α :=
  k_ (decide (1048576 < len code))
def big (code : Rows) : Bool := laws_big_t id code
theorem laws_big_c {α : Type} (k_ : Bool → α) (code : Rows) : laws_big_t k_ code = k_ (big code) := by
  rfl

def spec_l24Filter_t {α : Type} (bad : α) (k_ : SFilter → Sl01Cur → α) (c : Sl01Cur) : α :=
  let z0 : Bool × Sl01Cur := l01Once ((l01Once c 4).2) 2
  bif andt true (curOk1 c 4) then
    bif andt true (curOk1 ((l01Once c 4).2) 2) then
      bif z0.1 then k_ (⟨2, (l01Once c 4).1, [[.int 7]]⟩ : SFilter) z0.2
      else k_ (⟨2, (l01Once c 4).1, []⟩ : SFilter) z0.2
    else bad
  else bad
def l24Filter (c : Sl01Cur) : SFilter × Sl01Cur := bif (l01Once (l01Once c 4).2 2).1 then (⟨2, (l01Once c 4).1, [[.int 7]]⟩, (l01Once (l01Once c 4).2 2).2) else (⟨2, (l01Once c 4).1, []⟩, (l01Once (l01Once c 4).2 2).2)
theorem l24Filter_cur {c : Sl01Cur} (h : curOk c = true) : curOk (l24Filter c).2 = true := by
  have h2 := l01Once_cur (l01Once_cur h 4) 2
  unfold l24Filter
  cases (l01Once (l01Once c 4).2 2).1 <;> exact h2
theorem l24Filter_ok (c : Sl01Cur) : FilterOk (l24Filter c).1 = true ∧ sm (l24Filter c).1.Vlans = true := by
  unfold l24Filter
  cases (l01Once (l01Once c 4).2 2).1
  · exact ⟨rfl, rfl⟩
  · exact ⟨rfl, rfl⟩
theorem spec_l24Filter_c {α : Type} (bad : α) (k_ : SFilter → Sl01Cur → α) (c : Sl01Cur) (h_c : WtL Sl01Cur.ct c.enc) (hok : curOk c = true) : spec_l24Filter_t bad k_ c = k_ (l24Filter c).1 (l24Filter c).2 := by
  have h1 : curOk1 c 4 = true := hok
  have h2 : curOk1 (l01Once c 4).2 2 = true := l01Once_cur hok 4
  unfold spec_l24Filter_t l24Filter
  simp only [h1, h2, andt_true_l, cond_true]
  exact cond_k (K := fun r : SFilter × Sl01Cur => k_ r.1 r.2) rfl rfl

def spec_l35Message_t {α : Type} (bad : α) (k_ : SMessage → Sl01Cur → α) (c : Sl01Cur) : α :=
  let z0 : Rows := [[.int 1], [.int 2], [.int 3], [.int 4], [.int 5], [.int 0]]
  let z1 : Int × Sl01Cur := l01PickInt ((l01Below c 7).2) z0
  let z2 : Sl01Cur := z1.2
  let z3 : Rows := [[.int 7], [.int 9], [.int 4], [.int 4095], [.int 4096], [.int (-1)], [.int 6]]
  let z4 : Int × Sl01Cur := l01PickInt z2 z3
  bif andt (andt (andt true (curOk1 c 7)) (pickOk ((l01Below c 7).2) z0)) (pickOk z2 z3) then
    k_ (⟨(l01Below c 7).1, z1.1, z4.1⟩ : SMessage) z4.2
  else bad
def mgOps : Rows := [[.int 1], [.int 2], [.int 3], [.int 4], [.int 5], [.int 0]]
def mgArgs : Rows := [[.int 7], [.int 9], [.int 4], [.int 4095], [.int 4096], [.int (-1)], [.int 6]]
def l35Message (c : Sl01Cur) : SMessage × Sl01Cur :=
  (⟨(l01Below c 7).1, (l01PickInt (l01Below c 7).2 mgOps).1, (l01PickInt (l01PickInt (l01Below c 7).2 mgOps).2 mgArgs).1⟩, (l01PickInt (l01PickInt (l01Below c 7).2 mgOps).2 mgArgs).2)
theorem l35Message_cur {c : Sl01Cur} (h : curOk c = true) : curOk (l35Message c).2 = true := l01PickInt_cur (l01PickInt_cur (l01Below_cur h 7) _) _
theorem spec_l35Message_c {α : Type} (bad : α) (k_ : SMessage → Sl01Cur → α) (c : Sl01Cur) (h_c : WtL Sl01Cur.ct c.enc) (hok : curOk c = true) : spec_l35Message_t bad k_ c = k_ (l35Message c).1 (l35Message c).2 := by
  have h1 := l01Below_cur hok 7
  have h2 := l01PickInt_cur h1 mgOps
  have o1 : curOk1 c 7 = true := hok
  have o2 : pickOk (l01Below c 7).2 [[.int 1], [.int 2], [.int 3], [.int 4], [.int 5], [.int 0]] = true := by simp only [pickOk, h1]; rfl
  have o3 : pickOk (l01PickInt (l01Below c 7).2 [[.int 1], [.int 2], [.int 3], [.int 4], [.int 5], [.int 0]]).2 [[.int 7], [.int 9], [.int 4], [.int 4095], [.int 4096], [.int (-1)], [.int 6]] = true := by
    have h2 : curOk (l01PickInt (l01Below c 7).2 [[.int 1], [.int 2], [.int 3], [.int 4], [.int 5], [.int 0]]).2 = true := h2
    simp only [pickOk, h2]; rfl
  unfold spec_l35Message_t l35Message
  simp only [o1, o2, o3, andt_true_l, andt_true_r, cond_true]
  rfl

def spec_l35Box_t {α : Type} (bad : α) (k_ : SMailbox → Sl01Cur → α) (c : Sl01Cur) : α :=
  let z0 : Int × Sl01Cur := l01Below ((l01Below ((l24Filter c).2) 5).2) 2
  let z1 : Int × Sl01Cur := l01Below z0.2 4
  bif andt (andt (andt (andt true (curOk c)) (curOk1 ((l24Filter c).2) 5)) (curOk1 ((l01Below ((l24Filter c).2) 5).2) 2)) (curOk1 z0.2 4) then
    k_ (⟨(l24Filter c).1, (l01Below ((l24Filter c).2) 5).1, z0.1, z1.1⟩ : SMailbox) z1.2
  else bad
def l35Box (c : Sl01Cur) : SMailbox × Sl01Cur :=
  (⟨(l24Filter c).1, (l01Below (l24Filter c).2 5).1, (l01Below (l01Below (l24Filter c).2 5).2 2).1, (l01Below (l01Below (l01Below (l24Filter c).2 5).2 2).2 4).1⟩, (l01Below (l01Below (l01Below (l24Filter c).2 5).2 2).2 4).2)
theorem l35Box_cur {c : Sl01Cur} (h : curOk c = true) : curOk (l35Box c).2 = true := l01Below_cur (l01Below_cur (l01Below_cur (l24Filter_cur h) 5) 2) 4
/-- A mailbox that has had few messages. -/
def MbIn (n : Int) (b : SMailbox) : Prop := FilterOk b.Filter = true ∧ sm b.Filter.Vlans = true ∧ 0 ≤ b.Last ∧ b.Last ≤ n ∧ 0 ≤ b.Done ∧ b.Done ≤ n
theorem l35Box_in (c : Sl01Cur) : MbIn 4 (l35Box c).1 := by
  have a := l24Filter_ok c
  have l := l01Below_range (l24Filter c).2 5
  have d := l01Below_range (l01Below (l01Below (l24Filter c).2 5).2 2).2 4
  have l2 := l.2 (by omega)
  have d2 := d.2 (by omega)
  exact ⟨a.1, a.2, l.1, by show (l01Below (l24Filter c).2 5).1 ≤ 4; omega, d.1, by show (l01Below (l01Below (l01Below (l24Filter c).2 5).2 2).2 4).1 ≤ 4; omega⟩
theorem spec_l35Box_c {α : Type} (bad : α) (k_ : SMailbox → Sl01Cur → α) (c : Sl01Cur) (h_c : WtL Sl01Cur.ct c.enc) (hok : curOk c = true) : spec_l35Box_t bad k_ c = k_ (l35Box c).1 (l35Box c).2 := by
  have h1 := l24Filter_cur hok
  have o1 : curOk1 (l24Filter c).2 5 = true := h1
  have o2 : curOk1 (l01Below (l24Filter c).2 5).2 2 = true := l01Below_cur h1 5
  have o3 : curOk1 (l01Below (l01Below (l24Filter c).2 5).2 2).2 4 = true := l01Below_cur (l01Below_cur h1 5) 2
  unfold spec_l35Box_t l35Box
  simp only [hok, o1, o2, o3, andt_true_l, andt_true_r, cond_true]

def spec_l35Script_l0 {α : Type} (bad : α) (k_ : Rows → Rows → Sl01Cur → α) (l1 : Rows → Int → Rows → Int → Int → Rows → α) (lost : Rows) (ih0 : Int → Rows → Int → Int → Rows → α) (k : Int) (b5000000 : Rows) (b5000000_1 : Int) (b5000000_2 : Int) (list_ : Rows) : α :=
  let z0 : Int × Sl01Cur := l01Below (⟨b5000000, b5000000_1, b5000000_2⟩ : Sl01Cur) 16
  bif decide (0 < k) then
    bif andt (andt true (curOk (⟨b5000000, b5000000_1, b5000000_2⟩ : Sl01Cur))) (room2 24 list_ [SMessage.enc ((l35Message (⟨b5000000, b5000000_1, b5000000_2⟩ : Sl01Cur)).1)]) then
      ih0 (w64 (k - 1)) (((l35Message (⟨b5000000, b5000000_1, b5000000_2⟩ : Sl01Cur)).2).b) (((l35Message (⟨b5000000, b5000000_1, b5000000_2⟩ : Sl01Cur)).2).i) (((l35Message (⟨b5000000, b5000000_1, b5000000_2⟩ : Sl01Cur)).2).h) (list_ ++ [SMessage.enc ((l35Message (⟨b5000000, b5000000_1, b5000000_2⟩ : Sl01Cur)).1)])
    else bad
  else bif andt true (curOk1 (⟨b5000000, b5000000_1, b5000000_2⟩ : Sl01Cur) 16) then
      l1 list_ z0.1 z0.2.b z0.2.i z0.2.h lost
    else bad
def spec_l35Script_l1 {α : Type} (bad : α) (k_ : Rows → Rows → Sl01Cur → α) (list_ : Rows) (ih1 : Int → Rows → Int → Int → Rows → α) (k_1 : Int) (b5000000_3 : Rows) (b5000000_4 : Int) (b5000000_5 : Int) (lost_1 : Rows) : α :=
  bif decide (0 < k_1) then
    bif andt (andt true (curOk1 (⟨b5000000_3, b5000000_4, b5000000_5⟩ : Sl01Cur) 2)) (room2 1 lost_1 ([[.bool ((l01Once (⟨b5000000_3, b5000000_4, b5000000_5⟩ : Sl01Cur) 2).1)]])) then
      ih1 (w64 (k_1 - 1)) (((l01Once (⟨b5000000_3, b5000000_4, b5000000_5⟩ : Sl01Cur) 2).2).b) (((l01Once (⟨b5000000_3, b5000000_4, b5000000_5⟩ : Sl01Cur) 2).2).i) (((l01Once (⟨b5000000_3, b5000000_4, b5000000_5⟩ : Sl01Cur) 2).2).h) (lost_1 ++ ([[.bool ((l01Once (⟨b5000000_3, b5000000_4, b5000000_5⟩ : Sl01Cur) 2).1)]]))
    else bad
  else k_ list_ lost_1 (⟨b5000000_3, b5000000_4, b5000000_5⟩ : Sl01Cur)
def spec_l35Script_L1 {α : Type} (bad : α) (k_ : Rows → Rows → Sl01Cur → α) (N : Nat) (list_ : Rows) (m_ : Nat) : Int → Rows → Int → Int → Rows → α :=
  Nat.rec (motive := fun _ => Int → Rows → Int → Int → Rows → α) (fun _ _ _ _ _ => bad) (fun _ ih1 => spec_l35Script_l1 bad k_ list_ ih1) m_
theorem spec_l35Script_L1_z {α : Type} (bad : α) (k_ : Rows → Rows → Sl01Cur → α) (N : Nat) (list_ : Rows) (k_1 : Int) (b5000000_3 : Rows) (b5000000_4 : Int) (b5000000_5 : Int) (lost_1 : Rows) : spec_l35Script_L1 bad k_ N list_ 0 k_1 b5000000_3 b5000000_4 b5000000_5 lost_1 = bad := rfl
theorem spec_l35Script_L1_s {α : Type} (bad : α) (k_ : Rows → Rows → Sl01Cur → α) (N : Nat) (list_ : Rows) (m_ : Nat) (k_1 : Int) (b5000000_3 : Rows) (b5000000_4 : Int) (b5000000_5 : Int) (lost_1 : Rows) : spec_l35Script_L1 bad k_ N list_ (m_ + 1) k_1 b5000000_3 b5000000_4 b5000000_5 lost_1 = spec_l35Script_l1 bad k_ list_ (spec_l35Script_L1 bad k_ N list_ m_) k_1 b5000000_3 b5000000_4 b5000000_5 lost_1 := rfl
def spec_l35Script_L0 {α : Type} (bad : α) (k_ : Rows → Rows → Sl01Cur → α) (N : Nat) (lost : Rows) (m_ : Nat) : Int → Rows → Int → Int → Rows → α :=
  Nat.rec (motive := fun _ => Int → Rows → Int → Int → Rows → α) (fun _ _ _ _ _ => bad) (fun _ ih0 => spec_l35Script_l0 bad k_ (fun list_ => spec_l35Script_L1 bad k_ N list_ N) lost ih0) m_
theorem spec_l35Script_L0_z {α : Type} (bad : α) (k_ : Rows → Rows → Sl01Cur → α) (N : Nat) (lost : Rows) (k : Int) (b5000000 : Rows) (b5000000_1 : Int) (b5000000_2 : Int) (list_ : Rows) : spec_l35Script_L0 bad k_ N lost 0 k b5000000 b5000000_1 b5000000_2 list_ = bad := rfl
theorem spec_l35Script_L0_s {α : Type} (bad : α) (k_ : Rows → Rows → Sl01Cur → α) (N : Nat) (lost : Rows) (m_ : Nat) (k : Int) (b5000000 : Rows) (b5000000_1 : Int) (b5000000_2 : Int) (list_ : Rows) : spec_l35Script_L0 bad k_ N lost (m_ + 1) k b5000000 b5000000_1 b5000000_2 list_ = spec_l35Script_l0 bad k_ (fun list_ => spec_l35Script_L1 bad k_ N list_ N) lost (spec_l35Script_L0 bad k_ N lost m_) k b5000000 b5000000_1 b5000000_2 list_ := rfl
def spec_l35Script_t {α : Type} (bad : α) (k_ : Rows → Rows → Sl01Cur → α) (l0 : Rows → Int → Rows → Int → Int → Rows → α) (c : Sl01Cur) : α :=
  bif andt true (curOk1 c 6) then
    l0 [] ((l01Below c 6).1) (((l01Below c 6).2).b) (((l01Below c 6).2).i) (((l01Below c 6).2).h) []
  else bad
def spec_l35Script_f {α : Type} (bad : α) (k_ : Rows → Rows → Sl01Cur → α) (N : Nat) (c : Sl01Cur) : α := spec_l35Script_t bad k_ (fun lost => spec_l35Script_L0 bad k_ N lost N) c
def msgs : Nat → Sl01Cur → Rows × Sl01Cur
  | 0, c => ([], c)
  | m + 1, c => (SMessage.enc (l35Message c).1 :: (msgs m (l35Message c).2).1, (msgs m (l35Message c).2).2)
def lsts : Nat → Sl01Cur → Rows × Sl01Cur
  | 0, c => ([], c)
  | m + 1, c => ([.bool (l01Once c 2).1] :: (lsts m (l01Once c 2).2).1, (lsts m (l01Once c 2).2).2)
theorem msgs_cur : ∀ (m : Nat) {c : Sl01Cur}, curOk c = true → curOk (msgs m c).2 = true
  | 0, _, h => h
  | m + 1, c, h => msgs_cur m (l35Message_cur h)
theorem lsts_cur : ∀ (m : Nat) {c : Sl01Cur}, curOk c = true → curOk (lsts m c).2 = true
  | 0, _, h => h
  | m + 1, c, h => lsts_cur m (l01Once_cur h 2)
theorem msgs_len : ∀ (m : Nat) (c : Sl01Cur), (msgs m c).1.length = m
  | 0, _ => rfl
  | m + 1, c => by simp only [msgs, List.length_cons, msgs_len m]
theorem lsts_len : ∀ (m : Nat) (c : Sl01Cur), (lsts m c).1.length = m
  | 0, _ => rfl
  | m + 1, c => by simp only [lsts, List.length_cons, lsts_len m]
def scM (c : Sl01Cur) : Rows × Sl01Cur := msgs (l01Below c 6).1.toNat (l01Below c 6).2
def scL (c : Sl01Cur) : Rows × Sl01Cur := lsts (l01Below c 16).1.toNat (l01Below c 16).2
def l35Script (c : Sl01Cur) : Rows × Rows × Sl01Cur := ((scM c).1, (scL (scM c).2).1, (scL (scM c).2).2)
theorem l35Script_len (c : Sl01Cur) : (l35Script c).1.length ≤ 5 ∧ (l35Script c).2.1.length ≤ 15 := by
  have a := l01Below_range c 6
  have b := l01Below_range (scM c).2 16
  have a2 := a.2 (by omega)
  have b2 := b.2 (by omega)
  simp only [l35Script, scM, scL, msgs_len, lsts_len]
  simp only [scM] at b b2
  omega
theorem spec_l35Script_c {α : Type} (bad : α) (k_ : Rows → Rows → Sl01Cur → α) (c : Sl01Cur) (h_c : WtL Sl01Cur.ct c.enc) (hok : curOk c = true) : ∃ N, spec_l35Script_f bad k_ N c = k_ (l35Script c).1 (l35Script c).2.1 (l35Script c).2.2 := by
  have hA := l01Below_range c 6
  have hA2 := hA.2 (by omega)
  have hc := l01Below_cur hok 6
  have o1 : curOk1 c 6 = true := hok
  refine ⟨17, ?_⟩
  unfold spec_l35Script_f spec_l35Script_t l35Script
  simp only [o1, andt_true_l, cond_true]
  have k1 : ∀ (L : Rows) (m q : Nat) (c : Sl01Cur) (o : Rows), m < q → o.length + m ≤ 100 → curOk c = true →
      spec_l35Script_L1 bad k_ 17 L q (m : Int) c.b c.i c.h o = k_ L (o ++ (lsts m c).1) (lsts m c).2 := by
    intro L m
    induction m with
    | zero =>
      intro q c o h1 h2 h3
      obtain ⟨q, rfl⟩ : ∃ p, q = p + 1 := ⟨q - 1, by omega⟩
      rw [spec_l35Script_L1_s]
      simp only [spec_l35Script_l1, lsts, List.append_nil]
      rfl
    | succ m ihm =>
      intro q c o h1 h2 h3
      obtain ⟨q, rfl⟩ : ∃ p, q = p + 1 := ⟨q - 1, by omega⟩
      rw [spec_l35Script_L1_s]
      have ec : (⟨c.b, c.i, c.h⟩ : Sl01Cur) = c := rfl
      have o2 : curOk1 c 2 = true := h3
      have hr : ∀ x : List DC, room2 1 o [x] = true := fun x => room2_le (by simp only [List.length_cons, List.length_nil]; omega) (by omega)
      have ew : w64 (((m + 1 : Nat) : Int) - 1) = (m : Int) := by rw [w64_in (by omega) (by omega)]; omega
      have := ihm q (l01Once c 2).2 (o ++ [[.bool (l01Once c 2).1]]) (by omega) (by simp only [List.length_append, List.length_cons, List.length_nil]; omega) (l01Once_cur h3 2)
      simp only [spec_l35Script_l1, decide_eq_true (show (0 : Int) < ((m + 1 : Nat) : Int) by omega), ec, o2, hr, ew, andt_true_l, cond_true]
      rw [this]
      simp only [lsts, List.append_assoc, List.cons_append, List.nil_append]
  have k0 : ∀ (m q : Nat) (c : Sl01Cur) (o : Rows), m < q → o.length + m ≤ 100 → curOk c = true →
      spec_l35Script_L0 bad k_ 17 [] q (m : Int) c.b c.i c.h o = k_ (o ++ (msgs m c).1) (scL (msgs m c).2).1 (scL (msgs m c).2).2 := by
    intro m
    induction m with
    | zero =>
      intro q c o h1 h2 h3
      obtain ⟨q, rfl⟩ : ∃ p, q = p + 1 := ⟨q - 1, by omega⟩
      rw [spec_l35Script_L0_s]
      have ec : (⟨c.b, c.i, c.h⟩ : Sl01Cur) = c := rfl
      have o2 : curOk1 c 16 = true := h3
      have hB := l01Below_range c 16
      have hB2 := hB.2 (by omega)
      have := k1 o (l01Below c 16).1.toNat 17 (l01Below c 16).2 [] (by omega) (by simp only [List.length_nil]; omega) (l01Below_cur h3 16)
      rw [show (((l01Below c 16).1.toNat : Nat) : Int) = (l01Below c 16).1 by omega, List.nil_append] at this
      simp only [spec_l35Script_l0, show decide ((0 : Int) < ((0 : Nat) : Int)) = false from rfl, ec, o2, andt_true_l, cond_true, cond_false, msgs, List.append_nil]
      exact this
    | succ m ihm =>
      intro q c o h1 h2 h3
      obtain ⟨q, rfl⟩ : ∃ p, q = p + 1 := ⟨q - 1, by omega⟩
      rw [spec_l35Script_L0_s]
      have ec : (⟨c.b, c.i, c.h⟩ : Sl01Cur) = c := rfl
      have hr : ∀ x : List DC, room2 24 o [x] = true := fun x => room2_le (by simp only [List.length_cons, List.length_nil]; omega) (by omega)
      have ew : w64 (((m + 1 : Nat) : Int) - 1) = (m : Int) := by rw [w64_in (by omega) (by omega)]; omega
      have := ihm q (l35Message c).2 (o ++ [SMessage.enc (l35Message c).1]) (by omega) (by simp only [List.length_append, List.length_cons, List.length_nil]; omega) (l35Message_cur h3)
      simp only [spec_l35Script_l0, decide_eq_true (show (0 : Int) < ((m + 1 : Nat) : Int) by omega), ec, h3, hr, ew, andt_true_l, cond_true]
      rw [this]
      simp only [msgs, List.append_assoc, List.cons_append, List.nil_append]
  have := k0 (l01Below c 6).1.toNat 17 (l01Below c 6).2 [] (by omega) (by simp only [List.length_nil]; omega) hc
  rw [show (((l01Below c 6).1.toNat : Nat) : Int) = (l01Below c 6).1 by omega, List.nil_append] at this
  exact this

def spec_DrawMailbox_t {α : Type} (bad : α) (k_ : SMailbox → Rows → Rows → α) (code : Rows) : α :=
  bif andt true (curOk (l01New code)) then
    bif andt true (curOk ((l35Box (l01New code)).2)) then
      k_ ((l35Box (l01New code)).1) ((l35Script ((l35Box (l01New code)).2)).1) ((l35Script ((l35Box (l01New code)).2)).2.1)
    else bad
  else bad
def DrawMailbox (code : Rows) : SMailbox × Rows × Rows := ((l35Box (l01New code)).1, (l35Script (l35Box (l01New code)).2).1, (l35Script (l35Box (l01New code)).2).2.1)
theorem spec_DrawMailbox_c {α : Type} (bad : α) (k_ : SMailbox → Rows → Rows → α) (code : Rows) (h_code : WtC (.sl [.int .u8]) (.sl code)) : spec_DrawMailbox_t bad k_ code = k_ (DrawMailbox code).1 (DrawMailbox code).2.1 (DrawMailbox code).2.2 := by
  have h := l01New_ok (wt_sl h_code).1
  have h2 := l35Box_cur h
  unfold spec_DrawMailbox_t DrawMailbox
  simp only [h, h2, andt_true_l, andt_true_r, cond_true]

def laws_sameInts_l0 {α : Type} (bad : α) (k_ : Bool → α) (a : Rows) (b : Rows) (ih0 : Int → α) (i : Int) : α :=
  bif decide (i < len a) then
    bif andt (andt true (idx i a)) (idx i b) then
      bif (rI (nth a (Int.toNat i)) 0) != (rI (nth b (Int.toNat i)) 0) then k_ false
      else ih0 (w64 (i + 1))
    else bad
  else k_ true
def laws_sameInts_L0 {α : Type} (bad : α) (k_ : Bool → α) (N : Nat) (a : Rows) (b : Rows) (m_ : Nat) : Int → α :=
  Nat.rec (motive := fun _ => Int → α) (fun _ => bad) (fun _ ih0 => laws_sameInts_l0 bad k_ a b ih0) m_
theorem laws_sameInts_L0_z {α : Type} (bad : α) (k_ : Bool → α) (N : Nat) (a : Rows) (b : Rows) (i : Int) : laws_sameInts_L0 bad k_ N a b 0 i = bad := rfl
theorem laws_sameInts_L0_s {α : Type} (bad : α) (k_ : Bool → α) (N : Nat) (a : Rows) (b : Rows) (m_ : Nat) (i : Int) : laws_sameInts_L0 bad k_ N a b (m_ + 1) i = laws_sameInts_l0 bad k_ a b (laws_sameInts_L0 bad k_ N a b m_) i := rfl
def laws_sameInts_t {α : Type} (bad : α) (k_ : Bool → α) (l0 : Int → α) (a : Rows) (b : Rows) : α :=
  bif (len a) != (len b) then k_ false
  else l0 0
def laws_sameInts_f {α : Type} (bad : α) (k_ : Bool → α) (N : Nat) (a : Rows) (b : Rows) : α := laws_sameInts_t bad k_ (laws_sameInts_L0 bad k_ N a b N) a b
def sameInts (a b : Rows) : Bool := bif (len a) != (len b) then false else bif anyIdx (fun i r => (rI r 0) != (rI (nth b i) 0)) a 0 then false else true
theorem sameInts_refl (a : Rows) : sameInts a a = true := by
  have : anyIdx (fun i r => (rI r 0) != (rI (nth a i) 0)) a 0 = false := by
    cases h : anyIdx (fun i r => (rI r 0) != (rI (nth a i) 0)) a 0
    · rfl
    · obtain ⟨i, hi, h2⟩ := anyIdx_iff.1 h
      rw [Nat.zero_add] at h2
      simp at h2
  unfold sameInts
  rw [this]
  simp
theorem laws_sameInts_c {α : Type} (bad : α) (k_ : Bool → α) (a : Rows) (b : Rows) (h_a : WtC (.sl [.int .i64]) (.sl a)) (h_b : WtC (.sl [.int .i64]) (.sl b)) : ∃ N, laws_sameInts_f bad k_ N a b = k_ (sameInts a b) := by
  obtain ⟨hl, _⟩ := wt_sl h_a
  refine ⟨a.length + 1, ?_⟩
  unfold laws_sameInts_f laws_sameInts_t sameInts
  cases hc : (len a) != (len b)
  · have hab : a.length = b.length := by
      have : len a = len b := by simpa using hc
      simp only [len] at this
      omega
    simp only [cond_false]
    refine (loop_rows0 a (laws_sameInts_L0 bad k_ (a.length + 1) a b) (fun i r c => bif (rI r 0) != (rI (nth b i) 0) then k_ false else c) (k_ true) ?_ ?_).trans ?_
    · intro n i h
      rw [laws_sameInts_L0_s]
      simp only [laws_sameInts_l0, lt_len h, idx_nat h, idx_nat (show i < b.length by omega), w64_succ h hl, Int.toNat_natCast, andt_true_l, andt_true_r, cond_true]
    · intro n
      rw [laws_sameInts_L0_s]
      simp only [laws_sameInts_l0, not_lt_len, cond_false]
    · refine (go_anyIdx (fun i r => (rI r 0) != (rI (nth b i) 0)) _ _ a 0).trans ?_
      exact cond_k rfl rfl
  · rfl


/-- Numbers in order, all above lo. -/
def Up : Int → Rows → Prop
  | _, [] => True
  | lo, r :: rs => lo < rI r 0 ∧ rI r 0 ≤ 4095 ∧ Up (rI r 0) rs
theorem Up.mono : ∀ {a b : Int} {l : Rows}, a ≤ b → Up b l → Up a l
  | _, _, [], _, _ => trivial
  | _, _, r :: rs, h, ⟨h1, h2, h3⟩ => ⟨by omega, h2, h3⟩
theorem up_asc : ∀ (l : Rows) (lo : Int), -1 ≤ lo → (Up lo l ↔ (∀ i, i < l.length → (lo < rI (nth l i) 0 ∧ rI (nth l i) 0 ≤ 4095) ∧ (0 < i → rI (nth l (i - 1)) 0 < rI (nth l i) 0)))
  | [], lo, _ => by simp [Up]
  | r :: rs, lo, hlo => by
    have ih := up_asc rs
    constructor
    · rintro ⟨h1, h2, h3⟩ i hi
      have h4 := (ih (rI r 0) (by omega)).1 h3
      cases i with
      | zero => exact ⟨⟨h1, h2⟩, fun h => absurd h (Nat.lt_irrefl 0)⟩
      | succ i =>
        have h5 := h4 i (by simpa using hi)
        refine ⟨⟨by show lo < rI (nth rs i) 0; omega, h5.1.2⟩, fun _ => ?_⟩
        cases i with
        | zero => exact h5.1.1
        | succ i => exact h5.2 (by omega)
    · intro h
      have h0 := h 0 (by simp)
      refine ⟨h0.1.1, h0.1.2, ?_⟩
      have hr : lo < rI r 0 := h0.1.1
      refine (ih (rI r 0) (by omega)).2 ?_
      have key : ∀ i, i < rs.length → rI r 0 < rI (nth rs i) 0 := by
        intro i
        induction i with
        | zero => intro hi; exact (h 1 (by simpa using hi)).2 (by omega)
        | succ i ihi =>
          intro hi
          have h1 := ihi (by omega)
          have h2 : rI (nth rs i) 0 < rI (nth rs (i + 1)) 0 := (h (i + 2) (by simp only [List.length_cons]; omega)).2 (by omega)
          omega
      intro i hi
      have h1 := h (i + 1) (by simpa using hi)
      refine ⟨⟨key i hi, h1.1.2⟩, fun h0 => ?_⟩
      have h2 := h1.2 (by omega)
      obtain ⟨i, rfl⟩ : ∃ j, i = j + 1 := ⟨i - 1, by omega⟩
      exact h2
theorem Asc_up {l : Rows} : Asc l ↔ Up (-1) l := by
  rw [up_asc l (-1) (by omega)]
  unfold Asc
  constructor
  · intro h i hi
    have := h i hi
    exact ⟨⟨by omega, this.1.2⟩, this.2⟩
  · intro h i hi
    have := h i hi
    exact ⟨⟨by omega, this.1.2⟩, this.2⟩
/-- The rows but those of one number. -/
def dvl (v : Int) : Rows → Rows
  | [] => []
  | r :: rs => bif (rI r 0) != v then [.int (rI r 0)] :: dvl v rs else dvl v rs
theorem dv_dvl (l : Rows) (v : Int) : ∀ (m i : Nat) (o : Rows), i + m = l.length → itN (dvF l v) m i o = o ++ dvl v (l.drop i)
  | 0, i, o, h => by
    rw [List.drop_eq_nil_of_le (by omega)]
    simp [itN, dvl]
  | m + 1, i, o, h => by
    have hi : i < l.length := by omega
    have e0 : l[i] = nth l i := by simp [nth, hi]
    rw [itN, dv_dvl l v m (i + 1) _ (by omega), List.drop_eq_getElem_cons hi, e0]
    simp only [dvl, dvF]
    cases (rI (nth l i) 0) != v <;> simp
theorem dvl_up (v : Int) : ∀ (l : Rows) (lo : Int), Up lo l → Up lo (dvl v l)
  | [], _, _ => trivial
  | r :: rs, lo, ⟨h1, h2, h3⟩ => by
    simp only [dvl]
    cases (rI r 0) != v
    · exact (dvl_up v rs _ h3).mono (by omega)
    · exact ⟨h1, h2, dvl_up v rs _ h3⟩
theorem dvl_len (v : Int) : ∀ (l : Rows), (dvl v l).length ≤ l.length
  | [] => Nat.le_refl _
  | r :: rs => by
    have := dvl_len v rs
    simp only [dvl]
    cases (rI r 0) != v <;> simp only [cond_true, cond_false, List.length_cons] <;> omega
theorem DropVlan_ok {f : SFilter} {v : Int} (hs : sm f.Vlans = true) (h : FilterOk f = true) : FilterOk (DropVlan f v).1 = true := by
  have hl := sm_le hs
  unfold DropVlan
  cases (bif !(FilterOk f) then true else !(hasInt f.Vlans v))
  · simp only [cond_false]
    obtain ⟨a, b, c⟩ := (FilterOk_iff (by omega)).1 h
    have e : itN (dvF f.Vlans v) f.Vlans.length 0 [] = dvl v f.Vlans := by rw [dv_dvl f.Vlans v f.Vlans.length 0 [] (by omega)]; simp
    rw [e]
    have hd := dvl_len v f.Vlans
    refine (FilterOk_iff (f := ⟨f.Mac, f.Promiscuous, dvl v f.Vlans⟩) (by show (dvl v f.Vlans).length ≤ _; omega)).2 ⟨Asc_up.2 (dvl_up v _ _ (Asc_up.1 a)), b, ?_⟩
    simp only [len] at c ⊢
    omega
  · exact h
theorem AddVlan_ok {f : SFilter} {v : Int} (h : FilterOk f = true) : FilterOk (AddVlan f v).1 = true := by
  unfold AddVlan
  cases (bif !(FilterOk f) then true else hasInt f.Vlans v)
  · simp only [cond_false]
    cases hq : FilterOk (⟨f.Mac, f.Promiscuous, insV v f.Vlans⟩ : SFilter)
    · exact h
    · exact hq
  · exact h
theorem Perform_ok {f : SFilter} {x : SMessage} (hs : sm f.Vlans = true) (h : FilterOk f = true) : FilterOk (Perform f x).1 = true := by
  unfold Perform
  cases x.Op == 1
  · cases x.Op == 2
    · cases x.Op == 3
      · cases x.Op == 4 <;> exact h
      · simp only [cond_false, cond_true]
        cases (DropVlan f x.Arg).2
        · exact h
        · exact DropVlan_ok hs h
    · simp only [cond_false, cond_true]
      cases (AddVlan f x.Arg).2
      · exact h
      · exact AddVlan_ok h
  · simp only [cond_true]
    cases hq : FilterOk (⟨x.Arg, f.Promiscuous, f.Vlans⟩ : SFilter)
    · exact h
    · exact hq
theorem Perform_none {f : SFilter} {x : SMessage} (h4 : (x.Op == 4) = false) (h : (Perform f x).2 = 0) : (Perform f x).1 = f := by
  unfold Perform at h ⊢
  cases h1 : x.Op == 1
  · rw [h1] at h
    cases h2 : x.Op == 2
    · rw [h2] at h
      cases h3 : x.Op == 3
      · rw [h4]
        rfl
      · rw [h3] at h
        simp only [cond_false, cond_true] at h ⊢
        cases hq : (DropVlan f x.Arg).2
        · rfl
        · rw [hq] at h
          exact absurd (show (1 : Int) = 0 from h) (by decide)
    · rw [h2] at h
      simp only [cond_false, cond_true] at h ⊢
      cases hq : (AddVlan f x.Arg).2
      · rfl
      · rw [hq] at h
        exact absurd (show (1 : Int) = 0 from h) (by decide)
  · rw [h1] at h
    simp only [cond_true] at h ⊢
    cases hq : FilterOk (⟨x.Arg, f.Promiscuous, f.Vlans⟩ : SFilter)
    · rfl
    · rw [hq] at h
      exact absurd (show (1 : Int) = 0 from h) (by decide)
theorem Perform_ask {f : SFilter} {x : SMessage} (h4 : (x.Op == 4) = true) : (Perform f x).2 = f.Mac := by
  have h : x.Op = 4 := by simpa using h4
  unfold Perform
  rw [h]
  rfl
theorem MbIn.ok {n : Int} {b : SMailbox} (h : MbIn n b) (hn : n ≤ 1000) : MailboxOk b = true := by
  obtain ⟨a, _, c, d, e, f⟩ := h
  exact MailboxOk_iff.2 ⟨a, ⟨c, by omega⟩, ⟨e, by omega⟩⟩
theorem handle_next {n : Int} {b : SMailbox} {op arg : Int} (h : MbIn n b) (hn : n ≤ 1000) : HandleMessage b (⟨b.Last + 1, op, arg⟩ : SMessage) = (⟨(Perform b.Filter ⟨b.Last + 1, op, arg⟩).1, b.Last + 1, (Perform b.Filter ⟨b.Last + 1, op, arg⟩).2, b.Done + 1⟩, (Perform b.Filter ⟨b.Last + 1, op, arg⟩).2) := by
  obtain ⟨a, s, c, d, e, f⟩ := h
  have hm : MailboxOk b = true := MailboxOk_iff.2 ⟨a, ⟨c, by omega⟩, ⟨e, by omega⟩⟩
  have h1 : (b.Last + 1 == b.Last) = false := by simp only [beq_eq_false_iff_ne, ne_eq]; omega
  unfold HandleMessage
  simp only [hm, h1, Bool.not_true, cond_false, bne_self_eq_false]
  rw [w64_in (by omega) (by omega)]
theorem handle_in {n : Int} {b : SMailbox} {op arg : Int} (h : MbIn n b) : MbIn (n + 1) (⟨(Perform b.Filter ⟨b.Last + 1, op, arg⟩).1, b.Last + 1, (Perform b.Filter ⟨b.Last + 1, op, arg⟩).2, b.Done + 1⟩ : SMailbox) := by
  obtain ⟨a, s, c, d, e, f⟩ := h
  exact ⟨Perform_ok s a, Perform_sm s, by show 0 ≤ b.Last + 1; omega, by show b.Last + 1 ≤ n + 1; omega, by show 0 ≤ b.Done + 1; omega, by show b.Done + 1 ≤ n + 1; omega⟩
theorem handle_wild {n : Int} {b : SMailbox} (h : MbIn n b) (hn : n ≤ 1000) : (HandleMessage b (⟨b.Last + 2, 4, 0⟩ : SMessage)).2 = -1 := by
  have hm := h.ok hn
  have h1 : (b.Last + 2 == b.Last) = false := by simp only [beq_eq_false_iff_ne, ne_eq]; omega
  have h2 : (b.Last + 2 != b.Last + 1) = true := by simp only [bne_iff_ne, ne_eq]; omega
  unfold HandleMessage
  simp only [hm, h1, h2, Bool.not_true, cond_false, cond_true]

def laws_FnMailFilter_l0 {α : Type} (bad : α) (k_ : Bool → α) (list_ : Rows) (ih0 : Int → Int → Bool → Int → Int → Int → Rows → α) (k : Int) (b : Int) (b_1 : Bool) (b_2 : Int) (b_3 : Int) (b_4 : Int) (b_2_1 : Rows) : α :=
  let z0 : SMailbox := (⟨(⟨b, b_1, b_2_1⟩ : SFilter), b_2, b_3, b_4⟩ : SMailbox)
  let z1 : SMessage := (⟨w64 (b_2 + 1), rI (nth list_ (Int.toNat k)) 1, rI (nth list_ (Int.toNat k)) 2⟩ : SMessage)
  let z2 : SMailbox × Int := HandleMessage z0 z1
  let z3 : SMailbox := z2.1
  let z4 : Int := z2.2
  let z5 : SFilter := z3.Filter
  let z6 : Int := z5.Mac
  let z7 : Rows := z5.Vlans
  let z8 : Bool := bif (rI (nth list_ (Int.toNat k)) 1) != 4 then bif z4 == 0 then !(bif z6 == b then sameInts z7 b_2_1 else false) else false else false
  let z9 : Int := z3.Last
  let z10 : SMessage := (⟨w64 (z9 + 2), 4, 0⟩ : SMessage)
  let z11 : Int := z3.Done
  bif decide (k < len list_) then
    bif andt (andt true (idx k list_)) (inl (Int.toNat k) list_) then
      bif andt true (mbSm2 z0 z1) then
        bif bif !(MailboxOk z3) then true else bif (rI (nth list_ (Int.toNat k)) 1) == 4 then bif z4 != b then true else z8 else z8 then k_ false
        else bif andt true (mbSm2 z3 z10) then
            bif bif ((HandleMessage z3 z10).2) != (-1) then true else z11 != (w64 (b_4 + 1)) then k_ false
            else ih0 (w64 (k + 1)) z6 z5.Promiscuous z9 z3.Answer z11 z7
          else bad
      else bad
    else bad
  else k_ (bif FilterOk (⟨b, b_1, b_2_1⟩ : SFilter) then MailboxOk z0 else false)
def laws_FnMailFilter_L0 {α : Type} (bad : α) (k_ : Bool → α) (N : Nat) (list_ : Rows) (m_ : Nat) : Int → Int → Bool → Int → Int → Int → Rows → α :=
  Nat.rec (motive := fun _ => Int → Int → Bool → Int → Int → Int → Rows → α) (fun _ _ _ _ _ _ _ => bad) (fun _ ih0 => laws_FnMailFilter_l0 bad k_ list_ ih0) m_
theorem laws_FnMailFilter_L0_z {α : Type} (bad : α) (k_ : Bool → α) (N : Nat) (list_ : Rows) (k : Int) (b : Int) (b_1 : Bool) (b_2 : Int) (b_3 : Int) (b_4 : Int) (b_2_1 : Rows) : laws_FnMailFilter_L0 bad k_ N list_ 0 k b b_1 b_2 b_3 b_4 b_2_1 = bad := rfl
theorem laws_FnMailFilter_L0_s {α : Type} (bad : α) (k_ : Bool → α) (N : Nat) (list_ : Rows) (m_ : Nat) (k : Int) (b : Int) (b_1 : Bool) (b_2 : Int) (b_3 : Int) (b_4 : Int) (b_2_1 : Rows) : laws_FnMailFilter_L0 bad k_ N list_ (m_ + 1) k b b_1 b_2 b_3 b_4 b_2_1 = laws_FnMailFilter_l0 bad k_ list_ (laws_FnMailFilter_L0 bad k_ N list_ m_) k b b_1 b_2 b_3 b_4 b_2_1 := rfl
def laws_FnMailFilter_t {α : Type} (bad : α) (k_ : Bool → α) (l0 : Rows → Int → Int → Bool → Int → Int → Int → Rows → α) (code : Rows) : α :=
  bif big code then k_ true
  else l0 ((DrawMailbox code).2.1) 0 ((((DrawMailbox code).1).Filter).Mac) ((((DrawMailbox code).1).Filter).Promiscuous) (((DrawMailbox code).1).Last) (((DrawMailbox code).1).Answer) (((DrawMailbox code).1).Done) ((((DrawMailbox code).1).Filter).Vlans)
def laws_FnMailFilter_f {α : Type} (bad : α) (k_ : Bool → α) (N : Nat) (code : Rows) : α := laws_FnMailFilter_t bad k_ (fun list_ => laws_FnMailFilter_L0 bad k_ N list_ N) code
theorem laws_FnMailFilter_c {α : Type} (bad : α) (k_ : Bool → α) (code : Rows) (h_code : WtC (.sl [.int .u8]) (.sl code)) (hok : fitL ((.sl [.int .u8]) :: ([])) (.sl code :: ([])) = true) : ∃ N, laws_FnMailFilter_f bad k_ N code = k_ true := by
  have hb0 : MbIn 4 (DrawMailbox code).1 := l35Box_in (l01New code)
  have hln : (DrawMailbox code).2.1.length ≤ 5 := (l35Script_len (l35Box (l01New code)).2).1
  refine ⟨7, ?_⟩
  unfold laws_FnMailFilter_f laws_FnMailFilter_t
  cases big code
  · simp only [cond_false]
    generalize (DrawMailbox code).1 = b at hb0 ⊢
    generalize (DrawMailbox code).2.1 = list_ at hln ⊢
    refine loop_inv list_.length (fun q i s => laws_FnMailFilter_L0 bad k_ 7 list_ q i s.Filter.Mac s.Filter.Promiscuous s.Last s.Answer s.Done s.Filter.Vlans)
      (fun i s => (HandleMessage s (⟨s.Last + 1, rI (nth list_ i) 1, rI (nth list_ i) 2⟩ : SMessage)).1) (fun _ => k_ true) (fun i s => MbIn (4 + (i : Int)) s) ?_ ?_ ?_ 7 b (by simpa using hb0) (by omega)
    · intro i s hi hs
      show MbIn _ (HandleMessage s _).1
      rw [handle_next hs (by omega)]
      have := handle_in (op := rI (nth list_ i) 1) (arg := rI (nth list_ i) 2) hs
      rw [show 4 + ((i + 1 : Nat) : Int) = 4 + (i : Int) + 1 by omega]
      exact this
    · intro q i s hi hs
      show laws_FnMailFilter_L0 bad k_ 7 list_ (q + 1) (i : Int) s.Filter.Mac s.Filter.Promiscuous s.Last s.Answer s.Done s.Filter.Vlans = _
      rw [laws_FnMailFilter_L0_s]
      have es : (⟨(⟨s.Filter.Mac, s.Filter.Promiscuous, s.Filter.Vlans⟩ : SFilter), s.Last, s.Answer, s.Done⟩ : SMailbox) = s := rfl
      have hs1 := hs
      obtain ⟨a, sv, c, d, e, f⟩ := hs1
      have w1 : w64 (s.Last + 1) = s.Last + 1 := w64_in (by omega) (by omega)
      have w2 : w64 (s.Done + 1) = s.Done + 1 := w64_in (by omega) (by omega)
      have w3 : w64 (s.Last + 1 + 2) = s.Last + 1 + 2 := w64_in (by omega) (by omega)
      have w4 : w64 ((i : Int) + 1) = (i : Int) + 1 := w64_in (by omega) (by omega)
      have hh := handle_next (op := rI (nth list_ i) 1) (arg := rI (nth list_ i) 2) hs (by omega)
      have hin := handle_in (op := rI (nth list_ i) 1) (arg := rI (nth list_ i) 2) hs
      have hmo := hin.ok (by omega)
      have hw := handle_wild hin (by omega)
      have k1 : ∀ x, mbSm2 s x = true := fun _ => sv
      have hp1 : (rI (nth list_ i) 1 == 4) = true → (Perform s.Filter ⟨s.Last + 1, rI (nth list_ i) 1, rI (nth list_ i) 2⟩).2 = s.Filter.Mac := fun h => Perform_ask h
      have hp2 : (rI (nth list_ i) 1 == 4) = false → (Perform s.Filter ⟨s.Last + 1, rI (nth list_ i) 1, rI (nth list_ i) 2⟩).2 = 0 → (Perform s.Filter ⟨s.Last + 1, rI (nth list_ i) 1, rI (nth list_ i) 2⟩).1 = s.Filter := fun h => Perform_none h
      simp only [laws_FnMailFilter_l0, lt_len hi, idx_nat hi, inl_nat hi, Int.toNat_natCast, es, w1, w2, w4, k1, hh, andt_true_l, cond_true]
      generalize hX : (⟨(Perform s.Filter ⟨s.Last + 1, rI (nth list_ i) 1, rI (nth list_ i) 2⟩).1, s.Last + 1, (Perform s.Filter ⟨s.Last + 1, rI (nth list_ i) 1, rI (nth list_ i) 2⟩).2, s.Done + 1⟩ : SMailbox) = X at hin hmo hw ⊢
      have k2 : ∀ x, mbSm2 X x = true := fun _ => hin.2.1
      have xl : X.Last = s.Last + 1 := by rw [← hX]
      have xd : X.Done = s.Done + 1 := by rw [← hX]
      have xf : X.Filter = (Perform s.Filter ⟨s.Last + 1, rI (nth list_ i) 1, rI (nth list_ i) 2⟩).1 := by rw [← hX]
      rw [xl] at hw
      simp only [hmo, k2, xl, xd, w3, hw, bne_self_eq_false, Bool.not_true, cond_false, andt_true_l, cond_true]
      generalize (Perform s.Filter ⟨s.Last + 1, rI (nth list_ i) 1, rI (nth list_ i) 2⟩).2 = A at hp1 hp2 ⊢
      generalize (Perform s.Filter ⟨s.Last + 1, rI (nth list_ i) 1, rI (nth list_ i) 2⟩).1 = F at hp2 ⊢
      cases h4 : rI (nth list_ i) 1 == 4
      · have h4n : (rI (nth list_ i) 1 != 4) = true := by
          have : rI (nth list_ i) 1 ≠ 4 := by simpa using h4
          simpa using this
        rw [h4n]
        cases h0 : A == 0
        · rfl
        · have hF := hp2 h4 (by simpa using h0)
          rw [hF, sameInts_refl]
          simp only [beq_self_eq_true, cond_true, Bool.not_true, cond_false]
      · have h4n : (rI (nth list_ i) 1 != 4) = false := by
          have : rI (nth list_ i) 1 = 4 := by simpa using h4
          rw [this]; rfl
        rw [h4n, hp1 h4]
        simp only [bne_self_eq_false, cond_true, cond_false]
    · intro q s hs
      show laws_FnMailFilter_L0 bad k_ 7 list_ (q + 1) (list_.length : Int) s.Filter.Mac s.Filter.Promiscuous s.Last s.Answer s.Done s.Filter.Vlans = _
      rw [laws_FnMailFilter_L0_s]
      have es : (⟨(⟨s.Filter.Mac, s.Filter.Promiscuous, s.Filter.Vlans⟩ : SFilter), s.Last, s.Answer, s.Done⟩ : SMailbox) = s := rfl
      have ef : (⟨s.Filter.Mac, s.Filter.Promiscuous, s.Filter.Vlans⟩ : SFilter) = s.Filter := rfl
      simp only [laws_FnMailFilter_l0, not_lt_len, cond_false, es, ef, hs.1, hs.ok (show 4 + (list_.length : Int) ≤ 1000 by omega), cond_true]
  · rfl

end
end Go.Proofs.Ytjmgpcfmcdlnpaa.Pl
