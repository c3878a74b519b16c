/- What functions of the program compute, in plain Lean, as the value machine runs them. Conditions: none. -/
import Derived.Test.YtbcjbeckcgoanaaPBa
set_option linter.unusedVariables false
set_option linter.unusedSimpArgs false
namespace Go.Proofs.Ytbcjbeckcgoanaa.Pl
open Vm
noncomputable section


def impl_PauseOk_l0 {α : Type} (bad : α) (k_ : Bool → α) (x : Rows) (x_1 : Int) (p_4 : Int) (p_7 : Rows) (p_8 : Rows) (ih0 : Int → α) (x_2 : Int) : α :=
  bif decide (x_2 < x_1) then
    bif andt true (idx x_2 x) then
      bif !(between (rI (nth x (Int.toNat x_2)) 0) 0 1000) then k_ false
      else ih0 (w64 (x_2 + 1))
    else bad
  else k_ (bif (len p_7) == p_4 then (len p_8) == p_4 else false)
def impl_PauseOk_L0 {α : Type} (bad : α) (k_ : Bool → α) (N : Nat) (x : Rows) (x_1 : Int) (p_4 : Int) (p_7 : Rows) (p_8 : Rows) (m_ : Nat) : Int → α :=
  Nat.rec (motive := fun _ => Int → α) (fun _ => bad) (fun _ ih0 => impl_PauseOk_l0 bad k_ x x_1 p_4 p_7 p_8 ih0) m_
theorem impl_PauseOk_L0_z {α : Type} (bad : α) (k_ : Bool → α) (N : Nat) (x : Rows) (x_1 : Int) (p_4 : Int) (p_7 : Rows) (p_8 : Rows) (x_2 : Int) : impl_PauseOk_L0 bad k_ N x x_1 p_4 p_7 p_8 0 x_2 = bad := rfl
theorem impl_PauseOk_L0_s {α : Type} (bad : α) (k_ : Bool → α) (N : Nat) (x : Rows) (x_1 : Int) (p_4 : Int) (p_7 : Rows) (p_8 : Rows) (m_ : Nat) (x_2 : Int) : impl_PauseOk_L0 bad k_ N x x_1 p_4 p_7 p_8 (m_ + 1) x_2 = impl_PauseOk_l0 bad k_ x x_1 p_4 p_7 p_8 (impl_PauseOk_L0 bad k_ N x x_1 p_4 p_7 p_8 m_) x_2 := rfl
def impl_PauseOk_t {α : Type} (bad : α) (k_ : Bool → α) (l0 : Rows → Int → Int → Rows → Rows → Int → α) (p : SPauseLink) : α :=
  bif bif decide (p.Low < 0) then true else bif decide (p.High < p.Low) then true else bif decide (p.Capacity < p.High) then true else bif decide (1000 < p.Capacity) then true else bif !(between p.Delay 1 8) then true else bif !(between p.Fill 0 p.Capacity) then true else !(between p.Lost 0 1000000000000) then k_ false
  else l0 p.Flying (len p.Flying) p.Delay p.Flying p.Signals 0
def impl_PauseOk_f {α : Type} (bad : α) (k_ : Bool → α) (N : Nat) (p : SPauseLink) : α := impl_PauseOk_t bad k_ (fun x x_1 p_4 p_7 p_8 => impl_PauseOk_L0 bad k_ N x x_1 p_4 p_7 p_8 N) p
def PauseOk (p : SPauseLink) : Bool := bif bif decide (p.Low < 0) then true else bif decide (p.High < p.Low) then true else bif decide (p.Capacity < p.High) then true else bif decide (1000 < p.Capacity) then true else bif !(between p.Delay 1 8) then true else bif !(between p.Fill 0 p.Capacity) then true else !(between p.Lost 0 1000000000000) then false
  else bif p.Flying.all (fun r => between (rI r 0) 0 1000) then bif (len p.Flying) == p.Delay then (len p.Signals) == p.Delay else false else false
theorem impl_PauseOk_c {α : Type} (bad : α) (k_ : Bool → α) (p : SPauseLink) (h_p : WtL SPauseLink.ct p.enc) : ∃ N, impl_PauseOk_f bad k_ N p = k_ (PauseOk p) := by
  obtain ⟨hl, _⟩ := wt_sl (SPauseLink.wt_Flying h_p)
  refine ⟨p.Flying.length + 1, ?_⟩
  unfold impl_PauseOk_f impl_PauseOk_t PauseOk
  refine cond_k rfl ?_
  refine (loop_rows0 p.Flying (impl_PauseOk_L0 bad k_ (p.Flying.length + 1) p.Flying (len p.Flying) p.Delay p.Flying p.Signals) (fun i r c => bif !(between (rI r 0) 0 1000) then k_ false else c) (k_ (bif (len p.Flying) == p.Delay then (len p.Signals) == p.Delay else false)) ?_ ?_).trans ?_
  · intro n i h
    rw [impl_PauseOk_L0_s]
    simp only [impl_PauseOk_l0, lt_len h, idx_nat h, w64_succ h hl, Int.toNat_natCast, andt_true_l, andt_true_r, cond_true]
  · intro n
    rw [impl_PauseOk_L0_s]
    simp only [impl_PauseOk_l0, not_lt_len, cond_false]
  · refine (go_all' (fun r => between (rI r 0) 0 1000) _ _ p.Flying 0).trans ?_
    exact cond_k rfl rfl

def spec_PauseOk_l0 {α : Type} (bad : α) (k_ : Bool → α) (p_4 : Int) (p_7 : Rows) (p_8 : Rows) (ih0 : Int → α) (k : Int) : α :=
  bif decide (k < len p_7) then
    bif andt true (idx k p_7) then
      bif !(between (rI (nth p_7 (Int.toNat k)) 0) 0 1000) then k_ false
      else ih0 (w64 (k + 1))
    else bad
  else k_ (bif (len p_7) == p_4 then (len p_8) == p_4 else false)
def spec_PauseOk_L0 {α : Type} (bad : α) (k_ : Bool → α) (N : Nat) (p_4 : Int) (p_7 : Rows) (p_8 : Rows) (m_ : Nat) : Int → α :=
  Nat.rec (motive := fun _ => Int → α) (fun _ => bad) (fun _ ih0 => spec_PauseOk_l0 bad k_ p_4 p_7 p_8 ih0) m_
theorem spec_PauseOk_L0_z {α : Type} (bad : α) (k_ : Bool → α) (N : Nat) (p_4 : Int) (p_7 : Rows) (p_8 : Rows) (k : Int) : spec_PauseOk_L0 bad k_ N p_4 p_7 p_8 0 k = bad := rfl
theorem spec_PauseOk_L0_s {α : Type} (bad : α) (k_ : Bool → α) (N : Nat) (p_4 : Int) (p_7 : Rows) (p_8 : Rows) (m_ : Nat) (k : Int) : spec_PauseOk_L0 bad k_ N p_4 p_7 p_8 (m_ + 1) k = spec_PauseOk_l0 bad k_ p_4 p_7 p_8 (spec_PauseOk_L0 bad k_ N p_4 p_7 p_8 m_) k := rfl
def spec_PauseOk_t {α : Type} (bad : α) (k_ : Bool → α) (l0 : Int → Rows → Rows → Int → α) (p : SPauseLink) : α :=
  bif bif decide (p.Low < 0) then true else bif decide (p.High < p.Low) then true else bif decide (p.Capacity < p.High) then true else bif decide (1000 < p.Capacity) then true else bif !(between p.Delay 1 8) then true else bif !(between p.Fill 0 p.Capacity) then true else !(between p.Lost 0 1000000000000) then k_ false
  else l0 p.Delay p.Flying p.Signals 0
def spec_PauseOk_f {α : Type} (bad : α) (k_ : Bool → α) (N : Nat) (p : SPauseLink) : α := spec_PauseOk_t bad k_ (fun p_4 p_7 p_8 => spec_PauseOk_L0 bad k_ N p_4 p_7 p_8 N) p
theorem spec_PauseOk_c {α : Type} (bad : α) (k_ : Bool → α) (p : SPauseLink) (h_p : WtL SPauseLink.ct p.enc) : ∃ N, spec_PauseOk_f bad k_ N p = k_ (PauseOk p) := by
  obtain ⟨hl, _⟩ := wt_sl (SPauseLink.wt_Flying h_p)
  refine ⟨p.Flying.length + 1, ?_⟩
  unfold spec_PauseOk_f spec_PauseOk_t PauseOk
  refine cond_k rfl ?_
  refine (loop_rows0 p.Flying (spec_PauseOk_L0 bad k_ (p.Flying.length + 1) p.Delay p.Flying p.Signals) (fun i r c => bif !(between (rI r 0) 0 1000) then k_ false else c) (k_ (bif (len p.Flying) == p.Delay then (len p.Signals) == p.Delay else false)) ?_ ?_).trans ?_
  · intro n i h
    rw [spec_PauseOk_L0_s]
    simp only [spec_PauseOk_l0, lt_len h, idx_nat h, w64_succ h hl, Int.toNat_natCast, andt_true_l, andt_true_r, cond_true]
  · intro n
    rw [spec_PauseOk_L0_s]
    simp only [spec_PauseOk_l0, not_lt_len, cond_false]
  · refine (go_all' (fun r => between (rI r 0) 0 1000) _ _ p.Flying 0).trans ?_
    exact cond_k rfl rfl

def laws_FnExactPauseOk_t {α : Type} (bad : α) (k_ : Bool → α) (aP : SPauseLink) : α :=
  bif decide (laws_szPauseLink aP 1048576 < 0) then k_ true
  else bif andt true (laws_toPauseLink_ok aP) then
      bif andt true (laws_toPauseLink_ok aP) then
        bif !((PauseOk (idf aP)) == (PauseOk (idf aP))) then k_ false
        else bif andt (andt true (laws_toPauseLink_ok aP)) (same (idf aP) (idf aP)) then
            bif !(yes2 (idf aP) (idf aP)) then k_ false
            else k_ true
          else bad
      else bad
    else bad
theorem laws_FnExactPauseOk_c {α : Type} (bad : α) (k_ : Bool → α) (aP : SPauseLink) (h_aP : WtL SPauseLink.ct aP.enc) (hok : fitL (SPauseLink.ct ++ ([])) (aP.enc ++ ([])) = true) : laws_FnExactPauseOk_t bad k_ aP = k_ true := by
  unfold laws_FnExactPauseOk_t
  by_cases c0 : laws_szPauseLink aP 1048576 < 0
  · simp only [c0, decide_true, decide_false, cond_true, cond_false]
  have k0 := laws_szPauseLink_ok h_aP (by omega) (by omega) (Int.not_lt.1 c0)
  simp only [c0, decide_false, cond_false, cond_true, idf, k0.2, andt_true_l, andt_true_r, same_refl, yes2, beq_self_eq_true, bne_self_eq_false, Bool.not_true, okm_tt]

def laws_markPauseLink_t {α : Type} (bad : α) (k_ : Int → Rows → Rows → α) (a : SPauseLink) (k : Int) : α :=
  let z0 : Int × Rows := markBoolS a.Signals ((markIntS a.Flying k).1)
  bif andt true (mko 1 a.Flying k) then
    bif andt true (mko 1 a.Signals ((markIntS a.Flying k).1)) then
      k_ z0.1 ((markIntS a.Flying k).2) z0.2
    else bad
  else bad
def markPauseLink_ok (a : SPauseLink) (k : Int) : Bool := laws_markPauseLink_t false (fun _ _ _ => true) a k
def markPauseLink (a : SPauseLink) (k : Int) : Int × Rows × Rows := (laws_markPauseLink_t none (fun r0 r1 r2 => some (r0, r1, r2)) a k).getD (0, [], [])
theorem laws_markPauseLink_c {α : Type} (bad : α) (k_ : Int → Rows → Rows → α) (a : SPauseLink) (k : Int) (hok : markPauseLink_ok a k = true) : laws_markPauseLink_t bad k_ a k = k_ (markPauseLink a k).1 (markPauseLink a k).2.1 (markPauseLink a k).2.2 := by
  exact part_all (K := fun r : Int × Rows × Rows => k_ r.1 r.2.1 r.2.2) (part_guard (part_guard (fun _ => ⟨_, rfl, rfl⟩))) hok

def laws_heldPauseLink_t {α : Type} (bad : α) (k_ : Int → α) (a : SPauseLink) (k : Int) : α :=
  let z0 : Int := heldBoolS a.Signals (heldIntS a.Flying k)
  bif andt true (hdo fIntS 1 a.Flying k) then
    bif decide (heldIntS a.Flying k < 0) then k_ (-1)
    else bif andt true (hdo fBoolS 1 a.Signals (heldIntS a.Flying k)) then
        bif decide (z0 < 0) then k_ (-1)
        else k_ z0
      else bad
  else bad
def heldPauseLink_ok (a : SPauseLink) (k : Int) : Bool := laws_heldPauseLink_t false (fun _ => true) a k
def heldPauseLink (a : SPauseLink) (k : Int) : Int := (laws_heldPauseLink_t none (fun r0 => some (r0)) a k).getD 0
theorem laws_heldPauseLink_c {α : Type} (bad : α) (k_ : Int → α) (a : SPauseLink) (k : Int) (hok : heldPauseLink_ok a k = true) : laws_heldPauseLink_t bad k_ a k = k_ (heldPauseLink a k) := by
  exact part_all (K := fun r : Int => k_ r) (part_guard (part_cond part_leaf (part_guard (part_cond part_leaf part_leaf)))) hok


theorem mh_PauseLink (p : SPauseLink) {k : Int} (h0 : 0 ≤ k) (h1 : k ≤ 1000000000000) (hf : sm p.Flying = true) (hs : sm p.Signals = true) :
    markPauseLink_ok p k = true ∧
    heldPauseLink_ok { p with Flying := (markPauseLink p k).2.1, Signals := (markPauseLink p k).2.2 } k = true ∧
    heldPauseLink { p with Flying := (markPauseLink p k).2.1, Signals := (markPauseLink p k).2.2 } k = (markPauseLink p k).1 ∧ 0 ≤ (markPauseLink p k).1 := by
  have l1 := sm_le hf
  have l2 := sm_le hs
  have a1 : mko 1 p.Flying k = true := mko_mk hf h0 (by omega)
  have a2 : mko 1 p.Signals (markIntS p.Flying k).1 = true := mko_mk hs (by simp only [markIntS]; omega) (by simp only [markIntS]; omega)
  have e : markPauseLink p k = (k + 1 * p.Flying.length + 1 * p.Signals.length, mkl fIntS 1 p.Flying.length k, mkl fBoolS 1 p.Signals.length (k + 1 * p.Flying.length)) := by
    simp only [markPauseLink, laws_markPauseLink_t, a1, a2, andt_true_l, cond_true]
    rfl
  have b1 : hdo fIntS 1 (mkl fIntS 1 p.Flying.length k) k = true := hdo_mk hf h0 (by omega)
  have b2 : hdo fBoolS 1 (mkl fBoolS 1 p.Signals.length (k + 1 * p.Flying.length)) (k + 1 * p.Flying.length) = true := hdo_mk hs (by omega) (by omega)
  have c1 : heldIntS (mkl fIntS 1 p.Flying.length k) k = k + 1 * p.Flying.length := by simp only [heldIntS, mkl_length]
  have c2 : heldBoolS (mkl fBoolS 1 p.Signals.length (k + 1 * p.Flying.length)) (k + 1 * p.Flying.length) = k + 1 * p.Flying.length + 1 * p.Signals.length := by simp only [heldBoolS, mkl_length]
  have d1 : decide (k + 1 * (p.Flying.length : Int) < 0) = false := decide_eq_false (by omega)
  have d2 : decide (k + 1 * (p.Flying.length : Int) + 1 * p.Signals.length < 0) = false := decide_eq_false (by omega)
  refine ⟨?_, ?_, ?_, ?_⟩
  · simp only [markPauseLink_ok, laws_markPauseLink_t, a1, a2, andt_true_l, cond_true]
  · rw [e]
    simp only [heldPauseLink_ok, laws_heldPauseLink_t, b1, c1, b2, c2, d1, d2, andt_true_l, cond_true, cond_false]
  · rw [e]
    simp only [heldPauseLink, laws_heldPauseLink_t, b1, c1, b2, c2, d1, d2, andt_true_l, cond_true, cond_false]
    rfl
  · rw [e]
    show 0 ≤ k + 1 * (p.Flying.length : Int) + 1 * p.Signals.length
    omega

def impl_NewPauseLink_t {α : Type} (bad : α) (k_ : SPauseLink → Bool → α) (capacity : Int) (high : Int) (low : Int) (delay : Int) : α :=
  let z0 : SPauseLink := (⟨0, 0, 0, 0, 0, false, [], [], false, 0⟩ : SPauseLink)
  let z1 : SPauseLink := (⟨capacity, high, low, delay, 0, false, List.replicate (Int.toNat delay) [.int 0], List.replicate (Int.toNat delay) [.bool false], false, 0⟩ : SPauseLink)
  bif !(between delay 1 8) then k_ z0 false
  else bif andt (andt true (makeOk 8 delay delay)) (makeOk 1 delay delay) then
      bif !(PauseOk z1) then k_ z0 false
      else k_ z1 true
    else bad
def pl0 : SPauseLink := ⟨0, 0, 0, 0, 0, false, [], [], false, 0⟩
def pl1 (capacity : Int) (high : Int) (low : Int) (delay : Int) : SPauseLink := ⟨capacity, high, low, delay, 0, false, List.replicate (Int.toNat delay) [.int 0], List.replicate (Int.toNat delay) [.bool false], false, 0⟩
def NewPauseLink (capacity : Int) (high : Int) (low : Int) (delay : Int) : SPauseLink × Bool :=
  bif !(between delay 1 8) then (pl0, false) else bif !(PauseOk (pl1 capacity high low delay)) then (pl0, false) else (pl1 capacity high low delay, true)
theorem between_of {n a b : Int} (h : between n a b = true) : a ≤ n ∧ n ≤ b := by
  simp only [between, impl_between_t, id] at h
  by_cases h1 : a ≤ n
  · simp [h1] at h; exact ⟨h1, h⟩
  · simp [h1] at h
theorem between_no {n a b : Int} (h : between n a b = false) : n < a ∨ b < n := by
  simp only [between, impl_between_t, id] at h
  by_cases h1 : a ≤ n
  · simp [h1] at h; exact .inr h
  · exact .inl (by omega)
theorem PauseOk_delay {p : SPauseLink} (h : between p.Delay 1 8 = false) : PauseOk p = false := by
  unfold PauseOk
  rw [h]
  cases decide (p.Low < 0) <;> cases decide (p.High < p.Low) <;> cases decide (p.Capacity < p.High) <;> cases decide (1000 < p.Capacity) <;> rfl
theorem impl_NewPauseLink_c {α : Type} (bad : α) (k_ : SPauseLink → Bool → α) (capacity : Int) (high : Int) (low : Int) (delay : Int) (h_capacity : WtC (.int .i64) (.int capacity)) (h_high : WtC (.int .i64) (.int high)) (h_low : WtC (.int .i64) (.int low)) (h_delay : WtC (.int .i64) (.int delay)) : impl_NewPauseLink_t bad k_ capacity high low delay = k_ (NewPauseLink capacity high low delay).1 (NewPauseLink capacity high low delay).2 := by
  unfold impl_NewPauseLink_t NewPauseLink
  cases hb : between delay 1 8
  · rfl
  · obtain ⟨h1, h2⟩ := between_of hb
    have m1 : makeOk 8 delay delay = true := by simp only [makeOk, Bool.and_eq_true, decide_eq_true_eq]; omega
    have m2 : makeOk 1 delay delay = true := by simp only [makeOk, Bool.and_eq_true, decide_eq_true_eq]; omega
    simp only [Bool.not_true, cond_false, m1, m2, andt_true_l, cond_true]
    show (bif !(PauseOk (pl1 capacity high low delay)) then k_ pl0 false else k_ (pl1 capacity high low delay) true) = _
    cases PauseOk (pl1 capacity high low delay) <;> rfl

def spec_NewPauseLink_l0 {α : Type} (bad : α) (k_ : SPauseLink → Bool → α) (delay : Int) (capacity : Int) (high : Int) (low : Int) (p_3 : Int) (p_4 : Int) (p_5 : Bool) (p_6 : Bool) (p_7 : Int) (ih0 : Int → Rows → Rows → α) (k : Int) (p_6_1 : Rows) (p_7_1 : Rows) : α :=
  let z0 : SPauseLink := (⟨capacity, high, low, p_3, p_4, p_5, p_6_1, p_7_1, p_6, p_7⟩ : SPauseLink)
  bif bif decide (k < delay) then decide (delay ≤ 8) else false then
    bif andt true (room2 8 p_6_1 ([[.int 0]])) then
      bif andt true (room2 1 p_7_1 ([[.bool false]])) then
        ih0 (w64 (k + 1)) (p_6_1 ++ ([[.int 0]])) (p_7_1 ++ ([[.bool false]]))
      else bad
    else bad
  else bif !(PauseOk z0) then k_ (⟨0, 0, 0, 0, 0, false, [], [], false, 0⟩ : SPauseLink) false
  else k_ z0 true
def spec_NewPauseLink_L0 {α : Type} (bad : α) (k_ : SPauseLink → Bool → α) (N : Nat) (delay : Int) (capacity : Int) (high : Int) (low : Int) (p_3 : Int) (p_4 : Int) (p_5 : Bool) (p_6 : Bool) (p_7 : Int) (m_ : Nat) : Int → Rows → Rows → α :=
  Nat.rec (motive := fun _ => Int → Rows → Rows → α) (fun _ _ _ => bad) (fun _ ih0 => spec_NewPauseLink_l0 bad k_ delay capacity high low p_3 p_4 p_5 p_6 p_7 ih0) m_
theorem spec_NewPauseLink_L0_z {α : Type} (bad : α) (k_ : SPauseLink → Bool → α) (N : Nat) (delay : Int) (capacity : Int) (high : Int) (low : Int) (p_3 : Int) (p_4 : Int) (p_5 : Bool) (p_6 : Bool) (p_7 : Int) (k : Int) (p_6_1 : Rows) (p_7_1 : Rows) : spec_NewPauseLink_L0 bad k_ N delay capacity high low p_3 p_4 p_5 p_6 p_7 0 k p_6_1 p_7_1 = bad := rfl
theorem spec_NewPauseLink_L0_s {α : Type} (bad : α) (k_ : SPauseLink → Bool → α) (N : Nat) (delay : Int) (capacity : Int) (high : Int) (low : Int) (p_3 : Int) (p_4 : Int) (p_5 : Bool) (p_6 : Bool) (p_7 : Int) (m_ : Nat) (k : Int) (p_6_1 : Rows) (p_7_1 : Rows) : spec_NewPauseLink_L0 bad k_ N delay capacity high low p_3 p_4 p_5 p_6 p_7 (m_ + 1) k p_6_1 p_7_1 = spec_NewPauseLink_l0 bad k_ delay capacity high low p_3 p_4 p_5 p_6 p_7 (spec_NewPauseLink_L0 bad k_ N delay capacity high low p_3 p_4 p_5 p_6 p_7 m_) k p_6_1 p_7_1 := rfl
def spec_NewPauseLink_t {α : Type} (bad : α) (k_ : SPauseLink → Bool → α) (l0 : Int → Int → Bool → Bool → Int → Int → Rows → Rows → α) (capacity : Int) (high : Int) (low : Int) (delay : Int) : α :=
  l0 delay 0 false false 0 0 [] []
def spec_NewPauseLink_f {α : Type} (bad : α) (k_ : SPauseLink → Bool → α) (N : Nat) (capacity : Int) (high : Int) (low : Int) (delay : Int) : α := spec_NewPauseLink_t bad k_ (fun p_3 p_4 p_5 p_6 p_7 => spec_NewPauseLink_L0 bad k_ N delay capacity high low p_3 p_4 p_5 p_6 p_7 N) capacity high low delay
theorem spec_NewPauseLink_c {α : Type} (bad : α) (k_ : SPauseLink → Bool → α) (capacity : Int) (high : Int) (low : Int) (delay : Int) (h_capacity : WtC (.int .i64) (.int capacity)) (h_high : WtC (.int .i64) (.int high)) (h_low : WtC (.int .i64) (.int low)) (h_delay : WtC (.int .i64) (.int delay)) : ∃ N, spec_NewPauseLink_f bad k_ N capacity high low delay = k_ (NewPauseLink capacity high low delay).1 (NewPauseLink capacity high low delay).2 := by
  cases hb : between delay 1 8
  · refine ⟨1, ?_⟩
    unfold spec_NewPauseLink_f spec_NewPauseLink_t NewPauseLink
    show spec_NewPauseLink_L0 bad k_ 1 delay capacity high low delay 0 false false 0 1 0 [] [] = _
    rw [spec_NewPauseLink_L0_s]
    have hc : (bif decide (0 < delay) then decide (delay ≤ 8) else false) = false := by
      rcases between_no hb with h | h
      · simp [show ¬ (0 < delay) by omega]
      · simp [show ¬ (delay ≤ 8) by omega]
    have hp : PauseOk (⟨capacity, high, low, delay, 0, false, [], [], false, 0⟩ : SPauseLink) = false := PauseOk_delay hb
    simp only [spec_NewPauseLink_l0, hc, cond_false, hp, hb, Bool.not_false, cond_true]
    rfl
  · obtain ⟨h1, h2⟩ := between_of hb
    have key : ∃ N, spec_NewPauseLink_f bad k_ N capacity high low delay = bif !(PauseOk (pl1 capacity high low delay)) then k_ pl0 false else k_ (pl1 capacity high low delay) true := by
      have : delay = 1 ∨ delay = 2 ∨ delay = 3 ∨ delay = 4 ∨ delay = 5 ∨ delay = 6 ∨ delay = 7 ∨ delay = 8 := by omega
      rcases this with rfl | rfl | rfl | rfl | rfl | rfl | rfl | rfl <;> exact ⟨10, rfl⟩
    obtain ⟨N, e⟩ := key
    refine ⟨N, e.trans ?_⟩
    unfold NewPauseLink
    rw [hb]
    cases PauseOk (pl1 capacity high low delay) <;> rfl


theorem NewPauseLink_sm (c h l d : Int) : sm (NewPauseLink c h l d).1.Flying = true ∧ sm (NewPauseLink c h l d).1.Signals = true := by
  unfold NewPauseLink
  cases hb : between d 1 8
  · exact ⟨rfl, rfl⟩
  · obtain ⟨h1, h2⟩ := between_of hb
    cases PauseOk (pl1 c h l d)
    · exact ⟨rfl, rfl⟩
    · refine ⟨?_, ?_⟩ <;> simp only [sm, pl1, cond_false, Bool.not_true, List.length_replicate, decide_eq_true_eq] <;> omega

def laws_FnExactNewPauseLink_t {α : Type} (bad : α) (k_ : Bool → α) (aCapacity : Int) (aHigh : Int) (aLow : Int) (aDelay : Int) : α :=
  let z0 : Bool := !(yes2 ((NewPauseLink aCapacity aHigh aLow aDelay).1) ((NewPauseLink aCapacity aHigh aLow aDelay).1))
  let z1 : Bool := andt true (same ((NewPauseLink aCapacity aHigh aLow aDelay).1) ((NewPauseLink aCapacity aHigh aLow aDelay).1))
  let z2 : Bool := okm z0 z1 z1
  let z3 : Bool := bif z0 then true else !(((NewPauseLink aCapacity aHigh aLow aDelay).2) == ((NewPauseLink aCapacity aHigh aLow aDelay).2))
  let z4 : Int × Rows × Rows := markPauseLink ((NewPauseLink aCapacity aHigh aLow aDelay).1) 1
  let z5 : SPauseLink := (⟨((NewPauseLink aCapacity aHigh aLow aDelay).1).Capacity, ((NewPauseLink aCapacity aHigh aLow aDelay).1).High, ((NewPauseLink aCapacity aHigh aLow aDelay).1).Low, ((NewPauseLink aCapacity aHigh aLow aDelay).1).Delay, ((NewPauseLink aCapacity aHigh aLow aDelay).1).Fill, ((NewPauseLink aCapacity aHigh aLow aDelay).1).Paused, z4.2.1, z4.2.2, ((NewPauseLink aCapacity aHigh aLow aDelay).1).Stopped, ((NewPauseLink aCapacity aHigh aLow aDelay).1).Lost⟩ : SPauseLink)
  let z6 : Bool := andt true (heldPauseLink_ok z5 1)
  let z7 : Int := heldPauseLink z5 1
  let z8 : Bool := decide (z7 < 0)
  let z9 : Bool := z7 != z4.1
  bif z2 then
    bif z3 then k_ false
    else bif andt true (markPauseLink_ok ((NewPauseLink aCapacity aHigh aLow aDelay).1) 1) then
        bif z6 then
          bif z8 then k_ false
          else bif z9 then k_ false
          else bif z2 then
              bif z3 then k_ false
              else bif z6 then
                  bif z8 then k_ false
                  else bif z9 then k_ false
                  else k_ true
                else bad
            else bad
        else bad
      else bad
  else bad
theorem laws_FnExactNewPauseLink_c {α : Type} (bad : α) (k_ : Bool → α) (aCapacity : Int) (aHigh : Int) (aLow : Int) (aDelay : Int) (h_aCapacity : WtC (.int .i64) (.int aCapacity)) (h_aHigh : WtC (.int .i64) (.int aHigh)) (h_aLow : WtC (.int .i64) (.int aLow)) (h_aDelay : WtC (.int .i64) (.int aDelay)) (hok : fitL ((.int .i64) :: ((.int .i64) :: ((.int .i64) :: ((.int .i64) :: ([]))))) (.int aCapacity :: (.int aHigh :: (.int aLow :: (.int aDelay :: ([]))))) = true) : laws_FnExactNewPauseLink_t bad k_ aCapacity aHigh aLow aDelay = k_ true := by
  unfold laws_FnExactNewPauseLink_t
  obtain ⟨s1, s2⟩ := NewPauseLink_sm aCapacity aHigh aLow aDelay
  obtain ⟨m1, m2, m3, m4⟩ := mh_PauseLink (NewPauseLink aCapacity aHigh aLow aDelay).1 (k := 1) (by omega) (by omega) s1 s2
  have m5 := decide_eq_false (Int.not_lt.2 m4)
  simp only [m1, m2, m3, m5, decide_false, cond_false, cond_true, idf, andt_true_l, andt_true_r, same_refl, yes2, beq_self_eq_true, bne_self_eq_false, Bool.not_true, okm_tt]

end
end Go.Proofs.Ytbcjbeckcgoanaa.Pl
