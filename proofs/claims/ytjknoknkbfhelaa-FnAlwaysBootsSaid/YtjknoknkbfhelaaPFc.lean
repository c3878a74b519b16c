/- What functions of the program compute, in plain Lean, as the value machine runs them. Conditions: none. -/
import Derived.Test.YtjknoknkbfhelaaPFb
set_option linter.unusedVariables false
set_option linter.unusedSimpArgs false
namespace Go.Proofs.Ytjknoknkbfhelaa.Pl
open Vm
noncomputable section


def impl_copyStrings_t {α : Type} (bad : α) (k_ : Rows → α) (l : Rows) : α :=
  bif andt true (room2 16 [] l) then
    k_ l
  else bad
theorem impl_copyStrings_c {α : Type} (bad : α) (k_ : Rows → α) (l : Rows) (h_l : WtC (.sl [.str]) (.sl l)) (hok : sm l = true) : impl_copyStrings_t bad k_ l = k_ (idf l) := by
  unfold impl_copyStrings_t
  rw [room2_sm hok (show 16 ≤ 8388608 by omega)]
  rfl

def impl_copyFlash_t {α : Type} (bad : α) (k_ : SFlash → α) (f : SFlash) : α :=
  bif andt true (sm f.Banks) then
    k_ (⟨idf f.Banks⟩ : SFlash)
  else bad
def flSm (f : SFlash) : Bool := sm f.Banks
theorem impl_copyFlash_c {α : Type} (bad : α) (k_ : SFlash → α) (f : SFlash) (h_f : WtL SFlash.ct f.enc) (hok : flSm f = true) : impl_copyFlash_t bad k_ f = k_ (idf f) := by
  unfold impl_copyFlash_t
  rw [show sm f.Banks = true from hok]
  rfl


def ers (k : Nat) (s : Bytes) : Bytes := s.set k 255
def andB (s d : Bytes) (j k : Nat) : UInt8 := UInt8.ofNat (bits .and .u8 (sAt s (j : Int)) (sAt d (k : Int))).toNat
def wrS (a : Nat) (d : Bytes) (k : Nat) (s : Bytes) : Bytes := s.set (a + k) (andB s d (a + k) k)
theorem itN_len {f : Nat → Bytes → Bytes} (h : ∀ k s, (f k s).length = s.length) : ∀ (m i : Nat) (s : Bytes), (itN f m i s).length = s.length
  | 0, _, _ => rfl
  | m + 1, i, s => by rw [itN, itN_len h m, h]
theorem ers_len (k : Nat) (s : Bytes) : (ers k s).length = s.length := by simp [ers]
theorem wrS_len (a : Nat) (d : Bytes) (k : Nat) (s : Bytes) : (wrS a d k s).length = s.length := by simp [wrS]
theorem ers_all : ∀ (m i : Nat) (s : Bytes), i + m ≤ s.length → itN ers m i s = s.take i ++ (List.replicate m 255 ++ s.drop (i + m))
  | 0, i, s, _ => by simp [itN]
  | m + 1, i, s, h => by
    have hi : i < s.length := by omega
    rw [itN, ers_all m (i + 1) (ers i s) (by rw [ers_len]; omega)]
    have e1 : (ers i s).take (i + 1) = s.take i ++ [255] := by
      simp only [ers]
      rw [List.take_set, List.take_add_one, List.getElem?_eq_getElem hi, List.set_append_right _ _ (by simp; omega)]
      simp [Nat.min_eq_left (Nat.le_of_lt hi)]
    have e2 : (ers i s).drop (i + 1 + m) = s.drop (i + (m + 1)) := by
      simp only [ers]
      rw [List.drop_set_of_lt (by omega)]
      congr 1
      omega
    rw [e1, e2, List.replicate_succ]
    simp
theorem and_u8 (a b : Int) : 0 ≤ bits .and .u8 a b ∧ bits .and .u8 a b ≤ 255 := by
  have := inR_bits .and .u8 a b
  simpa [inR, IntKind.min, IntKind.max, IntKind.signed, IntKind.bits] using this
def bankOf (x : SFlashStep) (part : Int) (s : Bytes) : Bytes := bif x.Kind == 0 then itN ers (minI part 96).toNat 0 s else itN (wrS x.At.toNat x.Data) (minI part (len x.Data)).toNat 0 s
theorem bankOf_len (x : SFlashStep) (part : Int) (s : Bytes) : (bankOf x part s).length = s.length := by
  unfold bankOf
  cases x.Kind == 0
  · exact itN_len (wrS_len _ _) _ _ _
  · exact itN_len ers_len _ _ _
def DoFlashStep_ok (f : SFlash) (x : SFlashStep) (part : Int) : Bool := sm f.Banks
def DoFlashStep (f : SFlash) (x : SFlashStep) (part : Int) : SFlash :=
  bif bif !(FlashOk f) then true else bif !(FlashStepOk x) then true else decide (part < 0) then f
  else ⟨f.Banks.set x.Bank.toNat [.str (bankOf x part (rS (nth f.Banks x.Bank.toNat) 0))]⟩
theorem DoFlashStep_length (f : SFlash) (x : SFlashStep) (part : Int) : (DoFlashStep f x part).Banks.length = f.Banks.length := by
  unfold DoFlashStep
  cases (bif !(FlashOk f) then true else bif !(FlashStepOk x) then true else decide (part < 0))
  · simp only [cond_false, List.length_set]
  · rfl
theorem FlashOk_facts {f : SFlash} (h : FlashOk f = true) : f.Banks.length = 2 ∧ (rS (nth f.Banks 0) 0).length = 96 ∧ (rS (nth f.Banks 1) 0).length = 96 := by
  unfold FlashOk at h
  by_cases h2 : len f.Banks = 2
  · rw [show ((len f.Banks) == 2) = true from by simpa using h2] at h
    simp only [cond_true] at h
    by_cases h3 : len (rS (nth f.Banks 0) 0) = 96
    · rw [show ((len (rS (nth f.Banks 0) 0)) == 96) = true from by simpa using h3] at h
      have h4 : len (rS (nth f.Banks 1) 0) = 96 := by simpa using h
      simp only [len] at h2 h3 h4
      omega
    · rw [show ((len (rS (nth f.Banks 0) 0)) == 96) = false from by simpa using h3] at h
      cases h
  · rw [show ((len f.Banks) == 2) = false from by simpa using h2] at h
    cases h
theorem FlashStepOk_facts {x : SFlashStep} (h : FlashStepOk x = true) : (x.Bank = 0 ∨ x.Bank = 1) ∧ ((x.Kind == 0) = false → 1 ≤ len x.Data ∧ len x.Data ≤ 8 ∧ 0 ≤ x.At ∧ x.At + len x.Data ≤ 96) := by
  unfold FlashStepOk impl_FlashStepOk_t at h
  cases hb : between x.Bank 0 1
  · rw [hb] at h; cases h
  · have hb := between_iff.1 hb
    refine ⟨by omega, fun hk => ?_⟩
    rw [show between x.Bank 0 1 = true from between_iff.2 hb, hk] at h
    cases h1 : x.Kind == 1
    · rw [h1] at h; cases h
    · rw [h1] at h
      cases h2 : between (len x.Data) 1 8
      · rw [h2] at h; cases h
      · rw [h2] at h
        have h2 := between_iff.1 h2
        have h3 : between x.At 0 (w64 (96 - (len x.Data))) = true := h
        rw [w64_in (by omega) (by omega)] at h3
        have h3 := between_iff.1 h3
        omega
theorem DoFlashStep_cond {f : SFlash} {x : SFlashStep} {part : Int} (h : (bif !(FlashOk f) then true else bif !(FlashStepOk x) then true else decide (part < 0)) = false) : FlashOk f = true ∧ FlashStepOk x = true ∧ 0 ≤ part := by
  cases h1 : FlashOk f
  · rw [h1] at h; cases h
  · cases h2 : FlashStepOk x
    · rw [h1, h2] at h; cases h
    · rw [h1, h2] at h
      exact ⟨rfl, rfl, Int.not_lt.1 (of_decide_eq_false h)⟩
theorem bank_facts {f : SFlash} {x : SFlashStep} (h1 : FlashOk f = true) (h2 : FlashStepOk x = true) : idx x.Bank f.Banks = true ∧ inl x.Bank.toNat f.Banks = true ∧ (rS (nth f.Banks x.Bank.toNat) 0).length = 96 ∧ x.Bank.toNat < f.Banks.length := by
  obtain ⟨a, b, c⟩ := FlashOk_facts h1
  obtain ⟨d, _⟩ := FlashStepOk_facts h2
  refine ⟨?_, ?_, ?_, ?_⟩
  · simp only [idx, Bool.and_eq_true, decide_eq_true_eq]; omega
  · simp only [inl, decide_eq_true_eq]; omega
  · rcases d with d | d <;> rw [d] <;> assumption
  · omega

def impl_DoFlashStep_l0 {α : Type} (bad : α) (k_ : SFlash → α) (part : Int) (x_2 : Int) (out_0 : Rows) (ih0 : Int → Rows → α) (i : Int) (bank : Rows) : α :=
  bif decide (i < minI part 96) then
    bif andt (andt true (idx i bank)) (inl (Int.toNat i) bank) then
      ih0 (w64 (i + 1)) (List.set bank (Int.toNat i) (splice (nth bank (Int.toNat i)) 0 [.int 255]))
    else bad
  else bif andt (andt true (idx x_2 out_0)) (inl (Int.toNat x_2) out_0) then
      k_ (⟨List.set out_0 (Int.toNat x_2) (splice (nth out_0 (Int.toNat x_2)) 0 [.str (toStr bank)])⟩ : SFlash)
    else bad
def impl_DoFlashStep_l1 {α : Type} (bad : α) (k_ : SFlash → α) (part : Int) (x_6 : Int) (x_7 : Int) (x_8 : Bytes) (out_0_1 : Rows) (ih1 : Int → Rows → α) (i_1 : Int) (bank_1 : Rows) : α :=
  let z0 : Bool := idx (w64 (x_7 + i_1)) bank_1
  let z1 : Bool := inl (Int.toNat (w64 (x_7 + i_1))) bank_1
  let z2 : List DC := nth bank_1 (Int.toNat (w64 (x_7 + i_1)))
  bif decide (i_1 < minI part (len x_8)) then
    bif andt (andt (andt (andt (andt true z0) z1) (idx i_1 x_8)) z0) z1 then
      ih1 (w64 (i_1 + 1)) (List.set bank_1 (Int.toNat (w64 (x_7 + i_1))) (splice z2 0 [.int (bits .and .u8 (rI z2 0) (sAt x_8 i_1))]))
    else bad
  else bif andt (andt true (idx x_6 out_0_1)) (inl (Int.toNat x_6) out_0_1) then
      k_ (⟨List.set out_0_1 (Int.toNat x_6) (splice (nth out_0_1 (Int.toNat x_6)) 0 [.str (toStr bank_1)])⟩ : SFlash)
    else bad
def impl_DoFlashStep_L1 {α : Type} (bad : α) (k_ : SFlash → α) (N : Nat) (part : Int) (x_6 : Int) (x_7 : Int) (x_8 : Bytes) (out_0_1 : Rows) (m_ : Nat) : Int → Rows → α :=
  Nat.rec (motive := fun _ => Int → Rows → α) (fun _ _ => bad) (fun _ ih1 => impl_DoFlashStep_l1 bad k_ part x_6 x_7 x_8 out_0_1 ih1) m_
theorem impl_DoFlashStep_L1_z {α : Type} (bad : α) (k_ : SFlash → α) (N : Nat) (part : Int) (x_6 : Int) (x_7 : Int) (x_8 : Bytes) (out_0_1 : Rows) (i_1 : Int) (bank_1 : Rows) : impl_DoFlashStep_L1 bad k_ N part x_6 x_7 x_8 out_0_1 0 i_1 bank_1 = bad := rfl
theorem impl_DoFlashStep_L1_s {α : Type} (bad : α) (k_ : SFlash → α) (N : Nat) (part : Int) (x_6 : Int) (x_7 : Int) (x_8 : Bytes) (out_0_1 : Rows) (m_ : Nat) (i_1 : Int) (bank_1 : Rows) : impl_DoFlashStep_L1 bad k_ N part x_6 x_7 x_8 out_0_1 (m_ + 1) i_1 bank_1 = impl_DoFlashStep_l1 bad k_ part x_6 x_7 x_8 out_0_1 (impl_DoFlashStep_L1 bad k_ N part x_6 x_7 x_8 out_0_1 m_) i_1 bank_1 := rfl
def impl_DoFlashStep_L0 {α : Type} (bad : α) (k_ : SFlash → α) (N : Nat) (part : Int) (x_2 : Int) (out_0 : Rows) (m_ : Nat) : Int → Rows → α :=
  Nat.rec (motive := fun _ => Int → Rows → α) (fun _ _ => bad) (fun _ ih0 => impl_DoFlashStep_l0 bad k_ part x_2 out_0 ih0) m_
theorem impl_DoFlashStep_L0_z {α : Type} (bad : α) (k_ : SFlash → α) (N : Nat) (part : Int) (x_2 : Int) (out_0 : Rows) (i : Int) (bank : Rows) : impl_DoFlashStep_L0 bad k_ N part x_2 out_0 0 i bank = bad := rfl
theorem impl_DoFlashStep_L0_s {α : Type} (bad : α) (k_ : SFlash → α) (N : Nat) (part : Int) (x_2 : Int) (out_0 : Rows) (m_ : Nat) (i : Int) (bank : Rows) : impl_DoFlashStep_L0 bad k_ N part x_2 out_0 (m_ + 1) i bank = impl_DoFlashStep_l0 bad k_ part x_2 out_0 (impl_DoFlashStep_L0 bad k_ N part x_2 out_0 m_) i bank := rfl
def impl_DoFlashStep_t {α : Type} (bad : α) (k_ : SFlash → α) (l0 : Int → Rows → Int → Rows → α) (l1 : Int → Int → Bytes → Rows → Int → Rows → α) (f : SFlash) (x : SFlashStep) (part : Int) : α :=
  let z0 : Rows := ofStr (rS (nth ((idf f).Banks) (Int.toNat x.Bank)) 0)
  bif andt true (flSm f) then
    bif bif !(FlashOk f) then true else bif !(FlashStepOk x) then true else decide (part < 0) then k_ (idf f)
    else bif andt (andt true (idx x.Bank ((idf f).Banks))) (inl (Int.toNat x.Bank) ((idf f).Banks)) then
        bif x.Kind == 0 then l0 x.Bank ((idf f).Banks) 0 z0
        else l1 x.Bank x.At x.Data ((idf f).Banks) 0 z0
      else bad
  else bad
def impl_DoFlashStep_f {α : Type} (bad : α) (k_ : SFlash → α) (N : Nat) (f : SFlash) (x : SFlashStep) (part : Int) : α := impl_DoFlashStep_t bad k_ (fun x_2 out_0 => impl_DoFlashStep_L0 bad k_ N part x_2 out_0 N) (fun x_6 x_7 x_8 out_0_1 => impl_DoFlashStep_L1 bad k_ N part x_6 x_7 x_8 out_0_1 N) f x part
theorem impl_DoFlashStep_c {α : Type} (bad : α) (k_ : SFlash → α) (f : SFlash) (x : SFlashStep) (part : Int) (h_f : WtL SFlash.ct f.enc) (h_x : WtL SFlashStep.ct x.enc) (h_part : WtC (.int .i64) (.int part)) (hok : DoFlashStep_ok f x part = true) : ∃ N, impl_DoFlashStep_f bad k_ N f x part = k_ (DoFlashStep f x part) := by
  have hsm : sm f.Banks = true := hok
  have hfs : flSm f = true := hok
  have hpt := wt_int h_part
  obtain ⟨hl, hw⟩ := wt_sl (SFlash.wt_Banks h_f)
  refine ⟨97, ?_⟩
  unfold impl_DoFlashStep_f impl_DoFlashStep_t DoFlashStep
  simp only [idf, hfs, andt_true_l, okm_tt, cond_true]
  refine cond_c (fun _ => rfl) (fun hg => ?_)
  obtain ⟨h1, h2, h3⟩ := DoFlashStep_cond hg
  obtain ⟨b1, b2, b3, b4⟩ := bank_facts h1 h2
  obtain ⟨_, hx⟩ := FlashStepOk_facts h2
  have hsp : ∀ s : Bytes, splice (nth f.Banks x.Bank.toNat) 0 [.str s] = [.str s] := fun s => splice_all (by rw [wtl_len (hw _ (nth_mem b4))]; rfl)
  simp only [b1, b2, andt_true_l, cond_true]
  unfold bankOf

  cases hk : x.Kind == 0
  · obtain ⟨d1, d2, d3, d4⟩ := hx hk
    simp only [cond_false]
    have hm0 : 0 ≤ minI part (len x.Data) := by unfold minI; split <;> omega
    have hm1 : minI part (len x.Data) ≤ len x.Data := by unfold minI; split <;> omega
    generalize hm : minI part (len x.Data) = M at hm0 hm1 ⊢
    refine (loop_inv M.toNat (fun n i s => impl_DoFlashStep_L1 bad k_ 97 part x.Bank x.At x.Data f.Banks n i (ofStr s)) (wrS x.At.toNat x.Data) (fun s => k_ (⟨f.Banks.set x.Bank.toNat [.str s]⟩ : SFlash)) (fun _ s => s.length = 96) ?_ ?_ ?_ 97 (rS (nth f.Banks x.Bank.toNat) 0) b3 (by omega)).trans rfl
    · intro i s hi hs
      rw [wrS_len]; exact hs
    · intro n i s hi hs
      show impl_DoFlashStep_L1 bad k_ 97 part x.Bank x.At x.Data f.Banks (n + 1) (i : Int) (ofStr s) = _
      rw [impl_DoFlashStep_L1_s]
      have ea : w64 (x.At + (i : Int)) = ((x.At.toNat + i : Nat) : Int) := by rw [w64_in (by omega) (by omega)]; omega
      have hj : x.At.toNat + i < s.length := by omega
      have hj2 : x.At.toNat + i < (ofStr s).length := by rw [ofStr_length]; exact hj
      have hd : i < x.Data.length := by simp only [len] at hm1; omega
      have hlt : decide ((i : Int) < M) = true := decide_eq_true (by omega)
      have ew : w64 ((i : Int) + 1) = (i : Int) + 1 := w64_in (by omega) (by omega)
      have hab := and_u8 (sAt s ((x.At.toNat + i : Nat) : Int)) (sAt x.Data (i : Int))
      simp only [impl_DoFlashStep_l1, hm, hlt, ea, idx_nat hj2, inl_nat hj2, idx_nat hd, Int.toNat_natCast, nth_ofStr hj, rI_one, splice_one, ew, andt_true_l, andt_true_r, cond_true]
      rw [set_ofStr hab.1 hab.2]
      rfl
    · intro n s hs
      show impl_DoFlashStep_L1 bad k_ 97 part x.Bank x.At x.Data f.Banks (n + 1) ((M.toNat : Nat) : Int) (ofStr s) = _
      rw [impl_DoFlashStep_L1_s]
      have hlt : decide (((M.toNat : Nat) : Int) < M) = false := decide_eq_false (by omega)
      simp only [impl_DoFlashStep_l1, hm, hlt, b1, b2, toStr_ofStr, hsp, andt_true_l, cond_true, cond_false]
  · simp only [cond_true]
    have hm0 : 0 ≤ minI part 96 := by unfold minI; split <;> omega
    have hm1 : minI part 96 ≤ 96 := by unfold minI; split <;> omega
    generalize hm : minI part 96 = M at hm0 hm1 ⊢
    refine (loop_inv M.toNat (fun n i s => impl_DoFlashStep_L0 bad k_ 97 part x.Bank f.Banks n i (ofStr s)) ers (fun s => k_ (⟨f.Banks.set x.Bank.toNat [.str s]⟩ : SFlash)) (fun _ s => s.length = 96) ?_ ?_ ?_ 97 (rS (nth f.Banks x.Bank.toNat) 0) b3 (by omega)).trans rfl
    · intro i s hi hs
      rw [ers_len]; exact hs
    · intro n i s hi hs
      show impl_DoFlashStep_L0 bad k_ 97 part x.Bank f.Banks (n + 1) (i : Int) (ofStr s) = _
      rw [impl_DoFlashStep_L0_s]
      have hj : i < s.length := by omega
      have hj2 : i < (ofStr s).length := by rw [ofStr_length]; exact hj
      have hlt : decide ((i : Int) < M) = true := decide_eq_true (by omega)
      have ew : w64 ((i : Int) + 1) = (i : Int) + 1 := w64_in (by omega) (by omega)
      simp only [impl_DoFlashStep_l0, hm, hlt, idx_nat hj2, inl_nat hj2, Int.toNat_natCast, nth_ofStr hj, splice_one, ew, andt_true_l, andt_true_r, cond_true]
      rw [set_ofStr (by decide) (by decide)]
      rfl
    · intro n s hs
      show impl_DoFlashStep_L0 bad k_ 97 part x.Bank f.Banks (n + 1) ((M.toNat : Nat) : Int) (ofStr s) = _
      rw [impl_DoFlashStep_L0_s]
      have hlt : decide (((M.toNat : Nat) : Int) < M) = false := decide_eq_false (by omega)
      simp only [impl_DoFlashStep_l0, hm, hlt, b1, b2, toStr_ofStr, hsp, andt_true_l, cond_true, cond_false]

def spec_l01Long_l0 {α : Type} (bad : α) (k_ : Bytes → α) (n : Int) (x : Int) (ih0 : Int → Rows → α) (i : Int) (out_ : Rows) : α :=
  bif decide (i < n) then
    bif andt (andt true (idx i out_)) (inl (Int.toNat i) out_) then
      ih0 (w64 (i + 1)) (List.set out_ (Int.toNat i) (splice (nth out_ (Int.toNat i)) 0 [.int x]))
    else bad
  else k_ (toStr out_)
def spec_l01Long_L0 {α : Type} (bad : α) (k_ : Bytes → α) (N : Nat) (n : Int) (x : Int) (m_ : Nat) : Int → Rows → α :=
  Nat.rec (motive := fun _ => Int → Rows → α) (fun _ _ => bad) (fun _ ih0 => spec_l01Long_l0 bad k_ n x ih0) m_
theorem spec_l01Long_L0_z {α : Type} (bad : α) (k_ : Bytes → α) (N : Nat) (n : Int) (x : Int) (i : Int) (out_ : Rows) : spec_l01Long_L0 bad k_ N n x 0 i out_ = bad := rfl
theorem spec_l01Long_L0_s {α : Type} (bad : α) (k_ : Bytes → α) (N : Nat) (n : Int) (x : Int) (m_ : Nat) (i : Int) (out_ : Rows) : spec_l01Long_L0 bad k_ N n x (m_ + 1) i out_ = spec_l01Long_l0 bad k_ n x (spec_l01Long_L0 bad k_ N n x m_) i out_ := rfl
def spec_l01Long_t {α : Type} (bad : α) (k_ : Bytes → α) (l0 : Int → Rows → α) (n : Int) (x : Int) : α :=
  bif andt true (makeOk 1 n n) then
    l0 0 (List.replicate (Int.toNat n) [.int 0])
  else bad
def spec_l01Long_f {α : Type} (bad : α) (k_ : Bytes → α) (N : Nat) (n : Int) (x : Int) : α := spec_l01Long_t bad k_ (spec_l01Long_L0 bad k_ N n x N) n x
def l01Long_ok (n : Int) (x : Int) : Bool := bif decide (0 ≤ n) then decide (n ≤ 1000) else false
def l01Long (n : Int) (x : Int) : Bytes := List.replicate n.toNat (UInt8.ofNat x.toNat)
theorem ofStr_replicate (n : Nat) {x : Int} (h0 : 0 ≤ x) (h1 : x ≤ 255) : List.replicate n [.int x] = ofStr (List.replicate n (UInt8.ofNat x.toNat)) := by
  simp only [ofStr, List.map_replicate, ofByte_of h0 h1]
theorem spec_l01Long_c {α : Type} (bad : α) (k_ : Bytes → α) (n : Int) (x : Int) (h_n : WtC (.int .i64) (.int n)) (h_x : WtC (.int .u8) (.int x)) (hok : l01Long_ok n x = true) : ∃ N, spec_l01Long_f bad k_ N n x = k_ (l01Long n x) := by
  obtain ⟨h0, h1⟩ := between_iff.1 hok
  have hx : 0 ≤ x ∧ x ≤ 255 := by
    have h := h_x
    simp only [WtC, DC.int.injEq] at h
    obtain ⟨m, rfl, h⟩ := h
    simpa [inR, IntKind.min, IntKind.max, IntKind.signed, IntKind.bits] using h
  refine ⟨n.toNat + 1, ?_⟩
  unfold spec_l01Long_f spec_l01Long_t l01Long
  have hmk : makeOk 1 n n = true := by simp only [makeOk, Bool.and_eq_true, decide_eq_true_eq]; omega
  simp only [hmk, andt_true_l, cond_true]
  have hr : (List.replicate n.toNat [DC.int 0] : Rows).length = n.toNat := by simp
  have := map_loop (List.replicate n.toNat [DC.int 0]) (spec_l01Long_L0 bad k_ (n.toNat + 1) n x) (fun o => k_ (toStr o)) (fun _ => [.int x]) ?_ ?_
  · rw [hr] at this
    rw [this, List.map_replicate, ofStr_replicate _ hx.1 hx.2, toStr_ofStr]
  · intro q i o h ho hn
    rw [hr] at h
    rw [spec_l01Long_L0_s]
    have hio : i < o.length := by rw [ho, hr]; exact h
    have en : nth o i = [DC.int 0] := by
      rw [hn]
      simp only [nth, List.getD_eq_getElem?_getD]
      rw [List.getElem?_replicate_of_lt h]
      rfl
    simp only [spec_l01Long_l0, decide_eq_true (show (i : Int) < n by omega), idx_nat hio, inl_nat hio, Int.toNat_natCast, andt_true_l, cond_true, en, splice_one, w64_in (show -9223372036854775808 ≤ (i : Int) + 1 by omega) (show (i : Int) + 1 ≤ 9223372036854775807 by omega)]
  · intro q o ho
    rw [hr, spec_l01Long_L0_s]
    simp only [spec_l01Long_l0, decide_eq_false (show ¬ ((n.toNat : Nat) : Int) < n by omega), cond_false]

def spec_PutBytes_t {α : Type} (bad : α) (k_ : Bytes → α) (s : Bytes) (at_ : Int) (part : Bytes) : α :=
  let z0 : Bytes := subL s (w64 (at_ + (len part)))
  bif !(l02Within s at_ (len part)) then k_ s
  else bif andt (andt (andt (andt true (okH s at_)) (catOk (subH s at_) part)) (okL s (w64 (at_ + (len part))))) (catOk ((subH s at_) ++ part) z0) then
      k_ (((subH s at_) ++ part) ++ z0)
    else bad
def PutBytes_ok (s : Bytes) (at_ : Int) (part : Bytes) : Bool := decide (s.length ≤ 4294967296) && decide (part.length ≤ 4294967296)
def PutBytes (s : Bytes) (at_ : Int) (part : Bytes) : Bytes := bif !(l02Within s at_ (len part)) then s else s.take at_.toNat ++ part ++ s.drop (at_.toNat + part.length)
theorem spec_PutBytes_c {α : Type} (bad : α) (k_ : Bytes → α) (s : Bytes) (at_ : Int) (part : Bytes) (h_s : WtC .str (.str s)) (h_at_ : WtC (.int .i64) (.int at_)) (h_part : WtC .str (.str part)) (hok : PutBytes_ok s at_ part = true) : spec_PutBytes_t bad k_ s at_ part = k_ (PutBytes s at_ part) := by
  simp only [PutBytes_ok, Bool.and_eq_true, decide_eq_true_eq] at hok
  unfold spec_PutBytes_t PutBytes
  refine cond_c (fun _ => rfl) (fun hg => ?_)
  have hw := (within_iff (by omega)).1 (show l02Within s at_ (len part) = true by simpa using hg)
  have e1 : w64 (at_ + len part) = at_ + len part := by simp only [len] at hw ⊢; exact w64_in (by omega) (by omega)
  have e2 : subH s at_ = s.take at_.toNat := by simp [subH]
  have e3 : subL s (at_ + len part) = s.drop (at_.toNat + part.length) := by
    simp only [subL, List.take_length, len]
    congr 1
    omega
  have g1 : okH s at_ = true := by simp only [len] at hw; simp only [okH, Bool.and_eq_true, decide_eq_true_eq]; omega
  have g2 : okL s (at_ + len part) = true := by simp only [len] at hw ⊢; simp only [okL, Bool.and_eq_true, decide_eq_true_eq]; omega
  have g3 : catOk (s.take at_.toNat) part = true := by simp only [catOk, List.length_take, decide_eq_true_eq]; omega
  have g4 : catOk (s.take at_.toNat ++ part) (s.drop (at_.toNat + part.length)) = true := by simp only [catOk, List.length_append, List.length_take, List.length_drop, decide_eq_true_eq]; omega
  simp only [e1, e2, e3, g1, g2, g3, g4, andt_true_l, cond_true]

def spec_DoFlashStep_l0 {α : Type} (bad : α) (k_ : SFlash → α) (part : Int) (x_2 : Int) (x_3 : Int) (x_4 : Bytes) (out_0 : Rows) (ih0 : Bytes → Int → α) (s : Bytes) (k : Int) : α :=
  bif decide (k < minI part (len x_4)) then
    bif andt (andt (andt true (idx (w64 (x_3 + k)) s)) (idx k x_4)) (PutBytes_ok s (w64 (x_3 + k)) (toStr ([[.int (bits .and .u8 (sAt s (w64 (x_3 + k))) (sAt x_4 k))]]))) then
      ih0 (PutBytes s (w64 (x_3 + k)) (toStr ([[.int (bits .and .u8 (sAt s (w64 (x_3 + k))) (sAt x_4 k))]]))) (w64 (k + 1))
    else bad
  else bif andt (andt true (idx x_2 out_0)) (inl (Int.toNat x_2) out_0) then
      k_ (⟨List.set out_0 (Int.toNat x_2) (splice (nth out_0 (Int.toNat x_2)) 0 [.str s])⟩ : SFlash)
    else bad
def spec_DoFlashStep_L0 {α : Type} (bad : α) (k_ : SFlash → α) (N : Nat) (part : Int) (x_2 : Int) (x_3 : Int) (x_4 : Bytes) (out_0 : Rows) (m_ : Nat) : Bytes → Int → α :=
  Nat.rec (motive := fun _ => Bytes → Int → α) (fun _ _ => bad) (fun _ ih0 => spec_DoFlashStep_l0 bad k_ part x_2 x_3 x_4 out_0 ih0) m_
theorem spec_DoFlashStep_L0_z {α : Type} (bad : α) (k_ : SFlash → α) (N : Nat) (part : Int) (x_2 : Int) (x_3 : Int) (x_4 : Bytes) (out_0 : Rows) (s : Bytes) (k : Int) : spec_DoFlashStep_L0 bad k_ N part x_2 x_3 x_4 out_0 0 s k = bad := rfl
theorem spec_DoFlashStep_L0_s {α : Type} (bad : α) (k_ : SFlash → α) (N : Nat) (part : Int) (x_2 : Int) (x_3 : Int) (x_4 : Bytes) (out_0 : Rows) (m_ : Nat) (s : Bytes) (k : Int) : spec_DoFlashStep_L0 bad k_ N part x_2 x_3 x_4 out_0 (m_ + 1) s k = spec_DoFlashStep_l0 bad k_ part x_2 x_3 x_4 out_0 (spec_DoFlashStep_L0 bad k_ N part x_2 x_3 x_4 out_0 m_) s k := rfl
def spec_DoFlashStep_t {α : Type} (bad : α) (k_ : SFlash → α) (l0 : Int → Int → Bytes → Rows → Bytes → Int → α) (f : SFlash) (x : SFlashStep) (part : Int) : α :=
  let z0 : List DC := nth f.Banks (Int.toNat x.Bank)
  bif andt true (room2 16 [] f.Banks) then
    bif bif !(FlashOk f) then true else bif !(FlashStepOk x) then true else decide (part < 0) then k_ f
    else bif andt true (idx x.Bank f.Banks) then
        bif x.Kind == 0 then
          bif andt (andt (andt (andt true (l01Long_ok (minI part 96) 255)) (PutBytes_ok (rS z0 0) 0 (l01Long (minI part 96) 255))) (idx x.Bank f.Banks)) (inl (Int.toNat x.Bank) f.Banks) then
            k_ (⟨List.set f.Banks (Int.toNat x.Bank) (splice z0 0 [.str (PutBytes (rS z0 0) 0 (l01Long (minI part 96) 255))])⟩ : SFlash)
          else bad
        else l0 x.Bank x.At x.Data f.Banks (rS z0 0) 0
      else bad
  else bad
def spec_DoFlashStep_f {α : Type} (bad : α) (k_ : SFlash → α) (N : Nat) (f : SFlash) (x : SFlashStep) (part : Int) : α := spec_DoFlashStep_t bad k_ (fun x_2 x_3 x_4 out_0 => spec_DoFlashStep_L0 bad k_ N part x_2 x_3 x_4 out_0 N) f x part
theorem spec_DoFlashStep_c {α : Type} (bad : α) (k_ : SFlash → α) (f : SFlash) (x : SFlashStep) (part : Int) (h_f : WtL SFlash.ct f.enc) (h_x : WtL SFlashStep.ct x.enc) (h_part : WtC (.int .i64) (.int part)) (hok : DoFlashStep_ok f x part = true) : ∃ N, spec_DoFlashStep_f bad k_ N f x part = k_ (DoFlashStep f x part) := by
  have r0 : room2 16 [] f.Banks = true := room2_sm hok (by omega)

  have hsm : sm f.Banks = true := hok
  have hfs : flSm f = true := hok
  have hpt := wt_int h_part
  obtain ⟨hl, hw⟩ := wt_sl (SFlash.wt_Banks h_f)
  refine ⟨97, ?_⟩
  unfold spec_DoFlashStep_f spec_DoFlashStep_t DoFlashStep
  simp only [r0, andt_true_l, okm_tt, cond_true]
  refine cond_c (fun _ => rfl) (fun hg => ?_)
  obtain ⟨h1, h2, h3⟩ := DoFlashStep_cond hg
  obtain ⟨b1, b2, b3, b4⟩ := bank_facts h1 h2
  obtain ⟨_, hx⟩ := FlashStepOk_facts h2
  have hsp : ∀ s : Bytes, splice (nth f.Banks x.Bank.toNat) 0 [.str s] = [.str s] := fun s => splice_all (by rw [wtl_len (hw _ (nth_mem b4))]; rfl)
  simp only [b1, b2, andt_true_l, cond_true]
  unfold bankOf

  have hset : ∀ (s : Bytes) (j : Nat) (b : UInt8), j < s.length → s.length = 96 → PutBytes s (j : Int) [b] = s.set j b := by
    intro s j b hj hs
    have hw : l02Within s (j : Int) (len [b]) = true := (within_iff (by omega)).2 (by simp only [len, List.length_cons, List.length_nil]; omega)
    unfold PutBytes
    rw [hw]
    simp only [Bool.not_true, cond_false, Int.toNat_natCast, List.length_cons, List.length_nil]
    rw [List.set_eq_take_append_cons_drop, if_pos hj]
    simp
  cases hk : x.Kind == 0
  · obtain ⟨d1, d2, d3, d4⟩ := hx hk
    simp only [cond_false]
    have hm0 : 0 ≤ minI part (len x.Data) := by unfold minI; split <;> omega
    have hm1 : minI part (len x.Data) ≤ len x.Data := by unfold minI; split <;> omega
    generalize hm : minI part (len x.Data) = M at hm0 hm1 ⊢
    refine (loop_inv M.toNat (fun n i s => spec_DoFlashStep_L0 bad k_ 97 part x.Bank x.At x.Data f.Banks n s i) (wrS x.At.toNat x.Data) (fun s => k_ (⟨f.Banks.set x.Bank.toNat [.str s]⟩ : SFlash)) (fun _ s => s.length = 96) ?_ ?_ ?_ 97 (rS (nth f.Banks x.Bank.toNat) 0) b3 (by omega)).trans rfl
    · intro i s hi hs
      rw [wrS_len]; exact hs
    · intro n i s hi hs
      show spec_DoFlashStep_L0 bad k_ 97 part x.Bank x.At x.Data f.Banks (n + 1) s (i : Int) = _
      rw [spec_DoFlashStep_L0_s]
      have ea : w64 (x.At + (i : Int)) = ((x.At.toNat + i : Nat) : Int) := by rw [w64_in (by omega) (by omega)]; omega
      have hj : x.At.toNat + i < s.length := by omega
      have hd : i < x.Data.length := by simp only [len] at hm1; omega
      have hlt : decide ((i : Int) < M) = true := decide_eq_true (by omega)
      have ew : w64 ((i : Int) + 1) = (i : Int) + 1 := w64_in (by omega) (by omega)
      have eb : toStr [[.int (bits .and .u8 (sAt s ((x.At.toNat + i : Nat) : Int)) (sAt x.Data (i : Int)))]] = [andB s x.Data (x.At.toNat + i) i] := rfl
      have ho : PutBytes_ok s ((x.At.toNat + i : Nat) : Int) [andB s x.Data (x.At.toNat + i) i] = true := by
        simp only [PutBytes_ok, List.length_cons, List.length_nil, Bool.and_eq_true, decide_eq_true_eq]; omega
      simp only [spec_DoFlashStep_l0, hm, hlt, ea, idx_nat hj, idx_nat hd, eb, ho, ew, hset s _ _ hj hs, andt_true_l, andt_true_r, cond_true]
      rfl
    · intro n s hs
      show spec_DoFlashStep_L0 bad k_ 97 part x.Bank x.At x.Data f.Banks (n + 1) s ((M.toNat : Nat) : Int) = _
      rw [spec_DoFlashStep_L0_s]
      have hlt : decide (((M.toNat : Nat) : Int) < M) = false := decide_eq_false (by omega)
      simp only [spec_DoFlashStep_l0, hm, hlt, b1, b2, hsp, andt_true_l, cond_true, cond_false]
  · simp only [cond_true]
    have hm0 : 0 ≤ minI part 96 := by unfold minI; split <;> omega
    have hm1 : minI part 96 ≤ 96 := by unfold minI; split <;> omega
    generalize hm : minI part 96 = M at hm0 hm1 ⊢
    have hlo : l01Long_ok M 255 = true := between_iff.2 (by omega)
    have hll : (l01Long M 255).length = M.toNat := by simp [l01Long]
    have hpo : PutBytes_ok (rS (nth f.Banks x.Bank.toNat) 0) 0 (l01Long M 255) = true := by
      simp only [PutBytes_ok, hll, b3, Bool.and_eq_true, decide_eq_true_eq]; omega
    have hw : l02Within (rS (nth f.Banks x.Bank.toNat) 0) 0 (len (l01Long M 255)) = true := (within_iff (by omega)).2 (by simp only [len, hll, b3]; omega)
    have hpb : PutBytes (rS (nth f.Banks x.Bank.toNat) 0) 0 (l01Long M 255) = itN ers M.toNat 0 (rS (nth f.Banks x.Bank.toNat) 0) := by
      rw [ers_all _ _ _ (by omega)]
      unfold PutBytes
      rw [hw]
      simp only [Bool.not_true, cond_false, hll, Int.toNat_zero, List.take_zero, List.nil_append, Nat.zero_add]
      rfl
    simp only [hlo, hpo, hpb, hsp, b1, b2, andt_true_l, andt_true_r, cond_true]

def laws_FnExactDoFlashStep_t {α : Type} (bad : α) (k_ : Bool → α) (aF : SFlash) (aX : SFlashStep) (aPart : Int) : α :=
  let z0 : Bool := DoFlashStep_ok (idf aF) (idf aX) aPart
  let z1 : Bool := andt (andt true (laws_toFlash_ok aF)) z0
  let z2 : SFlash := DoFlashStep (idf aF) (idf aX) aPart
  let z3 : Bool := andt true (same z2 z2)
  let z4 : Bool := !(yes2 z2 z2)
  let z5 : Bool := decide ((markFlash (idf aF) 1).1 < 0)
  let z6 : Int × Rows := markFlash z2 1
  let z7 : SFlash := (⟨z6.2⟩ : SFlash)
  let z8 : Bool := andt true (heldFlash_ok z7 1)
  let z9 : Int := heldFlash z7 1
  let z10 : Bool := decide (z9 < 0)
  let z11 : Bool := z9 != z6.1
  bif decide (laws_szFlash aF 1048576 < 0) then k_ true
  else bif decide (laws_szFlashStep aX (laws_szFlash aF 1048576) < 0) then k_ true
  else bif z1 then
      bif andt true (laws_toFlash_ok aF) then
        bif andt true z0 then
          bif z3 then
            bif z4 then k_ false
            else bif andt (andt true (laws_toFlash_ok aF)) (same (idf aF) (idf aF)) then
                bif !(yes2 (idf aF) (idf aF)) then k_ false
                else bif andt true (markFlash_ok (idf aF) 1) then
                    bif okm z5 true z3 then
                      bif bif z5 then true else z4 then k_ false
                      else bif andt true (markFlash_ok z2 1) then
                          bif z8 then
                            bif z10 then k_ false
                            else bif z11 then k_ false
                            else bif z1 then
                                bif z3 then
                                  bif z4 then k_ false
                                  else bif z8 then
                                      bif z10 then k_ false
                                      else bif z11 then k_ false
                                      else k_ true
                                    else bad
                                else bad
                              else bad
                          else bad
                        else bad
                    else bad
                  else bad
              else bad
          else bad
        else bad
      else bad
    else bad
theorem laws_FnExactDoFlashStep_c {α : Type} (bad : α) (k_ : Bool → α) (aF : SFlash) (aX : SFlashStep) (aPart : Int) (h_aF : WtL SFlash.ct aF.enc) (h_aX : WtL SFlashStep.ct aX.enc) (h_aPart : WtC (.int .i64) (.int aPart)) (hok : fitL (SFlash.ct ++ (SFlashStep.ct ++ ((.int .i64) :: ([])))) (aF.enc ++ (aX.enc ++ (.int aPart :: ([])))) = true) : laws_FnExactDoFlashStep_t bad k_ aF aX aPart = k_ true := by
  unfold laws_FnExactDoFlashStep_t
  by_cases c0 : laws_szFlash aF 1048576 < 0
  · simp only [c0, decide_true, decide_false, cond_true, cond_false]
  have k0 := laws_szFlash_ok h_aF (by omega) (by omega) (Int.not_lt.1 c0)
  by_cases c1 : laws_szFlashStep aX (laws_szFlash aF 1048576) < 0
  · simp only [c0, c1, decide_true, decide_false, cond_true, cond_false]
  have k1 := laws_szFlashStep_ok h_aX (Int.not_lt.1 c0) k0.1 (Int.not_lt.1 c1)
  have hsm : sm aF.Banks = true := by
    have k := k0.2
    cases h : sm aF.Banks
    · simp only [laws_toFlash_ok, laws_toFlash_t, h] at k
      cases k
    · rfl
  obtain ⟨m1, m2, m3, m4⟩ := mh_Flash aF (k := 1) (by omega) (by omega) hsm
  have m5 := Int.not_lt.2 m4
  have ko : DoFlashStep_ok aF aX aPart = true := hsm
  obtain ⟨q1, q2, q3, q4⟩ := mh_Flash (DoFlashStep aF aX aPart) (k := 1) (by omega) (by omega) (by simp only [sm, DoFlashStep_length]; exact hsm)
  have q5 := decide_eq_false (Int.not_lt.2 q4)
  simp only [c0, c1, decide_false, cond_false, cond_true, idf, k0.2, k1.2, m1, m5, ko, q1, q2, q3, q5, andt_true_l, andt_true_r, same_refl, yes2, beq_self_eq_true, bne_self_eq_false, Bool.not_true, okm_tt]

end
end Go.Proofs.Ytjknoknkbfhelaa.Pl
