/- What functions of the program compute, in plain Lean, as the value machine runs them. Conditions: none. -/
import Derived.Test.YtjknoknkbfhelaaPBa
import Derived.Test.YtjknoknkbfhelaaBit
set_option linter.unusedVariables false
set_option linter.unusedSimpArgs false
namespace Go.Proofs.Ytjknoknkbfhelaa.Pl
open Vm
noncomputable section


def impl_Get32_t {α : Type} (bad : α) (k_ : Int → α) (s : Bytes) (at_ : Int) : α :=
  bif bif decide (at_ < 0) then true else decide (w64 ((len s) - 4) < at_) then k_ (-1)
  else bif andt (andt (andt (andt true (idx at_ s)) (idx (w64 (at_ + 1)) s)) (idx (w64 (at_ + 2)) s)) (idx (w64 (at_ + 3)) s) then
      k_ (bits .or .i64 (bits .or .i64 (bits .or .i64 (shlI .i64 (w64 (sAt s at_)) 24) (shlI .i64 (w64 (sAt s (w64 (at_ + 1)))) 16)) (shlI .i64 (w64 (sAt s (w64 (at_ + 2)))) 8)) (w64 (sAt s (w64 (at_ + 3)))))
    else bad
def Get32 (s : Bytes) (at_ : Int) : Int := bif bif decide (at_ < 0) then true else decide (len s < at_ + 4) then -1 else (sAt s at_) * 16777216 + (sAt s (at_ + 1)) * 65536 + (sAt s (at_ + 2)) * 256 + sAt s (at_ + 3)
theorem impl_Get32_c {α : Type} (bad : α) (k_ : Int → α) (s : Bytes) (at_ : Int) (h_s : WtC .str (.str s)) (h_at_ : WtC (.int .i64) (.int at_)) : impl_Get32_t bad k_ s at_ = k_ (Get32 s at_) := by
  have hl := wt_str h_s
  have ha := wt_int h_at_
  have hl0 : 0 ≤ len s := by simp [len]
  have hl1 : len s ≤ 9223372036854775807 := by simp only [len]; omega
  have hid : ∀ j : Int, at_ ≤ j → j < at_ + 4 → 0 ≤ at_ → at_ + 4 ≤ len s → idx j s = true := by
    intro j h1 h2 h3 h4
    simp only [len] at h4
    simp only [idx, Bool.and_eq_true, decide_eq_true_eq]
    omega
  unfold impl_Get32_t Get32
  by_cases hc : at_ < 0
  · simp only [hc, decide_true, cond_true]
  · by_cases hd : len s < at_ + 4
    · have hd2 : w64 (len s - 4) < at_ := by rw [w64_in (by omega) (by omega)]; omega
      simp only [hc, hd, hd2, decide_true, decide_false, cond_true, cond_false]
    · have hd2 : ¬ w64 (len s - 4) < at_ := by rw [w64_in (by omega) (by omega)]; omega
      have w1 : w64 (at_ + 1) = at_ + 1 := w64_in (by omega) (by omega)
      have w2 : w64 (at_ + 2) = at_ + 2 := w64_in (by omega) (by omega)
      have w3 : w64 (at_ + 3) = at_ + 3 := w64_in (by omega) (by omega)
      have b0 := sAt_lo s at_
      have c0 := sAt_hi s at_
      have b1 := sAt_lo s (at_ + 1)
      have c1 := sAt_hi s (at_ + 1)
      have b2 := sAt_lo s (at_ + 2)
      have c2 := sAt_hi s (at_ + 2)
      have b3 := sAt_lo s (at_ + 3)
      have c3 := sAt_hi s (at_ + 3)
      simp only [hc, hd, hd2, decide_false, cond_false, w1, w2, w3, hid at_ (by omega) (by omega) (by omega) (by omega), hid (at_ + 1) (by omega) (by omega) (by omega) (by omega), hid (at_ + 2) (by omega) (by omega) (by omega) (by omega), hid (at_ + 3) (by omega) (by omega) (by omega) (by omega), andt_true_l, cond_true]
      rw [w64_in (n := sAt s at_) (by omega) (by omega), w64_in (n := sAt s (at_ + 1)) (by omega) (by omega), w64_in (n := sAt s (at_ + 2)) (by omega) (by omega), w64_in (n := sAt s (at_ + 3)) (by omega) (by omega)]
      rw [shl24, shl16, shl8]
      rw [w64_in (n := sAt s at_ * 16777216) (by omega) (by omega), w64_in (n := sAt s (at_ + 1) * 65536) (by omega) (by omega), w64_in (n := sAt s (at_ + 2) * 256) (by omega) (by omega)]
      rw [or_join 24 (x := sAt s at_ * 16777216) (by omega) (by omega) (by omega) (by omega) (by omega) (by omega)]
      rw [or_join 16 (y := sAt s (at_ + 2) * 256) (by omega) (by omega) (by omega) (by omega) (by omega) (by omega)]
      rw [or_join 8 (y := sAt s (at_ + 3)) (by omega) (by omega) (by omega) (by omega) (by omega) (by omega)]

def spec_l02Within_t {α : Type} (k_ : Bool → α) (s : Bytes) (at_ : Int) (n : Int) : α :=
  k_ (bif decide (0 ≤ at_) then bif decide (at_ ≤ len s) then decide (n ≤ w64 ((len s) - at_)) else false else false)
def l02Within (s : Bytes) (at_ : Int) (n : Int) : Bool := spec_l02Within_t id s at_ n
theorem spec_l02Within_c {α : Type} (k_ : Bool → α) (s : Bytes) (at_ : Int) (n : Int) : spec_l02Within_t k_ s at_ n = k_ (l02Within s at_ n) := by
  rfl

def spec_Get16_t {α : Type} (bad : α) (k_ : Int → α) (s : Bytes) (at_ : Int) : α :=
  bif !(l02Within s at_ 2) then k_ (-1)
  else bif andt (andt true (idx at_ s)) (idx (w64 (at_ + 1)) s) then
      k_ (w64 ((shlI .i64 (w64 (sAt s at_)) 8) + (w64 (sAt s (w64 (at_ + 1))))))
    else bad
def Get16 (s : Bytes) (at_ : Int) : Int := bif !(l02Within s at_ 2) then -1 else (sAt s at_) * 256 + sAt s (at_ + 1)
theorem within_iff {s : Bytes} {at_ n : Int} (hs : s.length ≤ 9223372036854775807) : l02Within s at_ n = true ↔ 0 ≤ at_ ∧ at_ ≤ len s ∧ at_ + n ≤ len s := by
  have hl0 : 0 ≤ len s := by simp [len]
  have hl1 : len s ≤ 9223372036854775807 := by simp only [len]; omega
  unfold l02Within spec_l02Within_t
  by_cases h1 : 0 ≤ at_
  · by_cases h2 : at_ ≤ len s
    · rw [w64_in (by omega) (by omega)]
      simp only [h1, h2, decide_true, cond_true, id, true_and]
      constructor
      · intro h
        have := of_decide_eq_true h
        omega
      · intro h
        exact decide_eq_true (by omega)
    · simp [h1, h2]
  · simp [h1]
theorem spec_Get16_c {α : Type} (bad : α) (k_ : Int → α) (s : Bytes) (at_ : Int) (h_s : WtC .str (.str s)) (h_at_ : WtC (.int .i64) (.int at_)) : spec_Get16_t bad k_ s at_ = k_ (Get16 s at_) := by
  have hl := wt_str h_s
  have hl0 : 0 ≤ len s := by simp [len]
  have hl1 : len s ≤ 9223372036854775807 := by simp only [len]; omega
  unfold spec_Get16_t Get16
  cases hw : l02Within s at_ 2
  · rfl
  · have hh := (within_iff hl).1 hw
    have w1 : w64 (at_ + 1) = at_ + 1 := w64_in (by omega) (by omega)
    have hid : ∀ j : Int, 0 ≤ j → j < len s → idx j s = true := by
      intro j h1 h2
      simp only [len] at h2
      simp only [idx, Bool.and_eq_true, decide_eq_true_eq]
      omega
    have b0 := sAt_lo s at_
    have c0 := sAt_hi s at_
    have b1 := sAt_lo s (at_ + 1)
    have c1 := sAt_hi s (at_ + 1)
    simp only [w1, hid at_ (by omega) (by omega), hid (at_ + 1) (by omega) (by omega), andt_true_l, cond_true, cond_false, Bool.not_true]
    rw [w64_in (n := sAt s at_) (by omega) (by omega), w64_in (n := sAt s (at_ + 1)) (by omega) (by omega), shl8, w64_in (n := sAt s at_ * 256) (by omega) (by omega), w64_in (by omega) (by omega)]

def spec_Get32_t {α : Type} (k_ : Int → α) (s : Bytes) (at_ : Int) : α :=
  bif !(l02Within s at_ 4) then k_ (-1)
  else k_ (w64 ((shlI .i64 (Get16 s at_) 16) + (Get16 s (w64 (at_ + 2)))))
theorem spec_Get32_c {α : Type} (k_ : Int → α) (s : Bytes) (at_ : Int) (h_s : WtC .str (.str s)) (h_at_ : WtC (.int .i64) (.int at_)) : spec_Get32_t k_ s at_ = k_ (Get32 s at_) := by
  have hl := wt_str h_s
  have hl0 : 0 ≤ len s := by simp [len]
  have hl1 : len s ≤ 9223372036854775807 := by simp only [len]; omega
  have ha := wt_int h_at_
  unfold spec_Get32_t Get32
  cases hw : l02Within s at_ 4
  · have hh : ¬ (0 ≤ at_ ∧ at_ ≤ len s ∧ at_ + 4 ≤ len s) := fun h => by rw [(within_iff hl).2 h] at hw; cases hw
    have : (bif decide (at_ < 0) then true else decide (len s < at_ + 4)) = true := by
      by_cases h1 : at_ < 0
      · simp [h1]
      · simp only [h1, decide_false, cond_false, decide_eq_true_eq]; omega
    rw [this]
    rfl
  · have hh := (within_iff hl).1 hw
    have : (bif decide (at_ < 0) then true else decide (len s < at_ + 4)) = false := by
      rw [show decide (at_ < 0) = false from decide_eq_false (by omega), show decide (len s < at_ + 4) = false from decide_eq_false (by omega)]
      rfl
    rw [this]
    have w2 : w64 (at_ + 2) = at_ + 2 := w64_in (by omega) (by omega)
    have h1 : l02Within s at_ 2 = true := (within_iff hl).2 (by omega)
    have h2 : l02Within s (at_ + 2) 2 = true := (within_iff hl).2 (by omega)
    have b0 := sAt_lo s at_
    have c0 := sAt_hi s at_
    have b1 := sAt_lo s (at_ + 1)
    have c1 := sAt_hi s (at_ + 1)
    have b2 := sAt_lo s (at_ + 2)
    have c2 := sAt_hi s (at_ + 2)
    have b3 := sAt_lo s (at_ + 3)
    have c3 := sAt_hi s (at_ + 3)
    have e : at_ + 2 + 1 = at_ + 3 := by omega
    simp only [w2, Get16, h1, h2, e, Bool.not_true, cond_false]
    rw [shl16, w64_in (n := (sAt s at_ * 256 + sAt s (at_ + 1)) * 65536) (by omega) (by omega), w64_in (by omega) (by omega)]
    exact congrArg k_ (by omega)

def impl_Word32_t {α : Type} (k_ : Bytes → α) (v : Int) : α :=
  bif !(between v 0 4294967295) then k_ []
  else k_ (toStr ([[.int (IntKind.wrap .u8 (shrI .i64 v 24))], [.int (IntKind.wrap .u8 (shrI .i64 v 16))], [.int (IntKind.wrap .u8 (shrI .i64 v 8))], [.int (IntKind.wrap .u8 v)]]))
def Word32 (v : Int) : Bytes := impl_Word32_t id v
theorem impl_Word32_c {α : Type} (k_ : Bytes → α) (v : Int) : impl_Word32_t k_ v = k_ (Word32 v) := by
  exact cond_k rfl rfl

def spec_Word32_t {α : Type} (k_ : Bytes → α) (v : Int) : α :=
  bif !(between v 0 4294967295) then k_ []
  else k_ (toStr ([[.int (IntKind.wrap .u8 (shrI .i64 v 24))], [.int (IntKind.wrap .u8 (shrI .i64 v 16))], [.int (IntKind.wrap .u8 (shrI .i64 v 8))], [.int (IntKind.wrap .u8 v)]]))
theorem spec_Word32_c {α : Type} (k_ : Bytes → α) (v : Int) (h_v : WtC (.int .i64) (.int v)) : spec_Word32_t k_ v = k_ (Word32 v) := by
  exact cond_k rfl rfl

def impl_Crc32_l0 {α : Type} (bad : α) (k_ : Int → α) (l1 : Int → Int → Int → α) (s : Bytes) (ih0 : Int → Int → α) (c : Int) (i : Int) : α :=
  bif decide (i < len s) then
    bif andt true (idx i s) then
      l1 i (bits .xor .u32 c (IntKind.wrap .u32 (sAt s i))) 0
    else bad
  else k_ (w64 (bits .xor .u32 (IntKind.max .u32) c))
def impl_Crc32_l1 {α : Type} (bad : α) (k_ : Int → α) (ih0 : Int → Int → α) (i : Int) (ih1 : Int → Int → α) (c_1 : Int) (k : Int) : α :=
  bif decide (k < 8) then ih1 (bif (bits .and .u32 c_1 1) == 1 then bits .xor .u32 (shrI .u32 c_1 1) 3988292384 else shrI .u32 c_1 1) (w64 (k + 1))
  else ih0 c_1 (w64 (i + 1))
def impl_Crc32_L1 {α : Type} (bad : α) (k_ : Int → α) (N : Nat) (ih0 : Int → Int → α) (i : Int) (m_ : Nat) : Int → Int → α :=
  Nat.rec (motive := fun _ => Int → Int → α) (fun _ _ => bad) (fun _ ih1 => impl_Crc32_l1 bad k_ ih0 i ih1) m_
theorem impl_Crc32_L1_z {α : Type} (bad : α) (k_ : Int → α) (N : Nat) (ih0 : Int → Int → α) (i : Int) (c_1 : Int) (k : Int) : impl_Crc32_L1 bad k_ N ih0 i 0 c_1 k = bad := rfl
theorem impl_Crc32_L1_s {α : Type} (bad : α) (k_ : Int → α) (N : Nat) (ih0 : Int → Int → α) (i : Int) (m_ : Nat) (c_1 : Int) (k : Int) : impl_Crc32_L1 bad k_ N ih0 i (m_ + 1) c_1 k = impl_Crc32_l1 bad k_ ih0 i (impl_Crc32_L1 bad k_ N ih0 i m_) c_1 k := rfl
def impl_Crc32_L0 {α : Type} (bad : α) (k_ : Int → α) (N : Nat) (s : Bytes) (m_ : Nat) : Int → Int → α :=
  Nat.rec (motive := fun _ => Int → Int → α) (fun _ _ => bad) (fun _ ih0 => impl_Crc32_l0 bad k_ (fun i => impl_Crc32_L1 bad k_ N ih0 i N) s ih0) m_
theorem impl_Crc32_L0_z {α : Type} (bad : α) (k_ : Int → α) (N : Nat) (s : Bytes) (c : Int) (i : Int) : impl_Crc32_L0 bad k_ N s 0 c i = bad := rfl
theorem impl_Crc32_L0_s {α : Type} (bad : α) (k_ : Int → α) (N : Nat) (s : Bytes) (m_ : Nat) (c : Int) (i : Int) : impl_Crc32_L0 bad k_ N s (m_ + 1) c i = impl_Crc32_l0 bad k_ (fun i => impl_Crc32_L1 bad k_ N (impl_Crc32_L0 bad k_ N s m_) i N) s (impl_Crc32_L0 bad k_ N s m_) c i := rfl
def impl_Crc32_t {α : Type} (bad : α) (k_ : Int → α) (l0 : Int → Int → α) (s : Bytes) : α :=
  l0 4294967295 0
def impl_Crc32_f {α : Type} (bad : α) (k_ : Int → α) (N : Nat) (s : Bytes) : α := impl_Crc32_t bad k_ (impl_Crc32_L0 bad k_ N s N) s
def crcBit (c : Int) : Int := bif (bits .and .u32 c 1) == 1 then bits .xor .u32 (shrI .u32 c 1) 3988292384 else shrI .u32 c 1
def crcByte (s : Bytes) (i : Nat) (c : Int) : Int := itN (fun _ c => crcBit c) 8 0 (bits .xor .u32 c (sAt s i))
def Crc32 (s : Bytes) : Int := 4294967295 - itN (crcByte s) s.length 0 4294967295
def U32 (c : Int) : Prop := 0 ≤ c ∧ c < 4294967296
theorem crcBit_u32 {c : Int} (h : U32 c) : U32 (crcBit c) := by
  obtain ⟨h1, h2⟩ := h
  unfold crcBit
  rw [shr1_u32]
  cases (bits .and .u32 c 1) == 1
  · exact ⟨by simp only [cond_false]; omega, by simp only [cond_false]; omega⟩
  · exact (xor_both (a := c / 2) (by omega) (by omega) (by decide) (by decide)).2
theorem crcByte_u32 {s : Bytes} {i : Nat} {c : Int} (h : U32 c) : U32 (crcByte s i c) := by
  refine itN_inv (I := U32) (B := 8) (fun _ c _ h => crcBit_u32 h) 8 0 _ (by omega) ?_
  have b0 := sAt_lo s i
  have c0 := sAt_hi s i
  exact (xor_both h.1 h.2 b0 (by omega)).2
theorem crc_u32 (s : Bytes) : U32 (itN (crcByte s) s.length 0 4294967295) :=
  itN_inv (I := U32) (B := s.length) (fun _ c _ h => crcByte_u32 h) s.length 0 _ (by omega) ⟨by decide, by decide⟩
theorem impl_Crc32_c {α : Type} (bad : α) (k_ : Int → α) (s : Bytes) (h_s : WtC .str (.str s)) : ∃ N, impl_Crc32_f bad k_ N s = k_ (Crc32 s) := by
  have hl := wt_str h_s
  refine ⟨s.length + 9, ?_⟩
  unfold impl_Crc32_f impl_Crc32_t
  have inner : ∀ (ih : Int → Int → α) (i c : Int), U32 c → impl_Crc32_L1 bad k_ (s.length + 9) ih i (s.length + 9) c 0 = ih (itN (fun _ c => crcBit c) 8 0 c) (w64 (i + 1)) := by
    intro ih i c hc
    refine loop_it 8 (fun n k c => impl_Crc32_L1 bad k_ (s.length + 9) ih i n c k) (fun _ c => crcBit c) (fun c => ih c (w64 (i + 1))) U32 (fun _ _ _ h => crcBit_u32 h) ?_ ?_ (s.length + 9) c hc (by omega)
    · intro n k c hk hc
      show impl_Crc32_L1 bad k_ (s.length + 9) ih i (n + 1) c k = _
      rw [impl_Crc32_L1_s]
      have h8 : ((k : Nat) : Int) < 8 := by omega
      have hw : w64 ((k : Int) + 1) = (k : Int) + 1 := w64_in (by omega) (by omega)
      simp only [impl_Crc32_l1, h8, decide_true, cond_true, hw]
      rfl
    · intro n c hc
      show impl_Crc32_L1 bad k_ (s.length + 9) ih i (n + 1) c 8 = _
      rw [impl_Crc32_L1_s]
      rfl
  refine (loop_it s.length (fun n i c => impl_Crc32_L0 bad k_ (s.length + 9) s n c i) (crcByte s) (fun c => k_ (4294967295 - c)) U32 (fun _ _ _ h => crcByte_u32 h) ?_ ?_ (s.length + 9) 4294967295 ⟨by decide, by decide⟩ (by omega)).trans rfl
  · intro n i c h hc
    show impl_Crc32_L0 bad k_ (s.length + 9) s (n + 1) c i = _
    rw [impl_Crc32_L0_s]
    have b0 := sAt_lo s i
    have c0 := sAt_hi s i
    simp only [impl_Crc32_l0, lt_len h, idx_nat h, andt_true_l, cond_true]
    rw [show IntKind.wrap .u32 (sAt s i) = sAt s i by rw [IntKind.wrap_u32]; omega]
    rw [inner _ _ _ (xor_both hc.1 hc.2 b0 (by omega)).2, w64_succ h hl]
    rfl
  · intro n c hc
    show impl_Crc32_L0 bad k_ (s.length + 9) s (n + 1) c s.length = _
    rw [impl_Crc32_L0_s]
    simp only [impl_Crc32_l0, not_lt_len, cond_false]
    rw [not_u32 hc.1 hc.2, w64_in (by have := hc.1; have := hc.2; omega) (by have := hc.1; omega)]

def spec_Crc32_l0 {α : Type} (bad : α) (k_ : Int → α) (l1 : Int → Int → Int → α) (s : Bytes) (ih0 : Int → Int → α) (c : Int) (i : Int) : α :=
  bif decide (i < len s) then
    bif andt true (idx i s) then
      l1 i (bits .xor .i64 c (w64 (sAt s i))) 0
    else bad
  else k_ (w64 (4294967295 - c))
def spec_Crc32_l1 {α : Type} (bad : α) (k_ : Int → α) (ih0 : Int → Int → α) (i : Int) (ih1 : Int → Int → α) (c_1 : Int) (k : Int) : α :=
  bif decide (k < 8) then ih1 (bif (bits .and .i64 c_1 1) == 1 then bits .xor .i64 (shrI .i64 c_1 1) 3988292384 else shrI .i64 c_1 1) (w64 (k + 1))
  else ih0 c_1 (w64 (i + 1))
def spec_Crc32_L1 {α : Type} (bad : α) (k_ : Int → α) (N : Nat) (ih0 : Int → Int → α) (i : Int) (m_ : Nat) : Int → Int → α :=
  Nat.rec (motive := fun _ => Int → Int → α) (fun _ _ => bad) (fun _ ih1 => spec_Crc32_l1 bad k_ ih0 i ih1) m_
theorem spec_Crc32_L1_z {α : Type} (bad : α) (k_ : Int → α) (N : Nat) (ih0 : Int → Int → α) (i : Int) (c_1 : Int) (k : Int) : spec_Crc32_L1 bad k_ N ih0 i 0 c_1 k = bad := rfl
theorem spec_Crc32_L1_s {α : Type} (bad : α) (k_ : Int → α) (N : Nat) (ih0 : Int → Int → α) (i : Int) (m_ : Nat) (c_1 : Int) (k : Int) : spec_Crc32_L1 bad k_ N ih0 i (m_ + 1) c_1 k = spec_Crc32_l1 bad k_ ih0 i (spec_Crc32_L1 bad k_ N ih0 i m_) c_1 k := rfl
def spec_Crc32_L0 {α : Type} (bad : α) (k_ : Int → α) (N : Nat) (s : Bytes) (m_ : Nat) : Int → Int → α :=
  Nat.rec (motive := fun _ => Int → Int → α) (fun _ _ => bad) (fun _ ih0 => spec_Crc32_l0 bad k_ (fun i => spec_Crc32_L1 bad k_ N ih0 i N) s ih0) m_
theorem spec_Crc32_L0_z {α : Type} (bad : α) (k_ : Int → α) (N : Nat) (s : Bytes) (c : Int) (i : Int) : spec_Crc32_L0 bad k_ N s 0 c i = bad := rfl
theorem spec_Crc32_L0_s {α : Type} (bad : α) (k_ : Int → α) (N : Nat) (s : Bytes) (m_ : Nat) (c : Int) (i : Int) : spec_Crc32_L0 bad k_ N s (m_ + 1) c i = spec_Crc32_l0 bad k_ (fun i => spec_Crc32_L1 bad k_ N (spec_Crc32_L0 bad k_ N s m_) i N) s (spec_Crc32_L0 bad k_ N s m_) c i := rfl
def spec_Crc32_t {α : Type} (bad : α) (k_ : Int → α) (l0 : Int → Int → α) (s : Bytes) : α :=
  l0 4294967295 0
def spec_Crc32_f {α : Type} (bad : α) (k_ : Int → α) (N : Nat) (s : Bytes) : α := spec_Crc32_t bad k_ (spec_Crc32_L0 bad k_ N s N) s
theorem spec_Crc32_c {α : Type} (bad : α) (k_ : Int → α) (s : Bytes) (h_s : WtC .str (.str s)) : ∃ N, spec_Crc32_f bad k_ N s = k_ (Crc32 s) := by
  have hl := wt_str h_s
  refine ⟨s.length + 9, ?_⟩
  unfold spec_Crc32_f spec_Crc32_t
  have inner : ∀ (ih : Int → Int → α) (i c : Int), U32 c → spec_Crc32_L1 bad k_ (s.length + 9) ih i (s.length + 9) c 0 = ih (itN (fun _ c => crcBit c) 8 0 c) (w64 (i + 1)) := by
    intro ih i c hc
    refine loop_it 8 (fun n k c => spec_Crc32_L1 bad k_ (s.length + 9) ih i n c k) (fun _ c => crcBit c) (fun c => ih c (w64 (i + 1))) U32 (fun _ _ _ h => crcBit_u32 h) ?_ ?_ (s.length + 9) c hc (by omega)
    · intro n k c hk hc
      show spec_Crc32_L1 bad k_ (s.length + 9) ih i (n + 1) c k = _
      rw [spec_Crc32_L1_s]
      have h8 : ((k : Nat) : Int) < 8 := by omega
      have hw : w64 ((k : Int) + 1) = (k : Int) + 1 := w64_in (by omega) (by omega)
      simp only [spec_Crc32_l1, h8, decide_true, cond_true, hw]
      unfold crcBit
      rw [and1_both hc.1 hc.2, shr1_i64, shr1_u32, (xor_both (a := c / 2) (b := 3988292384) (by have := hc.1; omega) (by have := hc.2; omega) (by decide) (by decide)).1]
    · intro n c hc
      show spec_Crc32_L1 bad k_ (s.length + 9) ih i (n + 1) c 8 = _
      rw [spec_Crc32_L1_s]
      rfl
  refine (loop_it s.length (fun n i c => spec_Crc32_L0 bad k_ (s.length + 9) s n c i) (crcByte s) (fun c => k_ (4294967295 - c)) U32 (fun _ _ _ h => crcByte_u32 h) ?_ ?_ (s.length + 9) 4294967295 ⟨by decide, by decide⟩ (by omega)).trans rfl
  · intro n i c h hc
    show spec_Crc32_L0 bad k_ (s.length + 9) s (n + 1) c i = _
    rw [spec_Crc32_L0_s]
    have b0 := sAt_lo s i
    have c0 := sAt_hi s i
    simp only [spec_Crc32_l0, lt_len h, idx_nat h, andt_true_l, cond_true]
    rw [w64_in (n := sAt s i) (by omega) (by omega), (xor_both hc.1 hc.2 b0 (by omega)).1]
    rw [inner _ _ _ (xor_both hc.1 hc.2 b0 (by omega)).2, w64_succ h hl]
    rfl
  · intro n c hc
    show spec_Crc32_L0 bad k_ (s.length + 9) s (n + 1) c s.length = _
    rw [spec_Crc32_L0_s]
    simp only [spec_Crc32_l0, not_lt_len, cond_false]
    rw [w64_in (by have := hc.1; have := hc.2; omega) (by have := hc.1; omega)]

end
end Go.Proofs.Ytjknoknkbfhelaa.Pl
