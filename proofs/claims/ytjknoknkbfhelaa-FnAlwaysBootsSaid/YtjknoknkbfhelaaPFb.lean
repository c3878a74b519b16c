/- What functions of the program compute, in plain Lean, as the value machine runs them. Conditions: none. -/
import Derived.Test.YtjknoknkbfhelaaPFa
set_option linter.unusedVariables false
set_option linter.unusedSimpArgs false
namespace Go.Proofs.Ytjknoknkbfhelaa.Pl
open Vm
noncomputable section


def impl_MakeImage_t {α : Type} (bad : α) (k_ : Bytes → Bool → α) (version : Int) (body : Bytes) : α :=
  let z0 : Bytes := (Word32 version) ++ (Word32 (len body))
  let z1 : Bytes := z0 ++ body
  let z2 : Bytes := Word32 (Crc32 z1)
  bif bif !(between version 0 1000000) then true else decide (96 < w64 (12 + (len body))) then k_ [] false
  else bif andt (andt true (catOk (Word32 version) (Word32 (len body)))) (catOk z0 body) then
      bif andt true (catOk z1 z2) then
        k_ (z1 ++ z2) true
      else bad
    else bad
theorem Word32_len (v : Int) : (Word32 v).length ≤ 4 := by
  unfold Word32 impl_Word32_t
  cases !(between v 0 4294967295) <;> simp [toStr]
def sS (s : Bytes) : Bool := decide (s.length ≤ 4294967296)
def MakeImage_ok (version : Int) (body : Bytes) : Bool := sS body
def MakeImage0 (version : Int) (body : Bytes) : Bytes × Bool :=
  bif bif !(between version 0 1000000) then true else decide (84 < len body) then ([], false)
  else (Word32 version ++ Word32 (len body) ++ body ++ Word32 (Crc32 (Word32 version ++ Word32 (len body) ++ body)), true)
def MakeImage (version : Int) (body : Bytes) : Bytes × Bool := shut MakeImage0 version body
theorem MakeImage_eq (version : Int) (body : Bytes) : MakeImage version body = MakeImage0 version body := congrFun (congrFun (shut_eq MakeImage0) version) body
theorem impl_MakeImage_c {α : Type} (bad : α) (k_ : Bytes → Bool → α) (version : Int) (body : Bytes) (h_version : WtC (.int .i64) (.int version)) (h_body : WtC .str (.str body)) (hok : MakeImage_ok version body = true) : impl_MakeImage_t bad k_ version body = k_ (MakeImage version body).1 (MakeImage version body).2 := by
  have hl : body.length ≤ 4294967296 := of_decide_eq_true hok
  have hl0 : 0 ≤ len body := by simp [len]
  have hl1 : len body ≤ 4294967296 := by simp only [len]; omega
  rw [MakeImage_eq]
  unfold impl_MakeImage_t MakeImage0
  have key : len body ≤ 84 → catOk (Word32 version) (Word32 (len body)) = true ∧ catOk (Word32 version ++ Word32 (len body)) body = true ∧ catOk (Word32 version ++ Word32 (len body) ++ body) (Word32 (Crc32 (Word32 version ++ Word32 (len body) ++ body))) = true := by
    intro hb
    have a := Word32_len version
    have b := Word32_len (len body)
    have c := Word32_len (Crc32 (Word32 version ++ Word32 (len body) ++ body))
    simp only [len] at hb
    simp only [catOk, List.length_append, decide_eq_true_eq]
    omega
  have hcmp : decide (96 < w64 (12 + len body)) = decide (84 < len body) := by
    rw [w64_in (by omega) (by omega)]
    by_cases h2 : 84 < len body
    · rw [decide_eq_true h2, decide_eq_true (by omega)]
    · rw [decide_eq_false h2, decide_eq_false (by omega)]
  rw [hcmp]
  refine cond_c (K := fun r : Bytes × Bool => k_ r.1 r.2) (fun _ => rfl) (fun hg => ?_)
  have hb : len body ≤ 84 := by
    cases hv : !(between version 0 1000000)
    · rw [hv] at hg
      have := of_decide_eq_false hg
      omega
    · rw [hv] at hg
      cases hg
  obtain ⟨k1, k2, k3⟩ := key hb
  simp only [k1, k2, k3, andt_true_l, cond_true]

def spec_MakeImage_t {α : Type} (bad : α) (k_ : Bytes → Bool → α) (version : Int) (body : Bytes) : α :=
  let z0 : Bytes := (Word32 version) ++ (Word32 (len body))
  let z1 : Bytes := z0 ++ body
  let z2 : Bytes := Word32 (Crc32 z1)
  bif bif !(between version 0 1000000) then true else decide (96 < w64 ((len body) + 12)) then k_ [] false
  else bif andt (andt true (catOk (Word32 version) (Word32 (len body)))) (catOk z0 body) then
      bif andt true (catOk z1 z2) then
        k_ (z1 ++ z2) true
      else bad
    else bad
theorem spec_MakeImage_c {α : Type} (bad : α) (k_ : Bytes → Bool → α) (version : Int) (body : Bytes) (h_version : WtC (.int .i64) (.int version)) (h_body : WtC .str (.str body)) (hok : MakeImage_ok version body = true) : spec_MakeImage_t bad k_ version body = k_ (MakeImage version body).1 (MakeImage version body).2 := by
  have hl : body.length ≤ 4294967296 := of_decide_eq_true hok
  have hl0 : 0 ≤ len body := by simp [len]
  have hl1 : len body ≤ 4294967296 := by simp only [len]; omega
  rw [MakeImage_eq]
  unfold spec_MakeImage_t MakeImage0
  have key : len body ≤ 84 → catOk (Word32 version) (Word32 (len body)) = true ∧ catOk (Word32 version ++ Word32 (len body)) body = true ∧ catOk (Word32 version ++ Word32 (len body) ++ body) (Word32 (Crc32 (Word32 version ++ Word32 (len body) ++ body))) = true := by
    intro hb
    have a := Word32_len version
    have b := Word32_len (len body)
    have c := Word32_len (Crc32 (Word32 version ++ Word32 (len body) ++ body))
    simp only [len] at hb
    simp only [catOk, List.length_append, decide_eq_true_eq]
    omega
  have hcmp : decide (96 < w64 (len body + 12)) = decide (84 < len body) := by
    rw [w64_in (by omega) (by omega)]
    by_cases h2 : 84 < len body
    · rw [decide_eq_true h2, decide_eq_true (by omega)]
    · rw [decide_eq_false h2, decide_eq_false (by omega)]
  rw [hcmp]
  refine cond_c (K := fun r : Bytes × Bool => k_ r.1 r.2) (fun _ => rfl) (fun hg => ?_)
  have hb : len body ≤ 84 := by
    cases hv : !(between version 0 1000000)
    · rw [hv] at hg
      have := of_decide_eq_false hg
      omega
    · rw [hv] at hg
      cases hg
  obtain ⟨k1, k2, k3⟩ := key hb
  simp only [k1, k2, k3, andt_true_l, cond_true]

def laws_FnExactMakeImage_t {α : Type} (bad : α) (k_ : Bool → α) (aVersion : Int) (aBody : Bytes) : α :=
  bif decide (1048576 < len aBody) then k_ true
  else bif andt true (MakeImage_ok aVersion aBody) then
      bif andt true (MakeImage_ok aVersion aBody) then
        bif bif !(((MakeImage aVersion aBody).1) == ((MakeImage aVersion aBody).1)) then true else !(((MakeImage aVersion aBody).2) == ((MakeImage aVersion aBody).2)) then k_ false
        else k_ true
      else bad
    else bad
theorem laws_FnExactMakeImage_c {α : Type} (bad : α) (k_ : Bool → α) (aVersion : Int) (aBody : Bytes) (h_aVersion : WtC (.int .i64) (.int aVersion)) (h_aBody : WtC .str (.str aBody)) (hok : fitL ((.int .i64) :: (.str :: ([]))) (.int aVersion :: (.str aBody :: ([]))) = true) : laws_FnExactMakeImage_t bad k_ aVersion aBody = k_ true := by
  unfold laws_FnExactMakeImage_t
  by_cases c0 : 1048576 < len aBody
  · simp only [c0, decide_true, decide_false, cond_true, cond_false]
  have hb : MakeImage_ok aVersion aBody = true := decide_eq_true (by simp only [len] at c0; omega)
  simp only [c0, decide_false, cond_false, cond_true, idf, hb, andt_true_l, andt_true_r, same_refl, yes2, beq_self_eq_true, bne_self_eq_false, Bool.not_true, okm_tt]

def impl_ImageVersion_t {α : Type} (bad : α) (k_ : Int → α) (s : Bytes) : α :=
  let z0 : Int := w64 (8 + (Get32 s 4))
  let z1 : Bytes := subLH s 8 z0
  let z2 : Bytes × Bool := MakeImage (Get32 s 0) z1
  let z3 : Bool := !z2.2
  let z4 : Int := w64 (12 + (Get32 s 4))
  bif bif decide (Get32 s 4 < 0) then true else decide (w64 ((len s) - 12) < Get32 s 4) then k_ (-1)
  else bif andt (andt true (okLH s 8 z0)) (MakeImage_ok (Get32 s 0) z1) then
      bif okm z3 true (andt true (okH s z4)) then
        bif bif z3 then true else !(z2.1 == (subH s z4)) then k_ (-1)
        else k_ (Get32 s 0)
      else bad
    else bad
theorem Get32_range (s : Bytes) (a : Int) : -1 ≤ Get32 s a ∧ Get32 s a ≤ 4294967295 := by
  unfold Get32
  have b0 := sAt_lo s a
  have c0 := sAt_hi s a
  have b1 := sAt_lo s (a + 1)
  have c1 := sAt_hi s (a + 1)
  have b2 := sAt_lo s (a + 2)
  have c2 := sAt_hi s (a + 2)
  have b3 := sAt_lo s (a + 3)
  have c3 := sAt_hi s (a + 3)
  cases (bif decide (a < 0) then true else decide (len s < a + 4))
  · simp only [cond_false]; omega
  · simp only [cond_true]; omega
def ImageVersion (s : Bytes) : Int :=
  bif bif decide (Get32 s 4 < 0) then true else decide (len s < Get32 s 4 + 12) then -1
  else bif bif !(MakeImage (Get32 s 0) (subLH s 8 (8 + Get32 s 4))).2 then true else !((MakeImage (Get32 s 0) (subLH s 8 (8 + Get32 s 4))).1 == subH s (12 + Get32 s 4)) then -1
  else Get32 s 0
theorem image_sub {s : Bytes} {n : Int} (h0 : 0 ≤ n) (h1 : n ≤ 4294967295) (h2 : n + 12 ≤ len s) : okLH s 8 (8 + n) = true ∧ okH s (12 + n) = true ∧ sS (subLH s 8 (8 + n)) = true ∧ len (subLH s 8 (8 + n)) = n := by
  simp only [len] at h2
  refine ⟨?_, ?_, ?_, ?_⟩
  · simp only [okLH, Bool.and_eq_true, decide_eq_true_eq]; omega
  · simp only [okH, Bool.and_eq_true, decide_eq_true_eq]; omega
  · simp only [sS, subLH, List.length_drop, List.length_take, decide_eq_true_eq]; omega
  · simp only [len, subLH, List.length_drop, List.length_take]; omega
theorem impl_ImageVersion_c {α : Type} (bad : α) (k_ : Int → α) (s : Bytes) (h_s : WtC .str (.str s)) : impl_ImageVersion_t bad k_ s = k_ (ImageVersion s) := by
  have hl := wt_str h_s
  have hl0 : 0 ≤ len s := by simp [len]
  have hl1 : len s ≤ 9223372036854775807 := by simp only [len]; omega
  obtain ⟨q1, q2⟩ := Get32_range s 4
  unfold impl_ImageVersion_t ImageVersion
  rw [show w64 (8 + Get32 s 4) = 8 + Get32 s 4 from w64_in (by omega) (by omega), show w64 (12 + Get32 s 4) = 12 + Get32 s 4 from w64_in (by omega) (by omega), show w64 (len s - 12) = len s - 12 from w64_in (by omega) (by omega)]
  rw [show decide (len s - 12 < Get32 s 4) = decide (len s < Get32 s 4 + 12) from by
    by_cases h : len s < Get32 s 4 + 12
    · rw [decide_eq_true h, decide_eq_true (by omega)]
    · rw [decide_eq_false h, decide_eq_false (by omega)]]
  refine cond_c (fun _ => rfl) (fun hg => ?_)
  have hh : 0 ≤ Get32 s 4 ∧ Get32 s 4 + 12 ≤ len s := by
    by_cases h1 : Get32 s 4 < 0
    · rw [decide_eq_true h1] at hg
      cases hg
    · rw [decide_eq_false h1] at hg
      have := of_decide_eq_false hg
      omega
  obtain ⟨k1, k2, k3, k4⟩ := image_sub hh.1 q2 hh.2
  have k3 : MakeImage_ok (Get32 s 0) (subLH s 8 (8 + Get32 s 4)) = true := k3
  simp only [k1, k2, k3, andt_true_l, andt_true_r, okm_tt, cond_true]
  exact cond_k rfl rfl

def spec_ImageVersion_t {α : Type} (bad : α) (k_ : Int → α) (s : Bytes) : α :=
  let z0 : Int := w64 ((Get32 s 4) + 12)
  let z1 : Int := w64 (8 + (Get32 s 4))
  let z2 : Bytes := subLH s 8 z1
  let z3 : Bytes × Bool := MakeImage (Get32 s 0) z2
  let z4 : Bool := !z3.2
  bif bif !(between (Get32 s 4) 0 84) then true else decide (len s < z0) then k_ (-1)
  else bif andt (andt true (okLH s 8 z1)) (MakeImage_ok (Get32 s 0) z2) then
      bif okm z4 true (andt true (okH s z0)) then
        bif bif z4 then true else !(z3.1 == (subH s z0)) then k_ (-1)
        else k_ (Get32 s 0)
      else bad
    else bad
theorem spec_ImageVersion_c {α : Type} (bad : α) (k_ : Int → α) (s : Bytes) (h_s : WtC .str (.str s)) : spec_ImageVersion_t bad k_ s = k_ (ImageVersion s) := by
  have hl := wt_str h_s
  have hl0 : 0 ≤ len s := by simp [len]
  have hl1 : len s ≤ 9223372036854775807 := by simp only [len]; omega
  obtain ⟨q1, q2⟩ := Get32_range s 4
  unfold spec_ImageVersion_t ImageVersion
  rw [show w64 (8 + Get32 s 4) = 8 + Get32 s 4 from w64_in (by omega) (by omega), show w64 (Get32 s 4 + 12) = 12 + Get32 s 4 from by rw [w64_in (by omega) (by omega)]; omega]
  by_cases h1 : Get32 s 4 < 0
  · have hb : between (Get32 s 4) 0 84 = false := by simp only [between, impl_between_t, id, show ¬ (0 ≤ Get32 s 4) by omega, decide_false, cond_false]
    simp only [h1, hb, decide_true, cond_true, Bool.not_false]
  · by_cases h2 : len s < Get32 s 4 + 12
    · have : len s < 12 + Get32 s 4 := by omega
      simp only [h1, h2, this, decide_true, decide_false, cond_true, cond_false]
      cases !(between (Get32 s 4) 0 84) <;> rfl
    · have h3 : ¬ len s < 12 + Get32 s 4 := by omega
      obtain ⟨k1, k2, k3, k4⟩ := image_sub (s := s) (n := Get32 s 4) (by omega) q2 (by omega)
      have k3 : MakeImage_ok (Get32 s 0) (subLH s 8 (8 + Get32 s 4)) = true := k3
      simp only [h1, h2, h3, decide_false, cond_false]
      by_cases h4 : Get32 s 4 ≤ 84
      · have hb : between (Get32 s 4) 0 84 = true := by simp only [between, impl_between_t, id, show 0 ≤ Get32 s 4 by omega, h4, decide_true, cond_true]
        simp only [hb, k1, k2, k3, Bool.not_true, cond_false, andt_true_l, andt_true_r, okm_tt, cond_true]
        exact cond_k rfl rfl
      · have hb : between (Get32 s 4) 0 84 = false := by simp only [between, impl_between_t, id, h4, decide_false, show 0 ≤ Get32 s 4 by omega, decide_true, cond_true]
        have hm : (MakeImage (Get32 s 0) (subLH s 8 (8 + Get32 s 4))).2 = false := by
          rw [MakeImage_eq]
          unfold MakeImage0
          rw [k4, show decide (84 < Get32 s 4) = true from decide_eq_true (by omega)]
          cases !(between (Get32 s 0) 0 1000000) <;> rfl
        simp only [hb, hm, Bool.not_false, cond_true]

def laws_FnExactImageVersion_t {α : Type} (k_ : Bool → α) (aS : Bytes) : α :=
  bif decide (1048576 < len aS) then k_ true
  else bif (ImageVersion aS) != (ImageVersion aS) then k_ false
  else k_ true
theorem laws_FnExactImageVersion_c {α : Type} (k_ : Bool → α) (aS : Bytes) (h_aS : WtC .str (.str aS)) (hok : fitL (.str :: ([])) (.str aS :: ([])) = true) : laws_FnExactImageVersion_t k_ aS = k_ true := by
  unfold laws_FnExactImageVersion_t
  by_cases c0 : 1048576 < len aS
  · simp only [c0, decide_true, decide_false, cond_true, cond_false]
  simp only [c0, decide_false, cond_false, cond_true, idf, andt_true_l, andt_true_r, same_refl, yes2, beq_self_eq_true, bne_self_eq_false, Bool.not_true, okm_tt]

def impl_BootBank_t {α : Type} (bad : α) (k_ : Int → α) (f : SFlash) : α :=
  let z0 : Int := ImageVersion (rS (nth f.Banks 0) 0)
  let z1 : Int := ImageVersion (rS (nth f.Banks 1) 0)
  bif !(FlashOk f) then k_ (-1)
  else bif andt (andt true (idx 0 f.Banks)) (idx 1 f.Banks) then
      bif bif decide (z0 < 0) then decide (z1 < 0) else false then k_ (-1)
      else bif decide (z1 ≤ z0) then k_ 0
      else k_ 1
    else bad
theorem FlashOk_idx {f : SFlash} (h : FlashOk f = true) : idx 0 f.Banks = true ∧ idx 1 f.Banks = true := by
  unfold FlashOk at h
  by_cases h2 : len f.Banks = 2
  · simp only [len] at h2
    simp only [idx, Bool.and_eq_true, decide_eq_true_eq]
    omega
  · rw [show ((len f.Banks) == 2) = false from by simpa using h2] at h
    cases h
def BootBank (f : SFlash) : Int :=
  bif !(FlashOk f) then -1
  else bif bif decide (ImageVersion (rS (nth f.Banks 0) 0) < 0) then decide (ImageVersion (rS (nth f.Banks 1) 0) < 0) else false then -1
  else bif decide (ImageVersion (rS (nth f.Banks 0) 0) < ImageVersion (rS (nth f.Banks 1) 0)) then 1 else 0
theorem impl_BootBank_c {α : Type} (bad : α) (k_ : Int → α) (f : SFlash) (h_f : WtL SFlash.ct f.enc) : impl_BootBank_t bad k_ f = k_ (BootBank f) := by
  unfold impl_BootBank_t BootBank
  refine cond_c (fun _ => rfl) (fun hg => ?_)
  obtain ⟨a, b⟩ := FlashOk_idx (f := f) (by simpa using hg)
  simp only [a, b, andt_true_l, andt_true_r, cond_true]
  refine cond_k rfl ?_
  by_cases h : ImageVersion (rS (nth f.Banks 0) 0) < ImageVersion (rS (nth f.Banks 1) 0)
  · have h2 : ¬ ImageVersion (rS (nth f.Banks 1) 0) ≤ ImageVersion (rS (nth f.Banks 0) 0) := by omega
    simp only [h, h2, decide_true, decide_false, cond_true, cond_false]
  · have h2 : ImageVersion (rS (nth f.Banks 1) 0) ≤ ImageVersion (rS (nth f.Banks 0) 0) := by omega
    simp only [h, h2, decide_true, decide_false, cond_true, cond_false]

def spec_BootBank_t {α : Type} (bad : α) (k_ : Int → α) (f : SFlash) : α :=
  let z0 : Int := ImageVersion (rS (nth f.Banks 0) 0)
  let z1 : Int := ImageVersion (rS (nth f.Banks 1) 0)
  bif !(FlashOk f) then k_ (-1)
  else bif andt true (idx 0 f.Banks) then
      bif andt true (idx 1 f.Banks) then
        bif bif decide (z0 < 0) then decide (z1 < 0) else false then k_ (-1)
        else bif decide (z0 < z1) then k_ 1
        else k_ 0
      else bad
    else bad
theorem spec_BootBank_c {α : Type} (bad : α) (k_ : Int → α) (f : SFlash) (h_f : WtL SFlash.ct f.enc) : spec_BootBank_t bad k_ f = k_ (BootBank f) := by
  unfold spec_BootBank_t BootBank
  refine cond_c (fun _ => rfl) (fun hg => ?_)
  obtain ⟨a, b⟩ := FlashOk_idx (f := f) (by simpa using hg)
  simp only [a, b, andt_true_l, andt_true_r, cond_true]
  exact cond_k rfl (cond_k rfl rfl)

def laws_FnExactBootBank_t {α : Type} (bad : α) (k_ : Bool → α) (aF : SFlash) : α :=
  bif decide (laws_szFlash aF 1048576 < 0) then k_ true
  else bif andt true (laws_toFlash_ok aF) then
      bif andt true (laws_toFlash_ok aF) then
        bif (BootBank (idf aF)) != (BootBank (idf aF)) then k_ false
        else bif andt (andt true (laws_toFlash_ok aF)) (same (idf aF) (idf aF)) then
            bif !(yes2 (idf aF) (idf aF)) then k_ false
            else k_ true
          else bad
      else bad
    else bad
theorem laws_FnExactBootBank_c {α : Type} (bad : α) (k_ : Bool → α) (aF : SFlash) (h_aF : WtL SFlash.ct aF.enc) (hok : fitL (SFlash.ct ++ ([])) (aF.enc ++ ([])) = true) : laws_FnExactBootBank_t bad k_ aF = k_ true := by
  unfold laws_FnExactBootBank_t
  by_cases c0 : laws_szFlash aF 1048576 < 0
  · simp only [c0, decide_true, decide_false, cond_true, cond_false]
  have k0 := laws_szFlash_ok h_aF (by omega) (by omega) (Int.not_lt.1 c0)
  simp only [c0, decide_false, cond_false, cond_true, idf, k0.2, andt_true_l, andt_true_r, same_refl, yes2, beq_self_eq_true, bne_self_eq_false, Bool.not_true, okm_tt]

def impl_BootVersion_t {α : Type} (bad : α) (k_ : Int → α) (f : SFlash) : α :=
  bif decide (BootBank f < 0) then k_ (-1)
  else bif andt true (idx (BootBank f) f.Banks) then
      k_ (ImageVersion (rS (nth f.Banks (Int.toNat (BootBank f))) 0))
    else bad
theorem BootBank_idx {f : SFlash} (h : 0 ≤ BootBank f) : idx (BootBank f) f.Banks = true := by
  unfold BootBank at h ⊢
  cases hf : FlashOk f
  · rw [hf] at h
    simp at h
  · obtain ⟨a, b⟩ := FlashOk_idx hf
    rw [hf] at h
    simp only [Bool.not_true, cond_false] at h ⊢
    cases hc : (bif decide (ImageVersion (rS (nth f.Banks 0) 0) < 0) then decide (ImageVersion (rS (nth f.Banks 1) 0) < 0) else false)
    · rw [hc] at h
      simp only [cond_false] at h ⊢
      cases decide (ImageVersion (rS (nth f.Banks 0) 0) < ImageVersion (rS (nth f.Banks 1) 0))
      · exact a
      · exact b
    · rw [hc] at h
      simp at h
def BootVersion (f : SFlash) : Int := bif decide (BootBank f < 0) then -1 else ImageVersion (rS (nth f.Banks (Int.toNat (BootBank f))) 0)
theorem impl_BootVersion_c {α : Type} (bad : α) (k_ : Int → α) (f : SFlash) (h_f : WtL SFlash.ct f.enc) : impl_BootVersion_t bad k_ f = k_ (BootVersion f) := by
  unfold impl_BootVersion_t BootVersion
  refine cond_c (fun _ => rfl) (fun hg => ?_)
  have h0 := of_decide_eq_false hg
  rw [BootBank_idx (by omega)]
  rfl

def spec_BootVersion_t {α : Type} (bad : α) (k_ : Int → α) (f : SFlash) : α :=
  bif decide (BootBank f < 0) then k_ (-1)
  else bif andt true (idx (BootBank f) f.Banks) then
      k_ (ImageVersion (rS (nth f.Banks (Int.toNat (BootBank f))) 0))
    else bad
theorem spec_BootVersion_c {α : Type} (bad : α) (k_ : Int → α) (f : SFlash) (h_f : WtL SFlash.ct f.enc) : spec_BootVersion_t bad k_ f = k_ (BootVersion f) := by
  unfold spec_BootVersion_t BootVersion
  refine cond_c (fun _ => rfl) (fun hg => ?_)
  have h0 := of_decide_eq_false hg
  rw [BootBank_idx (by omega)]
  rfl

def laws_FnExactBootVersion_t {α : Type} (bad : α) (k_ : Bool → α) (aF : SFlash) : α :=
  bif decide (laws_szFlash aF 1048576 < 0) then k_ true
  else bif andt true (laws_toFlash_ok aF) then
      bif andt true (laws_toFlash_ok aF) then
        bif (BootVersion (idf aF)) != (BootVersion (idf aF)) then k_ false
        else bif andt (andt true (laws_toFlash_ok aF)) (same (idf aF) (idf aF)) then
            bif !(yes2 (idf aF) (idf aF)) then k_ false
            else k_ true
          else bad
      else bad
    else bad
theorem laws_FnExactBootVersion_c {α : Type} (bad : α) (k_ : Bool → α) (aF : SFlash) (h_aF : WtL SFlash.ct aF.enc) (hok : fitL (SFlash.ct ++ ([])) (aF.enc ++ ([])) = true) : laws_FnExactBootVersion_t bad k_ aF = k_ true := by
  unfold laws_FnExactBootVersion_t
  by_cases c0 : laws_szFlash aF 1048576 < 0
  · simp only [c0, decide_true, decide_false, cond_true, cond_false]
  have k0 := laws_szFlash_ok h_aF (by omega) (by omega) (Int.not_lt.1 c0)
  simp only [c0, decide_false, cond_false, cond_true, idf, k0.2, andt_true_l, andt_true_r, same_refl, yes2, beq_self_eq_true, bne_self_eq_false, Bool.not_true, okm_tt]

def laws_markFlash_t {α : Type} (bad : α) (k_ : Int → Rows → α) (a : SFlash) (k : Int) : α :=
  bif andt true (mko 1 a.Banks k) then
    k_ ((markStringS a.Banks k).1) ((markStringS a.Banks k).2)
  else bad
def markFlash_ok (a : SFlash) (k : Int) : Bool := laws_markFlash_t false (fun _ _ => true) a k
def markFlash (a : SFlash) (k : Int) : Int × Rows := (laws_markFlash_t none (fun r0 r1 => some (r0, r1)) a k).getD (0, [])
theorem laws_markFlash_c {α : Type} (bad : α) (k_ : Int → Rows → α) (a : SFlash) (k : Int) (hok : markFlash_ok a k = true) : laws_markFlash_t bad k_ a k = k_ (markFlash a k).1 (markFlash a k).2 := by
  exact part_all (K := fun r : Int × Rows => k_ r.1 r.2) (part_guard (fun _ => ⟨_, rfl, rfl⟩)) hok

def laws_heldFlash_t {α : Type} (bad : α) (k_ : Int → α) (a : SFlash) (k : Int) : α :=
  bif andt true (hdo fStringS 1 a.Banks k) then
    bif decide (heldStringS a.Banks k < 0) then k_ (-1)
    else k_ (heldStringS a.Banks k)
  else bad
def heldFlash_ok (a : SFlash) (k : Int) : Bool := laws_heldFlash_t false (fun _ => true) a k
def heldFlash (a : SFlash) (k : Int) : Int := (laws_heldFlash_t none (fun r0 => some (r0)) a k).getD 0
theorem laws_heldFlash_c {α : Type} (bad : α) (k_ : Int → α) (a : SFlash) (k : Int) (hok : heldFlash_ok a k = true) : laws_heldFlash_t bad k_ a k = k_ (heldFlash a k) := by
  exact part_all (K := fun r : Int => k_ r) (part_guard (part_cond part_leaf part_leaf)) hok


theorem mh_Flash (p : SFlash) {k : Int} (h0 : 0 ≤ k) (h1 : k ≤ 1000000000000) (hf : sm p.Banks = true) :
    markFlash_ok p k = true ∧
    heldFlash_ok { p with Banks := (markFlash p k).2 } k = true ∧
    heldFlash { p with Banks := (markFlash p k).2 } k = (markFlash p k).1 ∧ 0 ≤ (markFlash p k).1 := by
  have l1 := sm_le hf
  have a1 : mko 1 p.Banks k = true := mko_mk hf h0 (by omega)
  have e : markFlash p k = (k + 1 * p.Banks.length, mkl fStringS 1 p.Banks.length k) := by
    simp only [markFlash, laws_markFlash_t, a1, andt_true_l, cond_true]
    rfl
  have b1 : hdo fStringS 1 (mkl fStringS 1 p.Banks.length k) k = true := hdo_mk hf h0 (by omega)
  have c1 : heldStringS (mkl fStringS 1 p.Banks.length k) k = k + 1 * p.Banks.length := by simp only [heldStringS, mkl_length]
  have d1 : decide (k + 1 * (p.Banks.length : Int) < 0) = false := decide_eq_false (by omega)
  refine ⟨?_, ?_, ?_, ?_⟩
  · simp only [markFlash_ok, laws_markFlash_t, a1, andt_true_l, cond_true]
  · rw [e]
    simp only [heldFlash_ok, laws_heldFlash_t, b1, c1, d1, andt_true_l, cond_true, cond_false]
  · rw [e]
    simp only [heldFlash, laws_heldFlash_t, b1, c1, d1, andt_true_l, cond_true, cond_false]
    rfl
  · rw [e]
    show 0 ≤ k + 1 * (p.Banks.length : Int)
    omega

def impl_UpdateSteps_l0 {α : Type} (bad : α) (k_ : Rows → α) (image : Bytes) (bank : Int) (ih0 : Int → Rows → α) (at_ : Int) (out_ : Rows) : α :=
  bif decide (at_ < len image) then
    bif andt (andt true (okLH image at_ (minI (w64 (at_ + 8)) (len image)))) (room2 40 out_ ([[.int 1, .int bank, .int at_, .str (subLH image at_ (minI (w64 (at_ + 8)) (len image)))]])) then
      ih0 (w64 (at_ + 8)) (out_ ++ ([[.int 1, .int bank, .int at_, .str (subLH image at_ (minI (w64 (at_ + 8)) (len image)))]]))
    else bad
  else bif andt (andt true (okH image (minI 8 (len image)))) (room2 40 out_ ([[.int 1, .int bank, .int 0, .str (subH image (minI 8 (len image)))]])) then
      k_ (out_ ++ ([[.int 1, .int bank, .int 0, .str (subH image (minI 8 (len image)))]]))
    else bad
def impl_UpdateSteps_L0 {α : Type} (bad : α) (k_ : Rows → α) (N : Nat) (image : Bytes) (bank : Int) (m_ : Nat) : Int → Rows → α :=
  Nat.rec (motive := fun _ => Int → Rows → α) (fun _ _ => bad) (fun _ ih0 => impl_UpdateSteps_l0 bad k_ image bank ih0) m_
theorem impl_UpdateSteps_L0_z {α : Type} (bad : α) (k_ : Rows → α) (N : Nat) (image : Bytes) (bank : Int) (at_ : Int) (out_ : Rows) : impl_UpdateSteps_L0 bad k_ N image bank 0 at_ out_ = bad := rfl
theorem impl_UpdateSteps_L0_s {α : Type} (bad : α) (k_ : Rows → α) (N : Nat) (image : Bytes) (bank : Int) (m_ : Nat) (at_ : Int) (out_ : Rows) : impl_UpdateSteps_L0 bad k_ N image bank (m_ + 1) at_ out_ = impl_UpdateSteps_l0 bad k_ image bank (impl_UpdateSteps_L0 bad k_ N image bank m_) at_ out_ := rfl
def impl_UpdateSteps_t {α : Type} (bad : α) (k_ : Rows → α) (l0 : Int → Int → Rows → α) (f : SFlash) (image : Bytes) : α :=
  bif bif !(FlashOk f) then true else bif decide (96 < len image) then true else decide (ImageVersion image < 0) then k_ []
  else l0 (bif (BootBank f) == 0 then 1 else 0) 8 ([[.int 0, .int (bif (BootBank f) == 0 then 1 else 0), .int 0, .str []]])
def impl_UpdateSteps_f {α : Type} (bad : α) (k_ : Rows → α) (N : Nat) (f : SFlash) (image : Bytes) : α := impl_UpdateSteps_t bad k_ (fun bank => impl_UpdateSteps_L0 bad k_ N image bank N) f image
def upl (b : Int) (image : Bytes) : Nat → Int → Rows → Rows
  | 0, _, o => o
  | n + 1, at_, o => bif decide (at_ < len image) then upl b image n (at_ + 8) (o ++ [[.int 1, .int b, .int at_, .str (subLH image at_ (minI (at_ + 8) (len image)))]]) else o
theorem upl_len (b : Int) (image : Bytes) : ∀ (n : Nat) (k : Int) (o : Rows), (upl b image n k o).length ≤ o.length + n
  | 0, _, o => by simp [upl]
  | n + 1, k, o => by
    unfold upl
    cases decide (k < len image)
    · simp only [cond_false]; omega
    · simp only [cond_true]
      have := upl_len b image n (k + 8) (o ++ [[.int 1, .int b, .int k, .str (subLH image k (minI (k + 8) (len image)))]])
      simp only [List.length_append, List.length_cons, List.length_nil] at this
      omega
def UpdateSteps (f : SFlash) (image : Bytes) : Rows :=
  bif bif !(FlashOk f) then true else bif decide (96 < len image) then true else decide (ImageVersion image < 0) then []
  else upl (bif (BootBank f) == 0 then 1 else 0) image 12 8 [[.int 0, .int (bif (BootBank f) == 0 then 1 else 0), .int 0, .str []]] ++ [[.int 1, .int (bif (BootBank f) == 0 then 1 else 0), .int 0, .str (subH image 8)]]
theorem UpdateSteps_sm (f : SFlash) (image : Bytes) : sm (UpdateSteps f image) = true := by
  unfold UpdateSteps
  cases (bif !(FlashOk f) then true else bif decide (96 < len image) then true else decide (ImageVersion image < 0))
  · have := upl_len (bif (BootBank f) == 0 then 1 else 0) image 12 8 [[.int 0, .int (bif (BootBank f) == 0 then 1 else 0), .int 0, .str []]]
    simp only [cond_false, sm, List.length_append, List.length_cons, List.length_nil, decide_eq_true_eq] at this ⊢
    omega
  · rfl
theorem up_len {f : SFlash} {image : Bytes} (h : (bif !(FlashOk f) then true else bif decide (96 < len image) then true else decide (ImageVersion image < 0)) = false) : len image ≤ 96 ∧ 8 ≤ len image := by
  cases h1 : FlashOk f
  · rw [h1] at h; cases h
  · rw [h1] at h
    by_cases h2 : 96 < len image
    · simp [h2] at h
    · simp [h2] at h
      refine ⟨by omega, ?_⟩
      unfold ImageVersion at h
      by_cases h3 : Get32 image 4 < 0
      · simp [h3] at h
      · by_cases h4 : len image < Get32 image 4 + 12
        · simp [h3, h4] at h
        · omega
theorem impl_UpdateSteps_c {α : Type} (bad : α) (k_ : Rows → α) (f : SFlash) (image : Bytes) (h_f : WtL SFlash.ct f.enc) (h_image : WtC .str (.str image)) : ∃ N, impl_UpdateSteps_f bad k_ N f image = k_ (UpdateSteps f image) := by
  have key : ∀ (b : Int), len image ≤ 96 → 8 ≤ len image → ∀ (n : Nat) (at_ : Int) (out_ : Rows), 0 ≤ at_ → at_ ≤ 1000 → 96 ≤ at_ + 8 * n → out_.length + n ≤ 100 →
      impl_UpdateSteps_L0 bad k_ 13 image b (n + 1) at_ out_ = k_ (upl b image n at_ out_ ++ [[.int 1, .int b, .int 0, .str (subH image 8)]]) := by
    intro b hi1 hi2 n
    have hfin : ∀ (out_ : Rows), out_.length ≤ 100 → room2 40 out_ [[.int 1, .int b, .int 0, .str (subH image 8)]] = true := by
      intro o ho
      simp only [room2, List.length_cons, List.length_nil, Bool.and_eq_true, decide_eq_true_eq]; omega
    have ho8 : okH image 8 = true := by simp only [len] at hi2; simp only [okH, Bool.and_eq_true, decide_eq_true_eq]; omega
    have hm8 : minI 8 (len image) = 8 := by unfold minI; split <;> omega
    induction n with
    | zero =>
      intro at_ out_ h0 h1 h2 h3
      rw [impl_UpdateSteps_L0_s]
      have hd : decide (at_ < len image) = false := decide_eq_false (by omega)
      simp only [impl_UpdateSteps_l0, hd, cond_false, upl, hm8, ho8, hfin out_ (by omega), andt_true_l, cond_true]
    | succ n ih =>
      intro at_ out_ h0 h1 h2 h3
      rw [impl_UpdateSteps_L0_s]
      by_cases hlt : at_ < len image
      · have hd : decide (at_ < len image) = true := decide_eq_true hlt
        have w : w64 (at_ + 8) = at_ + 8 := w64_in (by omega) (by omega)
        have hok1 : okLH image at_ (minI (at_ + 8) (len image)) = true := by
          have q1 : at_ ≤ minI (at_ + 8) (len image) := by unfold minI; split <;> omega
          have q2 : minI (at_ + 8) (len image) ≤ (image.length : Int) := by show minI (at_ + 8) (len image) ≤ len image; unfold minI; split <;> omega
          simp only [okLH, Bool.and_eq_true, decide_eq_true_eq]
          exact ⟨⟨h0, q1⟩, q2⟩
        have hr : ∀ q : List DC, room2 40 out_ [q] = true := by
          intro q
          simp only [room2, List.length_cons, List.length_nil, Bool.and_eq_true, decide_eq_true_eq]; omega
        have := ih (at_ + 8) (out_ ++ [[.int 1, .int b, .int at_, .str (subLH image at_ (minI (at_ + 8) (len image)))]]) (by omega) (by omega) (by omega) (by simp only [List.length_append, List.length_cons, List.length_nil]; omega)
        simp only [impl_UpdateSteps_l0, hd, upl, w, minI_comm (len image), hok1, hr, andt_true_l, cond_true]
        exact this
      · have hd : decide (at_ < len image) = false := decide_eq_false hlt
        simp only [impl_UpdateSteps_l0, hd, cond_false, upl, hm8, ho8, hfin out_ (by omega), andt_true_l, cond_true]
  refine ⟨13, ?_⟩
  unfold impl_UpdateSteps_f impl_UpdateSteps_t UpdateSteps
  cases hc : (bif !(FlashOk f) then true else bif decide (96 < len image) then true else decide (ImageVersion image < 0))
  · obtain ⟨g1, g2⟩ := up_len hc
    simp only [cond_false]
    exact key _ g1 g2 12 8 _ (by omega) (by omega) (by omega) (by simp)
  · rfl

def spec_UpdateSteps_l0 {α : Type} (bad : α) (k_ : Rows → α) (image : Bytes) (b : Int) (ih0 : Int → Rows → α) (at_ : Int) (out_ : Rows) : α :=
  bif decide (at_ < len image) then
    bif andt (andt true (okLH image at_ (minI (len image) (w64 (at_ + 8))))) (room2 40 out_ ([[.int 1, .int b, .int at_, .str (subLH image at_ (minI (len image) (w64 (at_ + 8))))]])) then
      ih0 (w64 (at_ + 8)) (out_ ++ ([[.int 1, .int b, .int at_, .str (subLH image at_ (minI (len image) (w64 (at_ + 8))))]]))
    else bad
  else bif andt (andt true (okH image 8)) (room2 40 out_ ([[.int 1, .int b, .int 0, .str (subH image 8)]])) then
      k_ (out_ ++ ([[.int 1, .int b, .int 0, .str (subH image 8)]]))
    else bad
def spec_UpdateSteps_L0 {α : Type} (bad : α) (k_ : Rows → α) (N : Nat) (image : Bytes) (b : Int) (m_ : Nat) : Int → Rows → α :=
  Nat.rec (motive := fun _ => Int → Rows → α) (fun _ _ => bad) (fun _ ih0 => spec_UpdateSteps_l0 bad k_ image b ih0) m_
theorem spec_UpdateSteps_L0_z {α : Type} (bad : α) (k_ : Rows → α) (N : Nat) (image : Bytes) (b : Int) (at_ : Int) (out_ : Rows) : spec_UpdateSteps_L0 bad k_ N image b 0 at_ out_ = bad := rfl
theorem spec_UpdateSteps_L0_s {α : Type} (bad : α) (k_ : Rows → α) (N : Nat) (image : Bytes) (b : Int) (m_ : Nat) (at_ : Int) (out_ : Rows) : spec_UpdateSteps_L0 bad k_ N image b (m_ + 1) at_ out_ = spec_UpdateSteps_l0 bad k_ image b (spec_UpdateSteps_L0 bad k_ N image b m_) at_ out_ := rfl
def spec_UpdateSteps_t {α : Type} (bad : α) (k_ : Rows → α) (l0 : Int → Int → Rows → α) (f : SFlash) (image : Bytes) : α :=
  bif bif !(FlashOk f) then true else bif decide (96 < len image) then true else decide (ImageVersion image < 0) then k_ []
  else l0 (bif (BootBank f) == 0 then 1 else 0) 8 ([[.int 0, .int (bif (BootBank f) == 0 then 1 else 0), .int 0, .str []]])
def spec_UpdateSteps_f {α : Type} (bad : α) (k_ : Rows → α) (N : Nat) (f : SFlash) (image : Bytes) : α := spec_UpdateSteps_t bad k_ (fun b => spec_UpdateSteps_L0 bad k_ N image b N) f image
theorem spec_UpdateSteps_c {α : Type} (bad : α) (k_ : Rows → α) (f : SFlash) (image : Bytes) (h_f : WtL SFlash.ct f.enc) (h_image : WtC .str (.str image)) : ∃ N, spec_UpdateSteps_f bad k_ N f image = k_ (UpdateSteps f image) := by
  have key : ∀ (b : Int), len image ≤ 96 → 8 ≤ len image → ∀ (n : Nat) (at_ : Int) (out_ : Rows), 0 ≤ at_ → at_ ≤ 1000 → 96 ≤ at_ + 8 * n → out_.length + n ≤ 100 →
      spec_UpdateSteps_L0 bad k_ 13 image b (n + 1) at_ out_ = k_ (upl b image n at_ out_ ++ [[.int 1, .int b, .int 0, .str (subH image 8)]]) := by
    intro b hi1 hi2 n
    have hfin : ∀ (out_ : Rows), out_.length ≤ 100 → room2 40 out_ [[.int 1, .int b, .int 0, .str (subH image 8)]] = true := by
      intro o ho
      simp only [room2, List.length_cons, List.length_nil, Bool.and_eq_true, decide_eq_true_eq]; omega
    have ho8 : okH image 8 = true := by simp only [len] at hi2; simp only [okH, Bool.and_eq_true, decide_eq_true_eq]; omega
    have hm8 : minI 8 (len image) = 8 := by unfold minI; split <;> omega
    induction n with
    | zero =>
      intro at_ out_ h0 h1 h2 h3
      rw [spec_UpdateSteps_L0_s]
      have hd : decide (at_ < len image) = false := decide_eq_false (by omega)
      simp only [spec_UpdateSteps_l0, hd, cond_false, upl, hm8, ho8, hfin out_ (by omega), andt_true_l, cond_true]
    | succ n ih =>
      intro at_ out_ h0 h1 h2 h3
      rw [spec_UpdateSteps_L0_s]
      by_cases hlt : at_ < len image
      · have hd : decide (at_ < len image) = true := decide_eq_true hlt
        have w : w64 (at_ + 8) = at_ + 8 := w64_in (by omega) (by omega)
        have hok1 : okLH image at_ (minI (at_ + 8) (len image)) = true := by
          have q1 : at_ ≤ minI (at_ + 8) (len image) := by unfold minI; split <;> omega
          have q2 : minI (at_ + 8) (len image) ≤ (image.length : Int) := by show minI (at_ + 8) (len image) ≤ len image; unfold minI; split <;> omega
          simp only [okLH, Bool.and_eq_true, decide_eq_true_eq]
          exact ⟨⟨h0, q1⟩, q2⟩
        have hr : ∀ q : List DC, room2 40 out_ [q] = true := by
          intro q
          simp only [room2, List.length_cons, List.length_nil, Bool.and_eq_true, decide_eq_true_eq]; omega
        have := ih (at_ + 8) (out_ ++ [[.int 1, .int b, .int at_, .str (subLH image at_ (minI (at_ + 8) (len image)))]]) (by omega) (by omega) (by omega) (by simp only [List.length_append, List.length_cons, List.length_nil]; omega)
        simp only [spec_UpdateSteps_l0, hd, upl, w, minI_comm (len image), hok1, hr, andt_true_l, cond_true]
        exact this
      · have hd : decide (at_ < len image) = false := decide_eq_false hlt
        simp only [spec_UpdateSteps_l0, hd, cond_false, upl, hm8, ho8, hfin out_ (by omega), andt_true_l, cond_true]
  refine ⟨13, ?_⟩
  unfold spec_UpdateSteps_f spec_UpdateSteps_t UpdateSteps
  cases hc : (bif !(FlashOk f) then true else bif decide (96 < len image) then true else decide (ImageVersion image < 0))
  · obtain ⟨g1, g2⟩ := up_len hc
    simp only [cond_false]
    exact key _ g1 g2 12 8 _ (by omega) (by omega) (by omega) (by simp)
  · rfl

def laws_FnExactUpdateSteps_t {α : Type} (bad : α) (k_ : Bool → α) (aF : SFlash) (aImage : Bytes) : α :=
  let z0 : Bool := andt true (same (UpdateSteps (idf aF) aImage) (UpdateSteps (idf aF) aImage))
  let z1 : Bool := !(yes2 (UpdateSteps (idf aF) aImage) (UpdateSteps (idf aF) aImage))
  let z2 : Bool := decide ((markFlash (idf aF) 1).1 < 0)
  let z3 : Int × Rows := markFlashStepS (UpdateSteps (idf aF) aImage) 1
  let z4 : Bool := andt true (hdo fFlashStepS 4 z3.2 1)
  let z5 : Int := heldFlashStepS z3.2 1
  let z6 : Bool := decide (z5 < 0)
  let z7 : Bool := z5 != z3.1
  bif decide (1048576 < len aImage) then k_ true
  else bif decide (laws_szFlash aF 1048576 < 0) then k_ true
  else bif andt true (laws_toFlash_ok aF) then
      bif andt true (laws_toFlash_ok aF) then
        bif z0 then
          bif z1 then k_ false
          else bif andt (andt true (laws_toFlash_ok aF)) (same (idf aF) (idf aF)) then
              bif !(yes2 (idf aF) (idf aF)) then k_ false
              else bif andt true (markFlash_ok (idf aF) 1) then
                  bif okm z2 true z0 then
                    bif bif z2 then true else z1 then k_ false
                    else bif andt true (mko 4 (UpdateSteps (idf aF) aImage) 1) then
                        bif z4 then
                          bif z6 then k_ false
                          else bif z7 then k_ false
                          else bif andt true (laws_toFlash_ok aF) then
                              bif z0 then
                                bif z1 then k_ false
                                else bif z4 then
                                    bif z6 then k_ false
                                    else bif z7 then k_ false
                                    else k_ true
                                  else bad
                              else bad
                            else bad
                        else bad
                      else bad
                  else bad
                else bad
            else bad
        else bad
      else bad
    else bad
theorem laws_FnExactUpdateSteps_c {α : Type} (bad : α) (k_ : Bool → α) (aF : SFlash) (aImage : Bytes) (h_aF : WtL SFlash.ct aF.enc) (h_aImage : WtC .str (.str aImage)) (hok : fitL (SFlash.ct ++ (.str :: ([]))) (aF.enc ++ (.str aImage :: ([]))) = true) : laws_FnExactUpdateSteps_t bad k_ aF aImage = k_ true := by
  unfold laws_FnExactUpdateSteps_t
  by_cases c0 : 1048576 < len aImage
  · simp only [c0, decide_true, decide_false, cond_true, cond_false]
  by_cases c1 : laws_szFlash aF 1048576 < 0
  · simp only [c0, c1, decide_true, decide_false, cond_true, cond_false]
  have k1 := laws_szFlash_ok h_aF (by omega) (by omega) (Int.not_lt.1 c1)
  have hsm : sm aF.Banks = true := by
    have k := k1.2
    cases h : sm aF.Banks
    · simp only [laws_toFlash_ok, laws_toFlash_t, h] at k
      cases k
    · rfl
  obtain ⟨m1, m2, m3, m4⟩ := mh_Flash aF (k := 1) (by omega) (by omega) hsm
  have m5 := Int.not_lt.2 m4
  have us := UpdateSteps_sm aF aImage
  have ul := sm_le us
  have n1 : mko 4 (UpdateSteps aF aImage) 1 = true := mko_mk us (by omega) (by omega)
  have n2 : hdo fFlashStepS 4 (markFlashStepS (UpdateSteps aF aImage) 1).2 1 = true := hdo_mk us (by omega) (by omega)
  have n3 : heldFlashStepS (markFlashStepS (UpdateSteps aF aImage) 1).2 1 = (markFlashStepS (UpdateSteps aF aImage) 1).1 := by simp only [heldFlashStepS, markFlashStepS, mkl_length]
  have n4 : decide ((markFlashStepS (UpdateSteps aF aImage) 1).1 < 0) = false := decide_eq_false (by simp only [markFlashStepS]; omega)
  simp only [c0, c1, decide_false, cond_false, cond_true, idf, k1.2, m1, m5, n1, n2, n3, n4, andt_true_l, andt_true_r, same_refl, yes2, beq_self_eq_true, bne_self_eq_false, Bool.not_true, okm_tt]

end
end Go.Proofs.Ytjknoknkbfhelaa.Pl
