/- What functions of the program compute, in plain Lean, as the value machine runs them. Conditions: none. -/
import Derived.Test.YtjknoknkbfhelaaPBo
set_option linter.unusedVariables false
set_option linter.unusedSimpArgs false
namespace Go.Proofs.Ytjknoknkbfhelaa.Pl
open Vm
noncomputable section



theorem iv_ge (s : Bytes) : -1 ≤ ImageVersion s := by
  have h := Get32_range s 0
  unfold ImageVersion
  cases (bif decide (Get32 s 4 < 0) then true else decide (len s < Get32 s 4 + 12))
  · simp only [cond_false]
    cases (bif !(MakeImage (Get32 s 0) (subLH s 8 (8 + Get32 s 4))).2 then true else !((MakeImage (Get32 s 0) (subLH s 8 (8 + Get32 s 4))).1 == subH s (12 + Get32 s 4)))
    · exact h.1
    · exact Int.le_refl _
  · exact Int.le_refl _
/-- A bank whose first byte is blank has no version. -/
theorem iv_first {s : Bytes} (h : sAt s 0 = 255) : ImageVersion s = -1 := by
  have b1 := sAt_lo s 1
  have b2 := sAt_lo s 2
  have b3 := sAt_lo s 3
  have hm : (MakeImage (Get32 s 0) (subLH s 8 (8 + Get32 s 4))).2 = false := by
    cases hm : (MakeImage (Get32 s 0) (subLH s 8 (8 + Get32 s 4))).2
    · rfl
    · obtain ⟨⟨v0, v1⟩, _⟩ := make_inv hm
      exfalso
      clear hm
      unfold Get32 at v0 v1
      rw [h] at v0 v1
      cases hc : (bif decide ((0 : Int) < 0) then true else decide (len s < 0 + 4))
      · rw [hc] at v1
        simp only [cond_false, Int.zero_add] at v1
        omega
      · rw [hc] at v0
        simp at v0
  unfold ImageVersion
  rw [hm]
  cases (bif decide (Get32 s 4 < 0) then true else decide (len s < Get32 s 4 + 12)) <;> rfl
/-- A bank whose length's last byte is blank has no version. -/
theorem iv_seven {s : Bytes} (hl : s.length = 96) (h : sAt s 7 = 255) : ImageVersion s = -1 := by
  have b1 := sAt_lo s 4
  have b2 := sAt_lo s 5
  have b3 := sAt_lo s 6
  have hL : len s = 96 := by simp only [len, hl]; rfl
  have hg : 255 ≤ Get32 s 4 := by
    unfold Get32
    rw [hL, decide_eq_false (show ¬ (4 : Int) < 0 by omega), decide_eq_false (show ¬ (96 : Int) < 4 + 4 by omega)]
    simp only [cond_false, show (4 : Int) + 1 = 5 from rfl, show (4 : Int) + 2 = 6 from rfl, show (4 : Int) + 3 = 7 from rfl, h]
    omega
  unfold ImageVersion
  rw [hL, decide_eq_true (show (96 : Int) < Get32 s 4 + 12 by omega)]
  cases decide (Get32 s 4 < 0) <;> rfl
/-- The banks: one that is written, and the other. -/
def bk (b : Nat) (X O : Bytes) : Rows := if b = 0 then [[.str X], [.str O]] else [[.str O], [.str X]]
theorem bk_ok {b : Nat} {X O : Bytes} (hX : X.length = 96) (hO : O.length = 96) : FlashOk (⟨bk b X O⟩ : SFlash) = true := by
  have h1 : (len X == 96) = true := by simp only [len, hX]; rfl
  have h2 : (len O == 96) = true := by simp only [len, hO]; rfl
  unfold bk
  split
  · show (bif (len X == 96) then (len O == 96) else false) = true
    rw [h1, h2]; rfl
  · show (bif (len O == 96) then (len X == 96) else false) = true
    rw [h1, h2]; rfl
theorem boot_max (s0 s1 : Bytes) (h0 : s0.length = 96) (h1 : s1.length = 96) : BootVersion (⟨[[.str s0], [.str s1]]⟩ : SFlash) = maxI (ImageVersion s0) (ImageVersion s1) := by
  have hf : FlashOk (⟨[[.str s0], [.str s1]]⟩ : SFlash) = true := bk_ok (b := 0) h0 h1
  have g0 := iv_ge s0
  have g1 := iv_ge s1
  have e0 : rS (nth (⟨[[.str s0], [.str s1]]⟩ : SFlash).Banks 0) 0 = s0 := rfl
  have e1 : rS (nth (⟨[[.str s0], [.str s1]]⟩ : SFlash).Banks 1) 0 = s1 := rfl
  unfold BootVersion BootBank maxI
  rw [hf, e0, e1]
  generalize hA : ImageVersion s0 = A at g0
  generalize hB : ImageVersion s1 = B at g1
  simp only [Bool.not_true, cond_false]
  by_cases a : A < 0
  · by_cases b : B < 0
    · rw [decide_eq_true a, decide_eq_true b]
      simp only [cond_true]
      rw [decide_eq_true (show (-1 : Int) < 0 by omega), cond_true]
      split <;> omega
    · rw [decide_eq_true a, decide_eq_false b, decide_eq_true (show A < B by omega)]
      simp only [cond_true, cond_false]
      rw [decide_eq_false (show ¬ (1 : Int) < 0 by omega), cond_false]
      rw [if_pos (show A < B by omega), ← hB]
      rfl
  · rw [decide_eq_false a]
    simp only [cond_false]
    by_cases c : A < B
    · rw [decide_eq_true c]
      simp only [cond_true]
      rw [decide_eq_false (show ¬ (1 : Int) < 0 by omega), cond_false, if_pos c, ← hB]
      rfl
    · rw [decide_eq_false c]
      simp only [cond_false]
      rw [decide_eq_false (show ¬ (0 : Int) < 0 by omega), cond_false, if_neg c, ← hA]
      rfl
theorem bk_boot {b : Nat} {X O : Bytes} (hX : X.length = 96) (hO : O.length = 96) : BootVersion (⟨bk b X O⟩ : SFlash) = maxI (ImageVersion O) (ImageVersion X) := by
  unfold bk
  split
  · rw [boot_max X O hX hO, maxI_comm]
  · exact boot_max O X hO hX
theorem bk_step {b : Nat} {X O : Bytes} {x : SFlashStep} {part : Int} (hb : b = 0 ∨ b = 1) (hX : X.length = 96) (hO : O.length = 96) (hx : FlashStepOk x = true) (hxb : x.Bank = (b : Int)) (hp : 0 ≤ part) :
    DoFlashStep (⟨bk b X O⟩ : SFlash) x part = ⟨bk b (bankOf x part X) O⟩ := by
  unfold DoFlashStep
  rw [bk_ok hX hO, hx, decide_eq_false (show ¬ part < 0 by omega), hxb]
  simp only [Bool.not_true, cond_false, Int.toNat_natCast]
  rcases hb with rfl | rfl <;> rfl
/-- Which bank an update takes. -/
def bnk (f : SFlash) : Nat := bif (BootBank f) == 0 then 1 else 0
theorem bnk_int (f : SFlash) : (bif (BootBank f) == 0 then (1 : Int) else 0) = ((bnk f : Nat) : Int) := by unfold bnk; cases (BootBank f) == 0 <;> rfl
theorem bnk_01 (f : SFlash) : bnk f = 0 ∨ bnk f = 1 := by unfold bnk; cases (BootBank f) == 0 <;> simp
theorem bnk_split {s0 s1 : Bytes} (h0 : s0.length = 96) (h1 : s1.length = 96) : ∃ X O : Bytes, (⟨[[.str s0], [.str s1]]⟩ : SFlash) = ⟨bk (bnk (⟨[[.str s0], [.str s1]]⟩ : SFlash)) X O⟩ ∧ X.length = 96 ∧ O.length = 96 ∧
    BootVersion (⟨[[.str s0], [.str s1]]⟩ : SFlash) = ImageVersion O ∧ ImageVersion X ≤ ImageVersion O := by
  have hf : FlashOk (⟨[[.str s0], [.str s1]]⟩ : SFlash) = true := bk_ok (b := 0) h0 h1
  have hm := boot_max s0 s1 h0 h1
  have g0 := iv_ge s0
  have g1 := iv_ge s1
  have e0 : rS (nth (⟨[[.str s0], [.str s1]]⟩ : SFlash).Banks 0) 0 = s0 := rfl
  have e1 : rS (nth (⟨[[.str s0], [.str s1]]⟩ : SFlash).Banks 1) 0 = s1 := rfl
  have key : (bnk (⟨[[.str s0], [.str s1]]⟩ : SFlash) = 1 ∧ ImageVersion s1 ≤ ImageVersion s0) ∨ (bnk (⟨[[.str s0], [.str s1]]⟩ : SFlash) = 0 ∧ ImageVersion s0 ≤ ImageVersion s1) := by
    unfold bnk BootBank
    rw [hf, e0, e1]
    generalize ImageVersion s0 = A at g0
    generalize ImageVersion s1 = B at g1
    simp only [Bool.not_true, cond_false]
    by_cases a : A < 0
    · by_cases b : B < 0
      · rw [decide_eq_true a, decide_eq_true b]
        exact .inr ⟨rfl, by omega⟩
      · rw [decide_eq_true a, decide_eq_false b, decide_eq_true (show A < B by omega)]
        exact .inr ⟨rfl, by omega⟩
    · rw [decide_eq_false a]
      by_cases c : A < B
      · rw [decide_eq_true c]
        exact .inr ⟨rfl, by omega⟩
      · rw [decide_eq_false c]
        exact .inl ⟨rfl, by omega⟩
  rcases key with ⟨hb, hv⟩ | ⟨hb, hv⟩ <;> rw [hb]
  · refine ⟨s1, s0, rfl, h1, h0, ?_, hv⟩
    rw [hm]
    unfold maxI
    split <;> omega
  · refine ⟨s0, s1, rfl, h0, h1, ?_, hv⟩
    rw [hm]
    unfold maxI
    split <;> omega
/-! the steps -/
def c8 (L : Nat) : Nat := (L - 1) / 8
def chunk (b : Int) (image : Bytes) (k : Nat) : List DC := [.int 1, .int b, .int (8 * (k : Int)), .str (subLH image (8 * (k : Int)) (minI (8 * ((k + 1 : Nat) : Int)) (len image)))]
def ups (b : Int) (image : Bytes) : Rows := ([.int 0, .int b, .int 0, .str []] :: (List.range' 1 (c8 image.length)).map (chunk b image)) ++ [[.int 1, .int b, .int 0, .str (subH image 8)]]
theorem upl_eq (b : Int) (image : Bytes) : ∀ (n k : Nat) (o : Rows), c8 image.length + 1 ≤ n + k → 1 ≤ k → upl b image n (8 * (k : Int)) o = o ++ (List.range' k (c8 image.length + 1 - k)).map (chunk b image)
  | 0, k, o, h, _ => by
    rw [show c8 image.length + 1 - k = 0 by omega]
    simp [upl]
  | n + 1, k, o, h, hk => by
    unfold upl
    by_cases hl : 8 * (k : Int) < len image
    · have hc : c8 image.length + 1 - k = (c8 image.length + 1 - (k + 1)) + 1 := by unfold c8; simp only [len] at hl; omega
      rw [decide_eq_true hl, cond_true, show 8 * (k : Int) + 8 = 8 * ((k + 1 : Nat) : Int) by omega, upl_eq b image n (k + 1) _ (by omega) (by omega), hc, List.range'_succ, List.map_cons, List.append_assoc]
      rfl
    · have hc : c8 image.length + 1 - k = 0 := by unfold c8; simp only [len] at hl; omega
      rw [decide_eq_false hl, cond_false, hc]
      simp
theorem ups_eq {f : SFlash} {image : Bytes} (hf : FlashOk f = true) (hl : image.length ≤ 96) (hv : 0 ≤ ImageVersion image) : UpdateSteps f image = ups ((bnk f : Nat) : Int) image := by
  unfold UpdateSteps
  have h96 : ¬ 96 < len image := by simp only [len]; omega
  rw [hf, decide_eq_false h96, decide_eq_false (show ¬ ImageVersion image < 0 by omega)]
  simp only [Bool.not_true, cond_false]
  rw [bnk_int, show (8 : Int) = 8 * ((1 : Nat) : Int) from rfl, upl_eq _ image 12 1 _ (by unfold c8; omega) (by omega)]
  rfl
theorem ups_len (b : Int) (image : Bytes) : (ups b image).length = c8 image.length + 2 := by simp [ups]
theorem ups_0 (b : Int) (image : Bytes) : nth (ups b image) 0 = [.int 0, .int b, .int 0, .str []] := rfl
theorem ups_k {b : Int} {image : Bytes} {k : Nat} (h1 : 1 ≤ k) (h2 : k ≤ c8 image.length) : nth (ups b image) k = chunk b image k := by
  unfold ups nth
  rw [List.getD_eq_getElem?_getD, List.getElem?_append_left (by simp; omega)]
  obtain ⟨j, rfl⟩ : ∃ j, k = j + 1 := ⟨k - 1, by omega⟩
  rw [List.getElem?_cons_succ, List.getElem?_map, List.getElem?_range' (by omega)]
  simp [Nat.add_comm]
theorem ups_last (b : Int) (image : Bytes) : nth (ups b image) (c8 image.length + 1) = [.int 1, .int b, .int 0, .str (subH image 8)] := by
  unfold ups nth
  rw [List.getD_eq_getElem?_getD, List.getElem?_append_right (by simp)]
  simp
/-! what a bank holds -/
theorem and255n {n : Nat} (h : n < 256) : bits .and .u8 255 (n : Int) = (n : Int) := by
  have key : ∀ x : Fin 256, bits .and .u8 255 ((x.val : Nat) : Int) = ((x.val : Nat) : Int) := by decide +kernel
  exact key ⟨n, h⟩
theorem andB_blank {s d : Bytes} {j k : Nat} (h : s.getD j 0 = 255) : andB s d j k = d.getD k 0 := by
  have e1 : sAt s (j : Int) = 255 := by simp only [sAt, Int.toNat_natCast, h]; rfl
  have e2 : sAt d (k : Int) = (((d.getD k 0).toNat : Nat) : Int) := by simp only [sAt, Int.toNat_natCast]
  unfold andB
  rw [e1, e2, and255n (d.getD k 0).toNat_lt]
  simp
theorem wr_all (a : Nat) (d : Bytes) : ∀ (m i : Nat) (s : Bytes), a + i + m ≤ s.length → i + m ≤ d.length → (∀ j, i ≤ j → j < i + m → s.getD (a + j) 0 = 255) → itN (wrS a d) m i s = s.take (a + i) ++ ((d.drop i).take m ++ s.drop (a + i + m))
  | 0, i, s, _, _, _ => by simp [itN]
  | m + 1, i, s, h1, h2, h3 => by
    rw [itN]
    have hw : wrS a d i s = s.set (a + i) (d.getD i 0) := by unfold wrS; rw [andB_blank (h3 i (by omega) (by omega))]
    rw [hw, wr_all a d m (i + 1) _ (by rw [List.length_set]; omega) (by omega) (fun j hj1 hj2 => by
      rw [List.getD_eq_getElem?_getD, List.getElem?_set_ne (by omega), ← List.getD_eq_getElem?_getD]
      exact h3 j (by omega) (by omega))]
    have hi : a + i < s.length := by omega
    have hid : i < d.length := by omega
    have e1 : (s.set (a + i) (d.getD i 0)).take (a + (i + 1)) = s.take (a + i) ++ [d.getD i 0] := by
      rw [List.take_set, show a + (i + 1) = a + i + 1 by omega, List.take_add_one, List.getElem?_eq_getElem hi, List.set_append_right _ _ (by simp; omega)]
      simp [Nat.min_eq_left (Nat.le_of_lt hi)]
    have e2 : (s.set (a + i) (d.getD i 0)).drop (a + (i + 1) + m) = s.drop (a + i + (m + 1)) := by
      rw [List.drop_set_of_lt (by omega)]
      congr 1
      omega
    have e3 : (d.drop i).take (m + 1) = d.getD i 0 :: (d.drop (i + 1)).take m := by
      rw [List.drop_eq_getElem_cons hid, List.take_succ_cons, List.getD_eq_getElem?_getD, List.getElem?_eq_getElem hid]
      rfl
    rw [e1, e2, e3]
    simp
theorem wr_below (a : Nat) (d : Bytes) {j : Nat} (hj : j < a) : ∀ (m i : Nat) (s : Bytes), sAt (itN (wrS a d) m i s) (j : Int) = sAt s (j : Int)
  | 0, _, _ => rfl
  | m + 1, i, s => by
    rw [itN, wr_below a d hj m (i + 1)]
    exact sAt_set_ne (by simp only [Int.toNat_natCast]; omega)
def mid (image : Bytes) (p : Nat) : Bytes := List.replicate 8 255 ++ ((image.take p).drop 8 ++ List.replicate (96 - p) 255)
def full (image : Bytes) : Bytes := image ++ List.replicate (96 - image.length) 255
theorem minI_toNat (a b : Int) : (minI a b).toNat = min a.toNat b.toNat := by
  unfold minI
  split <;> omega
theorem mid_len {image : Bytes} {p : Nat} (h8 : 8 ≤ p) (hp : p ≤ image.length) (hl : image.length ≤ 96) : (mid image p).length = 96 := by
  simp only [mid, List.length_append, List.length_replicate, List.length_drop, List.length_take]
  omega
theorem full_len {image : Bytes} (hl : image.length ≤ 96) : (full image).length = 96 := by
  simp only [full, List.length_append, List.length_replicate]
  omega
theorem mid_blank {image : Bytes} {p j : Nat} (hj : j < 8) : sAt (mid image p) (j : Int) = 255 := by
  unfold mid sAt
  rw [Int.toNat_natCast, List.getD_eq_getElem?_getD, List.getElem?_append_left (by simpa using hj), List.getElem?_replicate_of_lt hj]
  rfl
theorem mid_tail {image : Bytes} {p j : Nat} (h8 : 8 ≤ p) (hp : p ≤ image.length) (hj : p ≤ j) (h96 : j < 96) : (mid image p).getD j 0 = 255 := by
  unfold mid
  rw [List.getD_eq_getElem?_getD, List.getElem?_append_right (by simp; omega), List.getElem?_append_right (by simp; omega), List.getElem?_replicate_of_lt (by simp; omega)]
  rfl
theorem erase_bank {b : Int} {part : Int} {s : Bytes} (hs : s.length = 96) (hp : 0 ≤ part) : bankOf (⟨0, b, 0, []⟩ : SFlashStep) part s = List.replicate (minI part 96).toNat 255 ++ s.drop (minI part 96).toNat := by
  have hm1 : minI part 96 ≤ 96 := by unfold minI; split <;> omega
  show itN ers (minI part 96).toNat 0 s = _
  rw [ers_all _ _ _ (by omega)]
  simp
theorem take_drop_join {α : Type} (l : List α) {a q : Nat} (h1 : 8 ≤ a) (h2 : a ≤ q) (h3 : q ≤ l.length) : (l.take a).drop 8 ++ (l.take q).drop a = (l.take q).drop 8 := by
  have e : (l.take q) = l.take a ++ (l.take q).drop a := by
    have := List.take_append_drop a (l.take q)
    rw [List.take_take, Nat.min_eq_left h2] at this
    exact this.symm
  conv => rhs; rw [e]
  rw [List.drop_append_of_le_length (by simp; omega)]
theorem chunk_bank {b : Int} {image : Bytes} {k : Nat} (hl : image.length ≤ 96) (h1 : 1 ≤ k) (h2 : 8 * k < image.length) :
    bankOf (SFlashStep.decAt (chunk b image k) 0) 96 (mid image (8 * k)) = mid image (min (8 * (k + 1)) image.length) := by
  have hq : (minI (8 * ((k + 1 : Nat) : Int)) (len image)).toNat = min (8 * (k + 1)) image.length := by
    rw [minI_toNat]
    simp only [len, Int.toNat_natCast]
    omega
  have hd : (subLH image (8 * (k : Int)) (minI (8 * ((k + 1 : Nat) : Int)) (len image))) = (image.take (min (8 * (k + 1)) image.length)).drop (8 * k) := by
    simp only [subLH]
    rw [hq, show (8 * (k : Int)).toNat = 8 * k by omega]
  show itN (wrS (8 * (k : Int)).toNat (subLH image (8 * (k : Int)) (minI (8 * ((k + 1 : Nat) : Int)) (len image)))) (minI 96 (len (subLH image (8 * (k : Int)) (minI (8 * ((k + 1 : Nat) : Int)) (len image))))).toNat 0 (mid image (8 * k)) = _
  rw [hd, show (8 * (k : Int)).toNat = 8 * k by omega]
  have hdl : ((image.take (min (8 * (k + 1)) image.length)).drop (8 * k)).length = min (8 * (k + 1)) image.length - 8 * k := by
    simp only [List.length_drop, List.length_take]
    omega
  have hm : (minI 96 (len ((image.take (min (8 * (k + 1)) image.length)).drop (8 * k)))).toNat = min (8 * (k + 1)) image.length - 8 * k := by
    rw [minI_toNat]
    simp only [len, hdl, Int.toNat_natCast]
    omega
  have hml := mid_len (image := image) (p := 8 * k) (by omega) (by omega) hl
  rw [hm, wr_all _ _ _ _ _ (by omega) (by omega) (fun j hj1 hj2 => mid_tail (by omega) (by omega) (by omega) (by omega))]
  have e4 : List.take (min (8 * (k + 1)) image.length - 8 * k) ((image.take (min (8 * (k + 1)) image.length)).drop (8 * k)) = (image.take (min (8 * (k + 1)) image.length)).drop (8 * k) := List.take_of_length_le (by omega)
  rw [List.drop_zero, Nat.add_zero, e4]
  unfold mid
  have l1 : (List.replicate 8 255 ++ (image.take (8 * k)).drop 8 : Bytes).length = 8 * k := by
    simp only [List.length_append, List.length_replicate, List.length_drop, List.length_take]
    omega
  rw [← List.append_assoc (List.replicate 8 255)]
  rw [List.take_append_of_le_length (by omega), List.take_of_length_le (by omega)]
  have e5 : ∀ (A : Bytes) (n : Nat), A.length = 8 * k → (A ++ List.replicate (96 - 8 * k) (255 : UInt8)).drop (8 * k + n) = List.replicate (96 - 8 * k - n) 255 := by
    intro A n hA
    rw [List.drop_append, List.drop_eq_nil_of_le (by omega), List.nil_append, hA, List.drop_replicate]
    congr 1
    omega
  rw [e5 _ _ l1]
  rw [← List.append_assoc, List.append_assoc (List.replicate 8 255), take_drop_join image (by omega) (by omega) (by omega), List.append_assoc]
  rw [show 96 - 8 * k - (min (8 * (k + 1)) image.length - 8 * k) = 96 - min (8 * (k + 1)) image.length by omega]
theorem head_bank {b : Int} {image : Bytes} {part : Int} (hl : image.length ≤ 96) (h8 : 8 ≤ image.length) (hp : 0 ≤ part) :
    bankOf (SFlashStep.decAt [.int 1, .int b, .int 0, .str (subH image 8)] 0) part (mid image image.length) = (image.take 8).take (minI part 8).toNat ++ (mid image image.length).drop (minI part 8).toNat := by
  have hd : subH image 8 = image.take 8 := by simp [subH]
  have hdl : (image.take 8).length = 8 := by simp only [List.length_take]; omega
  show itN (wrS (0 : Int).toNat (subH image 8)) (minI part (len (subH image 8))).toNat 0 (mid image image.length) = _
  rw [hd]
  have hm : minI part (len (image.take 8)) = minI part 8 := by simp only [len, hdl]; rfl
  rw [hm]
  have hm1 : minI part 8 ≤ 8 := by unfold minI; split <;> omega
  have hml := mid_len (image := image) (p := image.length) h8 (Nat.le_refl _) hl
  rw [wr_all _ _ _ _ _ (by simp only [Int.toNat_zero]; omega) (by omega) (fun j hj1 hj2 => by
    have := mid_blank (image := image) (p := image.length) (j := j) (by omega)
    simp only [sAt, Int.toNat_natCast] at this
    rw [Int.toNat_zero, Nat.zero_add]
    exact UInt8.toNat_inj.1 (by have : (255 : UInt8).toNat = 255 := rfl; omega))]
  simp
theorem head_full {image : Bytes} (hl : image.length ≤ 96) (h8 : 8 ≤ image.length) : (image.take 8).take 8 ++ (mid image image.length).drop 8 = full image := by
  unfold mid full
  rw [List.drop_append_of_le_length (by simp), List.drop_eq_nil_of_le (by simp), List.nil_append, List.take_length, List.take_take, ← List.append_assoc]
  simp [List.take_append_drop]
theorem step_ok {x : SFlashStep} {b : Nat} (hb : b = 0 ∨ b = 1) (hx : x.Bank = (b : Int)) (hk : x.Kind = 1) (h1 : 1 ≤ len x.Data) (h2 : len x.Data ≤ 8) (h3 : 0 ≤ x.At) (h4 : x.At + len x.Data ≤ 96) : FlashStepOk x = true := by
  unfold FlashStepOk impl_FlashStepOk_t
  have e1 : between x.Bank 0 1 = true := between_iff.2 (by omega)
  have e2 : between (len x.Data) 1 8 = true := between_iff.2 ⟨h1, h2⟩
  have e3 : between x.At 0 (w64 (96 - len x.Data)) = true := by
    rw [w64_in (by omega) (by omega)]
    exact between_iff.2 (by omega)
  rw [e1, e2, e3, hk]
  rfl
/-- The bank behind m whole steps. -/
def XX (image orig : Bytes) (m : Nat) : Bytes := if m = 0 then orig else if m ≤ c8 image.length + 1 then mid image (min (8 * m) image.length) else full image
theorem XX_len {image orig : Bytes} (m : Nat) (ho : orig.length = 96) (hl : image.length ≤ 96) (h9 : 9 ≤ image.length) : (XX image orig m).length = 96 := by
  unfold XX
  split
  · exact ho
  · split
    · exact mid_len (by omega) (by omega) hl
    · exact full_len hl
theorem ok_0 {b : Nat} (hb : b = 0 ∨ b = 1) : FlashStepOk (⟨0, (b : Int), 0, []⟩ : SFlashStep) = true := by
  rcases hb with rfl | rfl <;> rfl
theorem ok_k {b : Nat} {image : Bytes} {k : Nat} (hb : b = 0 ∨ b = 1) (hl : image.length ≤ 96) (h2 : 8 * k < image.length) : FlashStepOk (SFlashStep.decAt (chunk (b : Int) image k) 0) = true := by
  have hq : (minI (8 * ((k + 1 : Nat) : Int)) (len image)).toNat = min (8 * (k + 1)) image.length := by
    rw [minI_toNat]
    simp only [len, Int.toNat_natCast]
    omega
  have hdl : len (subLH image (8 * (k : Int)) (minI (8 * ((k + 1 : Nat) : Int)) (len image))) = ((min (8 * (k + 1)) image.length - 8 * k : Nat) : Int) := by
    simp only [len, subLH, List.length_drop, List.length_take, show (8 * (k : Int)).toNat = 8 * k by omega] at hq ⊢
    omega
  refine step_ok (b := b) hb rfl rfl ?_ ?_ ?_ ?_
  · show 1 ≤ len (subLH image (8 * (k : Int)) (minI (8 * ((k + 1 : Nat) : Int)) (len image)))
    omega
  · show len (subLH image (8 * (k : Int)) (minI (8 * ((k + 1 : Nat) : Int)) (len image))) ≤ 8
    omega
  · show 0 ≤ 8 * (k : Int)
    omega
  · show 8 * (k : Int) + len (subLH image (8 * (k : Int)) (minI (8 * ((k + 1 : Nat) : Int)) (len image))) ≤ 96
    omega
theorem ok_h {b : Nat} {image : Bytes} (hb : b = 0 ∨ b = 1) (h8 : 8 ≤ image.length) : FlashStepOk (SFlashStep.decAt [.int 1, .int (b : Int), .int 0, .str (subH image 8)] 0) = true := by
  have hdl : len (subH image 8) = 8 := by
    simp only [len, subH, List.drop_zero, List.length_take]
    omega
  refine step_ok (b := b) hb rfl rfl ?_ ?_ ?_ ?_
  · show 1 ≤ len (subH image 8); omega
  · show len (subH image 8) ≤ 8; omega
  · exact Int.le_refl 0
  · show 0 + len (subH image 8) ≤ 96; omega
theorem run_state {b : Nat} {image orig O : Bytes} (hb : b = 0 ∨ b = 1) (ho : orig.length = 96) (hO : O.length = 96) (hl : image.length ≤ 96) (h9 : 9 ≤ image.length) :
    ∀ m, m ≤ c8 image.length + 2 → itN (ruF (ups (b : Int) image)) m 0 (bk b orig O) = bk b (XX image orig m) O
  | 0, _ => rfl
  | m + 1, h => by
    rw [itN_split (ruF (ups (b : Int) image)) m 1 0, run_state hb ho hO hl h9 m (by omega)]
    show ruF (ups (b : Int) image) (0 + m) (bk b (XX image orig m) O) = _
    have hX := XX_len m ho hl h9 (image := image) (orig := orig)
    rw [Nat.zero_add]
    unfold ruF
    rcases Nat.eq_zero_or_pos m with rfl | h0
    · rw [ups_0]
      rw [show SFlashStep.decAt [.int 0, .int (b : Int), .int 0, .str []] 0 = (⟨0, (b : Int), 0, []⟩ : SFlashStep) from rfl]
      rw [bk_step hb hX hO (ok_0 hb) rfl (by omega), erase_bank hX (by omega)]
      have : XX image orig 1 = List.replicate 96 255 := by
        unfold XX
        rw [if_neg (by omega), if_pos (by omega), show min (8 * 1) image.length = 8 by omega]
        unfold mid
        rw [List.drop_eq_nil_of_le (by simp; omega)]
        rfl
      rw [this]
      show bk b (List.replicate 96 255 ++ (XX image orig 0).drop 96) O = _
      rw [List.drop_eq_nil_of_le (by omega), List.append_nil]
    · by_cases hc : m ≤ c8 image.length
      · have h8 : 8 * m < image.length := by unfold c8 at hc; omega
        rw [ups_k h0 hc, bk_step hb hX hO (ok_k hb hl h8) rfl (by omega)]
        have e1 : XX image orig m = mid image (8 * m) := by
          unfold XX
          rw [if_neg (by omega), if_pos (by omega), Nat.min_eq_left (by omega)]
        have e2 : XX image orig (m + 1) = mid image (min (8 * (m + 1)) image.length) := by
          unfold XX
          rw [if_neg (by omega), if_pos (by omega)]
        rw [e1, e2, chunk_bank hl h0 h8]
      · have hm : m = c8 image.length + 1 := by omega
        subst hm
        rw [ups_last, bk_step hb hX hO (ok_h hb (by omega)) rfl (by omega)]
        have e1 : XX image orig (c8 image.length + 1) = mid image image.length := by
          unfold XX
          rw [if_neg (by omega), if_pos (by omega), Nat.min_eq_right (by unfold c8; omega)]
        have e2 : XX image orig (c8 image.length + 1 + 1) = full image := by
          unfold XX
          rw [if_neg (by omega), if_neg (by omega)]
        rw [e1, e2, head_bank hl (by omega) (by omega), ← head_full hl (by omega)]
        rfl
/-- An update that ended somewhere: the banks, and what is booted of them. -/
theorem run_end {b : Nat} {image orig O : Bytes} {V v : Int} {n part : Int} (hb : b = 0 ∨ b = 1) (ho : orig.length = 96) (hO : O.length = 96) (hl : image.length ≤ 96) (h9 : 9 ≤ image.length)
    (hV : ImageVersion O = V) (hov : ImageVersion orig ≤ V) (hv : ImageVersion (full image) = v) (hn : 0 ≤ n) (hp : 0 ≤ part) :
    FlashOk (RunUpdate (⟨bk b orig O⟩ : SFlash) (ups (b : Int) image) n part) = true ∧
    (n < ((c8 image.length + 1 : Nat) : Int) → BootVersion (RunUpdate (⟨bk b orig O⟩ : SFlash) (ups (b : Int) image) n part) = V) ∧
    (BootVersion (RunUpdate (⟨bk b orig O⟩ : SFlash) (ups (b : Int) image) n part) = V ∨ BootVersion (RunUpdate (⟨bk b orig O⟩ : SFlash) (ups (b : Int) image) n part) = maxI V v) ∧
    (((c8 image.length + 2 : Nat) : Int) ≤ n → BootVersion (RunUpdate (⟨bk b orig O⟩ : SFlash) (ups (b : Int) image) n part) = maxI V v) := by
  have hVge := iv_ge O
  rw [hV] at hVge
  have hL : len (ups (b : Int) image) = ((c8 image.length + 2 : Nat) : Int) := by simp only [len, ups_len]
  have low : ∀ x : Int, x ≤ V → maxI V x = V := fun x h => by unfold maxI; split <;> omega
  unfold RunUpdate
  rw [decide_eq_false (show ¬ n < 0 by omega), decide_eq_false (show ¬ part < 0 by omega), hL]
  simp only [cond_false]
  by_cases hc : n < ((c8 image.length + 2 : Nat) : Int)
  · rw [decide_eq_true hc, cond_true]
    have em : ruM (ups (b : Int) image) n = n.toNat := by unfold ruM; rw [ups_len]; omega
    rw [em, run_state hb ho hO hl h9 n.toNat (by omega)]
    have hX := XX_len n.toNat ho hl h9 (image := image) (orig := orig)
    obtain ⟨m, rfl⟩ := Int.eq_ofNat_of_zero_le hn
    rw [Int.toNat_natCast] at hX ⊢
    rcases Nat.eq_zero_or_pos m with rfl | h0
    · rw [ups_0, show SFlashStep.decAt [.int 0, .int (b : Int), .int 0, .str []] 0 = (⟨0, (b : Int), 0, []⟩ : SFlashStep) from rfl, bk_step hb hX hO (ok_0 hb) rfl hp]
      have hlen : (bankOf (⟨0, (b : Int), 0, []⟩ : SFlashStep) part (XX image orig 0)).length = 96 := by rw [bankOf_len]; exact hX
      have hiv : ImageVersion (bankOf (⟨0, (b : Int), 0, []⟩ : SFlashStep) part (XX image orig 0)) ≤ V := by
        rw [erase_bank hX hp]
        rcases Nat.eq_zero_or_pos (minI part 96).toNat with h1 | h1
        · rw [h1]
          exact hov
        · rw [iv_first]
          · exact hVge
          · obtain ⟨q, hq⟩ : ∃ q, (minI part 96).toNat = q + 1 := ⟨(minI part 96).toNat - 1, by omega⟩
            rw [hq]
            rfl
      rw [bk_boot hlen hO, hV, low _ hiv]
      exact ⟨bk_ok hlen hO, fun _ => rfl, .inl rfl, fun h => by omega⟩
    · by_cases hk : m ≤ c8 image.length
      · have h8 : 8 * m < image.length := by unfold c8 at hk; omega
        rw [ups_k h0 hk, bk_step hb hX hO (ok_k hb hl h8) rfl hp]
        have e1 : XX image orig m = mid image (8 * m) := by
          unfold XX
          rw [if_neg (by omega), if_pos (by omega), Nat.min_eq_left (by omega)]
        have hlen : (bankOf (SFlashStep.decAt (chunk (b : Int) image m) 0) part (XX image orig m)).length = 96 := by rw [bankOf_len]; exact hX
        have hiv : ImageVersion (bankOf (SFlashStep.decAt (chunk (b : Int) image m) 0) part (XX image orig m)) = -1 := by
          refine iv_first ?_
          rw [e1]
          refine (wr_below (8 * (m : Int)).toNat _ (j := 0) (by omega) _ 0 _).trans ?_
          exact mid_blank (j := 0) (by omega)
        rw [bk_boot hlen hO, hV, hiv, low _ hVge]
        exact ⟨bk_ok hlen hO, fun _ => rfl, .inl rfl, fun h => by omega⟩
      · have hm : m = c8 image.length + 1 := by omega
        subst hm
        rw [ups_last, bk_step hb hX hO (ok_h hb (by omega)) rfl hp]
        have e1 : XX image orig (c8 image.length + 1) = mid image image.length := by
          unfold XX
          rw [if_neg (by omega), if_pos (by omega), Nat.min_eq_right (by unfold c8; omega)]
        have hlen : (bankOf (SFlashStep.decAt [.int 1, .int (b : Int), .int 0, .str (subH image 8)] 0) part (XX image orig (c8 image.length + 1))).length = 96 := by rw [bankOf_len]; exact hX
        refine ⟨bk_ok hlen hO, fun h => by omega, ?_, fun h => by omega⟩
        rw [bk_boot hlen hO, hV]
        rw [e1, head_bank hl (by omega) hp] at hlen ⊢
        have hm1 : (minI part 8).toNat ≤ 8 := by unfold minI; split <;> omega
        generalize (minI part 8).toNat = q at hm1 hlen ⊢
        rcases Nat.eq_zero_or_pos q with rfl | hq0
        · refine .inl ?_
          rw [iv_first, low _ hVge]
          exact mid_blank (j := 0) (by omega)
        · by_cases hq8 : q < 8
          · refine .inl ?_
            rw [iv_seven hlen, low _ hVge]
            have hml := mid_len (image := image) (p := image.length) (by omega) (Nat.le_refl _) hl
            have e7 : sAt ((image.take 8).take q ++ (mid image image.length).drop q) 7 = sAt (mid image image.length) 7 := by
              simp only [sAt, List.getD_eq_getElem?_getD]
              rw [List.getElem?_append_right (by simp; omega), List.getElem?_drop]
              simp only [List.length_take]
              rw [show min q (min 8 image.length) = q by omega, show q + (Int.toNat 7 - q) = Int.toNat 7 by (have : Int.toNat 7 = 7 := rfl); omega]
            rw [e7]
            exact mid_blank (j := 7) (by omega)
          · have : q = 8 := by omega
            subst this
            rw [head_full hl (by omega), hv]
            exact .inr rfl
  · rw [decide_eq_false hc, cond_false]
    have em : ruM (ups (b : Int) image) n = c8 image.length + 2 := by unfold ruM; rw [ups_len]; omega
    rw [em, run_state hb ho hO hl h9 _ (Nat.le_refl _)]
    have e2 : XX image orig (c8 image.length + 2) = full image := by
      unfold XX
      rw [if_neg (by omega), if_neg (by omega)]
    rw [e2, bk_boot (full_len hl) hO, hV, hv]
    exact ⟨bk_ok (full_len hl) hO, fun h => by omega, .inr rfl, fun _ => rfl⟩

def laws_FnAlwaysBoots_t {α : Type} (bad : α) (k_ : Bool → α) (code : Rows) : α :=
  let z0 : Rows := UpdateSteps ((DrawUpdate code).1) ((DrawUpdate code).2.1)
  let z1 : Int := len z0
  let z2 : SFlash := RunUpdate ((DrawUpdate code).1) z0 ((DrawUpdate code).2.2.1) ((DrawUpdate code).2.2.2)
  let z3 : Int := maxI (BootVersion ((DrawUpdate code).1)) (ImageVersion ((DrawUpdate code).2.1))
  let z4 : Int := BootVersion z2
  let z5 : Bool := z4 == (BootVersion ((DrawUpdate code).1))
  bif big code then k_ true
  else bif andt true (RunUpdate_ok ((DrawUpdate code).1) z0 ((DrawUpdate code).2.2.1) ((DrawUpdate code).2.2.2)) then
      bif andt true (RunUpdate_ok ((DrawUpdate code).1) z0 z1 0) then
        bif bif !(FlashOk z2) then true else bif z1 == 0 then true else (BootVersion (RunUpdate ((DrawUpdate code).1) z0 z1 0)) != z3 then k_ false
        else bif decide ((DrawUpdate code).2.2.1 < w64 (z1 - 1)) then k_ z5
        else k_ (bif z5 then true else z4 == z3)
      else bad
    else bad
theorem laws_FnAlwaysBoots_c {α : Type} (bad : α) (k_ : Bool → α) (code : Rows) (h_code : WtC (.sl [.int .u8]) (.sl code)) (hok : fitL ((.sl [.int .u8]) :: ([])) (.sl code :: ([])) = true) : laws_FnAlwaysBoots_t bad k_ code = k_ true := by
  unfold laws_FnAlwaysBoots_t
  cases big code
  · have hF : ∃ s0 s1 : Bytes, (DrawUpdate code).1 = (⟨[[.str s0], [.str s1]]⟩ : SFlash) ∧ s0.length = 96 ∧ s1.length = 96 := ⟨(fb (l01New code)).1, (fb (fb (l01New code)).2).1, rfl, fb_len _, fb_len _⟩
    have hI : ∃ (v : Int) (body : Bytes), (DrawUpdate code).2.1 = imgS v body ∧ 0 ≤ v ∧ v ≤ 1000000 ∧ len body ≤ 39 := ⟨_, _, l36Image_eq (duF code).2, (im_v _).1, (im_v _).2, imT_len _⟩
    have hn : 0 ≤ (DrawUpdate code).2.2.1 := (l01Below_range (duI code).2 12).1
    have hp : 0 ≤ (DrawUpdate code).2.2.2 := (l01Below_range (l01Below (duI code).2 12).2 12).1
    generalize DrawUpdate code = D at *
    obtain ⟨F, I, n, part⟩ := D
    simp only at hF hI hn hp ⊢
    obtain ⟨s0, s1, rfl, h0, h1⟩ := hF
    obtain ⟨v, body, rfl, v0, v1, hb⟩ := hI
    have hb84 : len body ≤ 84 := by omega
    have hL := imgS_len v0 v1 hb84
    have hl : (imgS v body).length ≤ 96 := by simp only [len] at hb; omega
    have h9 : 9 ≤ (imgS v body).length := by omega
    have hfull : ImageVersion (full (imgS v body)) = v := img_version v0 v1 hb84
    have hiv : ImageVersion (imgS v body) = v := by
      have := img_version (r := []) v0 v1 hb84
      rwa [List.append_nil] at this
    have hf : FlashOk (⟨[[.str s0], [.str s1]]⟩ : SFlash) = true := bk_ok (b := 0) h0 h1
    generalize imgS v body = image at hL hl h9 hfull hiv ⊢
    rw [ups_eq hf hl (by omega)]
    obtain ⟨X, O, eF, hX, hO, hV, hXV⟩ := bnk_split h0 h1
    have hb01 := bnk_01 (⟨[[.str s0], [.str s1]]⟩ : SFlash)
    generalize bnk (⟨[[.str s0], [.str s1]]⟩ : SFlash) = b at eF hb01 ⊢
    rw [hV]
    generalize (⟨[[.str s0], [.str s1]]⟩ : SFlash) = F at eF hV hf ⊢
    subst eF
    have ok1 : ∀ (s : Rows) (m p : Int), RunUpdate_ok (⟨bk b X O⟩ : SFlash) s m p = true := fun _ _ _ => by
      show sm (bk b X O) = true
      unfold bk
      split <;> rfl
    have e1 : len (ups (b : Int) image) = ((c8 image.length + 2 : Nat) : Int) := by simp only [len, ups_len]
    obtain ⟨r1, r2, r3, _⟩ := run_end (b := b) (image := image) (orig := X) (O := O) (V := ImageVersion O) (v := v) hb01 hX hO hl h9 rfl hXV hfull hn hp
    obtain ⟨_, _, _, q4⟩ := run_end (b := b) (image := image) (orig := X) (O := O) (V := ImageVersion O) (v := v) (n := ((c8 image.length + 2 : Nat) : Int)) (part := 0) hb01 hX hO hl h9 rfl hXV hfull (by omega) (by omega)
    have q := q4 (Int.le_refl _)
    have hc : c8 image.length ≤ 100 := by unfold c8; omega
    have ew : w64 (((c8 image.length + 2 : Nat) : Int) - 1) = ((c8 image.length + 1 : Nat) : Int) := by rw [w64_in (by omega) (by omega)]; omega
    have ez : (((c8 image.length + 2 : Nat) : Int) == 0) = false := by simp only [beq_eq_false_iff_ne, ne_eq]; omega
    simp only [ok1, e1, r1, q, hiv, ew, ez, bne_self_eq_false, Bool.not_true, andt_true_l, cond_true, cond_false]
    by_cases hd : n < ((c8 image.length + 1 : Nat) : Int)
    · rw [decide_eq_true hd, cond_true, r2 hd]
      simp
    · rw [decide_eq_false hd, cond_false]
      rcases r3 with h | h <;> rw [h]
      · simp
      · rw [beq_self_eq_true]
        cases (maxI (ImageVersion O) v == ImageVersion O) <;> rfl
  · rfl

end
end Go.Proofs.Ytjknoknkbfhelaa.Pl
