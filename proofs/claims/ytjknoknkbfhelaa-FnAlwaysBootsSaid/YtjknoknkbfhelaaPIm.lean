/- What functions of the program compute, in plain Lean, as the value machine runs them. Conditions: none. -/
import Derived.Test.YtjknoknkbfhelaaPFc
import Derived.Test.YtjknoknkbfhelaaPCu
import Derived.Test.YtjknoknkbfhelaaPCl
set_option linter.unusedVariables false
set_option linter.unusedSimpArgs false
namespace Go.Proofs.Ytjknoknkbfhelaa.Pl
open Vm
noncomputable section


def spec_l02Data_t {α : Type} (bad : α) (k_ : Bytes → Sl01Cur → α) (c : Sl01Cur) : α :=
  let z0 : Int × Sl01Cur := l01Below ((l01Once c 4).2) 12
  let z1 : Int × Sl01Cur := l01Below z0.2 2
  let z2 : Int := IntKind.wrap .u8 (w64 (255 * z1.1))
  let z3 : Int × Sl01Cur := l01Below ((l01Once c 4).2) 30
  let z4 : Bytes × Sl01Cur := l01Text z3.2 z3.1
  bif andt true (curOk1 c 4) then
    bif (l01Once c 4).1 then
      bif andt (andt (andt true (curOk1 ((l01Once c 4).2) 12)) (curOk1 z0.2 2)) (l01Long_ok z0.1 z2) then
        k_ (l01Long z0.1 z2) z1.2
      else bad
    else bif andt (andt true (curOk1 ((l01Once c 4).2) 30)) (curOk1 z3.2 z3.1) then
        k_ z4.1 z4.2
      else bad
  else bad
def l02Data (c : Sl01Cur) : Bytes × Sl01Cur :=
  bif (l01Once c 4).1 then (l01Long (l01Below (l01Once c 4).2 12).1 (IntKind.wrap .u8 (w64 (255 * (l01Below (l01Below (l01Once c 4).2 12).2 2).1))), (l01Below (l01Below (l01Once c 4).2 12).2 2).2)
  else l01Text (l01Below (l01Once c 4).2 30).2 (l01Below (l01Once c 4).2 30).1
theorem l02Data_len (c : Sl01Cur) : len (l02Data c).1 ≤ 29 := by
  have a := l01Below_range (l01Once c 4).2 12
  have b := l01Below_range (l01Once c 4).2 30
  have a2 := a.2 (by omega)
  have b2 := b.2 (by omega)
  unfold l02Data
  cases (l01Once c 4).1
  · simp only [cond_false]
    rw [l01Text_len _ b.1 (by omega)]
    omega
  · simp only [cond_true, l01Long, len, List.length_replicate]
    omega
theorem spec_l02Data_c {α : Type} (bad : α) (k_ : Bytes → Sl01Cur → α) (c : Sl01Cur) (h_c : WtL Sl01Cur.ct c.enc) (hok : curOk c = true) : spec_l02Data_t bad k_ c = k_ (l02Data c).1 (l02Data c).2 := by
  have h1 := l01Once_cur hok 4
  have o0 : curOk1 c 4 = true := hok
  have o1 : curOk1 (l01Once c 4).2 12 = true := h1
  have o2 : curOk1 (l01Below (l01Once c 4).2 12).2 2 = true := l01Below_cur h1 12
  have o3 : curOk1 (l01Once c 4).2 30 = true := h1
  have o4 : ∀ n, curOk1 (l01Below (l01Once c 4).2 30).2 n = true := fun n => l01Below_cur h1 30
  have a := l01Below_range (l01Once c 4).2 12
  have a2 := a.2 (by omega)
  have o5 : ∀ x, l01Long_ok (l01Below (l01Once c 4).2 12).1 x = true := fun x => between_iff.2 (by omega)
  unfold spec_l02Data_t l02Data
  simp only [o0, o1, o2, o3, o4, o5, andt_true_l, andt_true_r, cond_true]
  exact cond_k (K := fun r : Bytes × Sl01Cur => k_ r.1 r.2) rfl rfl

def spec_DrawData_t {α : Type} (bad : α) (k_ : Bytes → α) (code : Rows) : α :=
  bif andt true (curOk (l01New code)) then
    k_ ((l02Data (l01New code)).1)
  else bad
def DrawData (code : Rows) : Bytes := (l02Data (l01New code)).1
theorem spec_DrawData_c {α : Type} (bad : α) (k_ : Bytes → α) (code : Rows) (h_code : WtC (.sl [.int .u8]) (.sl code)) : spec_DrawData_t bad k_ code = k_ (DrawData code) := by
  have h := l01New_ok (wt_sl h_code).1
  unfold spec_DrawData_t DrawData
  simp only [h, andt_true_l, cond_true]


theorem xor_u32 {a b : Nat} (ha : a < 2 ^ 32) (hb : b < 2 ^ 32) : bits .xor .u32 (a : Int) (b : Int) = ((a ^^^ b : Nat) : Int) := xor_nat .u32 32 (by decide) wraps_u32 a b ha hb
theorem and1_u32 {a : Nat} (ha : a < 2 ^ 32) : bits .and .u32 (a : Int) 1 = ((a % 2 : Nat) : Int) := by
  have h2 := bits_mask .u32 32 (by decide) wraps_u32 1 (by decide) (a : Int) (by omega) (by omega)
  simp only [show (2 : Int) ^ 1 - 1 = 1 from rfl] at h2
  rw [h2]
  omega
def cb (x : Nat) : Nat := bif x % 2 == 1 then (x / 2) ^^^ 3988292384 else x / 2
theorem crcBit_nat {x : Nat} (h : x < 2 ^ 32) : crcBit (x : Int) = ((cb x : Nat) : Int) := by
  unfold crcBit cb
  rw [and1_u32 h, shr1_u32]
  have e : ((x : Int) / 2) = ((x / 2 : Nat) : Int) := by omega
  rw [e]
  rcases Nat.mod_two_eq_zero_or_one x with h2 | h2
  · rw [h2]
    rfl
  · rw [h2]
    show bits .xor .u32 ((x / 2 : Nat) : Int) ((3988292384 : Nat) : Int) = _
    rw [xor_u32 (by omega) (by decide)]
    rfl
theorem top_bit {y : Nat} (h : y < 2 ^ 31) : Nat.testBit y 31 = false := Nat.testBit_lt_two_pow h
theorem xor_cancel_r {a b k : Nat} (h : a ^^^ k = b ^^^ k) : a = b := by
  have h2 : (a ^^^ k) ^^^ k = (b ^^^ k) ^^^ k := by rw [h]
  rwa [Nat.xor_assoc, Nat.xor_assoc, Nat.xor_self, Nat.xor_zero, Nat.xor_zero] at h2
theorem xor_cancel_l {a b k : Nat} (h : k ^^^ a = k ^^^ b) : a = b := by
  rw [Nat.xor_comm k a, Nat.xor_comm k b] at h
  exact xor_cancel_r h
theorem cb_inj {x y : Nat} (hx : x < 2 ^ 32) (hy : y < 2 ^ 32) (h : cb x = cb y) : x = y := by
  have tx : Nat.testBit (x / 2) 31 = false := top_bit (by omega)
  have ty : Nat.testBit (y / 2) 31 = false := top_bit (by omega)
  have tp : Nat.testBit 3988292384 31 = true := by decide
  unfold cb at h
  rcases Nat.mod_two_eq_zero_or_one x with h1 | h1 <;> rcases Nat.mod_two_eq_zero_or_one y with h2 | h2 <;> rw [h1, h2] at h
  · have : x / 2 = y / 2 := h
    omega
  · have h : x / 2 = (y / 2) ^^^ 3988292384 := h
    rw [h, Nat.testBit_xor, ty, tp] at tx
    cases tx
  · have h : (x / 2) ^^^ 3988292384 = y / 2 := h
    rw [← h, Nat.testBit_xor, tx, tp] at ty
    cases ty
  · have h : (x / 2) ^^^ 3988292384 = (y / 2) ^^^ 3988292384 := h
    have : x / 2 = y / 2 := xor_cancel_r h
    omega
theorem u32_nat {c : Int} (h : U32 c) : ∃ x : Nat, c = (x : Int) ∧ x < 2 ^ 32 := by
  obtain ⟨h1, h2⟩ := h
  exact ⟨c.toNat, by omega, by omega⟩
theorem crcBit_inj {a b : Int} (ha : U32 a) (hb : U32 b) (h : crcBit a = crcBit b) : a = b := by
  obtain ⟨x, rfl, hx⟩ := u32_nat ha
  obtain ⟨y, rfl, hy⟩ := u32_nat hb
  rw [crcBit_nat hx, crcBit_nat hy] at h
  have : cb x = cb y := by omega
  rw [cb_inj hx hy this]
theorem itN_inj {f : Nat → Int → Int} (hu : ∀ i c, U32 c → U32 (f i c)) (hf : ∀ i a b, U32 a → U32 b → f i a = f i b → a = b) : ∀ (m i : Nat) (a b : Int), U32 a → U32 b → itN f m i a = itN f m i b → a = b
  | 0, _, _, _, _, _, h => h
  | m + 1, i, a, b, ha, hb, h => hf i a b ha hb (itN_inj hu hf m (i + 1) _ _ (hu i a ha) (hu i b hb) h)
theorem xor_byte_inj {a b : Int} {k l : Int} (ha : U32 a) (hb : U32 b) (hk : 0 ≤ k ∧ k ≤ 255) (hl : 0 ≤ l ∧ l ≤ 255) (h : bits .xor .u32 a k = bits .xor .u32 b l) : (k = l → a = b) ∧ (a = b → k = l) := by
  obtain ⟨x, rfl, hx⟩ := u32_nat ha
  obtain ⟨y, rfl, hy⟩ := u32_nat hb
  obtain ⟨k, rfl⟩ := Int.eq_ofNat_of_zero_le hk.1
  obtain ⟨l, rfl⟩ := Int.eq_ofNat_of_zero_le hl.1
  rw [xor_u32 hx (by omega), xor_u32 hy (by omega)] at h
  have h : x ^^^ k = y ^^^ l := by omega
  constructor
  · intro e
    have e : k = l := by omega
    rw [e] at h
    rw [xor_cancel_r h]
  · intro e
    have e : x = y := by omega
    rw [e] at h
    rw [xor_cancel_l h]
theorem crcByte_inj {s t : Bytes} {i : Nat} {a b : Int} (ha : U32 a) (hb : U32 b) (h : crcByte s i a = crcByte t i b) : (sAt s i = sAt t i → a = b) ∧ (a = b → sAt s i = sAt t i) := by
  have b0 := sAt_lo s i
  have c0 := sAt_hi s i
  have b1 := sAt_lo t i
  have c1 := sAt_hi t i
  unfold crcByte at h
  have h := itN_inj (f := fun _ c => crcBit c) (fun _ c hc => crcBit_u32 hc) (fun _ a b ha hb h => crcBit_inj ha hb h) 8 0 (bits .xor .u32 a (sAt s i)) (bits .xor .u32 b (sAt t i)) (xor_both ha.1 ha.2 b0 (by omega)).2 (xor_both hb.1 hb.2 b1 (by omega)).2 h
  exact xor_byte_inj ha hb ⟨b0, by omega⟩ ⟨b1, by omega⟩ h
theorem itN_split {σ : Type} (f : Nat → σ → σ) : ∀ (a b i : Nat) (s : σ), itN f (a + b) i s = itN f b (i + a) (itN f a i s)
  | 0, b, i, s => by simp [itN]
  | a + 1, b, i, s => by
    rw [show a + 1 + b = (a + b) + 1 by omega, itN, itN, itN_split f a b (i + 1)]
    rw [show i + 1 + a = i + (a + 1) by omega]
theorem itN_congr {σ : Type} {f g : Nat → σ → σ} : ∀ (m i : Nat) (s : σ), (∀ j s, i ≤ j → j < i + m → f j s = g j s) → itN f m i s = itN g m i s
  | 0, _, _, _ => rfl
  | m + 1, i, s, h => by
    rw [itN, itN, h i s (by omega) (by omega)]
    exact itN_congr m (i + 1) _ (fun j s h1 h2 => h j s (by omega) (by omega))
/-- One byte that differs: the checksums differ. -/
theorem crc_diff {s t : Bytes} {z : Nat} (hl : s.length = t.length) (hz : z < s.length) (hs : ∀ i : Nat, i ≠ z → sAt s i = sAt t i) (hd : sAt s z ≠ sAt t z) : Crc32 s ≠ Crc32 t := by
  intro h
  unfold Crc32 at h
  have h : itN (crcByte s) s.length 0 4294967295 = itN (crcByte t) t.length 0 4294967295 := by omega
  rw [← hl, show s.length = z + (1 + (s.length - z - 1)) by omega, itN_split (crcByte s) z, itN_split (crcByte t) z] at h
  have hI : U32 (4294967295 : Int) := ⟨by decide, by decide⟩
  have e0 : itN (crcByte s) z 0 4294967295 = itN (crcByte t) z 0 4294967295 := itN_congr (f := crcByte s) (g := crcByte t) z 0 4294967295 (fun j c _ h2 => by unfold crcByte; rw [hs j (by omega)])
  rw [← e0] at h
  have hc : U32 (itN (crcByte s) z 0 4294967295) := itN_inv (I := U32) (B := z) (fun _ c _ h => crcByte_u32 h) z 0 _ (by omega) hI
  generalize itN (crcByte s) z 0 4294967295 = c at h hc
  rw [itN_split (crcByte s) 1, itN_split (crcByte t) 1] at h
  have e1 : ∀ x, itN (crcByte t) (s.length - z - 1) (0 + z + 1) x = itN (crcByte s) (s.length - z - 1) (0 + z + 1) x := fun x => itN_congr (f := crcByte t) (g := crcByte s) _ _ x (fun j c h1 _ => by unfold crcByte; rw [hs j (by omega)])
  rw [e1] at h
  simp only [itN, Nat.zero_add] at h
  have h2 : crcByte s z c = crcByte t z c := itN_inj (f := crcByte s) (fun i c hc => crcByte_u32 hc) (fun i a b ha hb h => (crcByte_inj ha hb h).1 rfl) (s.length - z - 1) (z + 1) (crcByte s z c) (crcByte t z c) (crcByte_u32 hc) (crcByte_u32 hc) h
  exact hd ((crcByte_inj hc hc h2).2 rfl)


def b8 (x : Int) : UInt8 := UInt8.ofNat x.toNat
theorem b8_nat {x : Int} (h0 : 0 ≤ x) (h1 : x ≤ 255) : ((b8 x).toNat : Int) = x := by
  have : (UInt8.ofNat x.toNat).toNat = x.toNat := by rw [UInt8.toNat_ofNat']; omega
  unfold b8
  rw [this]
  omega
theorem Word32_eq {v : Int} (h0 : 0 ≤ v) (h1 : v ≤ 4294967295) : Word32 v = [b8 (v / 16777216 % 256), b8 (v / 65536 % 256), b8 (v / 256 % 256), b8 (v % 256)] := by
  unfold Word32 impl_Word32_t
  rw [show between v 0 4294967295 = true from between_iff.2 ⟨h0, h1⟩]
  have e24 : shrI .i64 v 24 = v / 16777216 := by simp [shrI, IntKind.bits, Int.fdiv_eq_ediv]
  have e16 : shrI .i64 v 16 = v / 65536 := by simp [shrI, IntKind.bits, Int.fdiv_eq_ediv]
  have e8 : shrI .i64 v 8 = v / 256 := by simp [shrI, IntKind.bits, Int.fdiv_eq_ediv]
  rw [e24, e16, e8]
  simp only [IntKind.wrap_u8, Bool.not_true, cond_false, id]
  rfl
theorem Word32_four {v : Int} (h0 : 0 ≤ v) (h1 : v ≤ 4294967295) : (Word32 v).length = 4 := by rw [Word32_eq h0 h1]; rfl
theorem Word32_inj {v w : Int} (h0 : 0 ≤ v) (h1 : v ≤ 4294967295) (g0 : 0 ≤ w) (g1 : w ≤ 4294967295) (h : Word32 v = Word32 w) : v = w := by
  rw [Word32_eq h0 h1, Word32_eq g0 g1] at h
  simp only [List.cons.injEq, and_true] at h
  obtain ⟨a, b, c, d⟩ := h
  have n : ∀ x y : Int, 0 ≤ x → x ≤ 255 → 0 ≤ y → y ≤ 255 → b8 x = b8 y → x = y := by
    intro x y hx hx' hy hy' e
    have e1 := b8_nat hx hx'
    have e2 := b8_nat hy hy'
    rw [e] at e1
    omega
  have a := n _ _ (by omega) (by omega) (by omega) (by omega) a
  have b := n _ _ (by omega) (by omega) (by omega) (by omega) b
  have c := n _ _ (by omega) (by omega) (by omega) (by omega) c
  have d := n _ _ (by omega) (by omega) (by omega) (by omega) d
  omega
theorem sAt_app {a b : Bytes} {j : Nat} : sAt (a ++ b) ((a.length + j : Nat) : Int) = sAt b (j : Int) := by
  simp only [sAt, Int.toNat_natCast, List.getD_eq_getElem?_getD]
  rw [List.getElem?_append_right (by omega)]
  simp
/-- Four bytes that are a number's. -/
theorem Get32_word {a r : Bytes} {v : Int} (h0 : 0 ≤ v) (h1 : v ≤ 4294967295) : Get32 (a ++ (Word32 v ++ r)) (a.length : Int) = v := by
  have hW := Word32_eq h0 h1
  have hl : len (a ++ (Word32 v ++ r)) = (a.length : Int) + 4 + (r.length : Int) := by
    simp only [len, List.length_append, Word32_four h0 h1]
    omega
  have key : ∀ j : Nat, sAt (a ++ (Word32 v ++ r)) ((a.length : Int) + (j : Int)) = sAt (Word32 v ++ r) (j : Int) := by
    intro j
    rw [show (a.length : Int) + (j : Int) = ((a.length + j : Nat) : Int) by omega]
    exact sAt_app
  have k0 := key 0
  have k1 := key 1
  have k2 := key 2
  have k3 := key 3
  rw [hW] at k0 k1 k2 k3
  have s0 : sAt ([b8 (v / 16777216 % 256), b8 (v / 65536 % 256), b8 (v / 256 % 256), b8 (v % 256)] ++ r) ((0 : Nat) : Int) = v / 16777216 % 256 := b8_nat (by omega) (by omega)
  have s1 : sAt ([b8 (v / 16777216 % 256), b8 (v / 65536 % 256), b8 (v / 256 % 256), b8 (v % 256)] ++ r) ((1 : Nat) : Int) = v / 65536 % 256 := b8_nat (by omega) (by omega)
  have s2 : sAt ([b8 (v / 16777216 % 256), b8 (v / 65536 % 256), b8 (v / 256 % 256), b8 (v % 256)] ++ r) ((2 : Nat) : Int) = v / 256 % 256 := b8_nat (by omega) (by omega)
  have s3 : sAt ([b8 (v / 16777216 % 256), b8 (v / 65536 % 256), b8 (v / 256 % 256), b8 (v % 256)] ++ r) ((3 : Nat) : Int) = v % 256 := b8_nat (by omega) (by omega)
  rw [s0] at k0
  rw [s1] at k1
  rw [s2] at k2
  rw [s3] at k3
  rw [← hW] at k0 k1 k2 k3
  have k0 : sAt (a ++ (Word32 v ++ r)) (a.length : Int) = v / 16777216 % 256 := by simpa using k0
  have k1 : sAt (a ++ (Word32 v ++ r)) ((a.length : Int) + 1) = v / 65536 % 256 := k1
  have k2 : sAt (a ++ (Word32 v ++ r)) ((a.length : Int) + 2) = v / 256 % 256 := k2
  have k3 : sAt (a ++ (Word32 v ++ r)) ((a.length : Int) + 3) = v % 256 := k3
  unfold Get32
  rw [decide_eq_false (show ¬ (a.length : Int) < 0 by omega), hl, decide_eq_false (show ¬ ((a.length : Int) + 4 + (r.length : Int)) < (a.length : Int) + 4 by omega)]
  simp only [cond_false, k0, k1, k2, k3]
  omega
theorem crc_range (s : Bytes) : 0 ≤ Crc32 s ∧ Crc32 s ≤ 4294967295 := by
  have := crc_u32 s
  unfold Crc32
  obtain ⟨h1, h2⟩ := this
  omega
def imgP (v : Int) (body : Bytes) : Bytes := Word32 v ++ (Word32 (len body) ++ body)
def imgS (v : Int) (body : Bytes) : Bytes := imgP v body ++ Word32 (Crc32 (imgP v body))
theorem make_eq {v : Int} {body : Bytes} (h0 : 0 ≤ v) (h1 : v ≤ 1000000) (hb : len body ≤ 84) : MakeImage v body = (imgS v body, true) := by
  rw [MakeImage_eq]
  unfold MakeImage0
  rw [show between v 0 1000000 = true from between_iff.2 ⟨h0, h1⟩, decide_eq_false (by omega)]
  simp only [Bool.not_true, cond_false, imgS, imgP, List.append_assoc]
theorem make_inv {v : Int} {body : Bytes} (h : (MakeImage v body).2 = true) : (0 ≤ v ∧ v ≤ 1000000) ∧ len body ≤ 84 := by
  rw [MakeImage_eq] at h
  unfold MakeImage0 at h
  cases hb : between v 0 1000000
  · rw [hb] at h; cases h
  · rw [hb] at h
    by_cases h2 : 84 < len body
    · rw [decide_eq_true h2] at h; cases h
    · exact ⟨between_iff.1 hb, by omega⟩
theorem imgP_len {v : Int} {body : Bytes} (h0 : 0 ≤ v) (h1 : v ≤ 1000000) (hb : len body ≤ 84) : (imgP v body).length = 8 + body.length := by
  have hl0 : 0 ≤ len body := by simp [len]
  simp only [imgP, List.length_append, Word32_four h0 (show v ≤ 4294967295 by omega), Word32_four hl0 (show len body ≤ 4294967295 by omega)]
  omega
theorem imgS_len {v : Int} {body : Bytes} (h0 : 0 ≤ v) (h1 : v ≤ 1000000) (hb : len body ≤ 84) : (imgS v body).length = 12 + body.length := by
  have hc := crc_range (imgP v body)
  simp only [imgS, List.length_append, imgP_len h0 h1 hb, Word32_four hc.1 hc.2]
  omega
theorem img_get0 {v : Int} {body r : Bytes} (h0 : 0 ≤ v) (h1 : v ≤ 1000000) : Get32 (imgS v body ++ r) 0 = v := by
  have := Get32_word (a := []) (r := (Word32 (len body) ++ body) ++ (Word32 (Crc32 (imgP v body)) ++ r)) h0 (show v ≤ 4294967295 by omega)
  have e : imgS v body ++ r = [] ++ (Word32 v ++ ((Word32 (len body) ++ body) ++ (Word32 (Crc32 (imgP v body)) ++ r))) := by
    simp only [imgS, List.nil_append]
    rw [show imgP v body = Word32 v ++ (Word32 (len body) ++ body) from rfl]
    simp only [List.append_assoc]
  rw [e]
  exact this
theorem img_get4 {v : Int} {body r : Bytes} (h0 : 0 ≤ v) (h1 : v ≤ 1000000) (hb : len body ≤ 84) : Get32 (imgS v body ++ r) 4 = len body := by
  have hl0 : 0 ≤ len body := by simp [len]
  have := Get32_word (a := Word32 v) (r := body ++ (Word32 (Crc32 (imgP v body)) ++ r)) hl0 (show len body ≤ 4294967295 by omega)
  rw [Word32_four h0 (by omega)] at this
  have e : imgS v body ++ r = Word32 v ++ (Word32 (len body) ++ (body ++ (Word32 (Crc32 (imgP v body)) ++ r))) := by
    simp only [imgS]
    rw [show imgP v body = Word32 v ++ (Word32 (len body) ++ body) from rfl]
    simp only [List.append_assoc]
  rw [e]
  exact this
/-- An image tells its version, whatever follows it. -/
theorem img_version {v : Int} {body r : Bytes} (h0 : 0 ≤ v) (h1 : v ≤ 1000000) (hb : len body ≤ 84) : ImageVersion (imgS v body ++ r) = v := by
  have hl0 : 0 ≤ len body := by simp [len]
  have hP := imgP_len h0 h1 hb
  have hS := imgS_len h0 h1 hb
  have g0 := img_get0 (body := body) (r := r) h0 h1
  have g4 := img_get4 (r := r) h0 h1 hb
  have e1 : subLH (imgS v body ++ r) 8 (8 + len body) = body := by
    have h8 : (Word32 v ++ Word32 (len body)).length = 8 := by simp only [List.length_append, Word32_four h0 (show v ≤ 4294967295 by omega), Word32_four hl0 (show len body ≤ 4294967295 by omega)]
    have e : imgS v body ++ r = (Word32 v ++ Word32 (len body)) ++ (body ++ (Word32 (Crc32 (imgP v body)) ++ r)) := by
      simp only [imgS]
      rw [show imgP v body = Word32 v ++ (Word32 (len body) ++ body) from rfl]
      simp only [List.append_assoc]
    rw [e]
    simp only [subLH]
    rw [show (8 + len body).toNat = 8 + body.length by simp only [len]; omega, show (8 : Int).toNat = (Word32 v ++ Word32 (len body)).length by rw [h8]; rfl, List.drop_take, h8, show 8 + body.length - 8 = body.length by omega]
    rw [← h8, List.drop_left, List.take_left]
  have e2 : subH (imgS v body ++ r) (12 + len body) = imgS v body := by
    simp only [subH, List.drop_zero, len]
    rw [show (12 + (body.length : Int)).toNat = (imgS v body).length by omega, List.take_left]
  have hlen : ¬ len (imgS v body ++ r) < len body + 12 := by simp only [len, List.length_append, hS]; omega
  unfold ImageVersion
  rw [g4, g0, e1, e2, make_eq h0 h1 hb, decide_eq_false (show ¬ len body < 0 by omega), decide_eq_false hlen]
  simp
theorem Get32_congr {s t : Bytes} {a : Int} (h0 : 0 ≤ a) (hs : a + 4 ≤ len s) (ht : a + 4 ≤ len t) (h : ∀ j : Int, a ≤ j → j < a + 4 → sAt s j = sAt t j) : Get32 s a = Get32 t a := by
  unfold Get32
  rw [decide_eq_false (show ¬ a < 0 by omega), decide_eq_false (show ¬ len s < a + 4 by omega), decide_eq_false (show ¬ len t < a + 4 by omega)]
  simp only [cond_false]
  rw [h a (by omega) (by omega), h (a + 1) (by omega) (by omega), h (a + 2) (by omega) (by omega), h (a + 3) (by omega) (by omega)]
theorem img_short {v : Int} {body : Bytes} (h0 : 0 ≤ v) (h1 : v ≤ 1000000) (hb : len body ≤ 84) : ImageVersion (subH (imgS v body) (len (imgS v body) - 1)) = -1 := by
  have hl0 : 0 ≤ len body := by simp [len]
  have hS := imgS_len h0 h1 hb
  have hL : len (imgS v body) = 12 + len body := by simp only [len, hS]; omega
  have hl : len (subH (imgS v body) (len (imgS v body) - 1)) = 11 + len body := by
    simp only [subH, List.drop_zero, len, List.length_take, hS]
    omega
  have g4 := img_get4 (r := []) h0 h1 hb
  rw [List.append_nil] at g4
  have e : Get32 (subH (imgS v body) (len (imgS v body) - 1)) 4 = len body := by
    rw [← g4]
    refine Get32_congr (by omega) (by omega) (by omega) (fun j h2 h3 => ?_)
    simp only [subH, List.drop_zero, sAt, List.getD_eq_getElem?_getD]
    rw [List.getElem?_take_of_lt (by omega)]
  unfold ImageVersion
  rw [e, hl, decide_eq_true (show 11 + len body < len body + 12 by omega)]
  cases decide (len body < 0) <;> rfl
theorem sAt_set_eq {s : Bytes} {z : Nat} {b : UInt8} (h : z < s.length) : sAt (s.set z b) (z : Int) = (b.toNat : Int) := by
  simp only [sAt, Int.toNat_natCast, List.getD_eq_getElem?_getD]
  rw [List.getElem?_set_self h]
  rfl
theorem sAt_set_ne {s : Bytes} {z : Nat} {b : UInt8} {j : Int} (h : j.toNat ≠ z) : sAt (s.set z b) j = sAt s j := by
  simp only [sAt, List.getD_eq_getElem?_getD]
  rw [List.getElem?_set_ne (fun e => h e.symm)]
/-- A byte that was turned, but not one of the length's, is seen. -/
theorem img_bend {v : Int} {body : Bytes} (h0 : 0 ≤ v) (h1 : v ≤ 1000000) (hb : len body ≤ 84) {z : Nat} {b : UInt8} (hz : z < (imgS v body).length) (h48 : z < 4 ∨ 8 ≤ z) (hne : (b.toNat : Int) ≠ sAt (imgS v body) (z : Int)) : ImageVersion ((imgS v body).set z b) = -1 := by
  have hl0 : 0 ≤ len body := by simp [len]
  have hP := imgP_len h0 h1 hb
  have hS := imgS_len h0 h1 hb
  have hL : len ((imgS v body).set z b) = 12 + len body := by simp only [len, List.length_set, hS]; omega
  have hL0 : len (imgS v body) = 12 + len body := by simp only [len, hS]; omega
  have g4 := img_get4 (r := []) h0 h1 hb
  rw [List.append_nil] at g4
  have e4 : Get32 ((imgS v body).set z b) 4 = len body := by
    rw [← g4]
    exact Get32_congr (by omega) (by omega) (by omega) (fun j h2 h3 => sAt_set_ne (by omega))
  obtain ⟨_, _, _, k4⟩ := image_sub (s := (imgS v body).set z b) hl0 (show len body ≤ 4294967295 by omega) (by omega)
  have eH : subH ((imgS v body).set z b) (12 + len body) = (imgS v body).set z b := by
    simp only [subH, List.drop_zero]
    exact List.take_of_length_le (by rw [List.length_set, hS]; simp only [len]; omega)
  have key : (bif !(MakeImage (Get32 ((imgS v body).set z b) 0) (subLH ((imgS v body).set z b) 8 (8 + len body))).2 then true else !((MakeImage (Get32 ((imgS v body).set z b) 0) (subLH ((imgS v body).set z b) 8 (8 + len body))).1 == (imgS v body).set z b)) = true := by
    generalize Get32 ((imgS v body).set z b) 0 = w
    generalize subLH ((imgS v body).set z b) 8 (8 + len body) = B at k4
    cases hm : (MakeImage w B).2
    · rfl
    · obtain ⟨⟨w0, w1⟩, hB⟩ := make_inv hm
      rw [make_eq w0 w1 hB]
      simp only [Bool.not_true, cond_false]
      have hne2 : imgS w B ≠ (imgS v body).set z b := by
        intro e
        have hPB := imgP_len w0 w1 hB
        have hBl : B.length = body.length := by simp only [len] at k4; omega
        have c1 := crc_range (imgP v body)
        have c2 := crc_range (imgP w B)
        unfold imgS at e
        by_cases hzP : z < (imgP v body).length
        · rw [List.set_append_left _ _ hzP] at e
          obtain ⟨e1, e2⟩ := List.append_inj e (by rw [List.length_set]; omega)
          have ec := Word32_inj c2.1 c2.2 c1.1 c1.2 e2
          rw [e1] at ec
          have hsz : sAt (imgS v body) (z : Int) = sAt (imgP v body) (z : Int) := by
            simp only [imgS, sAt, Int.toNat_natCast, List.getD_eq_getElem?_getD]
            rw [List.getElem?_append_left hzP]
          refine crc_diff (s := (imgP v body).set z b) (t := imgP v body) (z := z) (by rw [List.length_set]) (by rw [List.length_set]; exact hzP) (fun i hi => sAt_set_ne (by omega)) ?_ ec
          rw [sAt_set_eq hzP, ← hsz]
          exact hne
        · have hzP : (imgP v body).length ≤ z := by omega
          rw [List.set_append_right _ _ hzP] at e
          obtain ⟨e1, e2⟩ := List.append_inj e (by omega)
          rw [e1] at e2
          have hW : (Word32 (Crc32 (imgP v body))).length = 4 := Word32_four c1.1 c1.2
          have hj : z - (imgP v body).length < (Word32 (Crc32 (imgP v body))).length := by omega
          have := sAt_set_eq (b := b) hj
          rw [← e2] at this
          have hsz : sAt (imgS v body) (z : Int) = sAt (Word32 (Crc32 (imgP v body))) ((z - (imgP v body).length : Nat) : Int) := by
            have := sAt_app (a := imgP v body) (b := Word32 (Crc32 (imgP v body))) (j := z - (imgP v body).length)
            rw [show (imgP v body).length + (z - (imgP v body).length) = z by omega] at this
            exact this
          rw [← hsz] at this
          exact hne this.symm
      rw [show (imgS w B == (imgS v body).set z b) = false by simpa using hne2]
      rfl
  unfold ImageVersion
  rw [e4, hL, decide_eq_false (show ¬ len body < 0 by omega), decide_eq_false (show ¬ 12 + len body < len body + 12 by omega), eH, key]
  rfl

def laws_bend_t {α : Type} (bad : α) (k_ : Bytes → α) (s : Bytes) (i : Int) : α :=
  let z0 : Int := Int.tmod (w64 (Int.tdiv i 8)) (len s)
  let z1 : Bytes := subH s z0
  let z2 : Int := w64 (z0 + 1)
  let z3 : Bytes := z1 ++ (toStr ([[.int (bits .xor .u8 (sAt s z0) (shlI .u8 1 (Int.tmod i 8)))]]))
  let z4 : Bytes := subL s z2
  bif (len s) == 0 then k_ s
  else bif andt true (!((len s) == 0)) then
      bif andt (andt (andt (andt (andt (andt true (okH s z0)) (idx z0 s)) (decide (0 ≤ Int.tmod i 8))) (catOk z1 (toStr ([[.int (bits .xor .u8 (sAt s z0) (shlI .u8 1 (Int.tmod i 8)))]])))) (okL s z2)) (catOk z3 z4) then
        k_ (z3 ++ z4)
      else bad
    else bad
def bendOk (s : Bytes) (i : Int) : Bool := bif decide (0 < s.length) then bif decide (s.length ≤ 1000000) then bif decide (0 ≤ i) then decide (i ≤ 65535) else false else false else false
def bz (s : Bytes) (i : Int) : Nat := (i / 8 % len s).toNat
def bend (s : Bytes) (i : Int) : Bytes := s.set (bz s i) (b8 (bits .xor .u8 (sAt s ((bz s i : Nat) : Int)) (shlI .u8 1 (Int.tmod i 8))))
theorem bendOk_iff {s : Bytes} {i : Int} : bendOk s i = true ↔ 0 < s.length ∧ s.length ≤ 1000000 ∧ 0 ≤ i ∧ i ≤ 65535 := by
  unfold bendOk
  by_cases h1 : 0 < s.length <;> by_cases h2 : s.length ≤ 1000000 <;> by_cases h3 : 0 ≤ i <;> simp [h1, h2, h3]
theorem bz_lt {s : Bytes} {i : Int} (h : 0 < s.length) : bz s i < s.length := by
  have h1 : 0 ≤ i / 8 % len s := Int.emod_nonneg _ (by simp only [len]; omega)
  have h2 : i / 8 % len s < len s := Int.emod_lt_of_pos _ (by simp only [len]; omega)
  unfold bz
  simp only [len] at h1 h2 ⊢
  omega
theorem wraps_u8 (n : Int) (h₀ : 0 ≤ n) (h₁ : n < 2 ^ 8) : IntKind.u8.wrap n = n := by rw [IntKind.wrap_u8]; omega
theorem bend_ne {s : Bytes} {i : Int} (h0 : 0 ≤ i) : ((b8 (bits .xor .u8 (sAt s ((bz s i : Nat) : Int)) (shlI .u8 1 (Int.tmod i 8)))).toNat : Int) ≠ sAt s ((bz s i : Nat) : Int) := by
  have a0 := sAt_lo s ((bz s i : Nat) : Int)
  have a1 := sAt_hi s ((bz s i : Nat) : Int)
  generalize sAt s ((bz s i : Nat) : Int) = a at a0 a1
  have e8 : Int.tmod i 8 = i % 8 := Int.tmod_eq_emod_of_nonneg h0
  have hm : ∃ m : Nat, shlI .u8 1 (Int.tmod i 8) = (m : Int) ∧ 0 < m ∧ m < 2 ^ 8 := by
    rw [e8]
    have : i % 8 = 0 ∨ i % 8 = 1 ∨ i % 8 = 2 ∨ i % 8 = 3 ∨ i % 8 = 4 ∨ i % 8 = 5 ∨ i % 8 = 6 ∨ i % 8 = 7 := by omega
    rcases this with h | h | h | h | h | h | h | h <;> rw [h]
    · exact ⟨1, rfl, by decide, by decide⟩
    · exact ⟨2, rfl, by decide, by decide⟩
    · exact ⟨4, rfl, by decide, by decide⟩
    · exact ⟨8, rfl, by decide, by decide⟩
    · exact ⟨16, rfl, by decide, by decide⟩
    · exact ⟨32, rfl, by decide, by decide⟩
    · exact ⟨64, rfl, by decide, by decide⟩
    · exact ⟨128, rfl, by decide, by decide⟩
  obtain ⟨m, em, m0, m1⟩ := hm
  obtain ⟨x, rfl⟩ := Int.eq_ofNat_of_zero_le a0
  have hx : x < 2 ^ 8 := by omega
  rw [em, xor_nat .u8 8 (by decide) wraps_u8 x m hx m1]
  have hr := Nat.xor_lt_two_pow hx m1
  rw [b8_nat (by omega) (by omega)]
  intro e
  have e : x ^^^ m = x ^^^ 0 := by rw [Nat.xor_zero]; omega
  have := xor_cancel_l e
  omega
theorem laws_bend_c {α : Type} (bad : α) (k_ : Bytes → α) (s : Bytes) (i : Int) (h_s : WtC .str (.str s)) (h_i : WtC (.int .i64) (.int i)) (hok : bendOk s i = true) : laws_bend_t bad k_ s i = k_ (bend s i) := by
  obtain ⟨h1, h2, h3, h4⟩ := bendOk_iff.1 hok
  have hl0 : 0 < len s := by simp only [len]; omega
  have hl1 : len s ≤ 1000000 := by simp only [len]; omega
  have e1 : w64 (Int.tdiv i 8) = i / 8 := by rw [Int.tdiv_eq_ediv_of_nonneg h3]; exact w64_in (by omega) (by omega)
  have e2 : Int.tmod (i / 8) (len s) = ((bz s i : Nat) : Int) := by
    rw [Int.tmod_eq_emod_of_nonneg (by omega)]
    have := Int.emod_nonneg (i / 8) (show len s ≠ 0 by omega)
    unfold bz
    omega
  have hz := bz_lt (i := i) h1
  have hne : ((len s) == 0) = false := by simp only [beq_eq_false_iff_ne, ne_eq]; omega
  have ew : w64 (((bz s i : Nat) : Int) + 1) = ((bz s i + 1 : Nat) : Int) := by rw [w64_in (by omega) (by omega)]; omega
  have g1 : okH s ((bz s i : Nat) : Int) = true := okH_nat (by omega)
  have g2 : okL s ((bz s i + 1 : Nat) : Int) = true := by simp only [okL, Bool.and_eq_true, decide_eq_true_eq]; omega
  have g3 : decide (0 ≤ Int.tmod i 8) = true := decide_eq_true (Int.tmod_nonneg _ h3)
  have s1 : subH s ((bz s i : Nat) : Int) = s.take (bz s i) := by simp [subH]
  have s2 : subL s ((bz s i + 1 : Nat) : Int) = s.drop (bz s i + 1) := by simp [subL]
  have t1 : toStr [[.int (bits .xor .u8 (sAt s ((bz s i : Nat) : Int)) (shlI .u8 1 (Int.tmod i 8)))]] = [b8 (bits .xor .u8 (sAt s ((bz s i : Nat) : Int)) (shlI .u8 1 (Int.tmod i 8)))] := rfl
  have c1 : ∀ b : UInt8, catOk (s.take (bz s i)) [b] = true := fun b => by simp only [catOk, List.length_take, List.length_cons, List.length_nil, decide_eq_true_eq]; omega
  have c2 : ∀ b : UInt8, catOk (s.take (bz s i) ++ [b]) (s.drop (bz s i + 1)) = true := fun b => by simp only [catOk, List.length_append, List.length_take, List.length_drop, List.length_cons, List.length_nil, decide_eq_true_eq]; omega
  unfold laws_bend_t bend
  simp only [e1, e2, hne, ew, g1, g2, g3, s1, s2, t1, c1, c2, idx_nat hz, Bool.not_false, andt_true_l, andt_true_r, cond_true, cond_false]
  rw [List.set_eq_take_append_cons_drop, if_pos hz]
  simp

def laws_FnImages_t {α : Type} (bad : α) (k_ : Bool → α) (code : Rows) : α :=
  let z0 : Int := w64 ((w64 ((cAt code 0) * 256)) + (cAt code 1))
  let z1 : Bytes × Bool := MakeImage z0 (DrawData code)
  let z2 : Bytes := z1.1
  let z3 : Int := len z2
  let z4 : Bool := (ImageVersion (z2 ++ [114, 101, 115, 116])) == z0
  let z5 : Int := w64 ((w64 ((cAt code 2) * 256)) + (cAt code 3))
  let z6 : Int := Int.tmod (w64 (Int.tdiv z5 8)) z3
  let z7 : Int := bif bif decide (4 ≤ z6) then decide (z6 < 8) else false then Int.tmod z5 32 else z5
  let z8 : Bool := (ImageVersion (bend z2 z7)) == (-1)
  let z9 : Int := w64 (z3 - 1)
  let z10 : Bool := (ImageVersion (subH z2 z9)) == (-1)
  let z11 : Bool := andt true (catOk z2 [114, 101, 115, 116])
  let z12 : Bool := andt z11 (bendOk z2 z7)
  let z13 : Bool := andt z12 (okH z2 z9)
  bif big code then k_ true
  else bif andt (andt true (cAt_ok code 0)) (cAt_ok code 1) then
      bif andt true (MakeImage_ok z0 (DrawData code)) then
        bif !z1.2 then k_ (decide (84 < len (DrawData code)))
        else bif andt (andt true (cAt_ok code 2)) (cAt_ok code 3) then
            bif andt true (!(z3 == 0)) then
              bif okm z4 (okm z8 (okm z10 z13 z13) z12) z11 then
                k_ (bif z4 then bif z8 then bif z10 then z3 == (w64 ((len (DrawData code)) + 12)) else false else false else false)
              else bad
            else bad
          else bad
      else bad
    else bad
theorem laws_FnImages_c {α : Type} (bad : α) (k_ : Bool → α) (code : Rows) (h_code : WtC (.sl [.int .u8]) (.sl code)) (hok : fitL ((.sl [.int .u8]) :: ([])) (.sl code :: ([])) = true) : laws_FnImages_t bad k_ code = k_ true := by
  obtain ⟨a0, b0⟩ := cAt_range h_code 0
  obtain ⟨a1, b1⟩ := cAt_range h_code 1
  obtain ⟨a2, b2⟩ := cAt_range h_code 2
  obtain ⟨a3, b3⟩ := cAt_range h_code 3
  have hd : len (DrawData code) ≤ 29 := l02Data_len (l01New code)
  have k0 : cAt_ok code 0 = true := rfl
  have k1 : cAt_ok code 1 = true := rfl
  have k2 : cAt_ok code 2 = true := rfl
  have k3 : cAt_ok code 3 = true := rfl
  unfold laws_FnImages_t
  cases big code
  · simp only [k0, k1, k2, k3, andt_true_l, andt_true_r, cond_true, cond_false]
    generalize cAt code 0 = x0 at *
    generalize cAt code 1 = x1 at *
    generalize cAt code 2 = x2 at *
    generalize cAt code 3 = x3 at *
    generalize DrawData code = body at hd ⊢
    have hl0 : 0 ≤ len body := by simp [len]
    rw [w64_in (n := x0 * 256) (by omega) (by omega), w64_in (n := x0 * 256 + x1) (by omega) (by omega), w64_in (n := x2 * 256) (by omega) (by omega), w64_in (n := x2 * 256 + x3) (by omega) (by omega)]
    have v0 : 0 ≤ x0 * 256 + x1 := by omega
    have v1 : x0 * 256 + x1 ≤ 1000000 := by omega
    generalize x0 * 256 + x1 = v at v0 v1 ⊢
    have i0 : 0 ≤ x2 * 256 + x3 := by omega
    have i1 : x2 * 256 + x3 ≤ 65535 := by omega
    generalize x2 * 256 + x3 = i at i0 i1 ⊢
    have hmo : MakeImage_ok v body = true := decide_eq_true (by simp only [len] at hd; omega)
    have hS := imgS_len v0 v1 (show len body ≤ 84 by omega)
    have hL : len (imgS v body) = 12 + len body := by simp only [len, hS]; omega
    rw [make_eq v0 v1 (show len body ≤ 84 by omega)]
    simp only [hmo, Bool.not_true, cond_false, cond_true]
    have hz3 : (!(len (imgS v body) == 0)) = true := by
      have : len (imgS v body) ≠ 0 := by omega
      simpa using this
    have e1 : ImageVersion (imgS v body ++ [114, 101, 115, 116]) = v := img_version v0 v1 (by omega)
    have ew : w64 (len (imgS v body) - 1) = len (imgS v body) - 1 := w64_in (by omega) (by omega)
    have e3 : ImageVersion (subH (imgS v body) (len (imgS v body) - 1)) = -1 := img_short v0 v1 (by omega)
    have e4 : w64 (len body + 12) = len (imgS v body) := by rw [hL, w64_in (by omega) (by omega)]; omega
    have d8 : w64 (Int.tdiv i 8) = i / 8 := by rw [Int.tdiv_eq_ediv_of_nonneg i0]; exact w64_in (by omega) (by omega)
    have m8 : Int.tmod (i / 8) (len (imgS v body)) = i / 8 % len (imgS v body) := Int.tmod_eq_emod_of_nonneg (by omega)
    have m32 : Int.tmod i 32 = i % 32 := Int.tmod_eq_emod_of_nonneg i0
    have gc : catOk (imgS v body) [114, 101, 115, 116] = true := by
      simp only [len] at hd
      simp only [catOk, hS, List.length_cons, List.length_nil, decide_eq_true_eq]
      omega
    have go : okH (imgS v body) (len (imgS v body) - 1) = true := by simp only [len] at hL ⊢; simp only [okH, Bool.and_eq_true, decide_eq_true_eq]; omega
    have bendAll : ∀ I : Int, 0 ≤ I → I ≤ 65535 → (bz (imgS v body) I < 4 ∨ 8 ≤ bz (imgS v body) I) → bendOk (imgS v body) I = true ∧ ImageVersion (bend (imgS v body) I) = -1 := by
      intro I I0 I1 hI
      have hpos : 0 < (imgS v body).length := by omega
      refine ⟨bendOk_iff.2 ⟨hpos, by simp only [len] at hd; omega, I0, I1⟩, ?_⟩
      exact img_bend v0 v1 (by omega) (bz_lt hpos) hI (bend_ne I0)
    rw [d8, m8, m32]
    have hI : ∃ I, (bif bif decide (4 ≤ i / 8 % len (imgS v body)) then decide (i / 8 % len (imgS v body) < 8) else false then i % 32 else i) = I ∧ 0 ≤ I ∧ I ≤ 65535 ∧ (bz (imgS v body) I < 4 ∨ 8 ≤ bz (imgS v body) I) := by
      by_cases h : 4 ≤ i / 8 % len (imgS v body) ∧ i / 8 % len (imgS v body) < 8
      · refine ⟨i % 32, by simp [h.1, h.2], by omega, by omega, .inl ?_⟩
        unfold bz
        rw [Int.emod_eq_of_lt (by omega) (by omega)]
        omega
      · refine ⟨i, ?_, i0, i1, ?_⟩
        · by_cases h4 : 4 ≤ i / 8 % len (imgS v body)
          · simp [h4, show ¬ i / 8 % len (imgS v body) < 8 from fun h8 => h ⟨h4, h8⟩]
          · simp [h4]
        · have := Int.emod_nonneg (i / 8) (show len (imgS v body) ≠ 0 by omega)
          unfold bz
          omega
    obtain ⟨I, eI, I0, I1, hI⟩ := hI
    obtain ⟨hbo, e2⟩ := bendAll I I0 I1 hI
    simp only [eI, hz3, e1, e2, ew, e3, e4, gc, go, hbo, beq_self_eq_true, andt_true_l, andt_true_r, okm_tt, cond_true]
  · rfl

end
end Go.Proofs.Ytjknoknkbfhelaa.Pl
