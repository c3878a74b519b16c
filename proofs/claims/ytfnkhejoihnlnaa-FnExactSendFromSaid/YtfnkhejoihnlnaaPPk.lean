/- What functions of the program compute, in plain Lean, as the value machine runs them. Conditions: none. -/
import Derived.Test.YtfnkhejoihnlnaaPSx
import Derived.Test.YtfnkhejoihnlnaaPBy
import Derived.Test.YtfnkhejoihnlnaaPLo
set_option linter.unusedVariables false
set_option linter.unusedSimpArgs false
set_option maxRecDepth 100000
namespace Go.Proofs.Ytfnkhejoihnlnaa.Pl
open Vm
noncomputable section

structure SIp where
  Tos : Int
  Id : Int
  Ttl : Int
  Proto : Int
  Src : Int
  Dst : Int
  Body : Bytes
def SIp.enc (x : SIp) : List DC := [.int x.Tos, .int x.Id, .int x.Ttl, .int x.Proto, .int x.Src, .int x.Dst, .str x.Body]
def SIp.decAt (r : List DC) (o : Nat) : SIp := ⟨rI r (o + 0), rI r (o + 1), rI r (o + 2), rI r (o + 3), rI r (o + 4), rI r (o + 5), rS r (o + 6)⟩
def SIp.ct : List CT := [.int .i64, .int .i64, .int .i64, .int .i64, .int .i64, .int .i64, .str]
theorem SIp.eta {r : List DC} (h : WtL SIp.ct r) : (SIp.decAt r 0).enc = r := (show (SIp.decAt r 0).enc = canonL SIp.ct r 0 from by kernel_rfl).trans (canon_eq h)
theorem SIp.of_wt {r : List CT} {ds : List DC} (h : WtL (SIp.ct ++ r) ds) : ∃ (x : SIp) (ds' : List DC), ds = x.enc ++ ds' ∧ WtL SIp.ct x.enc ∧ WtL r ds' := by
  obtain ⟨d1, d2, rfl, h1, h2⟩ := wtl_split h
  exact ⟨SIp.decAt d1 0, d2, by rw [SIp.eta h1], by rw [SIp.eta h1]; exact h1, h2⟩
theorem SIp.wt_Tos {x : SIp} (h : WtL SIp.ct x.enc) : WtC (.int .i64) (.int x.Tos) := wtl_get 0 h rfl rfl
theorem SIp.wt_Id {x : SIp} (h : WtL SIp.ct x.enc) : WtC (.int .i64) (.int x.Id) := wtl_get 1 h rfl rfl
theorem SIp.wt_Ttl {x : SIp} (h : WtL SIp.ct x.enc) : WtC (.int .i64) (.int x.Ttl) := wtl_get 2 h rfl rfl
theorem SIp.wt_Proto {x : SIp} (h : WtL SIp.ct x.enc) : WtC (.int .i64) (.int x.Proto) := wtl_get 3 h rfl rfl
theorem SIp.wt_Src {x : SIp} (h : WtL SIp.ct x.enc) : WtC (.int .i64) (.int x.Src) := wtl_get 4 h rfl rfl
theorem SIp.wt_Dst {x : SIp} (h : WtL SIp.ct x.enc) : WtC (.int .i64) (.int x.Dst) := wtl_get 5 h rfl rfl
theorem SIp.wt_Body {x : SIp} (h : WtL SIp.ct x.enc) : WtC .str (.str x.Body) := wtl_get 6 h rfl rfl

structure SEth where
  Dst : Int
  Src : Int
  Vlan : Int
  Type_ : Int
  Body : Bytes
def SEth.enc (x : SEth) : List DC := [.int x.Dst, .int x.Src, .int x.Vlan, .int x.Type_, .str x.Body]
def SEth.decAt (r : List DC) (o : Nat) : SEth := ⟨rI r (o + 0), rI r (o + 1), rI r (o + 2), rI r (o + 3), rS r (o + 4)⟩
def SEth.ct : List CT := [.int .i64, .int .i64, .int .i64, .int .i64, .str]
theorem SEth.eta {r : List DC} (h : WtL SEth.ct r) : (SEth.decAt r 0).enc = r := (show (SEth.decAt r 0).enc = canonL SEth.ct r 0 from by kernel_rfl).trans (canon_eq h)
theorem SEth.of_wt {r : List CT} {ds : List DC} (h : WtL (SEth.ct ++ r) ds) : ∃ (x : SEth) (ds' : List DC), ds = x.enc ++ ds' ∧ WtL SEth.ct x.enc ∧ WtL r ds' := by
  obtain ⟨d1, d2, rfl, h1, h2⟩ := wtl_split h
  exact ⟨SEth.decAt d1 0, d2, by rw [SEth.eta h1], by rw [SEth.eta h1]; exact h1, h2⟩
theorem SEth.wt_Dst {x : SEth} (h : WtL SEth.ct x.enc) : WtC (.int .i64) (.int x.Dst) := wtl_get 0 h rfl rfl
theorem SEth.wt_Src {x : SEth} (h : WtL SEth.ct x.enc) : WtC (.int .i64) (.int x.Src) := wtl_get 1 h rfl rfl
theorem SEth.wt_Vlan {x : SEth} (h : WtL SEth.ct x.enc) : WtC (.int .i64) (.int x.Vlan) := wtl_get 2 h rfl rfl
theorem SEth.wt_Type_ {x : SEth} (h : WtL SEth.ct x.enc) : WtC (.int .i64) (.int x.Type_) := wtl_get 3 h rfl rfl
theorem SEth.wt_Body {x : SEth} (h : WtL SEth.ct x.enc) : WtC .str (.str x.Body) := wtl_get 4 h rfl rfl

def impl_Word16_t {α : Type} (k_ : Bytes → α) (v : Int) : α :=
  bif !(between v 0 65535) then k_ []
  else k_ (toStr ([[.int (IntKind.wrap .u8 (shrI .i64 v 8))], [.int (IntKind.wrap .u8 v)]]))
def Word16 (v : Int) : Bytes := impl_Word16_t id v
theorem impl_Word16_c {α : Type} (k_ : Bytes → α) (v : Int) : impl_Word16_t k_ v = k_ (Word16 v) := by
  exact cond_k rfl rfl

def spec_Word16_t {α : Type} (k_ : Bytes → α) (v : Int) : α :=
  bif !(between v 0 65535) then k_ []
  else k_ (toStr ([[.int (IntKind.wrap .u8 (shrI .i64 v 8))], [.int (IntKind.wrap .u8 v)]]))
theorem spec_Word16_c {α : Type} (k_ : Bytes → α) (v : Int) (h_v : WtC (.int .i64) (.int v)) : spec_Word16_t k_ v = k_ (Word16 v) := by
  exact cond_k rfl rfl


theorem Word32_len (v : Int) : (Word32 v).length ≤ 4 := by
  unfold Word32 impl_Word32_t
  cases !(between v 0 4294967295) <;> simp [toStr]

theorem Word16_len (v : Int) : (Word16 v).length ≤ 2 := by
  unfold Word16 impl_Word16_t
  cases !(between v 0 65535) <;> simp [toStr]
theorem Word16_two {v : Int} (h0 : 0 ≤ v) (h1 : v ≤ 65535) : (Word16 v).length = 2 := by
  have hb : between v 0 65535 = true := between_iff.2 ⟨h0, h1⟩
  unfold Word16 impl_Word16_t
  rw [hb]
  simp [toStr]
theorem Word32_four {v : Int} (h0 : 0 ≤ v) (h1 : v ≤ 4294967295) : (Word32 v).length = 4 := by
  have hb : between v 0 4294967295 = true := between_iff.2 ⟨h0, h1⟩
  unfold Word32 impl_Word32_t
  rw [hb]
  simp [toStr]
theorem cat_le {a b : Bytes} (h : a.length + b.length ≤ 9223372036854775807) : catOk a b = true := decide_eq_true h
theorem toStr_len (r : Rows) : (toStr r).length = r.length := by simp [toStr]
theorem seg_len {q : SSegment} (h : SegmentOk q = true) : q.Body.length ≤ 320 := by
  unfold SegmentOk impl_SegmentOk_t at h
  by_cases h3 : 320 < len q.Body
  · rw [decide_eq_true h3] at h
    revert h
    cases !(between q.SrcPort 0 65535) <;> cases !(between q.DstPort 0 65535) <;> simp
  · simp only [len] at h3
    omega

def impl_AddSums_t {α : Type} (k_ : Int → α) (a : Int) (b : Int) : α :=
  bif bif !(between a 0 65535) then true else !(between b 0 65535) then k_ (-1)
  else bif decide (65535 < w64 (a + b)) then k_ (w64 ((w64 (a + b)) - 65535))
  else k_ (w64 (a + b))
def AddSums (a : Int) (b : Int) : Int := impl_AddSums_t id a b
theorem impl_AddSums_c {α : Type} (k_ : Int → α) (a : Int) (b : Int) : impl_AddSums_t k_ a b = k_ (AddSums a b) := by
  exact cond_k rfl (cond_k rfl rfl)

def spec_AddSums_t {α : Type} (k_ : Int → α) (a : Int) (b : Int) : α :=
  bif bif !(between a 0 65535) then true else !(between b 0 65535) then k_ (-1)
  else bif decide (65535 < w64 (a + b)) then k_ (w64 ((w64 (a + b)) - 65535))
  else k_ (w64 (a + b))
theorem spec_AddSums_c {α : Type} (k_ : Int → α) (a : Int) (b : Int) (h_a : WtC (.int .i64) (.int a)) (h_b : WtC (.int .i64) (.int b)) : spec_AddSums_t k_ a b = k_ (AddSums a b) := by
  exact cond_k rfl (cond_k rfl rfl)

def impl_SumWords_l0 {α : Type} (bad : α) (k_ : Int → α) (s : Bytes) (ih0 : Int → Int → α) (sum : Int) (i : Int) : α :=
  let z0 : Bool := decide (w64 (i + 1) < len s)
  let z1 : Int := shlI .i64 (w64 (sAt s i)) 8
  bif decide (i < len s) then
    bif andt true (idx i s) then
      bif okm z0 (andt true (idx (w64 (i + 1)) s)) true then
        ih0 (AddSums sum (bif z0 then bits .or .i64 z1 (w64 (sAt s (w64 (i + 1)))) else z1)) (w64 (i + 2))
      else bad
    else bad
  else k_ sum
def impl_SumWords_L0 {α : Type} (bad : α) (k_ : Int → α) (N : Nat) (s : Bytes) (m_ : Nat) : Int → Int → α :=
  Nat.rec (motive := fun _ => Int → Int → α) (fun _ _ => bad) (fun _ ih0 => impl_SumWords_l0 bad k_ s ih0) m_
theorem impl_SumWords_L0_z {α : Type} (bad : α) (k_ : Int → α) (N : Nat) (s : Bytes) (sum : Int) (i : Int) : impl_SumWords_L0 bad k_ N s 0 sum i = bad := rfl
theorem impl_SumWords_L0_s {α : Type} (bad : α) (k_ : Int → α) (N : Nat) (s : Bytes) (m_ : Nat) (sum : Int) (i : Int) : impl_SumWords_L0 bad k_ N s (m_ + 1) sum i = impl_SumWords_l0 bad k_ s (impl_SumWords_L0 bad k_ N s m_) sum i := rfl
def impl_SumWords_t {α : Type} (bad : α) (k_ : Int → α) (l0 : Int → Int → α) (s : Bytes) : α :=
  l0 0 0
def impl_SumWords_f {α : Type} (bad : α) (k_ : Int → α) (N : Nat) (s : Bytes) : α := impl_SumWords_t bad k_ (impl_SumWords_L0 bad k_ N s N) s
def swW (s : Bytes) (i : Nat) : Int := sAt s (i : Int) * 256 + (bif decide (((i : Int) + 1) < len s) then sAt s ((i : Int) + 1) else 0)
def swF (s : Bytes) (j : Nat) (c : Int) : Int := AddSums c (swW s (2 * j))
def ss (s : Bytes) : Bool := decide (s.length ≤ 4294967296)
def SumWords0 (s : Bytes) : Int := itN (swF s) ((s.length + 1) / 2) 0 0
def SumWords (s : Bytes) : Int := shut SumWords0 s
theorem SumWords_eq (s : Bytes) : SumWords s = itN (swF s) ((s.length + 1) / 2) 0 0 := congrFun (shut_eq SumWords0) s
theorem impl_SumWords_c {α : Type} (bad : α) (k_ : Int → α) (s : Bytes) (h_s : WtC .str (.str s)) (hok : ss s = true) : ∃ N, impl_SumWords_f bad k_ N s = k_ (SumWords s) := by
  have hl := wt_str h_s
  refine ⟨s.length + 1, ?_⟩
  have hss : s.length ≤ 4294967296 := of_decide_eq_true hok
  rw [SumWords_eq]
  unfold impl_SumWords_f impl_SumWords_t
  have key : ∀ (m n j : Nat) (c : Int), j + m = (s.length + 1) / 2 → m < n → impl_SumWords_L0 bad k_ (s.length + 1) s n c ((2 * j : Nat) : Int) = k_ (itN (swF s) m j c) := by
    intro m
    induction m with
    | zero =>
      intro n j c h1 h2
      obtain ⟨n, rfl⟩ : ∃ q, n = q + 1 := ⟨n - 1, by omega⟩
      have hf : decide (((2 * j : Nat) : Int) < len s) = false := decide_eq_false (by simp only [len]; omega)
      rw [impl_SumWords_L0_s]
      simp only [impl_SumWords_l0, hf, cond_false, itN]
    | succ m ih =>
      intro n j c h1 h2
      obtain ⟨n, rfl⟩ : ∃ q, n = q + 1 := ⟨n - 1, by omega⟩
      have hlt : 2 * j < s.length := by omega
      have hw1 : w64 (((2 * j : Nat) : Int) + 1) = ((2 * j : Nat) : Int) + 1 := w64_in (by omega) (by omega)
      have hw2 : w64 (((2 * j : Nat) : Int) + 2) = ((2 * (j + 1) : Nat) : Int) := by rw [w64_in (by omega) (by omega)]; omega
      have hok : okm (decide (((2 * j : Nat) : Int) + 1 < len s)) (idx (((2 * j : Nat) : Int) + 1) s) true = true := okm_t (fun h => by
        have h := of_decide_eq_true h
        simp only [len] at h
        simp only [idx, Bool.and_eq_true, decide_eq_true_eq]
        omega) (fun _ => rfl)
      have b0 := sAt_lo s ((2 * j : Nat) : Int)
      have c0 := sAt_hi s ((2 * j : Nat) : Int)
      have b1 := sAt_lo s (((2 * j : Nat) : Int) + 1)
      have c1 := sAt_hi s (((2 * j : Nat) : Int) + 1)
      have e0 : shlI .i64 (sAt s ((2 * j : Nat) : Int)) 8 = sAt s ((2 * j : Nat) : Int) * 256 := by rw [shl8, w64_in (by omega) (by omega)]
      have hv : (bif decide (((2 * j : Nat) : Int) + 1 < len s) then bits .or .i64 (sAt s ((2 * j : Nat) : Int) * 256) (sAt s (((2 * j : Nat) : Int) + 1)) else sAt s ((2 * j : Nat) : Int) * 256) = swW s (2 * j) := by
        unfold swW
        cases decide (((2 * j : Nat) : Int) + 1 < len s)
        · simp
        · simp only [cond_true]
          rw [or_join 8 (y := sAt s (((2 * j : Nat) : Int) + 1)) (by omega) (by omega) (by omega) (by omega) (by omega) (by omega)]
      rw [impl_SumWords_L0_s]
      simp only [impl_SumWords_l0, lt_len hlt, idx_nat hlt, hw1, hw2, hok, andt_true_l, cond_true, w64_in (n := sAt s ((2 * j : Nat) : Int)) (by omega) (by omega), w64_in (n := sAt s (((2 * j : Nat) : Int) + 1)) (by omega) (by omega), e0, hv]
      exact ih n (j + 1) _ (by omega) (by omega)
  exact key ((s.length + 1) / 2) (s.length + 1) 0 0 (by omega) (by omega)

def spec_SumWords_l0 {α : Type} (bad : α) (k_ : Int → α) (s : Bytes) (ih0 : Int → Int → α) (sum : Int) (i : Int) : α :=
  let z0 : Bool := decide (w64 (i + 1) < len s)
  let z1 : Int := shlI .i64 (w64 (sAt s i)) 8
  bif decide (i < len s) then
    bif andt true (idx i s) then
      bif okm z0 (andt true (idx (w64 (i + 1)) s)) true then
        ih0 (AddSums sum (bif z0 then w64 (z1 + (w64 (sAt s (w64 (i + 1))))) else z1)) (w64 (i + 2))
      else bad
    else bad
  else k_ sum
def spec_SumWords_L0 {α : Type} (bad : α) (k_ : Int → α) (N : Nat) (s : Bytes) (m_ : Nat) : Int → Int → α :=
  Nat.rec (motive := fun _ => Int → Int → α) (fun _ _ => bad) (fun _ ih0 => spec_SumWords_l0 bad k_ s ih0) m_
theorem spec_SumWords_L0_z {α : Type} (bad : α) (k_ : Int → α) (N : Nat) (s : Bytes) (sum : Int) (i : Int) : spec_SumWords_L0 bad k_ N s 0 sum i = bad := rfl
theorem spec_SumWords_L0_s {α : Type} (bad : α) (k_ : Int → α) (N : Nat) (s : Bytes) (m_ : Nat) (sum : Int) (i : Int) : spec_SumWords_L0 bad k_ N s (m_ + 1) sum i = spec_SumWords_l0 bad k_ s (spec_SumWords_L0 bad k_ N s m_) sum i := rfl
def spec_SumWords_t {α : Type} (bad : α) (k_ : Int → α) (l0 : Int → Int → α) (s : Bytes) : α :=
  l0 0 0
def spec_SumWords_f {α : Type} (bad : α) (k_ : Int → α) (N : Nat) (s : Bytes) : α := spec_SumWords_t bad k_ (spec_SumWords_L0 bad k_ N s N) s
theorem spec_SumWords_c {α : Type} (bad : α) (k_ : Int → α) (s : Bytes) (h_s : WtC .str (.str s)) (hok : ss s = true) : ∃ N, spec_SumWords_f bad k_ N s = k_ (SumWords s) := by
  have hl := wt_str h_s
  refine ⟨s.length + 1, ?_⟩
  have hss : s.length ≤ 4294967296 := of_decide_eq_true hok
  rw [SumWords_eq]
  unfold spec_SumWords_f spec_SumWords_t
  have key : ∀ (m n j : Nat) (c : Int), j + m = (s.length + 1) / 2 → m < n → spec_SumWords_L0 bad k_ (s.length + 1) s n c ((2 * j : Nat) : Int) = k_ (itN (swF s) m j c) := by
    intro m
    induction m with
    | zero =>
      intro n j c h1 h2
      obtain ⟨n, rfl⟩ : ∃ q, n = q + 1 := ⟨n - 1, by omega⟩
      have hf : decide (((2 * j : Nat) : Int) < len s) = false := decide_eq_false (by simp only [len]; omega)
      rw [spec_SumWords_L0_s]
      simp only [spec_SumWords_l0, hf, cond_false, itN]
    | succ m ih =>
      intro n j c h1 h2
      obtain ⟨n, rfl⟩ : ∃ q, n = q + 1 := ⟨n - 1, by omega⟩
      have hlt : 2 * j < s.length := by omega
      have hw1 : w64 (((2 * j : Nat) : Int) + 1) = ((2 * j : Nat) : Int) + 1 := w64_in (by omega) (by omega)
      have hw2 : w64 (((2 * j : Nat) : Int) + 2) = ((2 * (j + 1) : Nat) : Int) := by rw [w64_in (by omega) (by omega)]; omega
      have hok : okm (decide (((2 * j : Nat) : Int) + 1 < len s)) (idx (((2 * j : Nat) : Int) + 1) s) true = true := okm_t (fun h => by
        have h := of_decide_eq_true h
        simp only [len] at h
        simp only [idx, Bool.and_eq_true, decide_eq_true_eq]
        omega) (fun _ => rfl)
      have b0 := sAt_lo s ((2 * j : Nat) : Int)
      have c0 := sAt_hi s ((2 * j : Nat) : Int)
      have b1 := sAt_lo s (((2 * j : Nat) : Int) + 1)
      have c1 := sAt_hi s (((2 * j : Nat) : Int) + 1)
      have e0 : shlI .i64 (sAt s ((2 * j : Nat) : Int)) 8 = sAt s ((2 * j : Nat) : Int) * 256 := by rw [shl8, w64_in (by omega) (by omega)]
      have hv : (bif decide (((2 * j : Nat) : Int) + 1 < len s) then w64 (sAt s ((2 * j : Nat) : Int) * 256 + sAt s (((2 * j : Nat) : Int) + 1)) else sAt s ((2 * j : Nat) : Int) * 256) = swW s (2 * j) := by
        unfold swW
        cases decide (((2 * j : Nat) : Int) + 1 < len s)
        · simp
        · simp only [cond_true]
          rw [w64_in (by omega) (by omega)]
      rw [spec_SumWords_L0_s]
      simp only [spec_SumWords_l0, lt_len hlt, idx_nat hlt, hw1, hw2, hok, andt_true_l, cond_true, w64_in (n := sAt s ((2 * j : Nat) : Int)) (by omega) (by omega), w64_in (n := sAt s (((2 * j : Nat) : Int) + 1)) (by omega) (by omega), e0, hv]
      exact ih n (j + 1) _ (by omega) (by omega)
  exact key ((s.length + 1) / 2) (s.length + 1) 0 0 (by omega) (by omega)

def impl_Checksum_t {α : Type} (bad : α) (k_ : Int → α) (s : Bytes) : α :=
  bif andt true (ss s) then
    k_ (w64 (65535 - (SumWords s)))
  else bad
def Checksum (s : Bytes) : Int := w64 (65535 - SumWords s)
theorem impl_Checksum_c {α : Type} (bad : α) (k_ : Int → α) (s : Bytes) (h_s : WtC .str (.str s)) (hok : ss s = true) : impl_Checksum_t bad k_ s = k_ (Checksum s) := by
  have h : ss s = true := hok
  unfold impl_Checksum_t Checksum
  simp only [h, andt_true_l, cond_true]

def spec_Checksum_t {α : Type} (bad : α) (k_ : Int → α) (s : Bytes) : α :=
  bif andt true (ss s) then
    k_ (w64 (65535 - (SumWords s)))
  else bad
theorem spec_Checksum_c {α : Type} (bad : α) (k_ : Int → α) (s : Bytes) (h_s : WtC .str (.str s)) (hok : ss s = true) : spec_Checksum_t bad k_ s = k_ (Checksum s) := by
  have h : ss s = true := hok
  unfold spec_Checksum_t Checksum
  simp only [h, andt_true_l, cond_true]

def spec_l02Within_t {α : Type} (k_ : Bool → α) (s : Bytes) (at_ : Int) (n : Int) : α :=
  k_ (bif decide (0 ≤ at_) then bif decide (at_ ≤ len s) then decide (n ≤ w64 ((len s) - at_)) else false else false)
def l02Within (s : Bytes) (at_ : Int) (n : Int) : Bool := spec_l02Within_t id s at_ n
theorem spec_l02Within_c {α : Type} (k_ : Bool → α) (s : Bytes) (at_ : Int) (n : Int) : spec_l02Within_t k_ s at_ n = k_ (l02Within s at_ n) := by
  rfl


theorem within_iff {s : Bytes} {at_ n : Int} (hs : s.length ≤ 9223372036854775807) : l02Within s at_ n = true ↔ 0 ≤ at_ ∧ at_ ≤ len s ∧ at_ + n ≤ len s := by
  have hl0 : 0 ≤ len s := by simp [len]
  have hl1 : len s ≤ 9223372036854775807 := by simp only [len]; omega
  unfold l02Within spec_l02Within_t
  by_cases h1 : 0 ≤ at_
  · by_cases h2 : at_ ≤ len s
    · rw [w64_in (by omega) (by omega)]
      simp only [h1, h2, decide_true, cond_true, id, true_and]
      constructor
      · intro h
        have := of_decide_eq_true h
        omega
      · intro h
        exact decide_eq_true (by omega)
    · simp [h1, h2]
  · simp [h1]

def impl_PutBytes_t {α : Type} (bad : α) (k_ : Bytes → α) (s : Bytes) (at_ : Int) (part : Bytes) : α :=
  let z0 : Bytes := subL s (w64 (at_ + (len part)))
  bif bif decide (at_ < 0) then true else decide (w64 ((len s) - (len part)) < at_) then k_ s
  else bif andt (andt (andt (andt true (okH s at_)) (catOk (subH s at_) part)) (okL s (w64 (at_ + (len part))))) (catOk ((subH s at_) ++ part) z0) then
      k_ (((subH s at_) ++ part) ++ z0)
    else bad
def PutBytes_ok (s : Bytes) (at_ : Int) (part : Bytes) : Bool := decide (s.length ≤ 4294967296) && decide (part.length ≤ 4294967296)
def PutBytes (s : Bytes) (at_ : Int) (part : Bytes) : Bytes := bif !(l02Within s at_ (len part)) then s else s.take at_.toNat ++ part ++ s.drop (at_.toNat + part.length)
theorem PutBytes_len (s : Bytes) (at_ : Int) (part : Bytes) : (PutBytes s at_ part).length ≤ s.length + part.length := by
  unfold PutBytes
  cases !(l02Within s at_ (len part))
  · simp only [cond_false, List.length_append, List.length_take, List.length_drop]
    omega
  · exact Nat.le_add_right _ _
theorem PutBytes_eqlen {s : Bytes} {at_ : Int} {part : Bytes} (hs : s.length ≤ 9223372036854775807) : (PutBytes s at_ part).length = s.length := by
  unfold PutBytes
  cases hw : l02Within s at_ (len part)
  · rfl
  · have := (within_iff hs).1 hw
    simp only [len] at this
    simp only [Bool.not_true, cond_false, List.length_append, List.length_take, List.length_drop]
    omega
theorem impl_PutBytes_c {α : Type} (bad : α) (k_ : Bytes → α) (s : Bytes) (at_ : Int) (part : Bytes) (h_s : WtC .str (.str s)) (h_at_ : WtC (.int .i64) (.int at_)) (h_part : WtC .str (.str part)) (hok : PutBytes_ok s at_ part = true) : impl_PutBytes_t bad k_ s at_ part = k_ (PutBytes s at_ part) := by
  simp only [PutBytes_ok, Bool.and_eq_true, decide_eq_true_eq] at hok
  unfold impl_PutBytes_t PutBytes
  have hcmp : (bif decide (at_ < 0) then true else decide (w64 (len s - len part) < at_)) = !(l02Within s at_ (len part)) := by
    have h1 := within_iff (s := s) (at_ := at_) (n := len part) (by omega)
    rw [w64_in (n := len s - len part) (by simp only [len]; omega) (by simp only [len]; omega)]
    cases hw : l02Within s at_ (len part)
    · by_cases h0 : at_ < 0
      · simp [h0]
      · by_cases h2 : len s - len part < at_
        · simp [h0, h2]
        · rw [h1.2 (by simp only [len] at h2 ⊢; omega)] at hw
          cases hw
    · have := h1.1 hw
      simp [show ¬ at_ < 0 by omega, show ¬ len s - len part < at_ by omega]
  rw [hcmp]
  refine cond_c (fun _ => rfl) (fun hg => ?_)
  have hw := (within_iff (by omega)).1 (show l02Within s at_ (len part) = true by simpa using hg)
  have e1 : w64 (at_ + len part) = at_ + len part := by simp only [len] at hw ⊢; exact w64_in (by omega) (by omega)
  have e2 : subH s at_ = s.take at_.toNat := by simp [subH]
  have e3 : subL s (at_ + len part) = s.drop (at_.toNat + part.length) := by
    simp only [subL, List.take_length, len]
    congr 1
    omega
  have g1 : okH s at_ = true := by simp only [len] at hw; simp only [okH, Bool.and_eq_true, decide_eq_true_eq]; omega
  have g2 : okL s (at_ + len part) = true := by simp only [len] at hw ⊢; simp only [okL, Bool.and_eq_true, decide_eq_true_eq]; omega
  have g3 : catOk (s.take at_.toNat) part = true := by simp only [catOk, List.length_take, decide_eq_true_eq]; omega
  have g4 : catOk (s.take at_.toNat ++ part) (s.drop (at_.toNat + part.length)) = true := by simp only [catOk, List.length_append, List.length_take, List.length_drop, decide_eq_true_eq]; omega
  simp only [e1, e2, e3, g1, g2, g3, g4, andt_true_l, cond_true]

def spec_PutBytes_t {α : Type} (bad : α) (k_ : Bytes → α) (s : Bytes) (at_ : Int) (part : Bytes) : α :=
  let z0 : Bytes := subL s (w64 (at_ + (len part)))
  bif !(l02Within s at_ (len part)) then k_ s
  else bif andt (andt (andt (andt true (okH s at_)) (catOk (subH s at_) part)) (okL s (w64 (at_ + (len part))))) (catOk ((subH s at_) ++ part) z0) then
      k_ (((subH s at_) ++ part) ++ z0)
    else bad
theorem spec_PutBytes_c {α : Type} (bad : α) (k_ : Bytes → α) (s : Bytes) (at_ : Int) (part : Bytes) (h_s : WtC .str (.str s)) (h_at_ : WtC (.int .i64) (.int at_)) (h_part : WtC .str (.str part)) (hok : PutBytes_ok s at_ part = true) : spec_PutBytes_t bad k_ s at_ part = k_ (PutBytes s at_ part) := by
  simp only [PutBytes_ok, Bool.and_eq_true, decide_eq_true_eq] at hok
  unfold spec_PutBytes_t PutBytes
  refine cond_c (fun _ => rfl) (fun hg => ?_)
  have hw := (within_iff (by omega)).1 (show l02Within s at_ (len part) = true by simpa using hg)
  have e1 : w64 (at_ + len part) = at_ + len part := by simp only [len] at hw ⊢; exact w64_in (by omega) (by omega)
  have e2 : subH s at_ = s.take at_.toNat := by simp [subH]
  have e3 : subL s (at_ + len part) = s.drop (at_.toNat + part.length) := by
    simp only [subL, List.take_length, len]
    congr 1
    omega
  have g1 : okH s at_ = true := by simp only [len] at hw; simp only [okH, Bool.and_eq_true, decide_eq_true_eq]; omega
  have g2 : okL s (at_ + len part) = true := by simp only [len] at hw ⊢; simp only [okL, Bool.and_eq_true, decide_eq_true_eq]; omega
  have g3 : catOk (s.take at_.toNat) part = true := by simp only [catOk, List.length_take, decide_eq_true_eq]; omega
  have g4 : catOk (s.take at_.toNat ++ part) (s.drop (at_.toNat + part.length)) = true := by simp only [catOk, List.length_append, List.length_take, List.length_drop, decide_eq_true_eq]; omega
  simp only [e1, e2, e3, g1, g2, g3, g4, andt_true_l, cond_true]

def impl_PseudoHeader_t {α : Type} (bad : α) (k_ : Bytes → Bool → α) (src : Int) (dst : Int) (kind : Int) (length : Int) : α :=
  let z0 : Bytes := ((Word32 src) ++ (Word32 dst)) ++ (toStr ([[.int 0], [.int (IntKind.wrap .u8 kind)]]))
  bif bif !(between src 0 4294967295) then true else bif !(between dst 0 4294967295) then true else bif !(between kind 0 255) then true else !(between length 0 65535) then k_ [] false
  else bif andt (andt (andt true (catOk (Word32 src) (Word32 dst))) (catOk ((Word32 src) ++ (Word32 dst)) (toStr ([[.int 0], [.int (IntKind.wrap .u8 kind)]])))) (catOk z0 (Word16 length)) then
      k_ (z0 ++ (Word16 length)) true
    else bad
def PseudoHeader (src : Int) (dst : Int) (kind : Int) (length : Int) : Bytes × Bool :=
  bif bif !(between src 0 4294967295) then true else bif !(between dst 0 4294967295) then true else bif !(between kind 0 255) then true else !(between length 0 65535) then ([], false)
  else (Word32 src ++ Word32 dst ++ toStr ([[.int 0], [.int (IntKind.wrap .u8 kind)]]) ++ Word16 length, true)
theorem PseudoHeader_len (src dst kind length : Int) : (PseudoHeader src dst kind length).1.length ≤ 12 := by
  have a := Word32_len src
  have b := Word32_len dst
  have c := Word16_len length
  unfold PseudoHeader
  cases (bif !(between src 0 4294967295) then true else bif !(between dst 0 4294967295) then true else bif !(between kind 0 255) then true else !(between length 0 65535))
  · simp only [cond_false, List.length_append, toStr_len, List.length_cons, List.length_nil]
    omega
  · exact Nat.zero_le _
theorem impl_PseudoHeader_c {α : Type} (bad : α) (k_ : Bytes → Bool → α) (src : Int) (dst : Int) (kind : Int) (length : Int) (h_src : WtC (.int .i64) (.int src)) (h_dst : WtC (.int .i64) (.int dst)) (h_kind : WtC (.int .i64) (.int kind)) (h_length : WtC (.int .i64) (.int length)) : impl_PseudoHeader_t bad k_ src dst kind length = k_ (PseudoHeader src dst kind length).1 (PseudoHeader src dst kind length).2 := by
  have a := Word32_len src
  have b := Word32_len dst
  have c := Word16_len length
  have g1 : catOk (Word32 src) (Word32 dst) = true := cat_le (by omega)
  have g2 : ∀ r, catOk (Word32 src ++ Word32 dst) (toStr [[.int 0], r]) = true := fun r => cat_le (by simp only [List.length_append, toStr_len, List.length_cons, List.length_nil]; omega)
  have g3 : ∀ r, catOk (Word32 src ++ Word32 dst ++ toStr [[.int 0], r]) (Word16 length) = true := fun r => cat_le (by simp only [List.length_append, toStr_len, List.length_cons, List.length_nil]; omega)
  unfold impl_PseudoHeader_t PseudoHeader
  simp only [g1, g2, g3, andt_true_l, cond_true]
  exact cond_k (K := fun r : Bytes × Bool => k_ r.1 r.2) rfl rfl

def spec_PseudoHeader_t {α : Type} (bad : α) (k_ : Bytes → Bool → α) (src : Int) (dst : Int) (kind : Int) (length : Int) : α :=
  let z0 : Bytes := ((Word32 src) ++ (Word32 dst)) ++ (toStr ([[.int 0], [.int (IntKind.wrap .u8 kind)]]))
  bif bif !(between src 0 4294967295) then true else bif !(between dst 0 4294967295) then true else bif !(between kind 0 255) then true else !(between length 0 65535) then k_ [] false
  else bif andt (andt (andt true (catOk (Word32 src) (Word32 dst))) (catOk ((Word32 src) ++ (Word32 dst)) (toStr ([[.int 0], [.int (IntKind.wrap .u8 kind)]])))) (catOk z0 (Word16 length)) then
      k_ (z0 ++ (Word16 length)) true
    else bad
theorem spec_PseudoHeader_c {α : Type} (bad : α) (k_ : Bytes → Bool → α) (src : Int) (dst : Int) (kind : Int) (length : Int) (h_src : WtC (.int .i64) (.int src)) (h_dst : WtC (.int .i64) (.int dst)) (h_kind : WtC (.int .i64) (.int kind)) (h_length : WtC (.int .i64) (.int length)) : spec_PseudoHeader_t bad k_ src dst kind length = k_ (PseudoHeader src dst kind length).1 (PseudoHeader src dst kind length).2 := by
  have a := Word32_len src
  have b := Word32_len dst
  have c := Word16_len length
  have g1 : catOk (Word32 src) (Word32 dst) = true := cat_le (by omega)
  have g2 : ∀ r, catOk (Word32 src ++ Word32 dst) (toStr [[.int 0], r]) = true := fun r => cat_le (by simp only [List.length_append, toStr_len, List.length_cons, List.length_nil]; omega)
  have g3 : ∀ r, catOk (Word32 src ++ Word32 dst ++ toStr [[.int 0], r]) (Word16 length) = true := fun r => cat_le (by simp only [List.length_append, toStr_len, List.length_cons, List.length_nil]; omega)
  unfold spec_PseudoHeader_t PseudoHeader
  simp only [g1, g2, g3, andt_true_l, cond_true]
  exact cond_k (K := fun r : Bytes × Bool => k_ r.1 r.2) rfl rfl

def impl_sumPlace_t {α : Type} (k_ : Int → α) (kind : Int) : α :=
  bif kind == 6 then k_ 16
  else k_ 6
def sumPlace (kind : Int) : Int := impl_sumPlace_t id kind
theorem impl_sumPlace_c {α : Type} (k_ : Int → α) (kind : Int) : impl_sumPlace_t k_ kind = k_ (sumPlace kind) := by
  exact cond_k rfl rfl

def impl_bareSegment_t {α : Type} (bad : α) (k_ : Bytes → α) (g : SSegment) : α :=
  let z0 : Bytes := (Word16 g.SrcPort) ++ (Word16 g.DstPort)
  let z1 : Bytes := z0 ++ (Word32 g.Seq)
  let z2 : Bytes := z1 ++ (Word32 g.Ack)
  let z3 : Bytes := z2 ++ (toStr ([[.int 80], [.int (IntKind.wrap .u8 g.Flags)]]))
  let z4 : Bytes := z3 ++ (Word16 g.Window)
  let z5 : Bytes := z4 ++ (Word16 0)
  let z6 : Bytes := z5 ++ (Word16 0)
  let z7 : Bytes := Word16 (w64 (8 + (len g.Body)))
  let z8 : Bytes := z0 ++ z7
  let z9 : Bytes := z8 ++ (Word16 0)
  bif andt true (catOk (Word16 g.SrcPort) (Word16 g.DstPort)) then
    bif g.Kind == 6 then
      bif andt (andt (andt (andt (andt (andt (andt true (catOk z0 (Word32 g.Seq))) (catOk z1 (Word32 g.Ack))) (catOk z2 (toStr ([[.int 80], [.int (IntKind.wrap .u8 g.Flags)]])))) (catOk z3 (Word16 g.Window))) (catOk z4 (Word16 0))) (catOk z5 (Word16 0))) (catOk z6 g.Body) then
        k_ (z6 ++ g.Body)
      else bad
    else bif andt (andt (andt true (catOk z0 z7)) (catOk z8 (Word16 0))) (catOk z9 g.Body) then
        k_ (z9 ++ g.Body)
      else bad
  else bad
def segHead (q : SSegment) : Bytes := bif q.Kind == 6 then Word16 q.SrcPort ++ Word16 q.DstPort ++ Word32 q.Seq ++ Word32 q.Ack ++ toStr ([[.int 80], [.int (IntKind.wrap .u8 q.Flags)]]) ++ Word16 q.Window ++ Word16 0 ++ Word16 0
  else Word16 q.SrcPort ++ Word16 q.DstPort ++ Word16 (w64 (8 + (len q.Body))) ++ Word16 0
def bareSegment (q : SSegment) : Bytes := segHead q ++ q.Body
def bareOk (q : SSegment) : Bool := decide (q.Body.length ≤ 1000)
theorem segHead_len (q : SSegment) : (segHead q).length ≤ 20 := by
  have a := Word16_len q.SrcPort
  have b := Word16_len q.DstPort
  have c := Word32_len q.Seq
  have d := Word32_len q.Ack
  have e := Word16_len q.Window
  have f := Word16_len 0
  have h := Word16_len (w64 (8 + (len q.Body)))
  unfold segHead
  cases q.Kind == 6
  · simp only [cond_false, List.length_append]; omega
  · simp only [cond_true, List.length_append, toStr_len, List.length_cons, List.length_nil]; omega
theorem bareSegment_len (q : SSegment) : (bareSegment q).length ≤ q.Body.length + 20 := by
  have := segHead_len q
  simp only [bareSegment, List.length_append]
  omega
theorem impl_bareSegment_c {α : Type} (bad : α) (k_ : Bytes → α) (g : SSegment) (h_g : WtL SSegment.ct g.enc) (hok : bareOk g = true) : impl_bareSegment_t bad k_ g = k_ (bareSegment g) := by
  have hb : g.Body.length ≤ 1000 := of_decide_eq_true hok
  have a := Word16_len g.SrcPort
  have b := Word16_len g.DstPort
  have c := Word32_len g.Seq
  have d := Word32_len g.Ack
  have e := Word16_len g.Window
  have f := Word16_len 0
  have f4 := Word32_len 0
  have hh := Word16_len (w64 (8 + (len g.Body)))
  unfold impl_bareSegment_t bareSegment segHead
  refine guard_c (by simp only [andt_eq, catOk, ss, List.length_append, toStr_len, List.length_cons, List.length_nil, decide_eq_true_eq, true_and, and_true]; omega) ?_
  cases g.Kind == 6
  · simp only [cond_false]
    refine guard_c (by simp only [andt_eq, catOk, ss, List.length_append, toStr_len, List.length_cons, List.length_nil, decide_eq_true_eq, true_and, and_true]; omega) ?_
    rfl
  · simp only [cond_true]
    refine guard_c (by simp only [andt_eq, catOk, ss, List.length_append, toStr_len, List.length_cons, List.length_nil, decide_eq_true_eq, true_and, and_true]; omega) ?_
    rfl

def impl_BuildSegment_t {α : Type} (bad : α) (k_ : Bytes → Bool → α) (src : Int) (dst : Int) (g : SSegment) : α :=
  let z0 : Bytes × Bool := PseudoHeader src dst g.Kind (len (bareSegment g))
  let z1 : Bytes := z0.1 ++ (bareSegment g)
  let z2 : Int := Checksum z1
  let z3 : Bytes := Word16 (bif bif g.Kind == 17 then z2 == 0 else false then 65535 else z2)
  bif !(SegmentOk g) then k_ [] false
  else bif andt true (bareOk g) then
      bif !z0.2 then k_ [] false
      else bif andt (andt true (catOk z0.1 (bareSegment g))) (ss z1) then
          bif andt true (PutBytes_ok (bareSegment g) (sumPlace g.Kind) z3) then
            k_ (PutBytes (bareSegment g) (sumPlace g.Kind) z3) true
          else bad
        else bad
    else bad
theorem sumPlace_eq (kind : Int) : sumPlace kind = bif kind == 6 then 16 else 6 := by
  unfold sumPlace impl_sumPlace_t
  cases kind == 6 <;> rfl
def segSum (src dst : Int) (g : SSegment) : Int := Checksum ((PseudoHeader src dst g.Kind (len (bareSegment g))).1 ++ bareSegment g)
def BuildSegment (src : Int) (dst : Int) (g : SSegment) : Bytes × Bool :=
  bif !(SegmentOk g) then ([], false) else bif !(PseudoHeader src dst g.Kind (len (bareSegment g))).2 then ([], false)
  else (PutBytes (bareSegment g) (sumPlace g.Kind) (Word16 (bif bif g.Kind == 17 then segSum src dst g == 0 else false then 65535 else segSum src dst g)), true)
theorem BuildSegment_len (src dst : Int) (g : SSegment) : (BuildSegment src dst g).1.length ≤ 340 := by
  unfold BuildSegment
  cases hs : SegmentOk g
  · exact Nat.zero_le _
  · cases (PseudoHeader src dst g.Kind (len (bareSegment g))).2
    · exact Nat.zero_le _
    · have a := seg_len hs
      have b := bareSegment_len g
      simp only [Bool.not_true, cond_false]
      rw [PutBytes_eqlen (by omega)]
      omega
theorem impl_BuildSegment_c {α : Type} (bad : α) (k_ : Bytes → Bool → α) (src : Int) (dst : Int) (g : SSegment) (h_src : WtC (.int .i64) (.int src)) (h_dst : WtC (.int .i64) (.int dst)) (h_g : WtL SSegment.ct g.enc) : impl_BuildSegment_t bad k_ src dst g = k_ (BuildSegment src dst g).1 (BuildSegment src dst g).2 := by
  unfold impl_BuildSegment_t BuildSegment
  refine cond_c (K := fun r : Bytes × Bool => k_ r.1 r.2) (fun _ => rfl) (fun hg => ?_)
  have hs : SegmentOk g = true := by simpa using hg
  have a := seg_len hs
  have b := bareSegment_len g
  have hp := PseudoHeader_len src dst g.Kind (len (bareSegment g))
  have g1 : bareOk g = true := decide_eq_true (by omega)
  have g2 : catOk (PseudoHeader src dst g.Kind (len (bareSegment g))).1 (bareSegment g) = true := cat_le (by omega)
  have g3 : ∀ v, PutBytes_ok (bareSegment g) (sumPlace g.Kind) (Word16 v) = true := fun v => by
    have := Word16_len v
    simp only [PutBytes_ok, Bool.and_eq_true, decide_eq_true_eq]; omega
  have g4 : ss ((PseudoHeader src dst g.Kind (len (bareSegment g))).1 ++ bareSegment g) = true := decide_eq_true (by rw [List.length_append]; omega)
  simp only [g1, g2, g3, g4, andt_true_l, cond_true]
  exact cond_k (K := fun r : Bytes × Bool => k_ r.1 r.2) rfl rfl

def spec_BuildSegment_t {α : Type} (bad : α) (k_ : Bytes → Bool → α) (src : Int) (dst : Int) (g : SSegment) : α :=
  let z0 : Bytes := (Word16 g.SrcPort) ++ (Word16 g.DstPort)
  let z1 : Bytes := z0 ++ (Word32 g.Seq)
  let z2 : Bytes := z1 ++ (Word32 g.Ack)
  let z3 : Bytes := z2 ++ (toStr ([[.int 80], [.int (IntKind.wrap .u8 g.Flags)]]))
  let z4 : Bytes := z3 ++ (Word16 g.Window)
  let z5 : Bytes := Word16 (w64 (8 + (len g.Body)))
  let z6 : Bytes := z0 ++ z5
  let z7 : Bytes := bif g.Kind == 6 then z4 ++ (Word32 0) else z6 ++ (Word16 0)
  let z8 : Bytes := z7 ++ g.Body
  let z9 : Bytes × Bool := PseudoHeader src dst g.Kind (len z8)
  let z10 : Bytes := z9.1
  let z11 : Bytes := z10 ++ z8
  let z12 : Int := bif g.Kind == 6 then 16 else 6
  let z13 : Int := Checksum z11
  let z14 : Bytes := Word16 (bif bif z13 == 0 then g.Kind == 17 else false then 65535 else z13)
  bif !(SegmentOk g) then k_ [] false
  else bif andt true (catOk (Word16 g.SrcPort) (Word16 g.DstPort)) then
      bif okm (g.Kind == 6) (andt (andt (andt (andt (andt true (catOk z0 (Word32 g.Seq))) (catOk z1 (Word32 g.Ack))) (catOk z2 (toStr ([[.int 80], [.int (IntKind.wrap .u8 g.Flags)]])))) (catOk z3 (Word16 g.Window))) (catOk z4 (Word32 0))) (andt (andt true (catOk z0 z5)) (catOk z6 (Word16 0))) then
        bif andt true (catOk z7 g.Body) then
          bif !z9.2 then k_ [] false
          else bif andt (andt true (catOk z10 z8)) (ss z11) then
              bif andt true (PutBytes_ok z8 z12 z14) then
                k_ (PutBytes z8 z12 z14) true
              else bad
            else bad
        else bad
      else bad
    else bad
theorem spec_BuildSegment_c {α : Type} (bad : α) (k_ : Bytes → Bool → α) (src : Int) (dst : Int) (g : SSegment) (h_src : WtC (.int .i64) (.int src)) (h_dst : WtC (.int .i64) (.int dst)) (h_g : WtL SSegment.ct g.enc) : spec_BuildSegment_t bad k_ src dst g = k_ (BuildSegment src dst g).1 (BuildSegment src dst g).2 := by
  unfold spec_BuildSegment_t BuildSegment
  refine cond_c (K := fun r : Bytes × Bool => k_ r.1 r.2) (fun _ => rfl) (fun hg => ?_)
  have hs : SegmentOk g = true := by simpa using hg
  have ha := seg_len hs
  have hb := bareSegment_len g
  have hp := PseudoHeader_len src dst g.Kind (len (bareSegment g))
  have a := Word16_len g.SrcPort
  have b := Word16_len g.DstPort
  have c := Word32_len g.Seq
  have d := Word32_len g.Ack
  have e := Word16_len g.Window
  have f := Word16_len 0
  have f4 := Word32_len 0
  have hh := Word16_len (w64 (8 + (len g.Body)))
  have e0 : Word32 0 = Word16 0 ++ Word16 0 := by unfold Word32 Word16 impl_Word32_t impl_Word16_t; rfl
  have eh : (bif g.Kind == 6 then Word16 g.SrcPort ++ Word16 g.DstPort ++ Word32 g.Seq ++ Word32 g.Ack ++ toStr ([[.int 80], [.int (IntKind.wrap .u8 g.Flags)]]) ++ Word16 g.Window ++ Word32 0 else Word16 g.SrcPort ++ Word16 g.DstPort ++ Word16 (w64 (8 + (len g.Body))) ++ Word16 0) = segHead g := by
    unfold segHead
    cases g.Kind == 6
    · rfl
    · simp only [cond_true, e0, List.append_assoc]
  refine guard_c (by simp only [andt_eq, catOk, ss, List.length_append, toStr_len, List.length_cons, List.length_nil, decide_eq_true_eq, true_and, and_true]; omega) ?_
  refine guard_c (okm_t (fun _ => (by simp only [andt_eq, catOk, ss, List.length_append, toStr_len, List.length_cons, List.length_nil, decide_eq_true_eq, true_and, and_true]; omega)) (fun _ => (by simp only [andt_eq, catOk, ss, List.length_append, toStr_len, List.length_cons, List.length_nil, decide_eq_true_eq, true_and, and_true]; omega))) ?_
  rw [eh]
  have hh2 := segHead_len g
  refine guard_c (by simp only [andt_eq, catOk, ss, List.length_append, toStr_len, List.length_cons, List.length_nil, decide_eq_true_eq, true_and, and_true]; omega) ?_
  have eb : segHead g ++ g.Body = bareSegment g := rfl
  rw [eb]
  have es : (bif g.Kind == 6 then (16 : Int) else 6) = sumPlace g.Kind := (sumPlace_eq _).symm
  have g2 : catOk (PseudoHeader src dst g.Kind (len (bareSegment g))).1 (bareSegment g) = true := cat_le (by omega)
  have g3 : ∀ v, PutBytes_ok (bareSegment g) (sumPlace g.Kind) (Word16 v) = true := fun v => by
    have := Word16_len v
    simp only [PutBytes_ok, Bool.and_eq_true, decide_eq_true_eq]; omega
  have ez : (bif segSum src dst g == 0 then g.Kind == 17 else false) = (bif g.Kind == 17 then segSum src dst g == 0 else false) := by
    cases segSum src dst g == 0 <;> cases g.Kind == 17 <;> rfl
  have es2 : Checksum ((PseudoHeader src dst g.Kind (len (bareSegment g))).1 ++ bareSegment g) = segSum src dst g := rfl
  have g4 : ss ((PseudoHeader src dst g.Kind (len (bareSegment g))).1 ++ bareSegment g) = true := decide_eq_true (by rw [List.length_append]; omega)
  simp only [es, es2, ez, g2, g3, g4, andt_true_l, cond_true]
  exact cond_k (K := fun r : Bytes × Bool => k_ r.1 r.2) rfl rfl

def impl_IpOk_t {α : Type} (k_ : Bool → α) (d : SIp) : α :=
  k_ (bif between d.Tos 0 255 then bif between d.Ttl 0 255 then bif between d.Proto 0 255 then bif between d.Id 0 65535 then bif between d.Src 0 4294967295 then bif between d.Dst 0 4294967295 then decide (len d.Body ≤ 380) else false else false else false else false else false else false)
def IpOk (d : SIp) : Bool := impl_IpOk_t id d
theorem impl_IpOk_c {α : Type} (k_ : Bool → α) (d : SIp) : impl_IpOk_t k_ d = k_ (IpOk d) := by
  rfl

def spec_IpOk_t {α : Type} (k_ : Bool → α) (d : SIp) : α :=
  k_ (bif between d.Tos 0 255 then bif between d.Ttl 0 255 then bif between d.Proto 0 255 then bif between d.Id 0 65535 then bif between d.Src 0 4294967295 then bif between d.Dst 0 4294967295 then decide (len d.Body ≤ 380) else false else false else false else false else false else false)
theorem spec_IpOk_c {α : Type} (k_ : Bool → α) (d : SIp) (h_d : WtL SIp.ct d.enc) : spec_IpOk_t k_ d = k_ (IpOk d) := by
  exact rfl

def impl_IpHeader_t {α : Type} (bad : α) (k_ : Bytes → Bool → α) (d : SIp) : α :=
  let z0 : Bytes := Word16 (w64 (20 + (len d.Body)))
  let z1 : Bytes := (toStr ([[.int 69], [.int (IntKind.wrap .u8 d.Tos)]])) ++ z0
  let z2 : Bytes := z1 ++ (Word16 d.Id)
  let z3 : Bytes := z2 ++ (Word16 16384)
  let z4 : Bytes := z3 ++ (toStr ([[.int (IntKind.wrap .u8 d.Ttl)], [.int (IntKind.wrap .u8 d.Proto)]]))
  let z5 : Bytes := z4 ++ (Word16 0)
  let z6 : Bytes := z5 ++ (Word32 d.Src)
  let z7 : Bytes := z6 ++ (Word32 d.Dst)
  let z8 : Bytes := Word16 (Checksum z7)
  bif !(IpOk d) then k_ [] false
  else bif andt (andt (andt (andt (andt (andt (andt true (catOk (toStr ([[.int 69], [.int (IntKind.wrap .u8 d.Tos)]])) z0)) (catOk z1 (Word16 d.Id))) (catOk z2 (Word16 16384))) (catOk z3 (toStr ([[.int (IntKind.wrap .u8 d.Ttl)], [.int (IntKind.wrap .u8 d.Proto)]])))) (catOk z4 (Word16 0))) (catOk z5 (Word32 d.Src))) (catOk z6 (Word32 d.Dst)) then
      bif andt (andt true (ss z7)) (PutBytes_ok z7 10 z8) then
        k_ (PutBytes z7 10 z8) true
      else bad
    else bad
def ipz (d : SIp) : Bytes := toStr ([[.int 69], [.int (IntKind.wrap .u8 d.Tos)]]) ++ Word16 (w64 (20 + (len d.Body))) ++ Word16 d.Id ++ Word16 16384 ++ toStr ([[.int (IntKind.wrap .u8 d.Ttl)], [.int (IntKind.wrap .u8 d.Proto)]]) ++ Word16 0 ++ Word32 d.Src ++ Word32 d.Dst
theorem ipz_len (d : SIp) : (ipz d).length ≤ 20 := by
  have a := Word16_len (w64 (20 + (len d.Body)))
  have b := Word16_len d.Id
  have c := Word16_len 16384
  have e := Word16_len 0
  have f := Word32_len d.Src
  have h := Word32_len d.Dst
  simp only [ipz, List.length_append, toStr_len, List.length_cons, List.length_nil]
  omega
def IpHeader (d : SIp) : Bytes × Bool := bif !(IpOk d) then ([], false) else (PutBytes (ipz d) 10 (Word16 (Checksum (ipz d))), true)
theorem IpOk_len {d : SIp} (h : IpOk d = true) : d.Body.length ≤ 380 := by
  unfold IpOk impl_IpOk_t at h
  by_cases h3 : len d.Body ≤ 380
  · simp only [len] at h3
    omega
  · rw [decide_eq_false h3] at h
    revert h
    cases between d.Tos 0 255 <;> cases between d.Ttl 0 255 <;> cases between d.Proto 0 255 <;> cases between d.Id 0 65535 <;> cases between d.Src 0 4294967295 <;> cases between d.Dst 0 4294967295 <;> simp
theorem IpHeader_len (d : SIp) : (IpHeader d).1.length ≤ 20 := by
  unfold IpHeader
  cases IpOk d
  · exact Nat.zero_le _
  · have := ipz_len d
    simp only [Bool.not_true, cond_false]
    rw [PutBytes_eqlen (by omega)]
    exact this
theorem IpHeader_ok {d : SIp} (h : (IpHeader d).2 = true) : IpOk d = true := by
  unfold IpHeader at h
  cases hi : IpOk d
  · rw [hi] at h; cases h
  · rfl
theorem impl_IpHeader_c {α : Type} (bad : α) (k_ : Bytes → Bool → α) (d : SIp) (h_d : WtL SIp.ct d.enc) : impl_IpHeader_t bad k_ d = k_ (IpHeader d).1 (IpHeader d).2 := by
  have a := Word16_len (w64 (20 + (len d.Body)))
  have b := Word16_len d.Id
  have c := Word16_len 16384
  have e := Word16_len 0
  have f := Word32_len d.Src
  have h := Word32_len d.Dst
  unfold impl_IpHeader_t IpHeader
  refine cond_c (K := fun r : Bytes × Bool => k_ r.1 r.2) (fun _ => rfl) (fun hg => ?_)
  refine guard_c (by simp only [andt_eq, catOk, ss, List.length_append, toStr_len, List.length_cons, List.length_nil, decide_eq_true_eq, true_and, and_true]; omega) ?_
  have hz := ipz_len d
  have g3 : ∀ v, PutBytes_ok (ipz d) 10 (Word16 v) = true := fun v => by
    have := Word16_len v
    simp only [PutBytes_ok, Bool.and_eq_true, decide_eq_true_eq]; omega
  have g4 : ss (ipz d) = true := decide_eq_true (by omega)
  refine guard_c ?_ rfl
  rw [andt_eq, andt_eq]
  exact ⟨⟨rfl, g4⟩, g3 _⟩

def spec_IpHeader_t {α : Type} (bad : α) (k_ : Bytes → Bool → α) (d : SIp) : α :=
  let z0 : Bytes := Word16 (w64 (20 + (len d.Body)))
  let z1 : Bytes := (toStr ([[.int 69], [.int (IntKind.wrap .u8 d.Tos)]])) ++ z0
  let z2 : Bytes := z1 ++ (Word16 d.Id)
  let z3 : Bytes := z2 ++ (Word16 16384)
  let z4 : Bytes := z3 ++ (toStr ([[.int (IntKind.wrap .u8 d.Ttl)], [.int (IntKind.wrap .u8 d.Proto)]]))
  let z5 : Bytes := z4 ++ (Word16 0)
  let z6 : Bytes := z5 ++ (Word32 d.Src)
  let z7 : Bytes := z6 ++ (Word32 d.Dst)
  let z8 : Bytes := Word16 (Checksum z7)
  bif !(IpOk d) then k_ [] false
  else bif andt (andt (andt (andt (andt (andt (andt true (catOk (toStr ([[.int 69], [.int (IntKind.wrap .u8 d.Tos)]])) z0)) (catOk z1 (Word16 d.Id))) (catOk z2 (Word16 16384))) (catOk z3 (toStr ([[.int (IntKind.wrap .u8 d.Ttl)], [.int (IntKind.wrap .u8 d.Proto)]])))) (catOk z4 (Word16 0))) (catOk z5 (Word32 d.Src))) (catOk z6 (Word32 d.Dst)) then
      bif andt (andt true (ss z7)) (PutBytes_ok z7 10 z8) then
        k_ (PutBytes z7 10 z8) true
      else bad
    else bad
theorem spec_IpHeader_c {α : Type} (bad : α) (k_ : Bytes → Bool → α) (d : SIp) (h_d : WtL SIp.ct d.enc) : spec_IpHeader_t bad k_ d = k_ (IpHeader d).1 (IpHeader d).2 := by
  have a := Word16_len (w64 (20 + (len d.Body)))
  have b := Word16_len d.Id
  have c := Word16_len 16384
  have e := Word16_len 0
  have f := Word32_len d.Src
  have h := Word32_len d.Dst
  unfold spec_IpHeader_t IpHeader
  refine cond_c (K := fun r : Bytes × Bool => k_ r.1 r.2) (fun _ => rfl) (fun hg => ?_)
  refine guard_c (by simp only [andt_eq, catOk, ss, List.length_append, toStr_len, List.length_cons, List.length_nil, decide_eq_true_eq, true_and, and_true]; omega) ?_
  have hz := ipz_len d
  have g3 : ∀ v, PutBytes_ok (ipz d) 10 (Word16 v) = true := fun v => by
    have := Word16_len v
    simp only [PutBytes_ok, Bool.and_eq_true, decide_eq_true_eq]; omega
  have g4 : ss (ipz d) = true := decide_eq_true (by omega)
  refine guard_c ?_ rfl
  rw [andt_eq, andt_eq]
  exact ⟨⟨rfl, g4⟩, g3 _⟩

def impl_BuildIp_t {α : Type} (bad : α) (k_ : Bytes → Bool → α) (d : SIp) : α :=
  bif !((IpHeader d).2) then k_ [] false
  else bif andt true (catOk ((IpHeader d).1) d.Body) then
      k_ (((IpHeader d).1) ++ d.Body) true
    else bad
def BuildIp (d : SIp) : Bytes × Bool := bif !(IpHeader d).2 then ([], false) else ((IpHeader d).1 ++ d.Body, true)
theorem BuildIp_len (d : SIp) : (BuildIp d).1.length ≤ 400 := by
  unfold BuildIp
  cases h : (IpHeader d).2
  · exact Nat.zero_le _
  · have h1 := IpOk_len (IpHeader_ok h)
    have h2 := IpHeader_len d
    simp only [Bool.not_true, cond_false, List.length_append]
    omega
theorem impl_BuildIp_c {α : Type} (bad : α) (k_ : Bytes → Bool → α) (d : SIp) (h_d : WtL SIp.ct d.enc) : impl_BuildIp_t bad k_ d = k_ (BuildIp d).1 (BuildIp d).2 := by
  unfold impl_BuildIp_t BuildIp
  refine cond_c (K := fun r : Bytes × Bool => k_ r.1 r.2) (fun _ => rfl) (fun hg => ?_)
  have h1 := IpOk_len (IpHeader_ok (d := d) (by simpa using hg))
  have h2 := IpHeader_len d
  refine guard_c (by simp only [andt_eq, catOk, ss, List.length_append, toStr_len, List.length_cons, List.length_nil, decide_eq_true_eq, true_and, and_true]; omega) rfl

def spec_BuildIp_t {α : Type} (bad : α) (k_ : Bytes → Bool → α) (d : SIp) : α :=
  bif !((IpHeader d).2) then k_ [] false
  else bif andt true (catOk ((IpHeader d).1) d.Body) then
      k_ (((IpHeader d).1) ++ d.Body) true
    else bad
theorem spec_BuildIp_c {α : Type} (bad : α) (k_ : Bytes → Bool → α) (d : SIp) (h_d : WtL SIp.ct d.enc) : spec_BuildIp_t bad k_ d = k_ (BuildIp d).1 (BuildIp d).2 := by
  unfold spec_BuildIp_t BuildIp
  refine cond_c (K := fun r : Bytes × Bool => k_ r.1 r.2) (fun _ => rfl) (fun hg => ?_)
  have h1 := IpOk_len (IpHeader_ok (d := d) (by simpa using hg))
  have h2 := IpHeader_len d
  refine guard_c (by simp only [andt_eq, catOk, ss, List.length_append, toStr_len, List.length_cons, List.length_nil, decide_eq_true_eq, true_and, and_true]; omega) rfl

def impl_PadBody_t {α : Type} (bad : α) (k_ : Bytes → α) (s : Bytes) : α :=
  let z0 : Bytes := repeatB 0 (w64 (46 - (len s)))
  bif decide (46 ≤ len s) then k_ s
  else bif andt (andt true (repeat_ok 0 (w64 (46 - (len s))))) (catOk s z0) then
      k_ (s ++ z0)
    else bad
def PadBody (s : Bytes) : Bytes := bif decide (46 ≤ len s) then s else s ++ l01Long (46 - len s) 0
theorem PadBody_len {s : Bytes} {n : Nat} (h : s.length ≤ n) (h46 : 46 ≤ n) : 46 ≤ (PadBody s).length ∧ (PadBody s).length ≤ n := by
  unfold PadBody
  by_cases hc : 46 ≤ len s
  · simp only [decide_eq_true hc, cond_true]
    simp only [len] at hc
    omega
  · simp only [decide_eq_false hc, cond_false, List.length_append, l01Long, List.length_replicate]
    simp only [len] at hc ⊢
    omega
theorem impl_PadBody_c {α : Type} (bad : α) (k_ : Bytes → α) (s : Bytes) (h_s : WtC .str (.str s)) : impl_PadBody_t bad k_ s = k_ (PadBody s) := by
  have hl := wt_str h_s
  have hl0 : 0 ≤ len s := by simp [len]
  have hl1 : len s ≤ 9223372036854775807 := by simp only [len]; omega
  unfold impl_PadBody_t PadBody
  by_cases h : 46 ≤ len s
  · have h2 : ¬ len s < 46 := by omega
    simp only [h, h2, decide_true, decide_false, cond_true, cond_false]
  · have h2 : len s < 46 := by omega
    have e : w64 (46 - len s) = 46 - len s := w64_in (by omega) (by omega)
    have o1 : l01Long_ok (46 - len s) 0 = true := between_iff.2 (by omega)
    have o2 : catOk s (l01Long (46 - len s) 0) = true := cat_le (by simp only [l01Long, List.length_replicate, len] at *; omega)
    simp only [h, h2, decide_true, decide_false, cond_true, cond_false, e, repeat_ok, repeatB, o1, o2, andt_true_l]

def spec_PadBody_t {α : Type} (bad : α) (k_ : Bytes → α) (s : Bytes) : α :=
  let z0 : Bytes := l01Long (w64 (46 - (len s))) 0
  bif decide (len s < 46) then
    bif andt (andt true (l01Long_ok (w64 (46 - (len s))) 0)) (catOk s z0) then
      k_ (s ++ z0)
    else bad
  else k_ s
theorem spec_PadBody_c {α : Type} (bad : α) (k_ : Bytes → α) (s : Bytes) (h_s : WtC .str (.str s)) : spec_PadBody_t bad k_ s = k_ (PadBody s) := by
  have hl := wt_str h_s
  have hl0 : 0 ≤ len s := by simp [len]
  have hl1 : len s ≤ 9223372036854775807 := by simp only [len]; omega
  unfold spec_PadBody_t PadBody
  by_cases h : 46 ≤ len s
  · have h2 : ¬ len s < 46 := by omega
    simp only [h, h2, decide_true, decide_false, cond_true, cond_false]
  · have h2 : len s < 46 := by omega
    have e : w64 (46 - len s) = 46 - len s := w64_in (by omega) (by omega)
    have o1 : l01Long_ok (46 - len s) 0 = true := between_iff.2 (by omega)
    have o2 : catOk s (l01Long (46 - len s) 0) = true := cat_le (by simp only [l01Long, List.length_replicate, len] at *; omega)
    simp only [h, h2, decide_true, decide_false, cond_true, cond_false, e, o1, o2, andt_true_l]

def impl_EthOk_t {α : Type} (k_ : Bool → α) (e : SEth) : α :=
  k_ (bif between e.Dst 0 281474976710655 then bif between e.Src 0 281474976710655 then bif between e.Vlan (-1) 4095 then bif between e.Type_ 1536 65535 then bif e.Type_ != 33024 then between (len e.Body) 46 400 else false else false else false else false else false)
def EthOk (e : SEth) : Bool := impl_EthOk_t id e
theorem impl_EthOk_c {α : Type} (k_ : Bool → α) (e : SEth) : impl_EthOk_t k_ e = k_ (EthOk e) := by
  rfl

def spec_EthOk_t {α : Type} (k_ : Bool → α) (e : SEth) : α :=
  k_ (bif between e.Dst 0 281474976710655 then bif between e.Src 0 281474976710655 then bif between e.Vlan (-1) 4095 then bif between e.Type_ 1536 65535 then bif e.Type_ != 33024 then between (len e.Body) 46 400 else false else false else false else false else false)
theorem spec_EthOk_c {α : Type} (k_ : Bool → α) (e : SEth) (h_e : WtL SEth.ct e.enc) : spec_EthOk_t k_ e = k_ (EthOk e) := by
  exact rfl

def impl_macBytes_t {α : Type} (bad : α) (k_ : Bytes → α) (a : Int) : α :=
  bif andt true (catOk (Word16 (shrI .i64 a 32)) (Word32 (bits .and .i64 a 4294967295))) then
    k_ ((Word16 (shrI .i64 a 32)) ++ (Word32 (bits .and .i64 a 4294967295)))
  else bad
def macBytes (a : Int) : Bytes := Word16 (shrI .i64 a 32) ++ Word32 (bits .and .i64 a 4294967295)
theorem macBytes_len (x : Int) : (macBytes x).length ≤ 6 := by
  have a := Word16_len (shrI .i64 x 32)
  have b := Word32_len (bits .and .i64 x 4294967295)
  simp only [macBytes, List.length_append]
  omega
theorem impl_macBytes_c {α : Type} (bad : α) (k_ : Bytes → α) (a : Int) (h_a : WtC (.int .i64) (.int a)) : impl_macBytes_t bad k_ a = k_ (macBytes a) := by
  have q1 := Word16_len (shrI .i64 a 32)
  have q2 := Word32_len (bits .and .i64 a 4294967295)
  unfold impl_macBytes_t macBytes
  refine guard_c (by simp only [andt_eq, catOk, ss, List.length_append, toStr_len, List.length_cons, List.length_nil, decide_eq_true_eq, true_and, and_true]; omega) rfl

def spec_l04Address_t {α : Type} (bad : α) (k_ : Bytes → α) (x : Int) : α :=
  bif andt true (catOk (Word16 (shrI .i64 x 32)) (Word32 (bits .and .i64 x 4294967295))) then
    k_ ((Word16 (shrI .i64 x 32)) ++ (Word32 (bits .and .i64 x 4294967295)))
  else bad
theorem spec_l04Address_c {α : Type} (bad : α) (k_ : Bytes → α) (x : Int) (h_x : WtC (.int .i64) (.int x)) : spec_l04Address_t bad k_ x = k_ (macBytes x) := by
  have q1 := Word16_len (shrI .i64 x 32)
  have q2 := Word32_len (bits .and .i64 x 4294967295)
  unfold spec_l04Address_t macBytes
  refine guard_c (by simp only [andt_eq, catOk, ss, List.length_append, toStr_len, List.length_cons, List.length_nil, decide_eq_true_eq, true_and, and_true]; omega) rfl

def impl_BuildEth_t {α : Type} (bad : α) (k_ : Bytes → Bool → α) (e : SEth) : α :=
  let z0 : Bytes := (macBytes e.Dst) ++ (macBytes e.Src)
  let z1 : Bytes := (Word16 33024) ++ (Word16 e.Vlan)
  let z2 : Bytes := bif decide (0 ≤ e.Vlan) then z0 ++ z1 else z0
  let z3 : Bytes := z2 ++ (Word16 e.Type_)
  bif !(EthOk e) then k_ [] false
  else bif andt true (catOk (macBytes e.Dst) (macBytes e.Src)) then
      bif okm (decide (0 ≤ e.Vlan)) (andt (andt true (catOk (Word16 33024) (Word16 e.Vlan))) (catOk z0 z1)) true then
        bif andt (andt true (catOk z2 (Word16 e.Type_))) (catOk z3 e.Body) then
          k_ (z3 ++ e.Body) true
        else bad
      else bad
    else bad
def ethHead (e : SEth) : Bytes := bif decide (0 ≤ e.Vlan) then macBytes e.Dst ++ macBytes e.Src ++ (Word16 33024 ++ Word16 e.Vlan) else macBytes e.Dst ++ macBytes e.Src
def BuildEth (e : SEth) : Bytes × Bool := bif !(EthOk e) then ([], false) else (ethHead e ++ Word16 e.Type_ ++ e.Body, true)
theorem ethHead_len (e : SEth) : (ethHead e).length ≤ 16 := by
  have a := macBytes_len e.Dst
  have b := macBytes_len e.Src
  have c := Word16_len 33024
  have d := Word16_len e.Vlan
  unfold ethHead
  cases decide (0 ≤ e.Vlan)
  · simp only [cond_false, List.length_append]; omega
  · simp only [cond_true, List.length_append]; omega
theorem EthOk_len {e : SEth} (h : EthOk e = true) : e.Body.length ≤ 400 := by
  unfold EthOk impl_EthOk_t at h
  cases hb : between (len e.Body) 46 400
  · rw [hb] at h
    revert h
    cases between e.Dst 0 281474976710655 <;> cases between e.Src 0 281474976710655 <;> cases between e.Vlan (-1) 4095 <;> cases between e.Type_ 1536 65535 <;> cases e.Type_ != 33024 <;> simp
  · have := between_iff.1 hb
    simp only [len] at this
    omega
theorem BuildEth_len (e : SEth) : (BuildEth e).1.length ≤ 420 := by
  unfold BuildEth
  cases h : EthOk e
  · exact Nat.zero_le _
  · have h1 := EthOk_len h
    have h2 := ethHead_len e
    have h3 := Word16_len e.Type_
    simp only [Bool.not_true, cond_false, List.length_append]
    omega
theorem impl_BuildEth_c {α : Type} (bad : α) (k_ : Bytes → Bool → α) (e : SEth) (h_e : WtL SEth.ct e.enc) : impl_BuildEth_t bad k_ e = k_ (BuildEth e).1 (BuildEth e).2 := by
  have a := macBytes_len e.Dst
  have b := macBytes_len e.Src
  have c := Word16_len 33024
  have d := Word16_len e.Vlan
  have f := Word16_len e.Type_
  unfold impl_BuildEth_t BuildEth
  refine cond_c (K := fun r : Bytes × Bool => k_ r.1 r.2) (fun _ => rfl) (fun hg => ?_)
  have hb := EthOk_len (e := e) (by simpa using hg)
  refine guard_c (by simp only [andt_eq, catOk, ss, List.length_append, toStr_len, List.length_cons, List.length_nil, decide_eq_true_eq, true_and, and_true]; omega) ?_
  refine guard_c (okm_t (fun _ => (by simp only [andt_eq, catOk, ss, List.length_append, toStr_len, List.length_cons, List.length_nil, decide_eq_true_eq, true_and, and_true]; omega)) (fun _ => rfl)) ?_
  have eh : (bif decide (0 ≤ e.Vlan) then macBytes e.Dst ++ macBytes e.Src ++ (Word16 33024 ++ Word16 e.Vlan) else macBytes e.Dst ++ macBytes e.Src) = ethHead e := rfl
  rw [eh]
  have hh := ethHead_len e
  refine guard_c (by simp only [andt_eq, catOk, ss, List.length_append, toStr_len, List.length_cons, List.length_nil, decide_eq_true_eq, true_and, and_true]; omega) rfl

def spec_BuildEth_t {α : Type} (bad : α) (k_ : Bytes → Bool → α) (e : SEth) : α :=
  let z0 : Bytes := (macBytes e.Dst) ++ (macBytes e.Src)
  let z1 : Bytes := z0 ++ (Word16 33024)
  let z2 : Bytes := bif decide (0 ≤ e.Vlan) then z1 ++ (Word16 e.Vlan) else z0
  let z3 : Bytes := z2 ++ (Word16 e.Type_)
  bif !(EthOk e) then k_ [] false
  else bif andt true (catOk (macBytes e.Dst) (macBytes e.Src)) then
      bif okm (decide (0 ≤ e.Vlan)) (andt (andt true (catOk z0 (Word16 33024))) (catOk z1 (Word16 e.Vlan))) true then
        bif andt (andt true (catOk z2 (Word16 e.Type_))) (catOk z3 e.Body) then
          k_ (z3 ++ e.Body) true
        else bad
      else bad
    else bad
theorem spec_BuildEth_c {α : Type} (bad : α) (k_ : Bytes → Bool → α) (e : SEth) (h_e : WtL SEth.ct e.enc) : spec_BuildEth_t bad k_ e = k_ (BuildEth e).1 (BuildEth e).2 := by
  have a := macBytes_len e.Dst
  have b := macBytes_len e.Src
  have c := Word16_len 33024
  have d := Word16_len e.Vlan
  have f := Word16_len e.Type_
  unfold spec_BuildEth_t BuildEth
  refine cond_c (K := fun r : Bytes × Bool => k_ r.1 r.2) (fun _ => rfl) (fun hg => ?_)
  have hb := EthOk_len (e := e) (by simpa using hg)
  refine guard_c (by simp only [andt_eq, catOk, ss, List.length_append, toStr_len, List.length_cons, List.length_nil, decide_eq_true_eq, true_and, and_true]; omega) ?_
  refine guard_c (okm_t (fun _ => (by simp only [andt_eq, catOk, ss, List.length_append, toStr_len, List.length_cons, List.length_nil, decide_eq_true_eq, true_and, and_true]; omega)) (fun _ => rfl)) ?_
  have eh : (bif decide (0 ≤ e.Vlan) then macBytes e.Dst ++ macBytes e.Src ++ Word16 33024 ++ Word16 e.Vlan else macBytes e.Dst ++ macBytes e.Src) = ethHead e := by
    unfold ethHead
    cases decide (0 ≤ e.Vlan)
    · rfl
    · simp only [cond_true, List.append_assoc]
  rw [eh]
  have hh := ethHead_len e
  refine guard_c (by simp only [andt_eq, catOk, ss, List.length_append, toStr_len, List.length_cons, List.length_nil, decide_eq_true_eq, true_and, and_true]; omega) rfl

def impl_BuildImage_t {α : Type} (k_ : Bytes → Bool → α) (p : SPacket) : α :=
  let z0 : Bytes × Bool := BuildEth (⟨p.DstMac, p.SrcMac, p.Vlan, 2048, PadBody ((BuildIp (⟨p.Tos, p.Id, p.Ttl, p.Seg.Kind, p.SrcIp, p.DstIp, (BuildSegment p.SrcIp p.DstIp p.Seg).1⟩ : SIp)).1)⟩ : SEth)
  bif !(SuperOk p) then k_ [] false
  else k_ z0.1 z0.2
def imgEth (p : SPacket) : SEth := (⟨p.DstMac, p.SrcMac, p.Vlan, 2048, PadBody (BuildIp (⟨p.Tos, p.Id, p.Ttl, p.Seg.Kind, p.SrcIp, p.DstIp, (BuildSegment p.SrcIp p.DstIp p.Seg).1⟩ : SIp)).1⟩ : SEth)
def BuildImage (p : SPacket) : Bytes × Bool := bif !(SuperOk p) then ([], false) else BuildEth (imgEth p)
theorem BuildImage_len (p : SPacket) : (BuildImage p).1.length ≤ 420 := by
  unfold BuildImage
  cases SuperOk p
  · exact Nat.zero_le _
  · exact BuildEth_len _
theorem impl_BuildImage_c {α : Type} (k_ : Bytes → Bool → α) (p : SPacket) (h_p : WtL SPacket.ct p.enc) : impl_BuildImage_t k_ p = k_ (BuildImage p).1 (BuildImage p).2 := by
  unfold impl_BuildImage_t BuildImage
  exact cond_k (K := fun r : Bytes × Bool => k_ r.1 r.2) rfl rfl

def spec_BuildImage_t {α : Type} (k_ : Bytes → Bool → α) (p : SPacket) : α :=
  let z0 : Bytes × Bool := BuildEth (⟨p.DstMac, p.SrcMac, p.Vlan, 2048, PadBody ((BuildIp (⟨p.Tos, p.Id, p.Ttl, p.Seg.Kind, p.SrcIp, p.DstIp, (BuildSegment p.SrcIp p.DstIp p.Seg).1⟩ : SIp)).1)⟩ : SEth)
  bif !(SuperOk p) then k_ [] false
  else k_ z0.1 z0.2
theorem spec_BuildImage_c {α : Type} (k_ : Bytes → Bool → α) (p : SPacket) (h_p : WtL SPacket.ct p.enc) : spec_BuildImage_t k_ p = k_ (BuildImage p).1 (BuildImage p).2 := by
  unfold spec_BuildImage_t BuildImage
  exact cond_k (K := fun r : Bytes × Bool => k_ r.1 r.2) rfl rfl

def impl_PacketOk_t {α : Type} (k_ : Bool → α) (p : SPacket) : α :=
  k_ (bif SuperOk p then decide (len p.Seg.Body ≤ 128) else false)
def PacketOk (p : SPacket) : Bool := impl_PacketOk_t id p
theorem impl_PacketOk_c {α : Type} (k_ : Bool → α) (p : SPacket) : impl_PacketOk_t k_ p = k_ (PacketOk p) := by
  rfl

def spec_PacketOk_t {α : Type} (k_ : Bool → α) (p : SPacket) : α :=
  k_ (bif SuperOk p then decide (len p.Seg.Body ≤ 128) else false)
theorem spec_PacketOk_c {α : Type} (k_ : Bool → α) (p : SPacket) (h_p : WtL SPacket.ct p.enc) : spec_PacketOk_t k_ p = k_ (PacketOk p) := by
  exact rfl

end
end Go.Proofs.Ytfnkhejoihnlnaa.Pl
