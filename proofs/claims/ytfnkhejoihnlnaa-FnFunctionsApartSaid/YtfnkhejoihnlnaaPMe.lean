/- What functions of the program compute, in plain Lean, as the value machine runs them. Conditions: none. -/
import Derived.Test.YtfnkhejoihnlnaaPMp
import Derived.Test.YtfnkhejoihnlnaaPLo
import Derived.Test.YtfnkhejoihnlnaaPPo
import Derived.Test.YtfnkhejoihnlnaaPDb
import Derived.Test.YtfnkhejoihnlnaaBit
set_option linter.unusedVariables false
set_option linter.unusedSimpArgs false
set_option maxRecDepth 100000
namespace Go.Proofs.Ytfnkhejoihnlnaa.Pl
open Vm
noncomputable section

structure SMemory where
  Pages : Rows
def SMemory.enc (x : SMemory) : List DC := [.sl x.Pages]
def SMemory.decAt (r : List DC) (o : Nat) : SMemory := ⟨rR r (o + 0)⟩
def SMemory.ct : List CT := [.sl [.str]]
theorem SMemory.eta {r : List DC} (h : WtL SMemory.ct r) : (SMemory.decAt r 0).enc = r := (show (SMemory.decAt r 0).enc = canonL SMemory.ct r 0 from by kernel_rfl).trans (canon_eq h)
theorem SMemory.of_wt {r : List CT} {ds : List DC} (h : WtL (SMemory.ct ++ r) ds) : ∃ (x : SMemory) (ds' : List DC), ds = x.enc ++ ds' ∧ WtL SMemory.ct x.enc ∧ WtL r ds' := by
  obtain ⟨d1, d2, rfl, h1, h2⟩ := wtl_split h
  exact ⟨SMemory.decAt d1 0, d2, by rw [SMemory.eta h1], by rw [SMemory.eta h1]; exact h1, h2⟩
theorem SMemory.wt_Pages {x : SMemory} (h : WtL SMemory.ct x.enc) : WtC (.sl [.str]) (.sl x.Pages) := wtl_get 0 h rfl rfl

def impl_copyStrings_t {α : Type} (bad : α) (k_ : Rows → α) (l : Rows) : α :=
  bif andt true (room2 16 [] l) then
    k_ l
  else bad
theorem impl_copyStrings_c {α : Type} (bad : α) (k_ : Rows → α) (l : Rows) (h_l : WtC (.sl [.str]) (.sl l)) (hok : sm l = true) : impl_copyStrings_t bad k_ l = k_ (idf l) := by
  unfold impl_copyStrings_t
  rw [room2_sm hok (show 16 ≤ 8388608 by omega)]
  rfl

def impl_copyMemory_t {α : Type} (bad : α) (k_ : SMemory → α) (m : SMemory) : α :=
  bif andt true (sm m.Pages) then
    k_ (⟨idf m.Pages⟩ : SMemory)
  else bad
def memSm (m : SMemory) : Bool := sm m.Pages
theorem impl_copyMemory_c {α : Type} (bad : α) (k_ : SMemory → α) (m : SMemory) (h_m : WtL SMemory.ct m.enc) (hok : memSm m = true) : impl_copyMemory_t bad k_ m = k_ (idf m) := by
  have h : sm m.Pages = true := hok
  unfold impl_copyMemory_t
  simp only [h, andt_true_l, cond_true]
  rfl

def impl_MemoryOk_l0 {α : Type} (bad : α) (k_ : Bool → α) (x : Rows) (x_1 : Int) (m_1 : Rows) (ih0 : Int → α) (x_2 : Int) : α :=
  bif decide (x_2 < x_1) then
    bif andt true (idx x_2 x) then
      bif (len (rS (nth x (Int.toNat x_2)) 0)) != 128 then k_ false
      else ih0 (w64 (x_2 + 1))
    else bad
  else k_ (decide (len m_1 ≤ 64))
def impl_MemoryOk_L0 {α : Type} (bad : α) (k_ : Bool → α) (N : Nat) (x : Rows) (x_1 : Int) (m_1 : Rows) (m_ : Nat) : Int → α :=
  Nat.rec (motive := fun _ => Int → α) (fun _ => bad) (fun _ ih0 => impl_MemoryOk_l0 bad k_ x x_1 m_1 ih0) m_
theorem impl_MemoryOk_L0_z {α : Type} (bad : α) (k_ : Bool → α) (N : Nat) (x : Rows) (x_1 : Int) (m_1 : Rows) (x_2 : Int) : impl_MemoryOk_L0 bad k_ N x x_1 m_1 0 x_2 = bad := rfl
theorem impl_MemoryOk_L0_s {α : Type} (bad : α) (k_ : Bool → α) (N : Nat) (x : Rows) (x_1 : Int) (m_1 : Rows) (m_ : Nat) (x_2 : Int) : impl_MemoryOk_L0 bad k_ N x x_1 m_1 (m_ + 1) x_2 = impl_MemoryOk_l0 bad k_ x x_1 m_1 (impl_MemoryOk_L0 bad k_ N x x_1 m_1 m_) x_2 := rfl
def impl_MemoryOk_t {α : Type} (bad : α) (k_ : Bool → α) (l0 : Rows → Int → Rows → Int → α) (m : SMemory) : α :=
  l0 m.Pages (len m.Pages) m.Pages 0
def impl_MemoryOk_f {α : Type} (bad : α) (k_ : Bool → α) (N : Nat) (m : SMemory) : α := impl_MemoryOk_t bad k_ (fun x x_1 m_1 => impl_MemoryOk_L0 bad k_ N x x_1 m_1 N) m
def MemoryOk (m : SMemory) : Bool := bif anyIdx (fun _ r => (len (rS r 0)) != 128) m.Pages 0 then false else decide (len m.Pages ≤ 64)
theorem impl_MemoryOk_c {α : Type} (bad : α) (k_ : Bool → α) (m : SMemory) (h_m : WtL SMemory.ct m.enc) : ∃ N, impl_MemoryOk_f bad k_ N m = k_ (MemoryOk m) := by
  obtain ⟨hl, _⟩ := wt_sl (SMemory.wt_Pages h_m)
  refine ⟨m.Pages.length + 1, ?_⟩
  unfold impl_MemoryOk_f impl_MemoryOk_t MemoryOk
  refine (loop_rows0 m.Pages (impl_MemoryOk_L0 bad k_ (m.Pages.length + 1) m.Pages (len m.Pages) m.Pages) (fun i r c => bif (len (rS r 0)) != 128 then k_ false else c) (k_ (decide (len m.Pages ≤ 64))) ?_ ?_).trans ?_
  · intro n i h
    rw [impl_MemoryOk_L0_s]
    simp only [impl_MemoryOk_l0, lt_len h, idx_nat h, w64_succ h hl, Int.toNat_natCast, andt_true_l, andt_true_r, cond_true]
  · intro n
    rw [impl_MemoryOk_L0_s]
    simp only [impl_MemoryOk_l0, not_lt_len, cond_false]
  · refine (go_anyIdx (fun _ r => (len (rS r 0)) != 128) _ _ m.Pages 0).trans ?_
    exact cond_k rfl rfl


/-- Pages of 128 bytes. -/
def pgs (l : Rows) : Prop := ∀ i, i < l.length → ∃ p : Bytes, nth l i = [.str p] ∧ p.length = 128
theorem pgs_of {l : Rows} (hw : WtC (.sl [.str]) (.sl l)) (h : MemoryOk (⟨l⟩ : SMemory) = true) : pgs l ∧ l.length ≤ 64 := by
  unfold MemoryOk at h
  cases ha : anyIdx (fun _ r => (len (rS r 0)) != 128) l 0
  · rw [show anyIdx (fun _ r => (len (rS r 0)) != 128) (⟨l⟩ : SMemory).Pages 0 = false from ha] at h
    have hl : len l ≤ 64 := of_decide_eq_true h
    refine ⟨fun i hi => ?_, by simp only [len] at hl; omega⟩
    obtain ⟨_, hw⟩ := wt_sl hw
    have h1 := row_str (hw (nth l i) (nth_mem hi))
    have h2 := anyIdx_no ha i hi
    refine ⟨rS (nth l i) 0, h1.symm, ?_⟩
    have h3 : len (rS (nth l i) 0) = 128 := by simpa using h2
    simp only [len] at h3
    omega
  · rw [show anyIdx (fun _ r => (len (rS r 0)) != 128) (⟨l⟩ : SMemory).Pages 0 = true from ha] at h
    cases h
theorem pgs_ok {l : Rows} (h : pgs l) (hl : l.length ≤ 64) : MemoryOk (⟨l⟩ : SMemory) = true := by
  unfold MemoryOk
  rw [anyIdx_of_no (fun i hi => ?_)]
  · exact decide_eq_true (by simp only [len]; omega)
  · obtain ⟨p, hp, h2⟩ := h i hi
    show (len (rS (nth l i) 0) != 128) = false
    rw [hp]
    show ((p.length : Int) != 128) = false
    rw [h2]
    rfl
theorem tdiv_nat (a b : Nat) : Int.tdiv (a : Int) (b : Int) = ((a / b : Nat) : Int) := rfl
theorem tmod_nat (a b : Nat) : Int.tmod (a : Int) (b : Int) = ((a % b : Nat) : Int) := rfl
theorem tdiv_128 (a : Nat) : Int.tdiv (a : Int) 128 = ((a / 128 : Nat) : Int) := tdiv_nat a 128
theorem tmod_128 (a : Nat) : Int.tmod (a : Int) 128 = ((a % 128 : Nat) : Int) := tmod_nat a 128

def impl_place_t {α : Type} (bad : α) (k_ : Int → α) (list_ : Rows) (domain : Int) (address : Int) (write : Bool) : α :=
  let z0 : Int := pageMapping list_ domain (w64 (Int.tdiv address 128))
  let z1 : Bool := decide (z0 < 0)
  let z2 : Bool := andt true (idx z0 list_)
  let z3 : List DC := nth list_ (Int.toNat z0)
  bif decide (address < 0) then k_ (-1)
  else bif okm z1 true (okm write z2 true) then
      bif bif z1 then true else bif write then !(rB z3 3) else false then k_ (-1)
      else bif z2 then
          k_ (w64 ((w64 ((rI z3 2) * 128)) + (Int.tmod address 128)))
        else bad
    else bad
def plIx (list_ : Rows) (domain : Int) (address : Int) : Int := pageMapping list_ domain (w64 (Int.tdiv address 128))
def place (list_ : Rows) (domain : Int) (address : Int) (write : Bool) : Int :=
  bif decide (address < 0) then -1
  else bif bif decide (plIx list_ domain address < 0) then true else bif write then !(rB (nth list_ (Int.toNat (plIx list_ domain address))) 3) else false then -1
  else w64 ((w64 ((rI (nth list_ (Int.toNat (plIx list_ domain address))) 2) * 128)) + (Int.tmod address 128))
theorem plIx_cases (list_ : Rows) (domain address : Int) : plIx list_ domain address < 0 ∨ ∃ i : Nat, i < list_.length ∧ plIx list_ domain address = (i : Int) ∧ rI (nth list_ i) 0 = domain := by
  unfold plIx pageMapping
  rcases findIdx_spec (fun _ r => bif (rI r 0) == domain then (rI r 1) == (w64 (Int.tdiv address 128)) else false) list_ 0 with ⟨h, _⟩ | ⟨i, h1, h2, h3⟩
  · exact .inl (by rw [h]; decide)
  · refine .inr ⟨i, h1, by rw [h2]; simp, ?_⟩
    have := (cand _ _).1 h3
    simpa using this.1
theorem impl_place_c {α : Type} (bad : α) (k_ : Int → α) (list_ : Rows) (domain : Int) (address : Int) (write : Bool) (h_list_ : WtC (.sl [.int .i64, .int .i64, .int .i64, .bool]) (.sl list_)) (h_domain : WtC (.int .i64) (.int domain)) (h_address : WtC (.int .i64) (.int address)) (h_write : WtC .bool (.bool write)) : impl_place_t bad k_ list_ domain address write = k_ (place list_ domain address write) := by
  obtain ⟨hl, _⟩ := wt_sl h_list_
  unfold impl_place_t place
  refine cond_k rfl ?_
  show (bif okm (decide (plIx list_ domain address < 0)) true (okm write (andt true (idx (plIx list_ domain address) list_)) true) then _ else bad) = _
  rcases plIx_cases list_ domain address with h | ⟨i, h1, h2, _⟩
  · have e : decide (plIx list_ domain address < 0) = true := decide_eq_true h
    have e2 : ∀ x, okm true true x = true := fun x => by cases x <;> rfl
    have e' : decide (pageMapping list_ domain (w64 (Int.tdiv address 128)) < 0) = true := e
    simp only [e, e', e2, cond_true]
  · have hx : idx (plIx list_ domain address) list_ = true := by rw [h2]; exact idx_nat h1
    have hx' : idx (pageMapping list_ domain (w64 (Int.tdiv address 128))) list_ = true := hx
    simp only [hx, hx', andt_true_l, okm_tt, cond_true]
    exact cond_k rfl rfl

def impl_within_t {α : Type} (k_ : Bool → α) (m : SMemory) (at_ : Int) (n : Int) : α :=
  let z0 : Int := w64 ((len m.Pages) * 128)
  k_ (bif MemoryOk m then bif decide (0 ≤ n) then bif decide (n ≤ z0) then bif decide (0 ≤ at_) then decide (at_ ≤ w64 (z0 - n)) else false else false else false else false)
def within (m : SMemory) (at_ : Int) (n : Int) : Bool := impl_within_t id m at_ n
theorem impl_within_c {α : Type} (k_ : Bool → α) (m : SMemory) (at_ : Int) (n : Int) : impl_within_t k_ m at_ n = k_ (within m at_ n) := by
  rfl


theorem within_m {l : Rows} {a n : Int} (hw : WtC (.sl [.str]) (.sl l)) (h : within (⟨l⟩ : SMemory) a n = true) : pgs l ∧ l.length ≤ 64 ∧ 0 ≤ n ∧ 0 ≤ a ∧ a + n ≤ 128 * l.length := by
  have h0 : (bif MemoryOk (⟨l⟩ : SMemory) then bif decide (0 ≤ n) then bif decide (n ≤ w64 ((len l) * 128)) then bif decide (0 ≤ a) then decide (a ≤ w64 (w64 ((len l) * 128) - n)) else false else false else false else false) = true := h
  simp only [cand, decide_eq_true_eq] at h0
  obtain ⟨h1, h2, h3, h4, h5⟩ := h0
  obtain ⟨p1, p2⟩ := pgs_of hw h1
  have e : w64 ((len l) * 128) = 128 * (l.length : Int) := by simp only [len]; rw [w64_in (by omega) (by omega)]; omega
  rw [e] at h3 h5
  rw [w64_in (by omega) (by omega)] at h5
  exact ⟨p1, p2, h2, h4, by omega⟩
theorem within_of {l : Rows} {a n : Nat} (hp : pgs l) (hl : l.length ≤ 64) (h : a + n ≤ 128 * l.length) : within (⟨l⟩ : SMemory) (a : Int) (n : Int) = true := by
  have e : w64 ((len l) * 128) = 128 * (l.length : Int) := by simp only [len]; rw [w64_in (by omega) (by omega)]; omega
  have h0 : (bif MemoryOk (⟨l⟩ : SMemory) then bif decide (0 ≤ (n : Int)) then bif decide ((n : Int) ≤ w64 ((len l) * 128)) then bif decide (0 ≤ (a : Int)) then decide ((a : Int) ≤ w64 (w64 ((len l) * 128) - (n : Int))) else false else false else false else false) = true := by
    simp only [cand, decide_eq_true_eq]
    refine ⟨pgs_ok hp hl, by omega, by rw [e]; omega, by omega, ?_⟩
    rw [e, w64_in (by omega) (by omega)]
    omega
  exact h0
/-! writing -/
def wmPage (p : Bytes) (k : Nat) (s : Bytes) : Bytes := p.take k ++ (s.take (128 - k) ++ p.drop (k + min s.length (128 - k)))
def wmStep (l : Rows) (a : Nat) (s : Bytes) : Rows := l.set (a / 128) [.str (wmPage (rS (nth l (a / 128)) 0) (a % 128) s)]
def wmGo : Nat → Nat → Bytes → Rows → Rows
  | 0, _, _, l => l
  | m + 1, a, s, l => bif decide (0 < s.length) then wmGo m (a + min s.length (128 - a % 128)) (s.drop (min s.length (128 - a % 128))) (wmStep l a s) else l
theorem wmPage_len {p : Bytes} {k : Nat} {s : Bytes} (h : p.length = 128) (hk : k ≤ 128) : (wmPage p k s).length = 128 := by
  simp only [wmPage, List.length_append, List.length_take, List.length_drop]
  omega
theorem wmStep_pgs {l : Rows} {a : Nat} {s : Bytes} (h : pgs l) (ha : a / 128 < l.length) : pgs (wmStep l a s) ∧ (wmStep l a s).length = l.length := by
  refine ⟨fun i hi => ?_, by simp [wmStep]⟩
  unfold wmStep at hi ⊢
  rw [List.length_set] at hi
  rw [nth_set l (a / 128) i _ ha]
  by_cases he : i = a / 128
  · rw [if_pos he]
    obtain ⟨p, hp, h2⟩ := h (a / 128) ha
    refine ⟨_, rfl, ?_⟩
    rw [hp]
    exact wmPage_len h2 (by omega)
  · rw [if_neg he]
    exact h i hi
theorem wmGo_pgs : ∀ (m a : Nat) (s : Bytes) (l : Rows), pgs l → a + s.length ≤ 128 * l.length → pgs (wmGo m a s l) ∧ (wmGo m a s l).length = l.length
  | 0, _, _, _, h, _ => ⟨h, rfl⟩
  | m + 1, a, s, l, h, ha => by
    unfold wmGo
    by_cases hs : 0 < s.length
    · rw [decide_eq_true hs, cond_true]
      have h1 := wmStep_pgs (a := a) (s := s) h (by omega)
      have h2 := wmGo_pgs m (a + min s.length (128 - a % 128)) (s.drop (min s.length (128 - a % 128))) (wmStep l a s) h1.1 (by rw [h1.2, List.length_drop]; omega)
      exact ⟨h2.1, h2.2.trans h1.2⟩
    · rw [decide_eq_false hs, cond_false]
      exact ⟨h, rfl⟩
theorem wmGo_nil : ∀ (m a : Nat) (l : Rows), wmGo m a [] l = l
  | 0, _, _ => rfl
  | _ + 1, _, _ => rfl
theorem wmGo_other {m a : Nat} {s : Bytes} {l : Rows} (h : a % 128 + s.length ≤ 128) (ha : a / 128 < l.length) : ∀ i, i ≠ a / 128 → nth (wmGo m a s l) i = nth l i := by
  intro i hi
  cases m with
  | zero => rfl
  | succ m =>
    unfold wmGo
    cases hs : decide (0 < s.length)
    · rfl
    · rw [cond_true]
      have e : s.drop (min s.length (128 - a % 128)) = [] := List.drop_eq_nil_of_le (by omega)
      rw [e, wmGo_nil]
      unfold wmStep
      rw [nth_set l _ i _ ha, if_neg hi]

def impl_WriteMemory_l0 {α : Type} (bad : α) (k_ : SMemory → Bool → α) (ih0 : Int → Bytes → Rows → α) (at_1 : Int) (s_1 : Bytes) (out_0 : Rows) : α :=
  let z0 : Bool := andt (andt true (idx (w64 (Int.tdiv at_1 128)) out_0)) (inl (Int.toNat (w64 (Int.tdiv at_1 128))) out_0)
  let z1 : List DC := nth out_0 (Int.toNat (w64 (Int.tdiv at_1 128)))
  let z2 : Rows := ofStr (rS z1 0)
  let z3 : Int := cpN s_1 z2 (Int.toNat (Int.tmod at_1 128))
  bif decide (0 < len s_1) then
    bif z0 then
      bif andt (andt true ((okL z2 (Int.tmod at_1 128)) && (decide (0 < List.length z2)))) (decide (Int.toNat (Int.tmod at_1 128) ≤ List.length z2)) then
        bif z0 then
          bif andt true (okL s_1 z3) then
            ih0 (w64 (at_1 + z3)) (subL s_1 z3) (List.set out_0 (Int.toNat (w64 (Int.tdiv at_1 128))) (splice z1 0 [.str (toStr (cpR s_1 z2 (Int.toNat (Int.tmod at_1 128))))]))
          else bad
        else bad
      else bad
    else bad
  else k_ (⟨out_0⟩ : SMemory) true
def impl_WriteMemory_L0 {α : Type} (bad : α) (k_ : SMemory → Bool → α) (N : Nat) (m_ : Nat) : Int → Bytes → Rows → α :=
  Nat.rec (motive := fun _ => Int → Bytes → Rows → α) (fun _ _ _ => bad) (fun _ ih0 => impl_WriteMemory_l0 bad k_ ih0) m_
theorem impl_WriteMemory_L0_z {α : Type} (bad : α) (k_ : SMemory → Bool → α) (N : Nat) (at_1 : Int) (s_1 : Bytes) (out_0 : Rows) : impl_WriteMemory_L0 bad k_ N 0 at_1 s_1 out_0 = bad := rfl
theorem impl_WriteMemory_L0_s {α : Type} (bad : α) (k_ : SMemory → Bool → α) (N : Nat) (m_ : Nat) (at_1 : Int) (s_1 : Bytes) (out_0 : Rows) : impl_WriteMemory_L0 bad k_ N (m_ + 1) at_1 s_1 out_0 = impl_WriteMemory_l0 bad k_ (impl_WriteMemory_L0 bad k_ N m_) at_1 s_1 out_0 := rfl
def impl_WriteMemory_t {α : Type} (bad : α) (k_ : SMemory → Bool → α) (l0 : Int → Bytes → Rows → α) (m : SMemory) (at_ : Int) (s : Bytes) : α :=
  bif andt true (memSm m) then
    bif !(within m at_ (len s)) then k_ (idf m) false
    else l0 at_ s ((idf m).Pages)
  else bad
def impl_WriteMemory_f {α : Type} (bad : α) (k_ : SMemory → Bool → α) (N : Nat) (m : SMemory) (at_ : Int) (s : Bytes) : α := impl_WriteMemory_t bad k_ (impl_WriteMemory_L0 bad k_ N N) m at_ s
def WriteMemory_ok (m : SMemory) (at_ : Int) (s : Bytes) : Bool := sm m.Pages
def WriteMemory (m : SMemory) (at_ : Int) (s : Bytes) : SMemory × Bool := bif !(within m at_ (len s)) then (m, false) else (⟨wmGo s.length at_.toNat s m.Pages⟩, true)
theorem toStr_app (a b : Rows) : toStr (a ++ b) = toStr a ++ toStr b := by simp [toStr]
theorem ofStr_take (s : Bytes) (n : Nat) : (ofStr s).take n = ofStr (s.take n) := by simp [ofStr, List.map_take]
theorem ofStr_drop (s : Bytes) (n : Nat) : (ofStr s).drop n = ofStr (s.drop n) := by simp [ofStr, List.map_drop]
theorem cpR_page {p s : Bytes} {k : Nat} (h : p.length = 128) : toStr (cpR s (ofStr p) k) = wmPage p k s := by
  unfold cpR wmPage
  rw [ofStr_length, h, toStr_app, toStr_app, ofStr_take, ofStr_drop, toStr_ofStr, toStr_ofStr, toStr_ofStr]
theorem impl_WriteMemory_c {α : Type} (bad : α) (k_ : SMemory → Bool → α) (m : SMemory) (at_ : Int) (s : Bytes) (h_m : WtL SMemory.ct m.enc) (h_at_ : WtC (.int .i64) (.int at_)) (h_s : WtC .str (.str s)) (hok : WriteMemory_ok m at_ s = true) : ∃ N, impl_WriteMemory_f bad k_ N m at_ s = k_ (WriteMemory m at_ s).1 (WriteMemory m at_ s).2 := by
  have hp0 : WtC (.sl [.str]) (.sl m.Pages) := SMemory.wt_Pages h_m
  have hsm : memSm m = true := hok
  refine ⟨s.length + 1, ?_⟩
  unfold impl_WriteMemory_f impl_WriteMemory_t WriteMemory
  rw [show idf m = m from rfl]
  simp only [hsm, andt_true_l, cond_true]
  cases hw : within m at_ (len s)
  · rfl
  · obtain ⟨p1, p2, p3, p4, p5⟩ := within_m hp0 hw
    obtain ⟨a, rfl⟩ := Int.eq_ofNat_of_zero_le p4
    simp only [Bool.not_true, cond_false, Int.toNat_natCast]
    have key : ∀ (q n a : Nat) (s : Bytes) (l : Rows), s.length ≤ q → q < n → pgs l → l.length ≤ 64 → a + s.length ≤ 128 * l.length → impl_WriteMemory_L0 bad k_ (s.length + 1) n (a : Int) s l = k_ (⟨wmGo q a s l⟩ : SMemory) true := by
      intro q
      induction q with
      | zero =>
        intro n a s l h1 h2 h3 h4 h5
        obtain ⟨n, rfl⟩ : ∃ q, n = q + 1 := ⟨n - 1, by omega⟩
        have : s = [] := List.length_eq_zero_iff.1 (by omega)
        subst this
        rw [impl_WriteMemory_L0_s]
        simp only [impl_WriteMemory_l0, show decide (0 < len ([] : Bytes)) = false by decide, cond_false, wmGo]
      | succ q ih =>
        intro n a s l h1 h2 h3 h4 h5
        obtain ⟨n, rfl⟩ : ∃ q, n = q + 1 := ⟨n - 1, by omega⟩
        rw [impl_WriteMemory_L0_s]
        by_cases hs : 0 < s.length
        · have hd : decide (0 < len s) = true := decide_eq_true (by simp only [len]; omega)
          have hpg : a / 128 < l.length := by omega
          obtain ⟨p, e1, e2⟩ := h3 (a / 128) hpg
          have w1 : w64 (((a / 128 : Nat) : Int)) = ((a / 128 : Nat) : Int) := w64_in (by omega) (by omega)
          have c1 : cpN s (ofStr p) (a % 128) = ((min s.length (128 - a % 128) : Nat) : Int) := by unfold cpN; rw [ofStr_length, e2]
          have w2 : w64 ((a : Int) + ((min s.length (128 - a % 128) : Nat) : Int)) = ((a + min s.length (128 - a % 128) : Nat) : Int) := by rw [w64_in (by omega) (by omega)]; omega
          have g1 : okL (ofStr p) (((a % 128 : Nat)) : Int) = true := by simp only [okL, ofStr_length, e2, Bool.and_eq_true, decide_eq_true_eq]; omega
          have g2 : decide (0 < List.length (ofStr p)) = true := decide_eq_true (by rw [ofStr_length]; omega)
          have g3 : decide (a % 128 ≤ List.length (ofStr p)) = true := decide_eq_true (by rw [ofStr_length]; omega)
          have g4 : okL s ((min s.length (128 - a % 128) : Nat) : Int) = true := by simp only [okL, Bool.and_eq_true, decide_eq_true_eq]; omega
          have g5 : subL s ((min s.length (128 - a % 128) : Nat) : Int) = s.drop (min s.length (128 - a % 128)) := by simp [subL]
          have st := wmStep_pgs (a := a) (s := s) h3 hpg
          have this := ih n (a + min s.length (128 - a % 128)) (s.drop (min s.length (128 - a % 128))) (wmStep l a s) (by rw [List.length_drop]; omega) (by omega) st.1 (by rw [st.2]; exact h4) (by rw [st.2, List.length_drop]; omega)
          have e5 : wmStep l a s = l.set (a / 128) [.str (wmPage p (a % 128) s)] := by unfold wmStep; rw [e1]; rfl
          unfold wmGo
          rw [decide_eq_true hs, cond_true]
          rw [e5] at this ⊢
          simp only [impl_WriteMemory_l0, hd, tdiv_128, tmod_128, w1, idx_nat hpg, inl_nat hpg, Int.toNat_natCast, e1, rS_one, c1, w2, g1, g2, g3, g4, g5, cpR_page e2, splice_one, Bool.and_self, andt_true_l, andt_true_r, cond_true]
          exact this
        · have : s = [] := List.length_eq_zero_iff.1 (by omega)
          subst this
          simp only [impl_WriteMemory_l0, show decide (0 < len ([] : Bytes)) = false by decide, cond_false]
          rfl
    exact key s.length (s.length + 1) a s m.Pages (Nat.le_refl _) (by omega) p1 p2 (by simp only [len] at p5; omega)


theorem wtPages_of {l : Rows} (h : pgs l) (hl : l.length ≤ 64) : WtC (.sl [.str]) (.sl l) := by
  simp only [WtC]
  refine ⟨l, rfl, by rw [maxLen_eq]; omega, fun r hr => ?_⟩
  obtain ⟨i, hi, rfl⟩ := List.getElem_of_mem hr
  obtain ⟨p, hp, h2⟩ := h i hi
  have e : l[i] = nth l i := by simp [nth, hi]
  rw [e, hp]
  exact wtl_mk (by simp only [WtC]; exact ⟨p, rfl, by rw [maxLen_eq]; omega⟩) wtl_nil
theorem WriteMemory_pgs {l : Rows} {a : Int} {s : Bytes} (h : pgs l) (hl : l.length ≤ 64) : pgs (WriteMemory (⟨l⟩ : SMemory) a s).1.Pages ∧ (WriteMemory (⟨l⟩ : SMemory) a s).1.Pages.length = l.length := by
  unfold WriteMemory
  cases hw : within (⟨l⟩ : SMemory) a (len s)
  · exact ⟨h, rfl⟩
  · obtain ⟨_, _, p3, p4, p5⟩ := within_m (wtPages_of h hl) hw
    exact wmGo_pgs s.length a.toNat s l h (by simp only [len] at p5; omega)
theorem WriteMemory_other {l : Rows} {a : Nat} {s : Bytes} (hl : a / 128 < l.length) (h : a % 128 + s.length ≤ 128) : ∀ i, i ≠ a / 128 → nth (WriteMemory (⟨l⟩ : SMemory) (a : Int) s).1.Pages i = nth l i := by
  intro i hi
  unfold WriteMemory
  cases hw : within (⟨l⟩ : SMemory) (a : Int) (len s)
  · rfl
  · exact wmGo_other h hl i hi
/-- Parts of a row of bytes, each within one page that Q holds of. -/
def RunsOk (Q : Nat → Prop) : Rows → Nat → Prop
  | [], n => n = 0
  | r :: rs, n => ∃ p k : Nat, r = [.int (p : Int), .int (k : Int)] ∧ 1 ≤ k ∧ k ≤ n ∧ p % 128 + k ≤ 128 ∧ Q (p / 128) ∧ RunsOk Q rs (n - k)
def rnGo (list_ : Rows) (domain : Int) (write : Bool) (pages : Rows) : Nat → Int → Int → Rows → Rows × Bool
  | 0, _, _, o => (o, true)
  | m + 1, a, n, o => bif decide (0 < n) then
      bif bif decide (place list_ domain a write < 0) then true else !(within (⟨pages⟩ : SMemory) (place list_ domain a write) (minI n (w64 (128 - Int.tmod a 128)))) then ([], false)
      else bif bif decide (w64 (a + minI n (w64 (128 - Int.tmod a 128))) < 0) then decide (0 < w64 (n - minI n (w64 (128 - Int.tmod a 128)))) else false then ([], false)
      else rnGo list_ domain write pages m (w64 (a + minI n (w64 (128 - Int.tmod a 128)))) (w64 (n - minI n (w64 (128 - Int.tmod a 128)))) (o ++ [[.int (place list_ domain a write), .int (minI n (w64 (128 - Int.tmod a 128)))]])
    else (o, true)
theorem part_rng {a n : Int} (ha : 0 ≤ a) (hn : 0 < n) (h4 : n ≤ 4096) : 1 ≤ minI n (w64 (128 - Int.tmod a 128)) ∧ minI n (w64 (128 - Int.tmod a 128)) ≤ n ∧ Int.tmod a 128 + minI n (w64 (128 - Int.tmod a 128)) ≤ 128 ∧ w64 (n - minI n (w64 (128 - Int.tmod a 128))) = n - minI n (w64 (128 - Int.tmod a 128)) := by
  have r := tmod_rng (x := a) (m := 128) ha (by omega)
  rw [w64_in (n := 128 - Int.tmod a 128) (by omega) (by omega)]
  unfold minI
  split
  · refine ⟨by omega, by omega, by omega, w64_in (by omega) (by omega)⟩
  · refine ⟨by omega, by omega, by omega, w64_in (by omega) (by omega)⟩
def runsOf (list_ : Rows) (m : SMemory) (domain : Int) (at_ : Int) (n : Int) (write : Bool) : Rows × Bool :=
  bif bif !(MappingsOk list_) then true else bif !(MemoryOk m) then true else !(between n 0 4096) then ([], false)
  else bif n == 0 then ([], true)
  else bif decide (at_ < 0) then ([], false)
  else rnGo list_ domain write m.Pages (n.toNat + 1) at_ n []

def impl_runsOf_l0 {α : Type} (bad : α) (k_ : Rows → Bool → α) (list_ : Rows) (domain : Int) (write : Bool) (m_1 : Rows) (ih0 : Int → Int → Rows → α) (at_1 : Int) (n_1 : Int) (out_ : Rows) : α :=
  let z0 : Int := minI n_1 (w64 (128 - (Int.tmod at_1 128)))
  let z1 : Int := w64 (at_1 + z0)
  let z2 : Int := w64 (n_1 - z0)
  bif decide (0 < n_1) then
    bif bif decide (place list_ domain at_1 write < 0) then true else !(within (⟨m_1⟩ : SMemory) (place list_ domain at_1 write) z0) then k_ [] false
    else bif andt true (room2 16 out_ ([[.int (place list_ domain at_1 write), .int z0]])) then
        bif bif decide (z1 < 0) then decide (0 < z2) else false then k_ [] false
        else ih0 z1 z2 (out_ ++ ([[.int (place list_ domain at_1 write), .int z0]]))
      else bad
  else k_ out_ true
def impl_runsOf_L0 {α : Type} (bad : α) (k_ : Rows → Bool → α) (N : Nat) (list_ : Rows) (domain : Int) (write : Bool) (m_1 : Rows) (m_ : Nat) : Int → Int → Rows → α :=
  Nat.rec (motive := fun _ => Int → Int → Rows → α) (fun _ _ _ => bad) (fun _ ih0 => impl_runsOf_l0 bad k_ list_ domain write m_1 ih0) m_
theorem impl_runsOf_L0_z {α : Type} (bad : α) (k_ : Rows → Bool → α) (N : Nat) (list_ : Rows) (domain : Int) (write : Bool) (m_1 : Rows) (at_1 : Int) (n_1 : Int) (out_ : Rows) : impl_runsOf_L0 bad k_ N list_ domain write m_1 0 at_1 n_1 out_ = bad := rfl
theorem impl_runsOf_L0_s {α : Type} (bad : α) (k_ : Rows → Bool → α) (N : Nat) (list_ : Rows) (domain : Int) (write : Bool) (m_1 : Rows) (m_ : Nat) (at_1 : Int) (n_1 : Int) (out_ : Rows) : impl_runsOf_L0 bad k_ N list_ domain write m_1 (m_ + 1) at_1 n_1 out_ = impl_runsOf_l0 bad k_ list_ domain write m_1 (impl_runsOf_L0 bad k_ N list_ domain write m_1 m_) at_1 n_1 out_ := rfl
def impl_runsOf_t {α : Type} (bad : α) (k_ : Rows → Bool → α) (l0 : Rows → Int → Int → Rows → α) (list_ : Rows) (m : SMemory) (domain : Int) (at_ : Int) (n : Int) (write : Bool) : α :=
  bif bif !(MappingsOk list_) then true else bif !(MemoryOk m) then true else !(between n 0 4096) then k_ [] false
  else bif n == 0 then k_ [] true
  else bif decide (at_ < 0) then k_ [] false
  else l0 m.Pages at_ n []
def impl_runsOf_f {α : Type} (bad : α) (k_ : Rows → Bool → α) (N : Nat) (list_ : Rows) (m : SMemory) (domain : Int) (at_ : Int) (n : Int) (write : Bool) : α := impl_runsOf_t bad k_ (fun m_1 => impl_runsOf_L0 bad k_ N list_ domain write m_1 N) list_ m domain at_ n write
theorem impl_runsOf_c {α : Type} (bad : α) (k_ : Rows → Bool → α) (list_ : Rows) (m : SMemory) (domain : Int) (at_ : Int) (n : Int) (write : Bool) (h_list_ : WtC (.sl [.int .i64, .int .i64, .int .i64, .bool]) (.sl list_)) (h_m : WtL SMemory.ct m.enc) (h_domain : WtC (.int .i64) (.int domain)) (h_at_ : WtC (.int .i64) (.int at_)) (h_n : WtC (.int .i64) (.int n)) (h_write : WtC .bool (.bool write)) : ∃ N, impl_runsOf_f bad k_ N list_ m domain at_ n write = k_ (runsOf list_ m domain at_ n write).1 (runsOf list_ m domain at_ n write).2 := by
  refine ⟨n.toNat + 2, ?_⟩
  unfold impl_runsOf_f impl_runsOf_t runsOf
  refine cond_c (K := fun r : Rows × Bool => k_ r.1 r.2) (fun _ => rfl) (fun hg => cond_c (K := fun r : Rows × Bool => k_ r.1 r.2) (fun _ => rfl) (fun hn0 => cond_c (K := fun r : Rows × Bool => k_ r.1 r.2) (fun _ => rfl) (fun ha => ?_)))
  have hb : 0 ≤ n ∧ n ≤ 4096 := by
    cases hc : between n 0 4096
    · rw [hc] at hg
      cases h1 : MappingsOk list_ <;> cases h2 : MemoryOk m <;> rw [h1, h2] at hg <;> cases hg
    · exact between_iff.1 hc
  have ha := of_decide_eq_false ha
  have hat := wt_int h_at_
  have key : ∀ (q N' : Nat) (a n : Int) (o : Rows), n < q → q ≤ N' → 0 ≤ n → n ≤ 4096 → a ≤ 9223372036854775807 → (0 < n → 0 ≤ a) → o.length + n.toNat ≤ 5000 → ∀ M, impl_runsOf_L0 bad k_ M list_ domain write m.Pages N' a n o = k_ (rnGo list_ domain write m.Pages q a n o).1 (rnGo list_ domain write m.Pages q a n o).2 := by
    intro q
    induction q with
    | zero => intro N' a n o h1 h2 h3; omega
    | succ q ih =>
      intro N' a n o h1 h2 h3 h4 h7 h5 h6 M
      obtain ⟨N', rfl⟩ : ∃ p, N' = p + 1 := ⟨N' - 1, by omega⟩
      rw [impl_runsOf_L0_s]
      by_cases hn : 0 < n
      · obtain ⟨r1, r2, r3, r4⟩ := part_rng (h5 hn) hn h4
        have hr : ∀ x : List DC, room2 16 o [x] = true := fun x => room2_le (by simp only [List.length_cons, List.length_nil]; omega) (by omega)
        unfold rnGo
        simp only [impl_runsOf_l0, decide_eq_true hn, hr, andt_true_l, cond_true]
        refine cond_c (K := fun r : Rows × Bool => k_ r.1 r.2) (fun _ => rfl) (fun _ => cond_c (K := fun r : Rows × Bool => k_ r.1 r.2) (fun _ => rfl) (fun hov => ?_))
        rw [r4] at hov ⊢
        refine ih N' _ _ _ (by omega) (by omega) (by omega) (by omega) (w64_hi _) (fun hp => ?_) (by simp only [List.length_append, List.length_cons, List.length_nil]; omega) M
        rw [decide_eq_true hp] at hov
        have hov : decide (w64 (a + minI n (w64 (128 - Int.tmod a 128))) < 0) = false := by
          cases hd : decide (w64 (a + minI n (w64 (128 - Int.tmod a 128))) < 0)
          · rfl
          · rw [hd] at hov; cases hov
        have := of_decide_eq_false hov
        omega
      · unfold rnGo
        simp only [impl_runsOf_l0, decide_eq_false hn, cond_false]
  exact key (n.toNat + 1) (n.toNat + 2) at_ n [] (by omega) (by omega) hb.1 hb.2 hat.2 (fun _ => by omega) (by simp only [List.length_nil]; omega) _

end
end Go.Proofs.Ytfnkhejoihnlnaa.Pl
