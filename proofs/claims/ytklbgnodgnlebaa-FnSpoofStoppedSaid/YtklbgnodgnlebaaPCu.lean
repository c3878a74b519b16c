/- What functions of the program compute, in plain Lean, as the value machine runs them. Conditions: none. -/
import Derived.Test.YtklbgnodgnlebaaPBa
import Derived.Test.YtklbgnodgnlebaaBit
set_option linter.unusedVariables false
set_option linter.unusedSimpArgs false
set_option maxRecDepth 100000
namespace Go.Proofs.Ytklbgnodgnlebaa.Pl
open Vm
noncomputable section

structure Sl01Cur where
  b : Rows
  i : Int
  h : Int
def Sl01Cur.enc (x : Sl01Cur) : List DC := [.sl x.b, .int x.i, .int x.h]
def Sl01Cur.decAt (r : List DC) (o : Nat) : Sl01Cur := ⟨rR r (o + 0), rI r (o + 1), rI r (o + 2)⟩
def Sl01Cur.ct : List CT := [.sl [.int .u8], .int .i64, .int .i64]
theorem Sl01Cur.eta {r : List DC} (h : WtL Sl01Cur.ct r) : (Sl01Cur.decAt r 0).enc = r := (show (Sl01Cur.decAt r 0).enc = canonL Sl01Cur.ct r 0 from by kernel_rfl).trans (canon_eq h)
theorem Sl01Cur.of_wt {r : List CT} {ds : List DC} (h : WtL (Sl01Cur.ct ++ r) ds) : ∃ (x : Sl01Cur) (ds' : List DC), ds = x.enc ++ ds' ∧ WtL Sl01Cur.ct x.enc ∧ WtL r ds' := by
  obtain ⟨d1, d2, rfl, h1, h2⟩ := wtl_split h
  exact ⟨Sl01Cur.decAt d1 0, d2, by rw [Sl01Cur.eta h1], by rw [Sl01Cur.eta h1]; exact h1, h2⟩
theorem Sl01Cur.wt_b {x : Sl01Cur} (h : WtL Sl01Cur.ct x.enc) : WtC (.sl [.int .u8]) (.sl x.b) := wtl_get 0 h rfl rfl
theorem Sl01Cur.wt_i {x : Sl01Cur} (h : WtL Sl01Cur.ct x.enc) : WtC (.int .i64) (.int x.i) := wtl_get 1 h rfl rfl
theorem Sl01Cur.wt_h {x : Sl01Cur} (h : WtL Sl01Cur.ct x.enc) : WtC (.int .i64) (.int x.h) := wtl_get 2 h rfl rfl

def spec_l01New_l0 {α : Type} (bad : α) (k_ : Sl01Cur → α) (code : Rows) (ih0 : Int → Int → α) (h : Int) (i : Int) : α :=
  bif bif decide (i < len code) then decide (i < 4000) else false then
    bif andt true (idx i code) then
      ih0 (bits .and .i64 (w64 ((w64 ((w64 (h * 131)) + (w64 (rI (nth code (Int.toNat i)) 0)))) + 7)) 1073741823) (w64 (i + 1))
    else bad
  else k_ (⟨code, 0, h⟩ : Sl01Cur)
def spec_l01New_L0 {α : Type} (bad : α) (k_ : Sl01Cur → α) (N : Nat) (code : Rows) (m_ : Nat) : Int → Int → α :=
  Nat.rec (motive := fun _ => Int → Int → α) (fun _ _ => bad) (fun _ ih0 => spec_l01New_l0 bad k_ code ih0) m_
theorem spec_l01New_L0_z {α : Type} (bad : α) (k_ : Sl01Cur → α) (N : Nat) (code : Rows) (h : Int) (i : Int) : spec_l01New_L0 bad k_ N code 0 h i = bad := rfl
theorem spec_l01New_L0_s {α : Type} (bad : α) (k_ : Sl01Cur → α) (N : Nat) (code : Rows) (m_ : Nat) (h : Int) (i : Int) : spec_l01New_L0 bad k_ N code (m_ + 1) h i = spec_l01New_l0 bad k_ code (spec_l01New_L0 bad k_ N code m_) h i := rfl
def spec_l01New_t {α : Type} (bad : α) (k_ : Sl01Cur → α) (l0 : Int → Int → α) (code : Rows) : α :=
  l0 (w64 (33129 + (len code))) 0
def spec_l01New_f {α : Type} (bad : α) (k_ : Sl01Cur → α) (N : Nat) (code : Rows) : α := spec_l01New_t bad k_ (spec_l01New_L0 bad k_ N code N) code
def nwF (code : Rows) (i : Nat) (h : Int) : Int := bits .and .i64 (w64 ((w64 ((w64 (h * 131)) + (w64 (rI (nth code i) 0)))) + 7)) 1073741823
def l01New (code : Rows) : Sl01Cur := ⟨code, 0, itN (nwF code) (min code.length 4000) 0 (w64 (33129 + (len code)))⟩
def curOk0 (c : Sl01Cur) : Bool := decide (0 ≤ c.i) && decide (c.b.length ≤ 9223372036854775807)
def curOk (c : Sl01Cur) : Bool := shut curOk0 c
theorem curOk_eq (c : Sl01Cur) : curOk c = curOk0 c := congrFun (shut_eq curOk0) c
theorem curOk_iff {c : Sl01Cur} : curOk c = true ↔ 0 ≤ c.i ∧ c.b.length ≤ 9223372036854775807 := by
  rw [curOk_eq]
  simp only [curOk0, Bool.and_eq_true, decide_eq_true_eq]
theorem l01New_ok {code : Rows} (h : code.length ≤ 9223372036854775807) : curOk (l01New code) = true := curOk_iff.2 ⟨by simp [l01New], h⟩
theorem spec_l01New_c {α : Type} (bad : α) (k_ : Sl01Cur → α) (code : Rows) (h_code : WtC (.sl [.int .u8]) (.sl code)) : ∃ N, spec_l01New_f bad k_ N code = k_ (l01New code) := by
  obtain ⟨hl, _⟩ := wt_sl h_code
  refine ⟨min code.length 4000 + 1, ?_⟩
  unfold spec_l01New_f spec_l01New_t l01New
  refine loop_inv (min code.length 4000) (fun n i h => spec_l01New_L0 bad k_ (min code.length 4000 + 1) code n h i) (nwF code) (fun h => k_ (⟨code, 0, h⟩ : Sl01Cur)) (fun _ _ => True) (fun _ _ _ _ => trivial) ?_ ?_ (min code.length 4000 + 1) (w64 (33129 + len code)) trivial (by omega)
  · intro n i h hi _
    show spec_l01New_L0 bad k_ (min code.length 4000 + 1) code (n + 1) h (i : Int) = _
    rw [spec_l01New_L0_s]
    have hi2 : i < code.length := by omega
    have h4 : (i : Int) < 4000 := by omega
    simp only [spec_l01New_l0, lt_len hi2, decide_eq_true h4, idx_nat hi2, w64_succ hi2 hl, Int.toNat_natCast, andt_true_l, cond_true]
    rfl
  · intro n h _
    show spec_l01New_L0 bad k_ (min code.length 4000 + 1) code (n + 1) h ((min code.length 4000 : Nat) : Int) = _
    rw [spec_l01New_L0_s]
    have hc : (bif decide (((min code.length 4000 : Nat) : Int) < len code) then decide (((min code.length 4000 : Nat) : Int) < 4000) else false) = false := by
      by_cases h1 : ((min code.length 4000 : Nat) : Int) < len code
      · have h2 : ¬ ((min code.length 4000 : Nat) : Int) < 4000 := by simp only [len] at h1; omega
        simp [h1, h2]
      · simp [h1]
    simp only [spec_l01New_l0, hc, cond_false]

def spec_l01Byte_t {α : Type} (bad : α) (k_ : Int → Sl01Cur → α) (c : Sl01Cur) : α :=
  let z0 : Int := w64 ((w64 (c.h * 6364136223846793005)) + 1442695040888963407)
  let z1 : Int := bits .and .i64 (bits .xor .i64 (shrI .i64 z0 33) (shrI .i64 z0 45)) 255
  bif decide (c.i < len c.b) then
    bif andt true (idx c.i c.b) then
      k_ (bits .and .i64 (w64 (z1 + (w64 (rI (nth c.b (Int.toNat c.i)) 0)))) 255) (⟨c.b, w64 (c.i + 1), z0⟩ : Sl01Cur)
    else bad
  else k_ z1 (⟨c.b, c.i, z0⟩ : Sl01Cur)
theorem and255 (a : Int) : 0 ≤ bits .and .i64 a 255 ∧ bits .and .i64 a 255 ≤ 255 := by
  have h : (BitVec.ofInt 64 a &&& BitVec.ofInt 64 255).toNat ≤ 255 := by
    rw [BitVec.toNat_and]
    exact Nat.le_trans Nat.and_le_right (by decide)
  have e : bits .and .i64 a 255 = (((BitVec.ofInt 64 a &&& BitVec.ofInt 64 255).toNat : Nat) : Int) := by
    exact wraps_i64 (((BitVec.ofInt 64 a &&& BitVec.ofInt 64 255).toNat : Nat) : Int) (Int.natCast_nonneg _) (by omega)
  rw [e]
  omega
def byH (c : Sl01Cur) : Int := w64 ((w64 (c.h * 6364136223846793005)) + 1442695040888963407)
def byX (c : Sl01Cur) : Int := bits .and .i64 (bits .xor .i64 (shrI .i64 (byH c) 33) (shrI .i64 (byH c) 45)) 255
def l01Byte0 (c : Sl01Cur) : Int × Sl01Cur :=
  bif decide (c.i < len c.b) then (bits .and .i64 (w64 (byX c + (w64 (rI (nth c.b (Int.toNat c.i)) 0)))) 255, ⟨c.b, w64 (c.i + 1), byH c⟩) else (byX c, ⟨c.b, c.i, byH c⟩)
def l01Byte (c : Sl01Cur) : Int × Sl01Cur := shut l01Byte0 c
theorem l01Byte_eq (c : Sl01Cur) : l01Byte c = l01Byte0 c := congrFun (shut_eq l01Byte0) c
theorem l01Byte_range (c : Sl01Cur) : 0 ≤ (l01Byte c).1 ∧ (l01Byte c).1 ≤ 255 := by
  rw [l01Byte_eq]
  unfold l01Byte0
  cases decide (c.i < len c.b) <;> exact and255 _
theorem l01Byte_cur {c : Sl01Cur} (h : curOk c = true) : curOk (l01Byte c).2 = true := by
  obtain ⟨h1, h2⟩ := curOk_iff.1 h
  rw [l01Byte_eq]
  unfold l01Byte0
  by_cases hc : c.i < len c.b
  · simp only [decide_eq_true hc, cond_true]
    simp only [len] at hc
    exact curOk_iff.2 ⟨by rw [w64_in (by omega) (by omega)]; show 0 ≤ c.i + 1; omega, h2⟩
  · simp only [decide_eq_false hc, cond_false]
    exact curOk_iff.2 ⟨h1, h2⟩
theorem spec_l01Byte_c {α : Type} (bad : α) (k_ : Int → Sl01Cur → α) (c : Sl01Cur) (h_c : WtL Sl01Cur.ct c.enc) (hok : curOk c = true) : spec_l01Byte_t bad k_ c = k_ (l01Byte c).1 (l01Byte c).2 := by
  obtain ⟨h1, h2⟩ := curOk_iff.1 hok
  rw [l01Byte_eq]
  unfold spec_l01Byte_t l01Byte0
  by_cases hc : c.i < len c.b
  · have hx : idx c.i c.b = true := by simp only [len] at hc; simp only [idx, Bool.and_eq_true, decide_eq_true_eq]; omega
    simp only [decide_eq_true hc, hx, andt_true_l, cond_true]
    rfl
  · simp only [decide_eq_false hc, cond_false]
    rfl

def spec_l01Below_t {α : Type} (bad : α) (k_ : Int → Sl01Cur → α) (c : Sl01Cur) (n : Int) : α :=
  let z0 : Int × Sl01Cur := l01Byte ((l01Byte ((l01Byte c).2)).2)
  let z1 : Int × Sl01Cur := l01Byte z0.2
  bif decide (n ≤ 0) then k_ 0 c
  else bif decide (n ≤ 256) then
    bif andt (andt true (curOk c)) (!(n == 0)) then
      k_ (Int.tmod ((l01Byte c).1) n) ((l01Byte c).2)
    else bad
  else bif andt true (curOk c) then
      bif andt true (curOk ((l01Byte c).2)) then
        bif andt true (curOk ((l01Byte ((l01Byte c).2)).2)) then
          bif andt true (curOk z0.2) then
            bif andt true (!(n == 0)) then
              k_ (Int.tmod (w64 ((w64 ((w64 ((w64 (((l01Byte c).1) * 16777216)) + (w64 (((l01Byte ((l01Byte c).2)).1) * 65536)))) + (w64 (z0.1 * 256)))) + z1.1)) n) z1.2
            else bad
          else bad
        else bad
      else bad
    else bad
def curOk1 (c : Sl01Cur) (_ : Int) : Bool := curOk c
def by4 (c : Sl01Cur) : Int × Sl01Cur := (w64 ((w64 ((w64 ((w64 (((l01Byte c).1) * 16777216)) + (w64 (((l01Byte ((l01Byte c).2)).1) * 65536)))) + (w64 ((l01Byte (l01Byte (l01Byte c).2).2).1 * 256)))) + (l01Byte (l01Byte (l01Byte (l01Byte c).2).2).2).1), (l01Byte (l01Byte (l01Byte (l01Byte c).2).2).2).2)
def l01Below0 (c : Sl01Cur) (n : Int) : Int × Sl01Cur := bif decide (n ≤ 0) then (0, c) else bif decide (n ≤ 256) then (Int.tmod (l01Byte c).1 n, (l01Byte c).2) else (Int.tmod (by4 c).1 n, (by4 c).2)
def l01Below (c : Sl01Cur) (n : Int) : Int × Sl01Cur := shut l01Below0 c n
theorem l01Below_eq (c : Sl01Cur) (n : Int) : l01Below c n = l01Below0 c n := congrFun (congrFun (shut_eq l01Below0) c) n
theorem by4_range (c : Sl01Cur) : 0 ≤ (by4 c).1 := by
  have a := l01Byte_range c
  have b := l01Byte_range (l01Byte c).2
  have d := l01Byte_range (l01Byte (l01Byte c).2).2
  have e := l01Byte_range (l01Byte (l01Byte (l01Byte c).2).2).2
  simp only [by4]
  rw [w64_in (n := (l01Byte c).1 * 16777216) (by omega) (by omega), w64_in (n := (l01Byte (l01Byte c).2).1 * 65536) (by omega) (by omega), w64_in (n := (l01Byte (l01Byte (l01Byte c).2).2).1 * 256) (by omega) (by omega)]
  rw [w64_in (n := (l01Byte c).1 * 16777216 + (l01Byte (l01Byte c).2).1 * 65536) (by omega) (by omega)]
  rw [w64_in (n := (l01Byte c).1 * 16777216 + (l01Byte (l01Byte c).2).1 * 65536 + (l01Byte (l01Byte (l01Byte c).2).2).1 * 256) (by omega) (by omega)]
  rw [w64_in (by omega) (by omega)]
  omega
theorem l01Below_range (c : Sl01Cur) (n : Int) : 0 ≤ (l01Below c n).1 ∧ (0 < n → (l01Below c n).1 < n) := by
  rw [l01Below_eq]
  unfold l01Below0
  by_cases h1 : n ≤ 0
  · simp only [decide_eq_true h1, cond_true]; omega
  · by_cases h2 : n ≤ 256
    · simp only [decide_eq_false h1, decide_eq_true h2, cond_true, cond_false]
      exact ⟨Int.tmod_nonneg _ (l01Byte_range c).1, fun h => Int.tmod_lt_of_pos _ h⟩
    · simp only [decide_eq_false h1, decide_eq_false h2, cond_false]
      exact ⟨Int.tmod_nonneg _ (by4_range c), fun h => Int.tmod_lt_of_pos _ h⟩
theorem l01Below_cur {c : Sl01Cur} (h : curOk c = true) (n : Int) : curOk (l01Below c n).2 = true := by
  rw [l01Below_eq]
  unfold l01Below0
  cases decide (n ≤ 0)
  · cases decide (n ≤ 256)
    · exact l01Byte_cur (l01Byte_cur (l01Byte_cur (l01Byte_cur h)))
    · exact l01Byte_cur h
  · exact h
theorem spec_l01Below_c {α : Type} (bad : α) (k_ : Int → Sl01Cur → α) (c : Sl01Cur) (n : Int) (h_c : WtL Sl01Cur.ct c.enc) (h_n : WtC (.int .i64) (.int n)) (hok : curOk1 c n = true) : spec_l01Below_t bad k_ c n = k_ (l01Below c n).1 (l01Below c n).2 := by
  have h0 : curOk c = true := hok
  have h1 := l01Byte_cur h0
  have h2 := l01Byte_cur h1
  have h3 := l01Byte_cur h2
  rw [l01Below_eq]
  unfold spec_l01Below_t l01Below0
  by_cases hn : n ≤ 0
  · simp only [decide_eq_true hn, cond_true]
  · have hz : (!(n == 0)) = true := by
      have : n ≠ 0 := by omega
      simpa using this
    by_cases h256 : n ≤ 256
    · simp only [decide_eq_false hn, decide_eq_true h256, h0, hz, andt_true_l, cond_true, cond_false]
    · simp only [decide_eq_false hn, decide_eq_false h256, h0, h1, h2, h3, hz, andt_true_l, cond_true, cond_false]
      rfl

def spec_l01Once_t {α : Type} (bad : α) (k_ : Bool → Sl01Cur → α) (c : Sl01Cur) (n : Int) : α :=
  bif andt true (curOk1 c n) then
    k_ (((l01Below c n).1) == 0) ((l01Below c n).2)
  else bad
def l01Once (c : Sl01Cur) (n : Int) : Bool × Sl01Cur := ((l01Below c n).1 == 0, (l01Below c n).2)
theorem l01Once_cur {c : Sl01Cur} (h : curOk c = true) (n : Int) : curOk (l01Once c n).2 = true := l01Below_cur h n
theorem spec_l01Once_c {α : Type} (bad : α) (k_ : Bool → Sl01Cur → α) (c : Sl01Cur) (n : Int) (h_c : WtL Sl01Cur.ct c.enc) (h_n : WtC (.int .i64) (.int n)) (hok : curOk1 c n = true) : spec_l01Once_t bad k_ c n = k_ (l01Once c n).1 (l01Once c n).2 := by
  have h0 : curOk1 c n = true := hok
  unfold spec_l01Once_t l01Once
  simp only [h0, andt_true_l, cond_true]

def spec_l01PickInt_t {α : Type} (bad : α) (k_ : Int → Sl01Cur → α) (c : Sl01Cur) (list_ : Rows) : α :=
  bif andt (andt true (curOk1 c (len list_))) (idx ((l01Below c (len list_)).1) list_) then
    k_ (rI (nth list_ (Int.toNat ((l01Below c (len list_)).1))) 0) ((l01Below c (len list_)).2)
  else bad
def pickOk (c : Sl01Cur) (list_ : Rows) : Bool := bif curOk c then decide (0 < list_.length) else false
def l01PickInt0 (c : Sl01Cur) (list_ : Rows) : Int × Sl01Cur := (rI (nth list_ (Int.toNat ((l01Below c (len list_)).1))) 0, (l01Below c (len list_)).2)
def l01PickInt (c : Sl01Cur) (list_ : Rows) : Int × Sl01Cur := shut l01PickInt0 c list_
theorem l01PickInt_eq (c : Sl01Cur) (list_ : Rows) : l01PickInt c list_ = l01PickInt0 c list_ := congrFun (congrFun (shut_eq l01PickInt0) c) list_
theorem l01PickInt_cur {c : Sl01Cur} (h : curOk c = true) (l : Rows) : curOk (l01PickInt c l).2 = true := by
  rw [l01PickInt_eq]
  exact l01Below_cur h _
theorem l01PickInt_mem (c : Sl01Cur) {l : Rows} (h : 0 < l.length) : ∃ k : Nat, k < l.length ∧ (l01PickInt c l).1 = rI (nth l k) 0 := by
  obtain ⟨h1, h2⟩ := l01Below_range c (len l)
  have h3 := h2 (by simp only [len]; omega)
  simp only [len] at h3
  rw [l01PickInt_eq]
  exact ⟨(l01Below c (len l)).1.toNat, by simp only [len]; omega, rfl⟩
theorem spec_l01PickInt_c {α : Type} (bad : α) (k_ : Int → Sl01Cur → α) (c : Sl01Cur) (list_ : Rows) (h_c : WtL Sl01Cur.ct c.enc) (h_list_ : WtC (.sl [.int .i64]) (.sl list_)) (hok : pickOk c list_ = true) : spec_l01PickInt_t bad k_ c list_ = k_ (l01PickInt c list_).1 (l01PickInt c list_).2 := by
  have h0 : curOk c = true := by
    cases h : curOk c
    · rw [show pickOk c list_ = (bif curOk c then decide (0 < list_.length) else false) from rfl, h] at hok; cases hok
    · rfl
  have hp : 0 < list_.length := by
    rw [show pickOk c list_ = (bif curOk c then decide (0 < list_.length) else false) from rfl, h0] at hok
    exact of_decide_eq_true hok
  have h1 : curOk1 c (len list_) = true := h0
  obtain ⟨h2, h3⟩ := l01Below_range c (len list_)
  have h3 := h3 (by simp only [len]; omega)
  have hx : idx (l01Below c (len list_)).1 list_ = true := by
    simp only [len] at h2 h3 ⊢
    simp only [idx, Bool.and_eq_true, decide_eq_true_eq]
    exact ⟨h2, h3⟩
  rw [l01PickInt_eq]
  unfold spec_l01PickInt_t l01PickInt0
  simp only [h1, hx, andt_true_l, cond_true]

def spec_l01Text_l0 {α : Type} (bad : α) (k_ : Bytes → Sl01Cur → α) (n_1 : Int) (ih0 : Int → Rows → Int → Int → Rows → α) (i : Int) (b5000000 : Rows) (b5000000_1 : Int) (b5000000_2 : Int) (out_ : Rows) : α :=
  bif decide (i < n_1) then
    bif andt (andt true (curOk (⟨b5000000, b5000000_1, b5000000_2⟩ : Sl01Cur))) (room2 1 out_ ([[.int (IntKind.wrap .u8 ((l01Byte (⟨b5000000, b5000000_1, b5000000_2⟩ : Sl01Cur)).1))]])) then
      ih0 (w64 (i + 1)) (((l01Byte (⟨b5000000, b5000000_1, b5000000_2⟩ : Sl01Cur)).2).b) (((l01Byte (⟨b5000000, b5000000_1, b5000000_2⟩ : Sl01Cur)).2).i) (((l01Byte (⟨b5000000, b5000000_1, b5000000_2⟩ : Sl01Cur)).2).h) (out_ ++ ([[.int (IntKind.wrap .u8 ((l01Byte (⟨b5000000, b5000000_1, b5000000_2⟩ : Sl01Cur)).1))]]))
    else bad
  else k_ (toStr out_) (⟨b5000000, b5000000_1, b5000000_2⟩ : Sl01Cur)
def spec_l01Text_L0 {α : Type} (bad : α) (k_ : Bytes → Sl01Cur → α) (N : Nat) (n_1 : Int) (m_ : Nat) : Int → Rows → Int → Int → Rows → α :=
  Nat.rec (motive := fun _ => Int → Rows → Int → Int → Rows → α) (fun _ _ _ _ _ => bad) (fun _ ih0 => spec_l01Text_l0 bad k_ n_1 ih0) m_
theorem spec_l01Text_L0_z {α : Type} (bad : α) (k_ : Bytes → Sl01Cur → α) (N : Nat) (n_1 : Int) (i : Int) (b5000000 : Rows) (b5000000_1 : Int) (b5000000_2 : Int) (out_ : Rows) : spec_l01Text_L0 bad k_ N n_1 0 i b5000000 b5000000_1 b5000000_2 out_ = bad := rfl
theorem spec_l01Text_L0_s {α : Type} (bad : α) (k_ : Bytes → Sl01Cur → α) (N : Nat) (n_1 : Int) (m_ : Nat) (i : Int) (b5000000 : Rows) (b5000000_1 : Int) (b5000000_2 : Int) (out_ : Rows) : spec_l01Text_L0 bad k_ N n_1 (m_ + 1) i b5000000 b5000000_1 b5000000_2 out_ = spec_l01Text_l0 bad k_ n_1 (spec_l01Text_L0 bad k_ N n_1 m_) i b5000000 b5000000_1 b5000000_2 out_ := rfl
def spec_l01Text_t {α : Type} (bad : α) (k_ : Bytes → Sl01Cur → α) (l0 : Int → Int → Rows → Int → Int → Rows → α) (c : Sl01Cur) (n : Int) : α :=
  l0 (bif decide (5000 < n) then 5000 else n) 0 c.b c.i c.h []
def spec_l01Text_f {α : Type} (bad : α) (k_ : Bytes → Sl01Cur → α) (N : Nat) (c : Sl01Cur) (n : Int) : α := spec_l01Text_t bad k_ (fun n_1 => spec_l01Text_L0 bad k_ N n_1 N) c n
def txt : Nat → Sl01Cur → Bytes × Sl01Cur
  | 0, c => ([], c)
  | m + 1, c => (UInt8.ofNat (l01Byte c).1.toNat :: (txt m (l01Byte c).2).1, (txt m (l01Byte c).2).2)
def l01Text0 (c : Sl01Cur) (n : Int) : Bytes × Sl01Cur := txt (bif decide (5000 < n) then 5000 else n).toNat c
def l01Text (c : Sl01Cur) (n : Int) : Bytes × Sl01Cur := shut l01Text0 c n
theorem l01Text_eq (c : Sl01Cur) (n : Int) : l01Text c n = l01Text0 c n := congrFun (congrFun (shut_eq l01Text0) c) n
theorem txt_len : ∀ (m : Nat) (c : Sl01Cur), (txt m c).1.length = m
  | 0, _ => rfl
  | m + 1, c => by simp only [txt, List.length_cons, txt_len m]
theorem txt_cur : ∀ (m : Nat) {c : Sl01Cur}, curOk c = true → curOk (txt m c).2 = true
  | 0, _, h => h
  | m + 1, c, h => txt_cur m (l01Byte_cur h)
theorem l01Text_cur {c : Sl01Cur} (h : curOk c = true) (n : Int) : curOk (l01Text c n).2 = true := by
  rw [l01Text_eq]
  exact txt_cur _ h
theorem l01Text_len (c : Sl01Cur) {n : Int} (h0 : 0 ≤ n) (h : n ≤ 5000) : len (l01Text c n).1 = n := by
  rw [l01Text_eq]
  unfold l01Text0
  rw [decide_eq_false (by omega), cond_false]
  simp only [len, txt_len]
  omega
theorem spec_l01Text_c {α : Type} (bad : α) (k_ : Bytes → Sl01Cur → α) (c : Sl01Cur) (n : Int) (h_c : WtL Sl01Cur.ct c.enc) (h_n : WtC (.int .i64) (.int n)) (hok : curOk1 c n = true) : ∃ N, spec_l01Text_f bad k_ N c n = k_ (l01Text c n).1 (l01Text c n).2 := by
  have h0 : curOk c = true := hok
  have hm : ∀ n : Int, (bif decide (5000 < n) then 5000 else n) ≤ 5000 := by
    intro n
    by_cases h : 5000 < n
    · simp [h]
    · simp only [decide_eq_false h, cond_false]; omega
  have hM := hm n
  refine ⟨(bif decide (5000 < n) then 5000 else n).toNat + 1, ?_⟩
  rw [l01Text_eq]
  unfold spec_l01Text_f spec_l01Text_t l01Text0
  generalize (bif decide (5000 < n) then (5000 : Int) else n) = M at hM ⊢
  have key : ∀ (m q i : Nat) (c : Sl01Cur) (o : Rows), i + m = M.toNat → m < q → o.length = i → curOk c = true →
      spec_l01Text_L0 bad k_ (M.toNat + 1) M q (i : Int) c.b c.i c.h o = k_ (toStr o ++ (txt m c).1) (txt m c).2 := by
    intro m
    induction m with
    | zero =>
      intro q i c o h1 h2 h3 h4
      obtain ⟨q, rfl⟩ : ∃ p, q = p + 1 := ⟨q - 1, by omega⟩
      rw [spec_l01Text_L0_s]
      simp only [spec_l01Text_l0, decide_eq_false (show ¬ (i : Int) < M by omega), cond_false, txt, List.append_nil]
    | succ m ihm =>
      intro q i c o h1 h2 h3 h4
      obtain ⟨q, rfl⟩ : ∃ p, q = p + 1 := ⟨q - 1, by omega⟩
      rw [spec_l01Text_L0_s]
      have hr : ∀ x : List DC, room2 1 o [x] = true := fun x => room2_le (by simp only [List.length_cons, List.length_nil]; omega) (by omega)
      have hb := l01Byte_range c
      have e8 : IntKind.wrap .u8 (l01Byte c).1 = (l01Byte c).1 := by rw [IntKind.wrap_u8]; omega
      have := ihm q (i + 1) (l01Byte c).2 (o ++ [[.int (l01Byte c).1]]) (by omega) (by omega) (by simp [h3]) (l01Byte_cur h4)
      have e2 : ((i + 1 : Nat) : Int) = (i : Int) + 1 := by omega
      rw [e2] at this
      have ec : (⟨c.b, c.i, c.h⟩ : Sl01Cur) = c := rfl
      simp only [spec_l01Text_l0, decide_eq_true (show (i : Int) < M by omega), ec, h4, hr, e8, andt_true_l, cond_true, w64_in (show -9223372036854775808 ≤ (i : Int) + 1 by omega) (show (i : Int) + 1 ≤ 9223372036854775807 by omega)]
      rw [this]
      have e3 : toStr (o ++ [[DC.int (l01Byte c).1]]) = toStr o ++ [UInt8.ofNat (l01Byte c).1.toNat] := by
        simp only [toStr, List.map_append, List.map_cons, List.map_nil]
        rfl
      rw [e3]
      simp only [txt, List.append_assoc, List.cons_append, List.nil_append]
  have := key M.toNat (M.toNat + 1) 0 c [] (by omega) (by omega) rfl h0
  simpa [toStr] using this

end
end Go.Proofs.Ytklbgnodgnlebaa.Pl
