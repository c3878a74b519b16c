/- What functions of the program compute, in plain Lean, as the value machine runs them. Conditions: none. -/
import Derived.Test.YtfnkhejoihnlnaaPAp
set_option linter.unusedVariables false
set_option linter.unusedSimpArgs false
namespace Go.Proofs.Ytfnkhejoihnlnaa.Pl
open Vm
noncomputable section


def impl_copyMappings_t {α : Type} (bad : α) (k_ : Rows → α) (list_ : Rows) : α :=
  bif andt true (room2 32 [] list_) then
    k_ list_
  else bad
theorem impl_copyMappings_c {α : Type} (bad : α) (k_ : Rows → α) (list_ : Rows) (h_list_ : WtC (.sl [.int .i64, .int .i64, .int .i64, .bool]) (.sl list_)) (hok : sm list_ = true) : impl_copyMappings_t bad k_ list_ = k_ (idf list_) := by
  unfold impl_copyMappings_t
  rw [room2_sm hok (show 32 ≤ 8388608 by omega)]
  rfl

def impl_MapPage_t {α : Type} (bad : α) (k_ : Rows → Bool → α) (list_ : Rows) (x : SMapping) : α :=
  bif andt (andt true (sm list_)) (room2 32 (idf list_) [SMapping.enc x]) then
    bif bif !(MappingsOk list_) then true else !(MappingsOk ((idf list_) ++ [SMapping.enc x])) then
      bif andt true (sm list_) then
        k_ (idf list_) false
      else bad
    else k_ ((idf list_) ++ [SMapping.enc x]) true
  else bad
def MapPage_ok (list_ : Rows) (x : SMapping) : Bool := sm list_
def MapPage (list_ : Rows) (x : SMapping) : Rows × Bool := bif bif !(MappingsOk list_) then true else !(MappingsOk (list_ ++ [SMapping.enc x])) then (list_, false) else (list_ ++ [SMapping.enc x], true)
theorem impl_MapPage_c {α : Type} (bad : α) (k_ : Rows → Bool → α) (list_ : Rows) (x : SMapping) (h_list_ : WtC (.sl [.int .i64, .int .i64, .int .i64, .bool]) (.sl list_)) (h_x : WtL SMapping.ct x.enc) (hok : MapPage_ok list_ x = true) : impl_MapPage_t bad k_ list_ x = k_ (MapPage list_ x).1 (MapPage list_ x).2 := by
  have hsm : sm list_ = true := hok
  have h1 := sm_le hsm
  have r1 : room2 32 list_ [SMapping.enc x] = true := room2_le (by simp only [List.length_cons, List.length_nil]; omega) (by omega)
  have r2 : room2 32 [] list_ = true := room2_sm hsm (by omega)
  unfold impl_MapPage_t MapPage
  simp only [idf, hsm, r1, r2, andt_true_l, cond_true]
  exact cond_k (K := fun r : Rows × Bool => k_ r.1 r.2) rfl rfl

def spec_MapPage_t {α : Type} (bad : α) (k_ : Rows → Bool → α) (list_ : Rows) (x : SMapping) : α :=
  bif andt (andt true (room2 32 [] list_)) (room2 32 list_ [SMapping.enc x]) then
    bif bif !(MappingsOk list_) then true else !(MappingsOk (list_ ++ [SMapping.enc x])) then
      bif andt true (room2 32 [] list_) then
        k_ list_ false
      else bad
    else k_ (list_ ++ [SMapping.enc x]) true
  else bad
theorem spec_MapPage_c {α : Type} (bad : α) (k_ : Rows → Bool → α) (list_ : Rows) (x : SMapping) (h_list_ : WtC (.sl [.int .i64, .int .i64, .int .i64, .bool]) (.sl list_)) (h_x : WtL SMapping.ct x.enc) (hok : MapPage_ok list_ x = true) : spec_MapPage_t bad k_ list_ x = k_ (MapPage list_ x).1 (MapPage list_ x).2 := by
  have hsm : sm list_ = true := hok
  have h1 := sm_le hsm
  have r1 : room2 32 list_ [SMapping.enc x] = true := room2_le (by simp only [List.length_cons, List.length_nil]; omega) (by omega)
  have r2 : room2 32 [] list_ = true := room2_sm hsm (by omega)
  unfold spec_MapPage_t MapPage
  simp only [idf, hsm, r1, r2, andt_true_l, cond_true]
  exact cond_k (K := fun r : Rows × Bool => k_ r.1 r.2) rfl rfl


theorem anyIdx_no {p : Nat → List DC → Bool} : ∀ {l : Rows} {s : Nat}, anyIdx p l s = false → ∀ r ∈ l, ∃ i, p i r = false
  | [], _, _, r, h => by simp at h
  | x :: xs, s, h, r, hr => by
    simp only [anyIdx] at h
    cases hp : p s x
    · rw [hp] at h
      rcases List.mem_cons.1 hr with rfl | hr
      · exact ⟨s, hp⟩
      · exact anyIdx_no h r hr
    · rw [hp] at h
      cases h
theorem MappingsOk_mem {l : Rows} (h : MappingsOk l = true) : len l ≤ 96 ∧ ∀ r ∈ l, mapBad r = false := by
  unfold MappingsOk at h
  by_cases h9 : 96 < len l
  · simp [h9] at h
  · refine ⟨by omega, fun r hr => ?_⟩
    simp only [decide_eq_false h9, cond_false] at h
    cases ha : anyIdx (fun i r => bif mapBad r then true else anyN (fun j => bif (rI (nth l j) 0) == (rI r 0) then (rI (nth l j) 1) == (rI r 1) else false) i 0) l 0
    · obtain ⟨i, hi⟩ := anyIdx_no ha r hr
      cases hb : mapBad r
      · rfl
      · rw [hb] at hi
        cases hi
    · rw [ha] at h
      cases h
theorem MapPage_sm {o : Rows} {x : SMapping} (h : sm o = true) : sm (MapPage o x).1 = true := by
  unfold MapPage
  cases h1 : MappingsOk o
  · exact h
  · cases h2 : MappingsOk (o ++ [SMapping.enc x])
    · exact h
    · have := (MappingsOk_mem h2).1
      simp only [len] at this
      exact decide_eq_true (by simp only [Bool.not_true, cond_false]; omega)
theorem MapPage_virtual {o : Rows} {x : SMapping} (h : (MapPage o x).2 = true) : 0 ≤ x.Virtual ∧ x.Virtual ≤ 1023 := by
  unfold MapPage at h
  cases h1 : MappingsOk o
  · rw [h1] at h; cases h
  · cases h2 : MappingsOk (o ++ [SMapping.enc x])
    · rw [h1, h2] at h; cases h
    · have := (MappingsOk_mem h2).2 (SMapping.enc x) (by simp)
      have e1 : rI (SMapping.enc x) 1 = x.Virtual := rfl
      unfold mapBad at this
      rw [e1] at this
      cases hb : between x.Virtual 0 1023
      · rw [hb] at this
        cases hc : between (rI (SMapping.enc x) 0) 0 7 <;> rw [hc] at this <;> cases this
      · exact between_iff.1 hb
def gpX (list_ : Rows) (k virtual : Int) (i : Nat) (r : List DC) : SMapping := ⟨rI (nth list_ (Int.toNat k)) 0, w64 (virtual + (i : Int)), rI r 0, true⟩
def gpGo (list_ : Rows) (k virtual : Int) : Rows → Nat → Rows → Option Rows
  | [], _, o => some o
  | r :: rs, i, o => bif !(MapPage o (gpX list_ k virtual i r)).2 then none else gpGo list_ k virtual rs (i + 1) (MapPage o (gpX list_ k virtual i r)).1
def gpEnd (list_ maps : Rows) : Option Rows → Rows × Bool
  | none => (maps, false)
  | some o => bif !(FunctionsApart list_ o) then (maps, false) else (o, true)
theorem gpGo_sm (list_ : Rows) (k virtual : Int) : ∀ (l : Rows) (i : Nat) (o : Rows), sm o = true → ∀ q, gpGo list_ k virtual l i o = some q → sm q = true
  | [], _, o, h, q, e => by simp only [gpGo, Option.some.injEq] at e; exact e ▸ h
  | r :: rs, i, o, h, q, e => by
    simp only [gpGo] at e
    cases hb : (MapPage o (gpX list_ k virtual i r)).2
    · rw [hb] at e; cases e
    · rw [hb] at e
      exact gpGo_sm list_ k virtual rs (i + 1) _ (MapPage_sm h) q e
def GrantPages_ok (list_ : Rows) (maps : Rows) (k : Int) (virtual : Int) (physical : Rows) : Bool := sm maps && sm physical
def GrantPages (list_ : Rows) (maps : Rows) (k : Int) (virtual : Int) (physical : Rows) : Rows × Bool :=
  bif !(between k 0 ((len list_) - 1)) then (maps, false) else gpEnd list_ maps (gpGo list_ k virtual physical 0 maps)
theorem GrantPages_sm {list_ maps : Rows} {k virtual : Int} {physical : Rows} (h : sm maps = true) : sm (GrantPages list_ maps k virtual physical).1 = true := by
  unfold GrantPages
  cases between k 0 ((len list_) - 1)
  · exact h
  · simp only [Bool.not_true, cond_false]
    cases hg : gpGo list_ k virtual physical 0 maps with
    | none => exact h
    | some q =>
      have := gpGo_sm _ _ _ _ _ _ h _ hg
      simp only [gpEnd]
      cases FunctionsApart list_ q
      · exact h
      · exact this

def impl_GrantPages_l0 {α : Type} (bad : α) (k_ : Rows → Bool → α) (list_ : Rows) (k : Int) (virtual : Int) (physical : Rows) (x_1 : Int) (same : Rows) (ih0 : Int → Rows → α) (x_2 : Int) (out_ : Rows) : α :=
  let z0 : SMapping := (⟨rI (nth list_ (Int.toNat k)) 0, w64 (virtual + x_2), rI (nth physical (Int.toNat x_2)) 0, true⟩ : SMapping)
  let z1 : Rows × Bool := MapPage out_ z0
  bif decide (x_2 < x_1) then
    bif andt true (idx x_2 physical) then
      bif andt (andt true (idx k list_)) (MapPage_ok out_ z0) then
        bif !z1.2 then k_ same false
        else ih0 (w64 (x_2 + 1)) z1.1
      else bad
    else bad
  else bif !(FunctionsApart list_ out_) then k_ same false
  else k_ out_ true
def impl_GrantPages_L0 {α : Type} (bad : α) (k_ : Rows → Bool → α) (N : Nat) (list_ : Rows) (k : Int) (virtual : Int) (physical : Rows) (x_1 : Int) (same : Rows) (m_ : Nat) : Int → Rows → α :=
  Nat.rec (motive := fun _ => Int → Rows → α) (fun _ _ => bad) (fun _ ih0 => impl_GrantPages_l0 bad k_ list_ k virtual physical x_1 same ih0) m_
theorem impl_GrantPages_L0_z {α : Type} (bad : α) (k_ : Rows → Bool → α) (N : Nat) (list_ : Rows) (k : Int) (virtual : Int) (physical : Rows) (x_1 : Int) (same : Rows) (x_2 : Int) (out_ : Rows) : impl_GrantPages_L0 bad k_ N list_ k virtual physical x_1 same 0 x_2 out_ = bad := rfl
theorem impl_GrantPages_L0_s {α : Type} (bad : α) (k_ : Rows → Bool → α) (N : Nat) (list_ : Rows) (k : Int) (virtual : Int) (physical : Rows) (x_1 : Int) (same : Rows) (m_ : Nat) (x_2 : Int) (out_ : Rows) : impl_GrantPages_L0 bad k_ N list_ k virtual physical x_1 same (m_ + 1) x_2 out_ = impl_GrantPages_l0 bad k_ list_ k virtual physical x_1 same (impl_GrantPages_L0 bad k_ N list_ k virtual physical x_1 same m_) x_2 out_ := rfl
def impl_GrantPages_t {α : Type} (bad : α) (k_ : Rows → Bool → α) (l0 : Int → Rows → Int → Rows → α) (list_ : Rows) (maps : Rows) (k : Int) (virtual : Int) (physical : Rows) : α :=
  bif andt true (sm maps) then
    bif !(between k 0 (w64 ((len list_) - 1))) then k_ (idf maps) false
    else bif andt true (sm maps) then
        l0 (len physical) (idf maps) 0 (idf maps)
      else bad
  else bad
def impl_GrantPages_f {α : Type} (bad : α) (k_ : Rows → Bool → α) (N : Nat) (list_ : Rows) (maps : Rows) (k : Int) (virtual : Int) (physical : Rows) : α := impl_GrantPages_t bad k_ (fun x_1 same => impl_GrantPages_L0 bad k_ N list_ k virtual physical x_1 same N) list_ maps k virtual physical
theorem impl_GrantPages_c {α : Type} (bad : α) (k_ : Rows → Bool → α) (list_ : Rows) (maps : Rows) (k : Int) (virtual : Int) (physical : Rows) (h_list_ : WtC (.sl [.int .i64, .int .i64, .int .i64, .int .i64, .int .i64, .bool, .int .i64, .int .i64]) (.sl list_)) (h_maps : WtC (.sl [.int .i64, .int .i64, .int .i64, .bool]) (.sl maps)) (h_k : WtC (.int .i64) (.int k)) (h_virtual : WtC (.int .i64) (.int virtual)) (h_physical : WtC (.sl [.int .i64]) (.sl physical)) (hok : GrantPages_ok list_ maps k virtual physical = true) : ∃ N, impl_GrantPages_f bad k_ N list_ maps k virtual physical = k_ (GrantPages list_ maps k virtual physical).1 (GrantPages list_ maps k virtual physical).2 := by
  obtain ⟨hl, _⟩ := wt_sl h_list_
  have hk := wt_int h_k
  have hl0 : 0 ≤ len list_ := by simp [len]
  have hl1 : len list_ ≤ 9223372036854775807 := by simp only [len]; omega
  simp only [GrantPages_ok, Bool.and_eq_true] at hok
  obtain ⟨hsm, hph⟩ := hok
  have hpl := sm_le hph
  refine ⟨physical.length + 1, ?_⟩
  unfold impl_GrantPages_f impl_GrantPages_t GrantPages
  have key : idx k list_ = true → ∀ (m n i : Nat) (o : Rows), i + m = physical.length → m < n → sm o = true → 
      impl_GrantPages_L0 bad k_ (physical.length + 1) list_ k virtual physical (len physical) maps n (i : Int) o = k_ (gpEnd list_ maps (gpGo list_ k virtual (physical.drop i) i o)).1 (gpEnd list_ maps (gpGo list_ k virtual (physical.drop i) i o)).2 := by
    intro hx m
    induction m with
    | zero =>
      intro n i o h1 h2 h3
      obtain ⟨n, rfl⟩ : ∃ q, n = q + 1 := ⟨n - 1, by omega⟩
      have : i = physical.length := by omega
      subst this
      rw [impl_GrantPages_L0_s, List.drop_eq_nil_of_le (Nat.le_refl _)]
      have r3 : room2 32 [] o = true := room2_sm h3 (by omega)
      have r4 : room2 32 [] maps = true := room2_sm hsm (by omega)
      simp only [impl_GrantPages_l0, not_lt_len, cond_false, gpGo, gpEnd, r3, r4, andt_true_l, cond_true]
      exact cond_k (K := fun r : Rows × Bool => k_ r.1 r.2) rfl rfl
    | succ m ihm =>
      intro n i o h1 h2 h3
      obtain ⟨n, rfl⟩ : ∃ q, n = q + 1 := ⟨n - 1, by omega⟩
      have hi : i < physical.length := by omega
      rw [impl_GrantPages_L0_s, List.drop_eq_getElem_cons hi]
      have e0 : physical[i] = nth physical i := by simp [nth, hi]
      have hmo : ∀ x, MapPage_ok o x = true := fun _ => h3
      have r4 : room2 32 [] maps = true := room2_sm hsm (by omega)

      simp only [impl_GrantPages_l0, lt_len hi, idx_nat hi, hx, hmo, Int.toNat_natCast, andt_true_l, andt_true_r, cond_true, e0, gpGo, w64_in (show -9223372036854775808 ≤ (i : Int) + 1 by omega) (show (i : Int) + 1 ≤ 9223372036854775807 by omega)]
      have := ihm n (i + 1) (MapPage o (gpX list_ k virtual i (nth physical i))).1 (by omega) (by omega) (MapPage_sm h3)
      have e2 : ((i + 1 : Nat) : Int) = (i : Int) + 1 := by omega
      rw [e2] at this
      show (bif !(MapPage o (gpX list_ k virtual i (nth physical i))).2 then _ else _) = _
      cases hb : (MapPage o (gpX list_ k virtual i (nth physical i))).2
      · rfl
      · exact this
  rw [w64_in (by omega) (by omega)]
  simp only [idf, hsm, andt_true_l, cond_true]
  cases hb : between k 0 (len list_ - 1)
  · rfl
  · simp only [Bool.not_true, cond_false]
    have hb := between_iff.1 hb
    have := key (by simp only [len] at hb; simp only [idx, Bool.and_eq_true, decide_eq_true_eq]; omega) physical.length (physical.length + 1) 0 maps (by omega) (by omega) hsm
    simpa using this

def spec_GrantPages_l0 {α : Type} (bad : α) (k_ : Rows → Bool → α) (list_ : Rows) (maps : Rows) (k : Int) (virtual : Int) (physical : Rows) (ih0 : Int → Rows → α) (i : Int) (out_ : Rows) : α :=
  let z0 : SMapping := (⟨rI (nth list_ (Int.toNat k)) 0, w64 (virtual + i), rI (nth physical (Int.toNat i)) 0, true⟩ : SMapping)
  let z1 : Rows × Bool := MapPage out_ z0
  bif decide (i < len physical) then
    bif bif decide (virtual < 0) then true else decide (1023 < virtual) then
      bif andt true (room2 32 [] maps) then
        k_ maps false
      else bad
    else bif andt (andt (andt true (idx k list_)) (idx i physical)) (MapPage_ok out_ z0) then
        bif !z1.2 then
          bif andt true (room2 32 [] maps) then
            k_ maps false
          else bad
        else ih0 (w64 (i + 1)) z1.1
      else bad
  else bif !(FunctionsApart list_ out_) then
    bif andt true (room2 32 [] maps) then
      k_ maps false
    else bad
  else bif andt true (room2 32 [] out_) then
      k_ out_ true
    else bad
def spec_GrantPages_L0 {α : Type} (bad : α) (k_ : Rows → Bool → α) (N : Nat) (list_ : Rows) (maps : Rows) (k : Int) (virtual : Int) (physical : Rows) (m_ : Nat) : Int → Rows → α :=
  Nat.rec (motive := fun _ => Int → Rows → α) (fun _ _ => bad) (fun _ ih0 => spec_GrantPages_l0 bad k_ list_ maps k virtual physical ih0) m_
theorem spec_GrantPages_L0_z {α : Type} (bad : α) (k_ : Rows → Bool → α) (N : Nat) (list_ : Rows) (maps : Rows) (k : Int) (virtual : Int) (physical : Rows) (i : Int) (out_ : Rows) : spec_GrantPages_L0 bad k_ N list_ maps k virtual physical 0 i out_ = bad := rfl
theorem spec_GrantPages_L0_s {α : Type} (bad : α) (k_ : Rows → Bool → α) (N : Nat) (list_ : Rows) (maps : Rows) (k : Int) (virtual : Int) (physical : Rows) (m_ : Nat) (i : Int) (out_ : Rows) : spec_GrantPages_L0 bad k_ N list_ maps k virtual physical (m_ + 1) i out_ = spec_GrantPages_l0 bad k_ list_ maps k virtual physical (spec_GrantPages_L0 bad k_ N list_ maps k virtual physical m_) i out_ := rfl
def spec_GrantPages_t {α : Type} (bad : α) (k_ : Rows → Bool → α) (l0 : Int → Rows → α) (list_ : Rows) (maps : Rows) (k : Int) (virtual : Int) (physical : Rows) : α :=
  bif andt true (room2 32 [] maps) then
    bif bif decide (k < 0) then true else decide (len list_ ≤ k) then k_ maps false
    else l0 0 maps
  else bad
def spec_GrantPages_f {α : Type} (bad : α) (k_ : Rows → Bool → α) (N : Nat) (list_ : Rows) (maps : Rows) (k : Int) (virtual : Int) (physical : Rows) : α := spec_GrantPages_t bad k_ (spec_GrantPages_L0 bad k_ N list_ maps k virtual physical N) list_ maps k virtual physical
theorem spec_GrantPages_c {α : Type} (bad : α) (k_ : Rows → Bool → α) (list_ : Rows) (maps : Rows) (k : Int) (virtual : Int) (physical : Rows) (h_list_ : WtC (.sl [.int .i64, .int .i64, .int .i64, .int .i64, .int .i64, .bool, .int .i64, .int .i64]) (.sl list_)) (h_maps : WtC (.sl [.int .i64, .int .i64, .int .i64, .bool]) (.sl maps)) (h_k : WtC (.int .i64) (.int k)) (h_virtual : WtC (.int .i64) (.int virtual)) (h_physical : WtC (.sl [.int .i64]) (.sl physical)) (hok : GrantPages_ok list_ maps k virtual physical = true) : ∃ N, spec_GrantPages_f bad k_ N list_ maps k virtual physical = k_ (GrantPages list_ maps k virtual physical).1 (GrantPages list_ maps k virtual physical).2 := by
  obtain ⟨hl, _⟩ := wt_sl h_list_
  have hk := wt_int h_k
  have hl0 : 0 ≤ len list_ := by simp [len]
  have hl1 : len list_ ≤ 9223372036854775807 := by simp only [len]; omega
  simp only [GrantPages_ok, Bool.and_eq_true] at hok
  obtain ⟨hsm, hph⟩ := hok
  have hpl := sm_le hph
  refine ⟨physical.length + 1, ?_⟩
  unfold spec_GrantPages_f spec_GrantPages_t GrantPages
  have key : idx k list_ = true → ∀ (m n i : Nat) (o : Rows), i + m = physical.length → m < n → sm o = true → (i = 0 ∨ (0 ≤ virtual ∧ virtual ≤ 1023)) →
      spec_GrantPages_L0 bad k_ (physical.length + 1) list_ maps k virtual physical n (i : Int) o = k_ (gpEnd list_ maps (gpGo list_ k virtual (physical.drop i) i o)).1 (gpEnd list_ maps (gpGo list_ k virtual (physical.drop i) i o)).2 := by
    intro hx m
    induction m with
    | zero =>
      intro n i o h1 h2 h3 h4
      obtain ⟨n, rfl⟩ : ∃ q, n = q + 1 := ⟨n - 1, by omega⟩
      have : i = physical.length := by omega
      subst this
      rw [spec_GrantPages_L0_s, List.drop_eq_nil_of_le (Nat.le_refl _)]
      have r3 : room2 32 [] o = true := room2_sm h3 (by omega)
      have r4 : room2 32 [] maps = true := room2_sm hsm (by omega)
      simp only [spec_GrantPages_l0, not_lt_len, cond_false, gpGo, gpEnd, r3, r4, andt_true_l, cond_true]
      exact cond_k (K := fun r : Rows × Bool => k_ r.1 r.2) rfl rfl
    | succ m ihm =>
      intro n i o h1 h2 h3 h4
      obtain ⟨n, rfl⟩ : ∃ q, n = q + 1 := ⟨n - 1, by omega⟩
      have hi : i < physical.length := by omega
      rw [spec_GrantPages_L0_s, List.drop_eq_getElem_cons hi]
      have e0 : physical[i] = nth physical i := by simp [nth, hi]
      have hmo : ∀ x, MapPage_ok o x = true := fun _ => h3
      have r4 : room2 32 [] maps = true := room2_sm hsm (by omega)

      have e1 : (⟨rI (nth list_ (Int.toNat k)) 0, w64 (virtual + (i : Int)), rI (nth physical i) 0, true⟩ : SMapping) = gpX list_ k virtual i (nth physical i) := rfl
      simp only [spec_GrantPages_l0, lt_len hi, idx_nat hi, hx, hmo, r4, Int.toNat_natCast, andt_true_l, andt_true_r, cond_true, e0, e1, gpGo, w64_in (show -9223372036854775808 ≤ (i : Int) + 1 by omega) (show (i : Int) + 1 ≤ 9223372036854775807 by omega)]
      have hv := wt_int h_virtual
      by_cases hr : 0 ≤ virtual ∧ virtual ≤ 1023
      · have := ihm n (i + 1) (MapPage o (gpX list_ k virtual i (nth physical i))).1 (by omega) (by omega) (MapPage_sm h3) (.inr hr)
        have e2 : ((i + 1 : Nat) : Int) = (i : Int) + 1 := by omega
        rw [e2] at this
        simp only [decide_eq_false (show ¬ virtual < 0 by omega), decide_eq_false (show ¬ 1023 < virtual by omega), cond_false]
        cases hb : (MapPage o (gpX list_ k virtual i (nth physical i))).2
        · rfl
        · exact this
      · have hi0 : i = 0 := by
          rcases h4 with h4 | h4
          · exact h4
          · exact absurd h4 hr
        subst hi0
        have hc : (bif decide (virtual < 0) then true else decide (1023 < virtual)) = true := by
          by_cases h5 : virtual < 0
          · simp [h5]
          · simp only [decide_eq_false h5, cond_false, decide_eq_true_eq]; omega
        have hb : (MapPage o (gpX list_ k virtual 0 (nth physical 0))).2 = false := by
          cases hb : (MapPage o (gpX list_ k virtual 0 (nth physical 0))).2
          · rfl
          · have := MapPage_virtual hb
            have e3 : (gpX list_ k virtual 0 (nth physical 0)).Virtual = virtual := by
              show w64 (virtual + ((0 : Nat) : Int)) = virtual
              rw [w64_in (by omega) (by omega)]
              omega
            rw [e3] at this
            exact absurd this hr
        rw [hc, hb]
        rfl
  have r4 : room2 32 [] maps = true := room2_sm hsm (by omega)
  simp only [r4, andt_true_l, cond_true]
  have hcmp : (bif decide (k < 0) then true else decide (len list_ ≤ k)) = !(between k 0 (len list_ - 1)) := by
    by_cases h1 : k < 0
    · have : between k 0 (len list_ - 1) = false := by
        cases hb : between k 0 (len list_ - 1)
        · rfl
        · have := between_iff.1 hb; omega
      simp [h1, this]
    · by_cases h2 : len list_ ≤ k
      · have : between k 0 (len list_ - 1) = false := by
          cases hb : between k 0 (len list_ - 1)
          · rfl
          · have := between_iff.1 hb; omega
        simp [h1, h2, this]
      · have : between k 0 (len list_ - 1) = true := between_iff.2 (by omega)
        simp [h1, h2, this]
  rw [hcmp]
  cases hb : between k 0 (len list_ - 1)
  · rfl
  · simp only [Bool.not_true, cond_false]
    have hb := between_iff.1 hb
    have := key (by simp only [len] at hb; simp only [idx, Bool.and_eq_true, decide_eq_true_eq]; omega) physical.length (physical.length + 1) 0 maps (by omega) (by omega) hsm (.inl rfl)
    simpa using this

def laws_FnExactGrantPages_t {α : Type} (bad : α) (k_ : Bool → α) (aList : Rows) (aMaps : Rows) (aK : Int) (aVirtual : Int) (aPhysical : Rows) : α :=
  let z0 : Bool := GrantPages_ok (idf aList) (idf aMaps) aK aVirtual (idf aPhysical)
  let z1 : Bool := andt (andt (andt (andt true (sm aList)) (sm aMaps)) (sm aPhysical)) z0
  let z2 : Rows × Bool := GrantPages (idf aList) (idf aMaps) aK aVirtual (idf aPhysical)
  let z3 : Bool := !(yes2 z2.1 z2.1)
  let z4 : Bool := andt true (same z2.1 z2.1)
  let z5 : Bool := okm z3 z4 z4
  let z6 : Bool := bif z3 then true else !(z2.2 == z2.2)
  let z7 : Bool := decide ((markIntS (idf aPhysical) ((markMappingS (idf aMaps) ((markVirtualFunctionS (idf aList) 1).1)).1)).1 < 0)
  let z8 : Int × Rows := markMappingS z2.1 1
  let z9 : Rows := z8.2
  let z10 : Bool := andt true (hdo fMappingS 4 z9 1)
  let z11 : Int := heldMappingS z9 1
  let z12 : Bool := decide (z11 < 0)
  let z13 : Bool := z11 != z8.1
  bif decide (1048576 < len aPhysical) then k_ true
  else bif decide (szFlat aList 1048576 < 0) then k_ true
  else bif decide (szFlat aMaps (szFlat aList 1048576) < 0) then k_ true
  else bif z1 then
      bif andt true (sm aList) then
        bif andt true (sm aMaps) then
          bif andt true (sm aPhysical) then
            bif andt true z0 then
              bif z5 then
                bif z6 then k_ false
                else bif andt (andt true (sm aList)) (same (idf aList) (idf aList)) then
                    bif !(yes2 (idf aList) (idf aList)) then k_ false
                    else bif andt (andt true (sm aMaps)) (same (idf aMaps) (idf aMaps)) then
                        bif !(yes2 (idf aMaps) (idf aMaps)) then k_ false
                        else bif andt (andt true (sm aPhysical)) (same (idf aPhysical) (idf aPhysical)) then
                            bif !(yes2 (idf aPhysical) (idf aPhysical)) then k_ false
                            else bif andt true (mko 8 (idf aList) 1) then
                                bif andt true (mko 4 (idf aMaps) ((markVirtualFunctionS (idf aList) 1).1)) then
                                  bif andt true (mko 1 (idf aPhysical) ((markMappingS (idf aMaps) ((markVirtualFunctionS (idf aList) 1).1)).1)) then
                                    bif okm z7 true z5 then
                                      bif bif z7 then true else z6 then k_ false
                                      else bif andt true (mko 4 z2.1 1) then
                                          bif z10 then
                                            bif z12 then k_ false
                                            else bif z13 then k_ false
                                            else bif z1 then
                                                bif z5 then
                                                  bif z6 then k_ false
                                                  else bif z10 then
                                                      bif z12 then k_ false
                                                      else bif z13 then k_ false
                                                      else k_ true
                                                    else bad
                                                else bad
                                              else bad
                                          else bad
                                        else bad
                                    else bad
                                  else bad
                                else bad
                              else bad
                          else bad
                      else bad
                  else bad
              else bad
            else bad
          else bad
        else bad
      else bad
    else bad
theorem laws_FnExactGrantPages_c {α : Type} (bad : α) (k_ : Bool → α) (aList : Rows) (aMaps : Rows) (aK : Int) (aVirtual : Int) (aPhysical : Rows) (h_aList : WtC (.sl [.int .i64, .int .i64, .int .i64, .int .i64, .int .i64, .bool, .int .i64, .int .i64]) (.sl aList)) (h_aMaps : WtC (.sl [.int .i64, .int .i64, .int .i64, .bool]) (.sl aMaps)) (h_aK : WtC (.int .i64) (.int aK)) (h_aVirtual : WtC (.int .i64) (.int aVirtual)) (h_aPhysical : WtC (.sl [.int .i64]) (.sl aPhysical)) (hok : fitL ((.sl [.int .i64, .int .i64, .int .i64, .int .i64, .int .i64, .bool, .int .i64, .int .i64]) :: ((.sl [.int .i64, .int .i64, .int .i64, .bool]) :: ((.int .i64) :: ((.int .i64) :: ((.sl [.int .i64]) :: ([])))))) (.sl aList :: (.sl aMaps :: (.int aK :: (.int aVirtual :: (.sl aPhysical :: ([])))))) = true) : laws_FnExactGrantPages_t bad k_ aList aMaps aK aVirtual aPhysical = k_ true := by
  unfold laws_FnExactGrantPages_t
  by_cases c0 : 1048576 < len aPhysical
  · simp only [c0, decide_true, decide_false, cond_true, cond_false]
  have k0 : sm aPhysical = true := len_sm (Int.not_lt.1 c0)
  by_cases c1 : szFlat aList 1048576 < 0
  · simp only [c0, c1, decide_true, decide_false, cond_true, cond_false]
  have k1 := szFlat_ok (by omega) (by omega) (wt_sl h_aList).1 (Int.not_lt.1 c1)
  by_cases c2 : szFlat aMaps (szFlat aList 1048576) < 0
  · simp only [c0, c1, c2, decide_true, decide_false, cond_true, cond_false]
  have k2 := szFlat_ok (Int.not_lt.1 c1) k1.1 (wt_sl h_aMaps).1 (Int.not_lt.1 c2)
  have s0 : sm aPhysical = true := k0
  have s1 := k1.2
  have s2 := k2.2
  have l0 := sm_le s0
  have l1 := sm_le s1
  have l2 := sm_le s2
  have ko : GrantPages_ok aList aMaps aK aVirtual aPhysical = true := by simp only [GrantPages_ok, s2, s0, Bool.and_self]
  have us : sm (GrantPages aList aMaps aK aVirtual aPhysical).1 = true := GrantPages_sm s2
  have ul := sm_le us
  have p1 : mko 8 aList 1 = true := mko_mk s1 (by omega) (by omega)
  have p2 : mko 4 aMaps (markVirtualFunctionS aList 1).1 = true := mko_mk s2 (by simp only [markVirtualFunctionS]; omega) (by simp only [markVirtualFunctionS]; omega)
  have p3 : mko 1 aPhysical (markMappingS aMaps (markVirtualFunctionS aList 1).1).1 = true := mko_mk s0 (by simp only [markVirtualFunctionS, markMappingS]; omega) (by simp only [markVirtualFunctionS, markMappingS]; omega)
  have p4 : ¬ (markIntS aPhysical (markMappingS aMaps (markVirtualFunctionS aList 1).1).1).1 < 0 := by simp only [markVirtualFunctionS, markMappingS, markIntS]; omega
  have n1 : mko 4 (GrantPages aList aMaps aK aVirtual aPhysical).1 1 = true := mko_mk us (by omega) (by omega)
  have n2 : hdo fMappingS 4 (markMappingS (GrantPages aList aMaps aK aVirtual aPhysical).1 1).2 1 = true := hdo_mk us (by omega) (by omega)
  have n3 : heldMappingS (markMappingS (GrantPages aList aMaps aK aVirtual aPhysical).1 1).2 1 = (markMappingS (GrantPages aList aMaps aK aVirtual aPhysical).1 1).1 := by simp only [heldMappingS, markMappingS, mkl_length]
  have n4 : decide ((markMappingS (GrantPages aList aMaps aK aVirtual aPhysical).1 1).1 < 0) = false := decide_eq_false (by simp only [markMappingS]; omega)
  simp only [c0, c1, c2, decide_false, cond_false, cond_true, idf, k0, k1.2, k2.2, ko, p1, p2, p3, p4, n1, n2, n3, n4, andt_true_l, andt_true_r, same_refl, yes2, beq_self_eq_true, bne_self_eq_false, Bool.not_true, okm_tt]

end
end Go.Proofs.Ytfnkhejoihnlnaa.Pl
