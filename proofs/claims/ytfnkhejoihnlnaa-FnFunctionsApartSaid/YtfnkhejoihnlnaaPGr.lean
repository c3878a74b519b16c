/- What functions of the program compute, in plain Lean, as the value machine runs them. Conditions: none. -/
import Derived.Test.YtfnkhejoihnlnaaPAp
set_option linter.unusedVariables false
set_option linter.unusedSimpArgs false
set_option maxRecDepth 100000
namespace Go.Proofs.Ytfnkhejoihnlnaa.Pl
open Vm
noncomputable section

structure SMapping where
  Domain : Int
  Virtual : Int
  Physical : Int
  Writable : Bool
def SMapping.enc (x : SMapping) : List DC := [.int x.Domain, .int x.Virtual, .int x.Physical, .bool x.Writable]
def SMapping.decAt (r : List DC) (o : Nat) : SMapping := ⟨rI r (o + 0), rI r (o + 1), rI r (o + 2), rB r (o + 3)⟩
def SMapping.ct : List CT := [.int .i64, .int .i64, .int .i64, .bool]
theorem SMapping.eta {r : List DC} (h : WtL SMapping.ct r) : (SMapping.decAt r 0).enc = r := (show (SMapping.decAt r 0).enc = canonL SMapping.ct r 0 from by kernel_rfl).trans (canon_eq h)
theorem SMapping.of_wt {r : List CT} {ds : List DC} (h : WtL (SMapping.ct ++ r) ds) : ∃ (x : SMapping) (ds' : List DC), ds = x.enc ++ ds' ∧ WtL SMapping.ct x.enc ∧ WtL r ds' := by
  obtain ⟨d1, d2, rfl, h1, h2⟩ := wtl_split h
  exact ⟨SMapping.decAt d1 0, d2, by rw [SMapping.eta h1], by rw [SMapping.eta h1]; exact h1, h2⟩
theorem SMapping.wt_Domain {x : SMapping} (h : WtL SMapping.ct x.enc) : WtC (.int .i64) (.int x.Domain) := wtl_get 0 h rfl rfl
theorem SMapping.wt_Virtual {x : SMapping} (h : WtL SMapping.ct x.enc) : WtC (.int .i64) (.int x.Virtual) := wtl_get 1 h rfl rfl
theorem SMapping.wt_Physical {x : SMapping} (h : WtL SMapping.ct x.enc) : WtC (.int .i64) (.int x.Physical) := wtl_get 2 h rfl rfl
theorem SMapping.wt_Writable {x : SMapping} (h : WtL SMapping.ct x.enc) : WtC .bool (.bool x.Writable) := wtl_get 3 h rfl rfl

def impl_copyMappings_t {α : Type} (bad : α) (k_ : Rows → α) (list_ : Rows) : α :=
  bif andt true (room2 32 [] list_) then
    k_ list_
  else bad
theorem impl_copyMappings_c {α : Type} (bad : α) (k_ : Rows → α) (list_ : Rows) (h_list_ : WtC (.sl [.int .i64, .int .i64, .int .i64, .bool]) (.sl list_)) (hok : sm list_ = true) : impl_copyMappings_t bad k_ list_ = k_ (idf list_) := by
  unfold impl_copyMappings_t
  rw [room2_sm hok (show 32 ≤ 8388608 by omega)]
  rfl

def impl_MapPage_t {α : Type} (bad : α) (k_ : Rows → Bool → α) (list_ : Rows) (x : SMapping) : α :=
  bif andt (andt true (sm list_)) (room2 32 (idf list_) [SMapping.enc x]) then
    bif bif !(MappingsOk list_) then true else !(MappingsOk ((idf list_) ++ [SMapping.enc x])) then
      bif andt true (sm list_) then
        k_ (idf list_) false
      else bad
    else k_ ((idf list_) ++ [SMapping.enc x]) true
  else bad
def MapPage_ok (list_ : Rows) (x : SMapping) : Bool := sm list_
def MapPage (list_ : Rows) (x : SMapping) : Rows × Bool := bif bif !(MappingsOk list_) then true else !(MappingsOk (list_ ++ [SMapping.enc x])) then (list_, false) else (list_ ++ [SMapping.enc x], true)
theorem impl_MapPage_c {α : Type} (bad : α) (k_ : Rows → Bool → α) (list_ : Rows) (x : SMapping) (h_list_ : WtC (.sl [.int .i64, .int .i64, .int .i64, .bool]) (.sl list_)) (h_x : WtL SMapping.ct x.enc) (hok : MapPage_ok list_ x = true) : impl_MapPage_t bad k_ list_ x = k_ (MapPage list_ x).1 (MapPage list_ x).2 := by
  have hsm : sm list_ = true := hok
  have h1 := sm_le hsm
  have r1 : room2 32 list_ [SMapping.enc x] = true := room2_le (by simp only [List.length_cons, List.length_nil]; omega) (by omega)
  have r2 : room2 32 [] list_ = true := room2_sm hsm (by omega)
  unfold impl_MapPage_t MapPage
  simp only [idf, hsm, r1, r2, andt_true_l, cond_true]
  exact cond_k (K := fun r : Rows × Bool => k_ r.1 r.2) rfl rfl

def spec_MapPage_t {α : Type} (bad : α) (k_ : Rows → Bool → α) (list_ : Rows) (x : SMapping) : α :=
  bif andt (andt true (room2 32 [] list_)) (room2 32 list_ [SMapping.enc x]) then
    bif bif !(MappingsOk list_) then true else !(MappingsOk (list_ ++ [SMapping.enc x])) then
      bif andt true (room2 32 [] list_) then
        k_ list_ false
      else bad
    else k_ (list_ ++ [SMapping.enc x]) true
  else bad
theorem spec_MapPage_c {α : Type} (bad : α) (k_ : Rows → Bool → α) (list_ : Rows) (x : SMapping) (h_list_ : WtC (.sl [.int .i64, .int .i64, .int .i64, .bool]) (.sl list_)) (h_x : WtL SMapping.ct x.enc) (hok : MapPage_ok list_ x = true) : spec_MapPage_t bad k_ list_ x = k_ (MapPage list_ x).1 (MapPage list_ x).2 := by
  have hsm : sm list_ = true := hok
  have h1 := sm_le hsm
  have r1 : room2 32 list_ [SMapping.enc x] = true := room2_le (by simp only [List.length_cons, List.length_nil]; omega) (by omega)
  have r2 : room2 32 [] list_ = true := room2_sm hsm (by omega)
  unfold spec_MapPage_t MapPage
  simp only [idf, hsm, r1, r2, andt_true_l, cond_true]
  exact cond_k (K := fun r : Rows × Bool => k_ r.1 r.2) rfl rfl


theorem anyIdx_nor {p : Nat → List DC → Bool} : ∀ {l : Rows} {s : Nat}, anyIdx p l s = false → ∀ r ∈ l, ∃ i, p i r = false
  | [], _, _, r, h => by simp at h
  | x :: xs, s, h, r, hr => by
    simp only [anyIdx] at h
    cases hp : p s x
    · rw [hp] at h
      rcases List.mem_cons.1 hr with rfl | hr
      · exact ⟨s, hp⟩
      · exact anyIdx_nor h r hr
    · rw [hp] at h
      cases h
theorem MappingsOk_mem {l : Rows} (h : MappingsOk l = true) : len l ≤ 96 ∧ ∀ r ∈ l, mapBad r = false := by
  unfold MappingsOk at h
  by_cases h9 : 96 < len l
  · simp [h9] at h
  · refine ⟨by omega, fun r hr => ?_⟩
    simp only [decide_eq_false h9, cond_false] at h
    cases ha : anyIdx (fun i r => bif mapBad r then true else anyN (fun j => bif (rI (nth l j) 0) == (rI r 0) then (rI (nth l j) 1) == (rI r 1) else false) i 0) l 0
    · obtain ⟨i, hi⟩ := anyIdx_nor ha r hr
      cases hb : mapBad r
      · rfl
      · rw [hb] at hi
        cases hi
    · rw [ha] at h
      cases h
theorem MapPage_sm {o : Rows} {x : SMapping} (h : sm o = true) : sm (MapPage o x).1 = true := by
  unfold MapPage
  cases h1 : MappingsOk o
  · exact h
  · cases h2 : MappingsOk (o ++ [SMapping.enc x])
    · exact h
    · have := (MappingsOk_mem h2).1
      simp only [len] at this
      exact decide_eq_true (by simp only [Bool.not_true, cond_false]; omega)
theorem MapPage_virtual {o : Rows} {x : SMapping} (h : (MapPage o x).2 = true) : 0 ≤ x.Virtual ∧ x.Virtual ≤ 1023 := by
  unfold MapPage at h
  cases h1 : MappingsOk o
  · rw [h1] at h; cases h
  · cases h2 : MappingsOk (o ++ [SMapping.enc x])
    · rw [h1, h2] at h; cases h
    · have := (MappingsOk_mem h2).2 (SMapping.enc x) (by simp)
      have e1 : rI (SMapping.enc x) 1 = x.Virtual := rfl
      unfold mapBad at this
      rw [e1] at this
      cases hb : between x.Virtual 0 1023
      · rw [hb] at this
        cases hc : between (rI (SMapping.enc x) 0) 0 7 <;> rw [hc] at this <;> cases this
      · exact between_iff.1 hb
def gpX (list_ : Rows) (k virtual : Int) (i : Nat) (r : List DC) : SMapping := ⟨rI (nth list_ (Int.toNat k)) 0, w64 (virtual + (i : Int)), rI r 0, true⟩
def gpGo (list_ : Rows) (k virtual : Int) : Rows → Nat → Rows → Option Rows
  | [], _, o => some o
  | r :: rs, i, o => bif !(MapPage o (gpX list_ k virtual i r)).2 then none else gpGo list_ k virtual rs (i + 1) (MapPage o (gpX list_ k virtual i r)).1
def gpEnd (list_ maps : Rows) : Option Rows → Rows × Bool
  | none => (maps, false)
  | some o => bif !(FunctionsApart list_ o) then (maps, false) else (o, true)
theorem gpGo_sm (list_ : Rows) (k virtual : Int) : ∀ (l : Rows) (i : Nat) (o : Rows), sm o = true → ∀ q, gpGo list_ k virtual l i o = some q → sm q = true
  | [], _, o, h, q, e => by simp only [gpGo, Option.some.injEq] at e; exact e ▸ h
  | r :: rs, i, o, h, q, e => by
    simp only [gpGo] at e
    cases hb : (MapPage o (gpX list_ k virtual i r)).2
    · rw [hb] at e; cases e
    · rw [hb] at e
      exact gpGo_sm list_ k virtual rs (i + 1) _ (MapPage_sm h) q e
def GrantPages_ok (list_ : Rows) (maps : Rows) (k : Int) (virtual : Int) (physical : Rows) : Bool := sm maps && sm physical
def GrantPages (list_ : Rows) (maps : Rows) (k : Int) (virtual : Int) (physical : Rows) : Rows × Bool :=
  bif !(between k 0 ((len list_) - 1)) then (maps, false) else gpEnd list_ maps (gpGo list_ k virtual physical 0 maps)
theorem GrantPages_sm {list_ maps : Rows} {k virtual : Int} {physical : Rows} (h : sm maps = true) : sm (GrantPages list_ maps k virtual physical).1 = true := by
  unfold GrantPages
  cases between k 0 ((len list_) - 1)
  · exact h
  · simp only [Bool.not_true, cond_false]
    cases hg : gpGo list_ k virtual physical 0 maps with
    | none => exact h
    | some q =>
      have := gpGo_sm _ _ _ _ _ _ h _ hg
      simp only [gpEnd]
      cases FunctionsApart list_ q
      · exact h
      · exact this

def impl_GrantPages_l0 {α : Type} (bad : α) (k_ : Rows → Bool → α) (list_ : Rows) (k : Int) (virtual : Int) (physical : Rows) (x_1 : Int) (same : Rows) (ih0 : Int → Rows → α) (x_2 : Int) (out_ : Rows) : α :=
  let z0 : SMapping := (⟨rI (nth list_ (Int.toNat k)) 0, w64 (virtual + x_2), rI (nth physical (Int.toNat x_2)) 0, true⟩ : SMapping)
  let z1 : Rows × Bool := MapPage out_ z0
  bif decide (x_2 < x_1) then
    bif andt true (idx x_2 physical) then
      bif andt (andt true (idx k list_)) (MapPage_ok out_ z0) then
        bif !z1.2 then k_ same false
        else ih0 (w64 (x_2 + 1)) z1.1
      else bad
    else bad
  else bif !(FunctionsApart list_ out_) then k_ same false
  else k_ out_ true
def impl_GrantPages_L0 {α : Type} (bad : α) (k_ : Rows → Bool → α) (N : Nat) (list_ : Rows) (k : Int) (virtual : Int) (physical : Rows) (x_1 : Int) (same : Rows) (m_ : Nat) : Int → Rows → α :=
  Nat.rec (motive := fun _ => Int → Rows → α) (fun _ _ => bad) (fun _ ih0 => impl_GrantPages_l0 bad k_ list_ k virtual physical x_1 same ih0) m_
theorem impl_GrantPages_L0_z {α : Type} (bad : α) (k_ : Rows → Bool → α) (N : Nat) (list_ : Rows) (k : Int) (virtual : Int) (physical : Rows) (x_1 : Int) (same : Rows) (x_2 : Int) (out_ : Rows) : impl_GrantPages_L0 bad k_ N list_ k virtual physical x_1 same 0 x_2 out_ = bad := rfl
theorem impl_GrantPages_L0_s {α : Type} (bad : α) (k_ : Rows → Bool → α) (N : Nat) (list_ : Rows) (k : Int) (virtual : Int) (physical : Rows) (x_1 : Int) (same : Rows) (m_ : Nat) (x_2 : Int) (out_ : Rows) : impl_GrantPages_L0 bad k_ N list_ k virtual physical x_1 same (m_ + 1) x_2 out_ = impl_GrantPages_l0 bad k_ list_ k virtual physical x_1 same (impl_GrantPages_L0 bad k_ N list_ k virtual physical x_1 same m_) x_2 out_ := rfl
def impl_GrantPages_t {α : Type} (bad : α) (k_ : Rows → Bool → α) (l0 : Int → Rows → Int → Rows → α) (list_ : Rows) (maps : Rows) (k : Int) (virtual : Int) (physical : Rows) : α :=
  bif andt true (sm maps) then
    bif !(between k 0 (w64 ((len list_) - 1))) then k_ (idf maps) false
    else bif andt true (sm maps) then
        l0 (len physical) (idf maps) 0 (idf maps)
      else bad
  else bad
def impl_GrantPages_f {α : Type} (bad : α) (k_ : Rows → Bool → α) (N : Nat) (list_ : Rows) (maps : Rows) (k : Int) (virtual : Int) (physical : Rows) : α := impl_GrantPages_t bad k_ (fun x_1 same => impl_GrantPages_L0 bad k_ N list_ k virtual physical x_1 same N) list_ maps k virtual physical
theorem impl_GrantPages_c {α : Type} (bad : α) (k_ : Rows → Bool → α) (list_ : Rows) (maps : Rows) (k : Int) (virtual : Int) (physical : Rows) (h_list_ : WtC (.sl [.int .i64, .int .i64, .int .i64, .int .i64, .int .i64, .bool, .int .i64, .int .i64]) (.sl list_)) (h_maps : WtC (.sl [.int .i64, .int .i64, .int .i64, .bool]) (.sl maps)) (h_k : WtC (.int .i64) (.int k)) (h_virtual : WtC (.int .i64) (.int virtual)) (h_physical : WtC (.sl [.int .i64]) (.sl physical)) (hok : GrantPages_ok list_ maps k virtual physical = true) : ∃ N, impl_GrantPages_f bad k_ N list_ maps k virtual physical = k_ (GrantPages list_ maps k virtual physical).1 (GrantPages list_ maps k virtual physical).2 := by
  obtain ⟨hl, _⟩ := wt_sl h_list_
  have hk := wt_int h_k
  have hl0 : 0 ≤ len list_ := by simp [len]
  have hl1 : len list_ ≤ 9223372036854775807 := by simp only [len]; omega
  simp only [GrantPages_ok, Bool.and_eq_true] at hok
  obtain ⟨hsm, hph⟩ := hok
  have hpl := sm_le hph
  refine ⟨physical.length + 1, ?_⟩
  unfold impl_GrantPages_f impl_GrantPages_t GrantPages
  have key : idx k list_ = true → ∀ (m n i : Nat) (o : Rows), i + m = physical.length → m < n → sm o = true → 
      impl_GrantPages_L0 bad k_ (physical.length + 1) list_ k virtual physical (len physical) maps n (i : Int) o = k_ (gpEnd list_ maps (gpGo list_ k virtual (physical.drop i) i o)).1 (gpEnd list_ maps (gpGo list_ k virtual (physical.drop i) i o)).2 := by
    intro hx m
    induction m with
    | zero =>
      intro n i o h1 h2 h3
      obtain ⟨n, rfl⟩ : ∃ q, n = q + 1 := ⟨n - 1, by omega⟩
      have : i = physical.length := by omega
      subst this
      rw [impl_GrantPages_L0_s, List.drop_eq_nil_of_le (Nat.le_refl _)]
      have r3 : room2 32 [] o = true := room2_sm h3 (by omega)
      have r4 : room2 32 [] maps = true := room2_sm hsm (by omega)
      simp only [impl_GrantPages_l0, not_lt_len, cond_false, gpGo, gpEnd, r3, r4, andt_true_l, cond_true]
      exact cond_k (K := fun r : Rows × Bool => k_ r.1 r.2) rfl rfl
    | succ m ihm =>
      intro n i o h1 h2 h3
      obtain ⟨n, rfl⟩ : ∃ q, n = q + 1 := ⟨n - 1, by omega⟩
      have hi : i < physical.length := by omega
      rw [impl_GrantPages_L0_s, List.drop_eq_getElem_cons hi]
      have e0 : physical[i] = nth physical i := by simp [nth, hi]
      have hmo : ∀ x, MapPage_ok o x = true := fun _ => h3
      have r4 : room2 32 [] maps = true := room2_sm hsm (by omega)

      simp only [impl_GrantPages_l0, lt_len hi, idx_nat hi, hx, hmo, Int.toNat_natCast, andt_true_l, andt_true_r, cond_true, e0, gpGo, w64_in (show -9223372036854775808 ≤ (i : Int) + 1 by omega) (show (i : Int) + 1 ≤ 9223372036854775807 by omega)]
      have := ihm n (i + 1) (MapPage o (gpX list_ k virtual i (nth physical i))).1 (by omega) (by omega) (MapPage_sm h3)
      have e2 : ((i + 1 : Nat) : Int) = (i : Int) + 1 := by omega
      rw [e2] at this
      show (bif !(MapPage o (gpX list_ k virtual i (nth physical i))).2 then _ else _) = _
      cases hb : (MapPage o (gpX list_ k virtual i (nth physical i))).2
      · rfl
      · exact this
  rw [w64_in (by omega) (by omega)]
  simp only [idf, hsm, andt_true_l, cond_true]
  cases hb : between k 0 (len list_ - 1)
  · rfl
  · simp only [Bool.not_true, cond_false]
    have hb := between_iff.1 hb
    have := key (by simp only [len] at hb; simp only [idx, Bool.and_eq_true, decide_eq_true_eq]; omega) physical.length (physical.length + 1) 0 maps (by omega) (by omega) hsm
    simpa using this

def spec_GrantPages_l0 {α : Type} (bad : α) (k_ : Rows → Bool → α) (list_ : Rows) (maps : Rows) (k : Int) (virtual : Int) (physical : Rows) (ih0 : Int → Rows → α) (i : Int) (out_ : Rows) : α :=
  let z0 : SMapping := (⟨rI (nth list_ (Int.toNat k)) 0, w64 (virtual + i), rI (nth physical (Int.toNat i)) 0, true⟩ : SMapping)
  let z1 : Rows × Bool := MapPage out_ z0
  bif decide (i < len physical) then
    bif bif decide (virtual < 0) then true else decide (1023 < virtual) then
      bif andt true (room2 32 [] maps) then
        k_ maps false
      else bad
    else bif andt (andt (andt true (idx k list_)) (idx i physical)) (MapPage_ok out_ z0) then
        bif !z1.2 then
          bif andt true (room2 32 [] maps) then
            k_ maps false
          else bad
        else ih0 (w64 (i + 1)) z1.1
      else bad
  else bif !(FunctionsApart list_ out_) then
    bif andt true (room2 32 [] maps) then
      k_ maps false
    else bad
  else bif andt true (room2 32 [] out_) then
      k_ out_ true
    else bad
def spec_GrantPages_L0 {α : Type} (bad : α) (k_ : Rows → Bool → α) (N : Nat) (list_ : Rows) (maps : Rows) (k : Int) (virtual : Int) (physical : Rows) (m_ : Nat) : Int → Rows → α :=
  Nat.rec (motive := fun _ => Int → Rows → α) (fun _ _ => bad) (fun _ ih0 => spec_GrantPages_l0 bad k_ list_ maps k virtual physical ih0) m_
theorem spec_GrantPages_L0_z {α : Type} (bad : α) (k_ : Rows → Bool → α) (N : Nat) (list_ : Rows) (maps : Rows) (k : Int) (virtual : Int) (physical : Rows) (i : Int) (out_ : Rows) : spec_GrantPages_L0 bad k_ N list_ maps k virtual physical 0 i out_ = bad := rfl
theorem spec_GrantPages_L0_s {α : Type} (bad : α) (k_ : Rows → Bool → α) (N : Nat) (list_ : Rows) (maps : Rows) (k : Int) (virtual : Int) (physical : Rows) (m_ : Nat) (i : Int) (out_ : Rows) : spec_GrantPages_L0 bad k_ N list_ maps k virtual physical (m_ + 1) i out_ = spec_GrantPages_l0 bad k_ list_ maps k virtual physical (spec_GrantPages_L0 bad k_ N list_ maps k virtual physical m_) i out_ := rfl
def spec_GrantPages_t {α : Type} (bad : α) (k_ : Rows → Bool → α) (l0 : Int → Rows → α) (list_ : Rows) (maps : Rows) (k : Int) (virtual : Int) (physical : Rows) : α :=
  bif andt true (room2 32 [] maps) then
    bif bif decide (k < 0) then true else decide (len list_ ≤ k) then k_ maps false
    else l0 0 maps
  else bad
def spec_GrantPages_f {α : Type} (bad : α) (k_ : Rows → Bool → α) (N : Nat) (list_ : Rows) (maps : Rows) (k : Int) (virtual : Int) (physical : Rows) : α := spec_GrantPages_t bad k_ (spec_GrantPages_L0 bad k_ N list_ maps k virtual physical N) list_ maps k virtual physical
theorem spec_GrantPages_c {α : Type} (bad : α) (k_ : Rows → Bool → α) (list_ : Rows) (maps : Rows) (k : Int) (virtual : Int) (physical : Rows) (h_list_ : WtC (.sl [.int .i64, .int .i64, .int .i64, .int .i64, .int .i64, .bool, .int .i64, .int .i64]) (.sl list_)) (h_maps : WtC (.sl [.int .i64, .int .i64, .int .i64, .bool]) (.sl maps)) (h_k : WtC (.int .i64) (.int k)) (h_virtual : WtC (.int .i64) (.int virtual)) (h_physical : WtC (.sl [.int .i64]) (.sl physical)) (hok : GrantPages_ok list_ maps k virtual physical = true) : ∃ N, spec_GrantPages_f bad k_ N list_ maps k virtual physical = k_ (GrantPages list_ maps k virtual physical).1 (GrantPages list_ maps k virtual physical).2 := by
  obtain ⟨hl, _⟩ := wt_sl h_list_
  have hk := wt_int h_k
  have hl0 : 0 ≤ len list_ := by simp [len]
  have hl1 : len list_ ≤ 9223372036854775807 := by simp only [len]; omega
  simp only [GrantPages_ok, Bool.and_eq_true] at hok
  obtain ⟨hsm, hph⟩ := hok
  have hpl := sm_le hph
  refine ⟨physical.length + 1, ?_⟩
  unfold spec_GrantPages_f spec_GrantPages_t GrantPages
  have key : idx k list_ = true → ∀ (m n i : Nat) (o : Rows), i + m = physical.length → m < n → sm o = true → (i = 0 ∨ (0 ≤ virtual ∧ virtual ≤ 1023)) →
      spec_GrantPages_L0 bad k_ (physical.length + 1) list_ maps k virtual physical n (i : Int) o = k_ (gpEnd list_ maps (gpGo list_ k virtual (physical.drop i) i o)).1 (gpEnd list_ maps (gpGo list_ k virtual (physical.drop i) i o)).2 := by
    intro hx m
    induction m with
    | zero =>
      intro n i o h1 h2 h3 h4
      obtain ⟨n, rfl⟩ : ∃ q, n = q + 1 := ⟨n - 1, by omega⟩
      have : i = physical.length := by omega
      subst this
      rw [spec_GrantPages_L0_s, List.drop_eq_nil_of_le (Nat.le_refl _)]
      have r3 : room2 32 [] o = true := room2_sm h3 (by omega)
      have r4 : room2 32 [] maps = true := room2_sm hsm (by omega)
      simp only [spec_GrantPages_l0, not_lt_len, cond_false, gpGo, gpEnd, r3, r4, andt_true_l, cond_true]
      exact cond_k (K := fun r : Rows × Bool => k_ r.1 r.2) rfl rfl
    | succ m ihm =>
      intro n i o h1 h2 h3 h4
      obtain ⟨n, rfl⟩ : ∃ q, n = q + 1 := ⟨n - 1, by omega⟩
      have hi : i < physical.length := by omega
      rw [spec_GrantPages_L0_s, List.drop_eq_getElem_cons hi]
      have e0 : physical[i] = nth physical i := by simp [nth, hi]
      have hmo : ∀ x, MapPage_ok o x = true := fun _ => h3
      have r4 : room2 32 [] maps = true := room2_sm hsm (by omega)

      have e1 : (⟨rI (nth list_ (Int.toNat k)) 0, w64 (virtual + (i : Int)), rI (nth physical i) 0, true⟩ : SMapping) = gpX list_ k virtual i (nth physical i) := rfl
      simp only [spec_GrantPages_l0, lt_len hi, idx_nat hi, hx, hmo, r4, Int.toNat_natCast, andt_true_l, andt_true_r, cond_true, e0, e1, gpGo, w64_in (show -9223372036854775808 ≤ (i : Int) + 1 by omega) (show (i : Int) + 1 ≤ 9223372036854775807 by omega)]
      have hv := wt_int h_virtual
      by_cases hr : 0 ≤ virtual ∧ virtual ≤ 1023
      · have := ihm n (i + 1) (MapPage o (gpX list_ k virtual i (nth physical i))).1 (by omega) (by omega) (MapPage_sm h3) (.inr hr)
        have e2 : ((i + 1 : Nat) : Int) = (i : Int) + 1 := by omega
        rw [e2] at this
        simp only [decide_eq_false (show ¬ virtual < 0 by omega), decide_eq_false (show ¬ 1023 < virtual by omega), cond_false]
        cases hb : (MapPage o (gpX list_ k virtual i (nth physical i))).2
        · rfl
        · exact this
      · have hi0 : i = 0 := by
          rcases h4 with h4 | h4
          · exact h4
          · exact absurd h4 hr
        subst hi0
        have hc : (bif decide (virtual < 0) then true else decide (1023 < virtual)) = true := by
          by_cases h5 : virtual < 0
          · simp [h5]
          · simp only [decide_eq_false h5, cond_false, decide_eq_true_eq]; omega
        have hb : (MapPage o (gpX list_ k virtual 0 (nth physical 0))).2 = false := by
          cases hb : (MapPage o (gpX list_ k virtual 0 (nth physical 0))).2
          · rfl
          · have := MapPage_virtual hb
            have e3 : (gpX list_ k virtual 0 (nth physical 0)).Virtual = virtual := by
              show w64 (virtual + ((0 : Nat) : Int)) = virtual
              rw [w64_in (by omega) (by omega)]
              omega
            rw [e3] at this
            exact absurd this hr
        rw [hc, hb]
        rfl
  have r4 : room2 32 [] maps = true := room2_sm hsm (by omega)
  simp only [r4, andt_true_l, cond_true]
  have hcmp : (bif decide (k < 0) then true else decide (len list_ ≤ k)) = !(between k 0 (len list_ - 1)) := by
    by_cases h1 : k < 0
    · have : between k 0 (len list_ - 1) = false := by
        cases hb : between k 0 (len list_ - 1)
        · rfl
        · have := between_iff.1 hb; omega
      simp [h1, this]
    · by_cases h2 : len list_ ≤ k
      · have : between k 0 (len list_ - 1) = false := by
          cases hb : between k 0 (len list_ - 1)
          · rfl
          · have := between_iff.1 hb; omega
        simp [h1, h2, this]
      · have : between k 0 (len list_ - 1) = true := between_iff.2 (by omega)
        simp [h1, h2, this]
  rw [hcmp]
  cases hb : between k 0 (len list_ - 1)
  · rfl
  · simp only [Bool.not_true, cond_false]
    have hb := between_iff.1 hb
    have := key (by simp only [len] at hb; simp only [idx, Bool.and_eq_true, decide_eq_true_eq]; omega) physical.length (physical.length + 1) 0 maps (by omega) (by omega) hsm (.inl rfl)
    simpa using this

end
end Go.Proofs.Ytfnkhejoihnlnaa.Pl
