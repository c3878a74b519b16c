/- What functions of the program compute, in plain Lean, as the value machine runs them. Conditions: none. -/
import Derived.Test.YtfnkhejoihnlnaaPMp
set_option linter.unusedVariables false
set_option linter.unusedSimpArgs false
set_option maxRecDepth 100000
namespace Go.Proofs.Ytfnkhejoihnlnaa.Pl
open Vm
noncomputable section



/-- The pages from p on, m of them. -/
def wpl (list_ : Rows) (domain : Int) : Nat → Nat → Rows
  | 0, _ => []
  | m + 1, p => bif list_.any (wpRow domain p) then [.int (p : Int)] :: wpl list_ domain m (p + 1) else wpl list_ domain m (p + 1)
theorem wpl_eq (list_ : Rows) (domain : Int) : ∀ (m p : Nat) (o : Rows), itN (wpStep list_ domain) m p o = o ++ wpl list_ domain m p
  | 0, _, o => by simp [itN, wpl]
  | m + 1, p, o => by
    simp only [itN, wpl]
    rw [wpl_eq list_ domain m (p + 1)]
    unfold wpStep
    cases list_.any (wpRow domain p) <;> simp
theorem WritablePages_eq (list_ : Rows) (domain : Int) : WritablePages list_ domain = bif !(MappingsOk list_) then [] else wpl list_ domain 64 0 := by
  unfold WritablePages
  rw [wpl_eq, List.nil_append]
/-- Rows of one number each, from lo on, below 64, none twice. -/
def Pgs : Nat → Rows → Prop
  | _, [] => True
  | lo, r :: rs => ∃ p : Nat, r = [.int (p : Int)] ∧ lo ≤ p ∧ p < 64 ∧ Pgs (p + 1) rs
theorem Pgs.mono : ∀ {lo lo' : Nat} {l : Rows}, lo' ≤ lo → Pgs lo l → Pgs lo' l
  | _, _, [], _, _ => trivial
  | _, _, r :: rs, h, ⟨p, e, h1, h2, h3⟩ => ⟨p, e, by omega, h2, h3⟩
theorem wpl_pgs (list_ : Rows) (domain : Int) : ∀ (m p : Nat), p + m ≤ 64 → Pgs p (wpl list_ domain m p)
  | 0, _, _ => trivial
  | m + 1, p, h => by
    have ih := wpl_pgs list_ domain m (p + 1) (by omega)
    simp only [wpl]
    cases list_.any (wpRow domain p)
    · exact ih.mono (by omega)
    · exact ⟨p, rfl, Nat.le_refl _, by omega, ih⟩
theorem WritablePages_pgs (list_ : Rows) (domain : Int) : Pgs 0 (WritablePages list_ domain) := by
  rw [WritablePages_eq]
  cases MappingsOk list_
  · trivial
  · exact wpl_pgs list_ domain 64 0 (by omega)
theorem Pgs.len : ∀ {lo : Nat} {l : Rows}, Pgs lo l → l.length ≤ 64 - lo
  | _, [], _ => by simp
  | lo, r :: rs, ⟨p, e, h1, h2, h3⟩ => by
    have := h3.len
    simp only [List.length_cons]
    omega
theorem Pgs.at : ∀ {lo : Nat} {l : Rows} (i : Nat), Pgs lo l → i < l.length → ∃ p : Nat, nth l i = [.int (p : Int)] ∧ p < 64
  | _, [], _, _, h => by simp at h
  | lo, r :: rs, 0, ⟨p, e, h1, h2, h3⟩, _ => ⟨p, e, h2⟩
  | lo, r :: rs, i + 1, ⟨p, e, h1, h2, h3⟩, h => h3.at i (by simpa using h)
/-- A table of 64 owners: which are taken. -/
def Tab (ow : Rows) (u : Nat → Bool) : Prop := ow.length = 64 ∧ ∀ p, p < 64 → nth ow p ≠ [] ∧ ((rI (nth ow p) 0) != 0) = u p
def memP (l : Rows) (p : Nat) : Bool := l.any fun r => (rI r 0) == (p : Int)
/-- The walk over the pages of one function. -/
def apGo {α : Type} (v : Int) (no : α) (fin : Rows → α) : Rows → Rows → α
  | [], ow => fin ow
  | r :: rs, ow => bif (rI (nth ow (Int.toNat (rI r 0))) 0) != 0 then no else apGo v no fin rs (ow.set (Int.toNat (rI r 0)) (splice (nth ow (Int.toNat (rI r 0))) 0 [.int v]))
theorem Tab.set {ow : Rows} {u : Nat → Bool} (h : Tab ow u) {p : Nat} (hp : p < 64) {v : Int} (hv : v ≠ 0) : Tab (ow.set p (splice (nth ow p) 0 [.int v])) (fun q => u q || q == p) := by
  refine ⟨by rw [List.length_set]; exact h.1, fun q hq => ?_⟩
  by_cases hqp : q = p
  · subst hqp
    rw [nth_setl (by rw [h.1]; exact hq)]
    refine ⟨by simp [splice], ?_⟩
    simp only [splice, List.take_zero, List.nil_append, List.cons_append, rI, List.getD_cons_zero, DC.asInt, beq_self_eq_true, Bool.or_true, bne_iff_ne, ne_eq]
    exact hv
  · have e : nth (ow.set p (splice (nth ow p) 0 [.int v])) q = nth ow q := by
      simp only [nth, List.getD_eq_getElem?_getD]
      rw [List.getElem?_set_ne (fun e => hqp e.symm)]
    rw [e, (h.2 q hq).2]
    refine ⟨(h.2 q hq).1, ?_⟩
    have : (q == p) = false := by simpa using hqp
    show u q = (u q || q == p)
    rw [this, Bool.or_false]
theorem apGo_eq {α : Type} {v : Int} (hv : v ≠ 0) (no : α) (fin : Rows → α) : ∀ (l : Rows) (lo : Nat) (ow : Rows) (u : Nat → Bool), Pgs lo l → Tab ow u →
    ∃ ow', Tab ow' (fun q => u q || memP l q) ∧ apGo v no fin l ow = bif l.any (fun r => u (Int.toNat (rI r 0))) then no else fin ow'
  | [], _, ow, u, _, ht => ⟨ow, by simpa [memP] using ht, rfl⟩
  | r :: rs, lo, ow, u, ⟨p, e, h1, h2, h3⟩, ht => by
    subst e
    have hr : rI [DC.int (p : Int)] 0 = (p : Int) := rfl
    obtain ⟨ow', t', e'⟩ := apGo_eq hv no fin rs (p + 1) _ _ h3 (ht.set h2 hv)
    refine ⟨ow', ?_, ?_⟩
    · have : (fun q => u q || memP ([.int (p : Int)] :: rs) q) = fun q => (u q || q == p) || memP rs q := by
        funext q
        simp only [memP, List.any_cons, hr]
        have : ((p : Int) == (q : Int)) = (q == p) := by
          by_cases h : q = p
          · subst h; simp
          · have h0 : (q == p) = false := by simpa using h
            rw [h0]
            simp only [beq_eq_false_iff_ne, ne_eq]
            omega
        rw [this, Bool.or_assoc]
      rw [this]
      exact t'
    · simp only [apGo, List.any_cons, hr, Int.toNat_natCast, (ht.2 p h2).2]
      cases hu : u p
      · simp only [cond_false, Bool.false_or]
        rw [e']
        have : (rs.any fun r => u (Int.toNat (rI r 0)) || Int.toNat (rI r 0) == p) = rs.any fun r => u (Int.toNat (rI r 0)) := by
          clear e' t'
          have aux : ∀ (l : Rows) (lo : Nat), p < lo → Pgs lo l → (l.any fun r => u (Int.toNat (rI r 0)) || Int.toNat (rI r 0) == p) = l.any fun r => u (Int.toNat (rI r 0)) := by
            intro l
            induction l with
            | nil => intros; rfl
            | cons x xs ih =>
              rintro lo hlo ⟨q, rfl, g1, g2, g3⟩
              have hx : rI [DC.int (q : Int)] 0 = (q : Int) := rfl
              have hq : (q == p) = false := by simp only [beq_eq_false_iff_ne, ne_eq]; omega
              simp only [List.any_cons, hx, Int.toNat_natCast, hq, Bool.or_false]
              rw [ih (q + 1) (by omega) g3]
          exact aux rs (p + 1) (by omega) h3
        rw [this]
      · rfl
theorem has_mem (l : Rows) : ∀ (i : Nat) (p : Nat), anyIdx (fun _ r => (rI r 0) == (p : Int)) l i = memP l p := by
  induction l with
  | nil => intros; rfl
  | cons r rs ih =>
    intro i p
    simp only [anyIdx, memP, List.any_cons]
    rw [ih (i + 1) p]
    cases (rI r 0 == (p : Int)) <;> rfl
theorem anyN_snoc (P : Nat → Bool) : ∀ (n s : Nat), anyN P (n + 1) s = (anyN P n s || P (s + n))
  | 0, s => by simp only [anyN, Nat.add_zero]; cases P s <;> rfl
  | n + 1, s => by
    have := anyN_snoc P n (s + 1)
    rw [show anyN P (n + 1 + 1) s = bif P s then true else anyN P (n + 1) (s + 1) from rfl, this]
    simp only [anyN]
    rw [show s + 1 + n = s + (n + 1) by omega]
    cases P s <;> rfl
theorem ap_swap (maps list_ : Rows) : ∀ (W : Rows) (lo : Nat), Pgs lo W → ∀ (n s t : Nat), (W.any fun r => anyN (fun j => memP (WritablePages maps (rI (nth list_ j) 0)) (Int.toNat (rI r 0))) n s) =
          anyN (fun j => anyIdx (fun _ r => hasInt (WritablePages maps (rI (nth list_ j) 0)) (rI r 0)) W t) n s := by
  intro W
  induction W with
  | nil =>
    intro lo _ n
    induction n with
    | zero => intros; rfl
    | succ n ih => intro s t; simp only [anyN, anyIdx, cond_false]; exact ih (s + 1) t
  | cons x xs ih =>
    rintro lo ⟨q, rfl, g1, g2, g3⟩ n s t
    have hx : rI [DC.int (q : Int)] 0 = (q : Int) := rfl
    simp only [List.any_cons, hx, Int.toNat_natCast]
    rw [ih (q + 1) g3 n s (t + 1)]
    simp only [anyIdx, hx]
    clear ih
    induction n generalizing s with
    | zero => rfl
    | succ n ihn =>
      simp only [anyN]
      have ihn := ihn (s + 1)
      have eh : hasInt (WritablePages maps (rI (nth list_ s) 0)) (q : Int) = memP (WritablePages maps (rI (nth list_ s) 0)) q := has_mem _ 0 q
      rw [eh]
      cases memP (WritablePages maps (rI (nth list_ s) 0)) q
      · simp only [cond_false]
        cases hz : anyIdx (fun _ r => hasInt (WritablePages maps (rI (nth list_ s) 0)) (rI r 0)) xs (t + 1)
        · simpa using ihn
        · simp
      · rfl

def impl_FunctionsApart_l0 {α : Type} (bad : α) (k_ : Bool → α) (l1 : Int → Int → Int → Rows → Int → Rows → α) (maps : Rows) (list_ : Rows) (x_1 : Int) (ih0 : Int → Rows → α) (x_2 : Int) (owner : Rows) : α :=
  let z0 : Rows := WritablePages maps (rI (nth list_ (Int.toNat x_2)) 0)
  bif decide (x_2 < x_1) then
    bif andt true (idx x_2 list_) then
      l1 x_2 x_2 (len z0) z0 0 owner
    else bad
  else k_ true
def impl_FunctionsApart_l1 {α : Type} (bad : α) (k_ : Bool → α) (ih0 : Int → Rows → α) (x_2 : Int) (x_5 : Int) (x_6 : Int) (x_8 : Rows) (ih1 : Int → Rows → α) (x_7 : Int) (owner_1 : Rows) : α :=
  let z0 : Nat := Int.toNat (rI (nth x_8 (Int.toNat x_7)) 0)
  let z1 : Bool := andt (andt true (idx (rI (nth x_8 (Int.toNat x_7)) 0) owner_1)) (inl z0 owner_1)
  let z2 : List DC := nth owner_1 z0
  bif decide (x_7 < x_6) then
    bif andt (andt true (idx x_7 x_8)) (inl (Int.toNat x_7) x_8) then
      bif z1 then
        bif (rI z2 0) != 0 then k_ false
        else bif z1 then
            ih1 (w64 (x_7 + 1)) (List.set owner_1 z0 (splice z2 0 [.int (w64 (x_2 + 1))]))
          else bad
      else bad
    else bad
  else ih0 (w64 (x_5 + 1)) owner_1
def impl_FunctionsApart_L1 {α : Type} (bad : α) (k_ : Bool → α) (N : Nat) (ih0 : Int → Rows → α) (x_2 : Int) (x_5 : Int) (x_6 : Int) (x_8 : Rows) (m_ : Nat) : Int → Rows → α :=
  Nat.rec (motive := fun _ => Int → Rows → α) (fun _ _ => bad) (fun _ ih1 => impl_FunctionsApart_l1 bad k_ ih0 x_2 x_5 x_6 x_8 ih1) m_
theorem impl_FunctionsApart_L1_z {α : Type} (bad : α) (k_ : Bool → α) (N : Nat) (ih0 : Int → Rows → α) (x_2 : Int) (x_5 : Int) (x_6 : Int) (x_8 : Rows) (x_7 : Int) (owner_1 : Rows) : impl_FunctionsApart_L1 bad k_ N ih0 x_2 x_5 x_6 x_8 0 x_7 owner_1 = bad := rfl
theorem impl_FunctionsApart_L1_s {α : Type} (bad : α) (k_ : Bool → α) (N : Nat) (ih0 : Int → Rows → α) (x_2 : Int) (x_5 : Int) (x_6 : Int) (x_8 : Rows) (m_ : Nat) (x_7 : Int) (owner_1 : Rows) : impl_FunctionsApart_L1 bad k_ N ih0 x_2 x_5 x_6 x_8 (m_ + 1) x_7 owner_1 = impl_FunctionsApart_l1 bad k_ ih0 x_2 x_5 x_6 x_8 (impl_FunctionsApart_L1 bad k_ N ih0 x_2 x_5 x_6 x_8 m_) x_7 owner_1 := rfl
def impl_FunctionsApart_L0 {α : Type} (bad : α) (k_ : Bool → α) (N : Nat) (maps : Rows) (list_ : Rows) (x_1 : Int) (m_ : Nat) : Int → Rows → α :=
  Nat.rec (motive := fun _ => Int → Rows → α) (fun _ _ => bad) (fun _ ih0 => impl_FunctionsApart_l0 bad k_ (fun x_2 x_5 x_6 x_8 => impl_FunctionsApart_L1 bad k_ N ih0 x_2 x_5 x_6 x_8 N) maps list_ x_1 ih0) m_
theorem impl_FunctionsApart_L0_z {α : Type} (bad : α) (k_ : Bool → α) (N : Nat) (maps : Rows) (list_ : Rows) (x_1 : Int) (x_2 : Int) (owner : Rows) : impl_FunctionsApart_L0 bad k_ N maps list_ x_1 0 x_2 owner = bad := rfl
theorem impl_FunctionsApart_L0_s {α : Type} (bad : α) (k_ : Bool → α) (N : Nat) (maps : Rows) (list_ : Rows) (x_1 : Int) (m_ : Nat) (x_2 : Int) (owner : Rows) : impl_FunctionsApart_L0 bad k_ N maps list_ x_1 (m_ + 1) x_2 owner = impl_FunctionsApart_l0 bad k_ (fun x_2 x_5 x_6 x_8 => impl_FunctionsApart_L1 bad k_ N (impl_FunctionsApart_L0 bad k_ N maps list_ x_1 m_) x_2 x_5 x_6 x_8 N) maps list_ x_1 (impl_FunctionsApart_L0 bad k_ N maps list_ x_1 m_) x_2 owner := rfl
def impl_FunctionsApart_t {α : Type} (bad : α) (k_ : Bool → α) (l0 : Int → Int → Rows → α) (list_ : Rows) (maps : Rows) : α :=
  l0 (len list_) 0 (List.replicate 64 ([.int 0] : List DC))
def impl_FunctionsApart_f {α : Type} (bad : α) (k_ : Bool → α) (N : Nat) (list_ : Rows) (maps : Rows) : α := impl_FunctionsApart_t bad k_ (fun x_1 => impl_FunctionsApart_L0 bad k_ N maps list_ x_1 N) list_ maps
def FunctionsApart (list_ : Rows) (maps : Rows) : Bool := bif anyN (fun k => anyN (fun i => anyIdx (fun _ r => hasInt (WritablePages maps (rI (nth list_ i) 0)) (rI r 0)) (WritablePages maps (rI (nth list_ k) 0)) 0) k 0) list_.length 0 then false else true
theorem impl_FunctionsApart_c {α : Type} (bad : α) (k_ : Bool → α) (list_ : Rows) (maps : Rows) (h_list_ : WtC (.sl [.int .i64, .int .i64, .int .i64, .int .i64, .int .i64, .bool, .int .i64, .int .i64]) (.sl list_)) (h_maps : WtC (.sl [.int .i64, .int .i64, .int .i64, .bool]) (.sl maps)) : ∃ N, impl_FunctionsApart_f bad k_ N list_ maps = k_ (FunctionsApart list_ maps) := by
  obtain ⟨hl, _⟩ := wt_sl h_list_
  refine ⟨list_.length + 66, ?_⟩
  unfold impl_FunctionsApart_f impl_FunctionsApart_t FunctionsApart
  have inner : ∀ (ih : Int → Rows → α) (i : Nat) (W : Rows) (ow : Rows), i < list_.length → Pgs 0 W → ow.length = 64 →
      impl_FunctionsApart_L1 bad k_ (list_.length + 66) ih (i : Int) (i : Int) (len W) W (list_.length + 66) 0 ow = apGo ((i : Int) + 1) (k_ false) (ih ((i : Int) + 1)) W ow := by
    intro ih i W ow hi hW how
    have hw : w64 ((i : Int) + 1) = (i : Int) + 1 := w64_succ hi hl
    have key : ∀ (m n : Nat) (j : Nat) (ow : Rows), j + m = W.length → m < n → ow.length = 64 → impl_FunctionsApart_L1 bad k_ (list_.length + 66) ih (i : Int) (i : Int) (len W) W n (j : Int) ow = apGo ((i : Int) + 1) (k_ false) (ih ((i : Int) + 1)) (W.drop j) ow := by
      intro m
      induction m with
      | zero =>
        intro n j ow h1 h2 h3
        obtain ⟨n, rfl⟩ : ∃ q, n = q + 1 := ⟨n - 1, by omega⟩
        have : j = W.length := by omega
        subst this
        rw [impl_FunctionsApart_L1_s, List.drop_eq_nil_of_le (Nat.le_refl _)]
        simp only [impl_FunctionsApart_l1, not_lt_len, cond_false, hw, apGo]
      | succ m ihm =>
        intro n j ow h1 h2 h3
        obtain ⟨n, rfl⟩ : ∃ q, n = q + 1 := ⟨n - 1, by omega⟩
        have hj : j < W.length := by omega
        obtain ⟨p, ep, hp⟩ := hW.at j hj
        have hWl := hW.len
        rw [impl_FunctionsApart_L1_s, List.drop_eq_getElem_cons hj]
        have e0 : W[j] = nth W j := by simp [nth, hj]
        have e1 : rI [DC.int (p : Int)] 0 = (p : Int) := rfl
        have h5 : idx (p : Int) ow = true := idx_nat (by omega)
        have h6 : inl p ow = true := inl_nat (by omega)
        simp only [impl_FunctionsApart_l1, lt_len hj, idx_nat hj, inl_nat hj, Int.toNat_natCast, andt_true_l, andt_true_r, cond_true, e0, ep, e1, h5, h6, hw, w64_in (show -9223372036854775808 ≤ (j : Int) + 1 by omega) (show (j : Int) + 1 ≤ 9223372036854775807 by omega), apGo]
        have := ihm n (j + 1) (ow.set p (splice (nth ow p) 0 [.int ((i : Int) + 1)])) (by omega) (by omega) (by rw [List.length_set]; exact h3)
        have e2 : ((j + 1 : Nat) : Int) = (j : Int) + 1 := by omega
        rw [e2] at this
        rw [this]
    have hWl := hW.len
    have := key W.length (list_.length + 66) 0 ow (by omega) (by omega) how
    simpa using this
  have outer : ∀ (m n i : Nat) (ow : Rows), i + m = list_.length → m < n → Tab ow (fun q => anyN (fun j => memP (WritablePages maps (rI (nth list_ j) 0)) q) i 0) →
      impl_FunctionsApart_L0 bad k_ (list_.length + 66) maps list_ (len list_) n (i : Int) ow = k_ (bif anyN (fun k => anyN (fun i => anyIdx (fun _ r => hasInt (WritablePages maps (rI (nth list_ i) 0)) (rI r 0)) (WritablePages maps (rI (nth list_ k) 0)) 0) k 0) m i then false else true) := by
    intro m
    induction m with
    | zero =>
      intro n i ow h1 h2 ht
      obtain ⟨n, rfl⟩ : ∃ q, n = q + 1 := ⟨n - 1, by omega⟩
      have : i = list_.length := by omega
      subst this
      rw [impl_FunctionsApart_L0_s]
      simp only [impl_FunctionsApart_l0, not_lt_len, cond_false, anyN]
    | succ m ihm =>
      intro n i ow h1 h2 ht
      obtain ⟨n, rfl⟩ : ∃ q, n = q + 1 := ⟨n - 1, by omega⟩
      have hi : i < list_.length := by omega
      rw [impl_FunctionsApart_L0_s]
      simp only [impl_FunctionsApart_l0, lt_len hi, idx_nat hi, Int.toNat_natCast, andt_true_l, cond_true, inner _ i _ ow hi (WritablePages_pgs maps _) ht.1]
      obtain ⟨o1, t1, e1⟩ := apGo_eq (v := (i : Int) + 1) (by omega) (k_ false) (impl_FunctionsApart_L0 bad k_ (list_.length + 66) maps list_ (len list_) n ((i : Int) + 1)) (WritablePages maps (rI (nth list_ i) 0)) 0 ow _ (WritablePages_pgs maps _) ht
      rw [e1, ap_swap maps list_ _ 0 (WritablePages_pgs maps _) i 0 0]
      simp only [anyN]
      cases hA : anyN (fun j => anyIdx (fun _ r => hasInt (WritablePages maps (rI (nth list_ j) 0)) (rI r 0)) (WritablePages maps (rI (nth list_ i) 0)) 0) i 0
      · simp only [cond_false]
        have e2 : ((i + 1 : Nat) : Int) = (i : Int) + 1 := by omega
        have := ihm n (i + 1) o1 (by omega) (by omega) (by
          have e3 : (fun q => anyN (fun j => memP (WritablePages maps (rI (nth list_ j) 0)) q) (i + 1) 0) = fun q => anyN (fun j => memP (WritablePages maps (rI (nth list_ j) 0)) q) i 0 || memP (WritablePages maps (rI (nth list_ i) 0)) q := by
            funext q
            rw [anyN_snoc, Nat.zero_add]
          rw [e3]
          exact t1)
        rw [e2] at this
        exact this
      · rfl
  have := outer list_.length (list_.length + 66) 0 (List.replicate 64 [.int 0]) (by omega) (by omega) ⟨by simp, fun p hp => by
    have : nth (List.replicate 64 [DC.int 0]) p = [DC.int 0] := by
      simp only [nth]
      rw [List.getD_eq_getElem?_getD, List.getElem?_replicate_of_lt hp]
      rfl
    rw [this]
    exact ⟨by simp, rfl⟩⟩
  exact this

def spec_FunctionsApart_l0 {α : Type} (bad : α) (k_ : Bool → α) (l1 : Int → Int → α) (list_ : Rows) (maps : Rows) (ih0 : Int → α) (k : Int) : α :=
  bif decide (k < len list_) then l1 k 0
  else k_ true
def spec_FunctionsApart_l1 {α : Type} (bad : α) (k_ : Bool → α) (l2 : Int → Rows → Rows → Int → α) (ih0 : Int → α) (list_ : Rows) (maps : Rows) (k : Int) (ih1 : Int → α) (i : Int) : α :=
  bif decide (i < k) then
    bif andt true (idx k list_) then
      bif andt true (idx i list_) then
        l2 i (WritablePages maps (rI (nth list_ (Int.toNat k)) 0)) (WritablePages maps (rI (nth list_ (Int.toNat i)) 0)) 0
      else bad
    else bad
  else ih0 (w64 (k + 1))
def spec_FunctionsApart_l2 {α : Type} (bad : α) (k_ : Bool → α) (ih1 : Int → α) (i : Int) (a : Rows) (b : Rows) (ih2 : Int → α) (j : Int) : α :=
  bif decide (j < len a) then
    bif andt (andt true (idx j a)) (inl (Int.toNat j) a) then
      bif hasInt b (rI (nth a (Int.toNat j)) 0) then k_ false
      else ih2 (w64 (j + 1))
    else bad
  else ih1 (w64 (i + 1))
def spec_FunctionsApart_L2 {α : Type} (bad : α) (k_ : Bool → α) (N : Nat) (ih1 : Int → α) (i : Int) (a : Rows) (b : Rows) (m_ : Nat) : Int → α :=
  Nat.rec (motive := fun _ => Int → α) (fun _ => bad) (fun _ ih2 => spec_FunctionsApart_l2 bad k_ ih1 i a b ih2) m_
theorem spec_FunctionsApart_L2_z {α : Type} (bad : α) (k_ : Bool → α) (N : Nat) (ih1 : Int → α) (i : Int) (a : Rows) (b : Rows) (j : Int) : spec_FunctionsApart_L2 bad k_ N ih1 i a b 0 j = bad := rfl
theorem spec_FunctionsApart_L2_s {α : Type} (bad : α) (k_ : Bool → α) (N : Nat) (ih1 : Int → α) (i : Int) (a : Rows) (b : Rows) (m_ : Nat) (j : Int) : spec_FunctionsApart_L2 bad k_ N ih1 i a b (m_ + 1) j = spec_FunctionsApart_l2 bad k_ ih1 i a b (spec_FunctionsApart_L2 bad k_ N ih1 i a b m_) j := rfl
def spec_FunctionsApart_L1 {α : Type} (bad : α) (k_ : Bool → α) (N : Nat) (ih0 : Int → α) (list_ : Rows) (maps : Rows) (k : Int) (m_ : Nat) : Int → α :=
  Nat.rec (motive := fun _ => Int → α) (fun _ => bad) (fun _ ih1 => spec_FunctionsApart_l1 bad k_ (fun i a b => spec_FunctionsApart_L2 bad k_ N ih1 i a b N) ih0 list_ maps k ih1) m_
theorem spec_FunctionsApart_L1_z {α : Type} (bad : α) (k_ : Bool → α) (N : Nat) (ih0 : Int → α) (list_ : Rows) (maps : Rows) (k : Int) (i : Int) : spec_FunctionsApart_L1 bad k_ N ih0 list_ maps k 0 i = bad := rfl
theorem spec_FunctionsApart_L1_s {α : Type} (bad : α) (k_ : Bool → α) (N : Nat) (ih0 : Int → α) (list_ : Rows) (maps : Rows) (k : Int) (m_ : Nat) (i : Int) : spec_FunctionsApart_L1 bad k_ N ih0 list_ maps k (m_ + 1) i = spec_FunctionsApart_l1 bad k_ (fun i a b => spec_FunctionsApart_L2 bad k_ N (spec_FunctionsApart_L1 bad k_ N ih0 list_ maps k m_) i a b N) ih0 list_ maps k (spec_FunctionsApart_L1 bad k_ N ih0 list_ maps k m_) i := rfl
def spec_FunctionsApart_L0 {α : Type} (bad : α) (k_ : Bool → α) (N : Nat) (list_ : Rows) (maps : Rows) (m_ : Nat) : Int → α :=
  Nat.rec (motive := fun _ => Int → α) (fun _ => bad) (fun _ ih0 => spec_FunctionsApart_l0 bad k_ (fun k => spec_FunctionsApart_L1 bad k_ N ih0 list_ maps k N) list_ maps ih0) m_
theorem spec_FunctionsApart_L0_z {α : Type} (bad : α) (k_ : Bool → α) (N : Nat) (list_ : Rows) (maps : Rows) (k : Int) : spec_FunctionsApart_L0 bad k_ N list_ maps 0 k = bad := rfl
theorem spec_FunctionsApart_L0_s {α : Type} (bad : α) (k_ : Bool → α) (N : Nat) (list_ : Rows) (maps : Rows) (m_ : Nat) (k : Int) : spec_FunctionsApart_L0 bad k_ N list_ maps (m_ + 1) k = spec_FunctionsApart_l0 bad k_ (fun k => spec_FunctionsApart_L1 bad k_ N (spec_FunctionsApart_L0 bad k_ N list_ maps m_) list_ maps k N) list_ maps (spec_FunctionsApart_L0 bad k_ N list_ maps m_) k := rfl
def spec_FunctionsApart_t {α : Type} (bad : α) (k_ : Bool → α) (l0 : Int → α) (list_ : Rows) (maps : Rows) : α :=
  l0 0
def spec_FunctionsApart_f {α : Type} (bad : α) (k_ : Bool → α) (N : Nat) (list_ : Rows) (maps : Rows) : α := spec_FunctionsApart_t bad k_ (spec_FunctionsApart_L0 bad k_ N list_ maps N) list_ maps
theorem spec_FunctionsApart_c {α : Type} (bad : α) (k_ : Bool → α) (list_ : Rows) (maps : Rows) (h_list_ : WtC (.sl [.int .i64, .int .i64, .int .i64, .int .i64, .int .i64, .bool, .int .i64, .int .i64]) (.sl list_)) (h_maps : WtC (.sl [.int .i64, .int .i64, .int .i64, .bool]) (.sl maps)) : ∃ N, spec_FunctionsApart_f bad k_ N list_ maps = k_ (FunctionsApart list_ maps) := by
  obtain ⟨hl, _⟩ := wt_sl h_list_
  refine ⟨list_.length + 66, ?_⟩
  unfold spec_FunctionsApart_f spec_FunctionsApart_t FunctionsApart
  have in2 : ∀ (ih : Int → α) (i : Nat) (A B : Rows), i < list_.length → A.length ≤ 64 → spec_FunctionsApart_L2 bad k_ (list_.length + 66) ih (i : Int) A B (list_.length + 66) 0 = bif anyIdx (fun _ r => hasInt B (rI r 0)) A 0 then k_ false else ih ((i : Int) + 1) := by
    intro ih i A B hi hA
    have hw : w64 ((i : Int) + 1) = (i : Int) + 1 := w64_succ hi hl
    refine (loop_rowsN A (spec_FunctionsApart_L2 bad k_ (list_.length + 66) ih (i : Int) A B) (fun _ r c => bif hasInt B (rI r 0) then k_ false else c) (ih ((i : Int) + 1)) ?_ ?_ (list_.length + 66) (by omega)).trans (go_anyIdx (fun _ r => hasInt B (rI r 0)) _ _ A 0)
    · intro n j h
      rw [spec_FunctionsApart_L2_s]
      simp only [spec_FunctionsApart_l2, lt_len h, idx_nat h, inl_nat h, w64_succ h (show A.length ≤ 9223372036854775807 by omega), Int.toNat_natCast, andt_true_l, andt_true_r, cond_true]
    · intro n
      rw [spec_FunctionsApart_L2_s]
      simp only [spec_FunctionsApart_l2, not_lt_len, hw, cond_false]
  have in1 : ∀ (ih : Int → α) (k : Nat), k < list_.length → spec_FunctionsApart_L1 bad k_ (list_.length + 66) ih list_ maps (k : Int) (list_.length + 66) 0 = bif anyN (fun i => anyIdx (fun _ r => hasInt (WritablePages maps (rI (nth list_ i) 0)) (rI r 0)) (WritablePages maps (rI (nth list_ k) 0)) 0) k 0 then k_ false else ih ((k : Int) + 1) := by
    intro ih k hk
    have hw : w64 ((k : Int) + 1) = (k : Int) + 1 := w64_succ hk hl
    have := loop_nat (σ := Unit) k (fun n j _ => spec_FunctionsApart_L1 bad k_ (list_.length + 66) ih list_ maps (k : Int) n j) (fun i c s => bif anyIdx (fun _ r => hasInt (WritablePages maps (rI (nth list_ i) 0)) (rI r 0)) (WritablePages maps (rI (nth list_ k) 0)) 0 then k_ false else c s) (fun _ => ih ((k : Int) + 1)) ?_ ?_ (list_.length + 66) () (by omega)
    · exact this.trans (go_anyN (fun i => anyIdx (fun _ r => hasInt (WritablePages maps (rI (nth list_ i) 0)) (rI r 0)) (WritablePages maps (rI (nth list_ k) 0)) 0) (k_ false) (ih ((k : Int) + 1)) k 0)
    · intro n i _ hi
      show spec_FunctionsApart_L1 bad k_ (list_.length + 66) ih list_ maps (k : Int) (n + 1) (i : Int) = _
      rw [spec_FunctionsApart_L1_s]
      have h1 : decide ((i : Int) < (k : Int)) = true := decide_eq_true (by omega)
      have hi2 : i < list_.length := by omega
      have hA := (WritablePages_pgs maps (rI (nth list_ k) 0)).len
      simp only [spec_FunctionsApart_l1, h1, idx_nat hk, idx_nat hi2, Int.toNat_natCast, andt_true_l, cond_true, in2 _ i _ _ hi2 (show (WritablePages maps (rI (nth list_ k) 0)).length ≤ 64 by omega)]
    · intro n _
      show spec_FunctionsApart_L1 bad k_ (list_.length + 66) ih list_ maps (k : Int) (n + 1) (k : Int) = _
      rw [spec_FunctionsApart_L1_s]
      have h1 : decide ((k : Int) < (k : Int)) = false := decide_eq_false (by omega)
      simp only [spec_FunctionsApart_l1, h1, hw, cond_false]
  have := loop_nat (σ := Unit) list_.length (fun n j _ => spec_FunctionsApart_L0 bad k_ (list_.length + 66) list_ maps n j) (fun k c s => bif anyN (fun i => anyIdx (fun _ r => hasInt (WritablePages maps (rI (nth list_ i) 0)) (rI r 0)) (WritablePages maps (rI (nth list_ k) 0)) 0) k 0 then k_ false else c s) (fun _ => k_ true) ?_ ?_ (list_.length + 66) () (by omega)
  · refine this.trans ((go_anyN (fun k => anyN (fun i => anyIdx (fun _ r => hasInt (WritablePages maps (rI (nth list_ i) 0)) (rI r 0)) (WritablePages maps (rI (nth list_ k) 0)) 0) k 0) (k_ false) (k_ true) list_.length 0).trans ?_)
    exact cond_k rfl rfl
  · intro n k _ hk
    show spec_FunctionsApart_L0 bad k_ (list_.length + 66) list_ maps (n + 1) (k : Int) = _
    rw [spec_FunctionsApart_L0_s]
    simp only [spec_FunctionsApart_l0, lt_len hk, cond_true, in1 _ k hk]
  · intro n _
    show spec_FunctionsApart_L0 bad k_ (list_.length + 66) list_ maps (n + 1) (list_.length : Int) = _
    rw [spec_FunctionsApart_L0_s]
    simp only [spec_FunctionsApart_l0, not_lt_len, cond_false]

end
end Go.Proofs.Ytfnkhejoihnlnaa.Pl
