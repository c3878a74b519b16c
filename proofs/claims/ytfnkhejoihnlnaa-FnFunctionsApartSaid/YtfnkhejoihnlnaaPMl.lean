/- What functions of the program compute, in plain Lean, as the value machine runs them. Conditions: none. -/
import Derived.Test.YtfnkhejoihnlnaaPMf
import Derived.Test.YtfnkhejoihnlnaaPDc
import Derived.Test.YtfnkhejoihnlnaaPCl
set_option linter.unusedVariables false
set_option linter.unusedSimpArgs false
set_option maxRecDepth 100000
namespace Go.Proofs.Ytfnkhejoihnlnaa.Pl
open Vm
noncomputable section


def laws_has_l0 {α : Type} (bad : α) (k_ : Bool → α) (list_ : Rows) (k : Int) (ih0 : Int → α) (i : Int) : α :=
  bif decide (i < len list_) then
    bif andt true (idx i list_) then
      bif (rI (nth list_ (Int.toNat i)) 0) == k then k_ true
      else ih0 (w64 (i + 1))
    else bad
  else k_ false
def laws_has_L0 {α : Type} (bad : α) (k_ : Bool → α) (N : Nat) (list_ : Rows) (k : Int) (m_ : Nat) : Int → α :=
  Nat.rec (motive := fun _ => Int → α) (fun _ => bad) (fun _ ih0 => laws_has_l0 bad k_ list_ k ih0) m_
theorem laws_has_L0_z {α : Type} (bad : α) (k_ : Bool → α) (N : Nat) (list_ : Rows) (k : Int) (i : Int) : laws_has_L0 bad k_ N list_ k 0 i = bad := rfl
theorem laws_has_L0_s {α : Type} (bad : α) (k_ : Bool → α) (N : Nat) (list_ : Rows) (k : Int) (m_ : Nat) (i : Int) : laws_has_L0 bad k_ N list_ k (m_ + 1) i = laws_has_l0 bad k_ list_ k (laws_has_L0 bad k_ N list_ k m_) i := rfl
def laws_has_t {α : Type} (bad : α) (k_ : Bool → α) (l0 : Int → α) (list_ : Rows) (k : Int) : α :=
  l0 0
def laws_has_f {α : Type} (bad : α) (k_ : Bool → α) (N : Nat) (list_ : Rows) (k : Int) : α := laws_has_t bad k_ (laws_has_L0 bad k_ N list_ k N) list_ k
theorem laws_has_c {α : Type} (bad : α) (k_ : Bool → α) (list_ : Rows) (k : Int) (h_list_ : WtC (.sl [.int .i64]) (.sl list_)) (h_k : WtC (.int .i64) (.int k)) : ∃ N, laws_has_f bad k_ N list_ k = k_ (hasInt list_ k) := by
  obtain ⟨hl, _⟩ := wt_sl h_list_
  refine ⟨list_.length + 1, ?_⟩
  unfold laws_has_f laws_has_t
  refine (loop_rows0 list_ (laws_has_L0 bad k_ (list_.length + 1) list_ k) (fun i r c => bif (rI r 0) == k then k_ true else c) (k_ false) ?_ ?_).trans ?_
  · intro n i h
    rw [laws_has_L0_s]
    simp only [laws_has_l0, lt_len h, idx_nat h, w64_succ h hl, Int.toNat_natCast, andt_true_l, andt_true_r, cond_true]
  · intro n
    rw [laws_has_L0_s]
    simp only [laws_has_l0, not_lt_len, cond_false]
  · exact (go_anyIdx (fun _ r => (rI r 0) == k) (k_ true) (k_ false) list_ 0).trans (by unfold hasInt; cases anyIdx (fun _ r => (rI r 0) == k) list_ 0 <;> rfl)

theorem ga_1_0 : (GrantPages (dl 1) (mpl 1) ((0 : Nat) : Int) 40 [[.int (w64 (2 * (Int.tmod (w64 (((0 : Nat) : Int) + 1)) ((1 : Nat) : Int))))]]).2 = (((1 : Nat) : Int) == 1) := by kernel_rfl
theorem ga_2_0 : (GrantPages (dl 2) (mpl 2) ((0 : Nat) : Int) 40 [[.int (w64 (2 * (Int.tmod (w64 (((0 : Nat) : Int) + 1)) ((2 : Nat) : Int))))]]).2 = (((2 : Nat) : Int) == 1) := by kernel_rfl
theorem ga_2_1 : (GrantPages (dl 2) (mpl 2) ((1 : Nat) : Int) 40 [[.int (w64 (2 * (Int.tmod (w64 (((1 : Nat) : Int) + 1)) ((2 : Nat) : Int))))]]).2 = (((2 : Nat) : Int) == 1) := by kernel_rfl
theorem ga_3_0 : (GrantPages (dl 3) (mpl 3) ((0 : Nat) : Int) 40 [[.int (w64 (2 * (Int.tmod (w64 (((0 : Nat) : Int) + 1)) ((3 : Nat) : Int))))]]).2 = (((3 : Nat) : Int) == 1) := by kernel_rfl
theorem ga_3_1 : (GrantPages (dl 3) (mpl 3) ((1 : Nat) : Int) 40 [[.int (w64 (2 * (Int.tmod (w64 (((1 : Nat) : Int) + 1)) ((3 : Nat) : Int))))]]).2 = (((3 : Nat) : Int) == 1) := by kernel_rfl
theorem ga_3_2 : (GrantPages (dl 3) (mpl 3) ((2 : Nat) : Int) 40 [[.int (w64 (2 * (Int.tmod (w64 (((2 : Nat) : Int) + 1)) ((3 : Nat) : Int))))]]).2 = (((3 : Nat) : Int) == 1) := by kernel_rfl
theorem ga_4_0 : (GrantPages (dl 4) (mpl 4) ((0 : Nat) : Int) 40 [[.int (w64 (2 * (Int.tmod (w64 (((0 : Nat) : Int) + 1)) ((4 : Nat) : Int))))]]).2 = (((4 : Nat) : Int) == 1) := by kernel_rfl
theorem ga_4_1 : (GrantPages (dl 4) (mpl 4) ((1 : Nat) : Int) 40 [[.int (w64 (2 * (Int.tmod (w64 (((1 : Nat) : Int) + 1)) ((4 : Nat) : Int))))]]).2 = (((4 : Nat) : Int) == 1) := by kernel_rfl
theorem ga_4_2 : (GrantPages (dl 4) (mpl 4) ((2 : Nat) : Int) 40 [[.int (w64 (2 * (Int.tmod (w64 (((2 : Nat) : Int) + 1)) ((4 : Nat) : Int))))]]).2 = (((4 : Nat) : Int) == 1) := by kernel_rfl
theorem ga_4_3 : (GrantPages (dl 4) (mpl 4) ((3 : Nat) : Int) 40 [[.int (w64 (2 * (Int.tmod (w64 (((3 : Nat) : Int) + 1)) ((4 : Nat) : Int))))]]).2 = (((4 : Nat) : Int) == 1) := by kernel_rfl
theorem wp_1_0 : WritablePages (mpl 1) ((0 : Nat) : Int) = [[.int (2 * ((0 : Nat) : Int))], [.int (2 * ((0 : Nat) : Int) + 1)]] := by kernel_rfl
theorem wp_2_0 : WritablePages (mpl 2) ((0 : Nat) : Int) = [[.int (2 * ((0 : Nat) : Int))], [.int (2 * ((0 : Nat) : Int) + 1)]] := by kernel_rfl
theorem wp_2_1 : WritablePages (mpl 2) ((1 : Nat) : Int) = [[.int (2 * ((1 : Nat) : Int))], [.int (2 * ((1 : Nat) : Int) + 1)]] := by kernel_rfl
theorem wp_3_0 : WritablePages (mpl 3) ((0 : Nat) : Int) = [[.int (2 * ((0 : Nat) : Int))], [.int (2 * ((0 : Nat) : Int) + 1)]] := by kernel_rfl
theorem wp_3_1 : WritablePages (mpl 3) ((1 : Nat) : Int) = [[.int (2 * ((1 : Nat) : Int))], [.int (2 * ((1 : Nat) : Int) + 1)]] := by kernel_rfl
theorem wp_3_2 : WritablePages (mpl 3) ((2 : Nat) : Int) = [[.int (2 * ((2 : Nat) : Int))], [.int (2 * ((2 : Nat) : Int) + 1)]] := by kernel_rfl
theorem wp_4_0 : WritablePages (mpl 4) ((0 : Nat) : Int) = [[.int (2 * ((0 : Nat) : Int))], [.int (2 * ((0 : Nat) : Int) + 1)]] := by kernel_rfl
theorem wp_4_1 : WritablePages (mpl 4) ((1 : Nat) : Int) = [[.int (2 * ((1 : Nat) : Int))], [.int (2 * ((1 : Nat) : Int) + 1)]] := by kernel_rfl
theorem wp_4_2 : WritablePages (mpl 4) ((2 : Nat) : Int) = [[.int (2 * ((2 : Nat) : Int))], [.int (2 * ((2 : Nat) : Int) + 1)]] := by kernel_rfl
theorem wp_4_3 : WritablePages (mpl 4) ((3 : Nat) : Int) = [[.int (2 * ((3 : Nat) : Int))], [.int (2 * ((3 : Nat) : Int) + 1)]] := by kernel_rfl
theorem fa_1 : FunctionsApart (dl 1) (mpl 1) = true := by kernel_rfl
theorem fa_2 : FunctionsApart (dl 2) (mpl 2) = true := by kernel_rfl
theorem fa_3 : FunctionsApart (dl 3) (mpl 3) = true := by kernel_rfl
theorem fa_4 : FunctionsApart (dl 4) (mpl 4) = true := by kernel_rfl
theorem nk_cases {n K : Nat} (h1 : K < n) (h4 : n ≤ 4) : (n = 1 ∧ K = 0) ∨ (n = 2 ∧ K = 0) ∨ (n = 2 ∧ K = 1) ∨ (n = 3 ∧ K = 0) ∨ (n = 3 ∧ K = 1) ∨ (n = 3 ∧ K = 2) ∨ (n = 4 ∧ K = 0) ∨ (n = 4 ∧ K = 1) ∨ (n = 4 ∧ K = 2) ∨ (n = 4 ∧ K = 3) := by omega
theorem ga_all {n K : Nat} (h1 : K < n) (h4 : n ≤ 4) : (GrantPages (dl n) (mpl n) (K : Int) 40 [[.int (w64 (2 * (Int.tmod (w64 ((K : Int) + 1)) (n : Int))))]]).2 = ((n : Int) == 1) := by
  rcases nk_cases h1 h4 with ⟨rfl, rfl⟩ | ⟨rfl, rfl⟩ | ⟨rfl, rfl⟩ | ⟨rfl, rfl⟩ | ⟨rfl, rfl⟩ | ⟨rfl, rfl⟩ | ⟨rfl, rfl⟩ | ⟨rfl, rfl⟩ | ⟨rfl, rfl⟩ | ⟨rfl, rfl⟩
  · exact ga_1_0
  · exact ga_2_0
  · exact ga_2_1
  · exact ga_3_0
  · exact ga_3_1
  · exact ga_3_2
  · exact ga_4_0
  · exact ga_4_1
  · exact ga_4_2
  · exact ga_4_3
theorem wp_all {n K : Nat} (h1 : K < n) (h4 : n ≤ 4) : WritablePages (mpl n) (K : Int) = [[.int (2 * (K : Int))], [.int (2 * (K : Int) + 1)]] := by
  rcases nk_cases h1 h4 with ⟨rfl, rfl⟩ | ⟨rfl, rfl⟩ | ⟨rfl, rfl⟩ | ⟨rfl, rfl⟩ | ⟨rfl, rfl⟩ | ⟨rfl, rfl⟩ | ⟨rfl, rfl⟩ | ⟨rfl, rfl⟩ | ⟨rfl, rfl⟩ | ⟨rfl, rfl⟩
  · exact wp_1_0
  · exact wp_2_0
  · exact wp_2_1
  · exact wp_3_0
  · exact wp_3_1
  · exact wp_3_2
  · exact wp_4_0
  · exact wp_4_1
  · exact wp_4_2
  · exact wp_4_3
theorem fa_all {n : Nat} (h1 : 1 ≤ n) (h4 : n ≤ 4) : FunctionsApart (dl n) (mpl n) = true := by
  rcases (by omega : n = 1 ∨ n = 2 ∨ n = 3 ∨ n = 4) with rfl | rfl | rfl | rfl
  · exact fa_1
  · exact fa_2
  · exact fa_3
  · exact fa_4
theorem mpl_len : ∀ n, (mpl n).length = 2 * n
  | 0 => rfl
  | n + 1 => by simp only [mpl, List.length_append, List.length_cons, List.length_nil, mpl_len n]; omega
theorem mpl_mem : ∀ (n : Nat) (r : List DC), r ∈ mpl n → ∃ k : Nat, rI r 0 = (k : Int) ∧ (rI r 2 = 2 * (k : Int) ∨ rI r 2 = 2 * (k : Int) + 1)
  | 0, _, h => by simp [mpl] at h
  | n + 1, r, h => by
    simp only [mpl] at h
    rcases List.mem_append.1 h with h | h
    · exact mpl_mem n r h
    · simp only [List.mem_cons, List.not_mem_nil, or_false] at h
      rcases h with rfl | rfl
      · exact ⟨n, rfl, .inl rfl⟩
      · exact ⟨n, rfl, .inr rfl⟩
theorem snocs (x : List DC) : ∀ (m i : Nat) (o : Rows), itN (fun _ o => o ++ [x]) m i o = o ++ List.replicate m x
  | 0, _, _ => by simp [itN]
  | m + 1, i, o => by
    rw [itN, snocs x m, List.append_assoc]
    rfl
theorem new16 : (NewMemory 16).Pages = List.replicate 16 pg0 := by
  show (bif decide ((16 : Int) ≤ 64) then itN (fun _ o => o ++ [pg0]) 16 0 [] else []) = _
  rw [show decide ((16 : Int) ≤ 64) = true by decide, cond_true, snocs, List.nil_append]
theorem new16_pgs : pgs (NewMemory 16).Pages ∧ (NewMemory 16).Pages.length = 16 := by
  rw [new16]
  refine ⟨fun i hi => ?_, List.length_replicate ..⟩
  rw [List.length_replicate] at hi
  refine ⟨l01Long 128 0, ?_, by simp [l01Long]⟩
  simp only [nth, List.getD_eq_getElem?_getD]
  rw [List.getElem?_replicate_of_lt hi]
  rfl
theorem WriteMemory_other' {l : Rows} {a : Nat} {s : Bytes} (hp : pgs l) (hl : l.length ≤ 64) (hs : 0 < s.length) (h : a % 128 + s.length ≤ 128) : ∀ i, i ≠ a / 128 → nth (WriteMemory (⟨l⟩ : SMemory) (a : Int) s).1.Pages i = nth l i := by
  intro i hi
  by_cases ha : a / 128 < l.length
  · exact WriteMemory_other ha h i hi
  · unfold WriteMemory
    cases hw : within (⟨l⟩ : SMemory) (a : Int) (len s)
    · rfl
    · obtain ⟨_, _, _, _, p5⟩ := within_m (wtPages_of hp hl) hw
      simp only [len] at p5
      omega
theorem ptGo_facts {Q : Nat → Prop} : ∀ (rs : Rows) (s : Bytes) (l : Rows), RunsOk Q rs s.length → pgs l → l.length ≤ 64 → pgs (ptGo rs s l) ∧ (ptGo rs s l).length = l.length ∧ ∀ i, ¬ Q i → nth (ptGo rs s l) i = nth l i
  | [], _, _, _, hp, _ => ⟨hp, rfl, fun _ _ => rfl⟩
  | r :: rs, s, l, h, hp, hl => by
    obtain ⟨p, k, rfl, k1, k2, k3, k4, k5⟩ := h
    have r1 : rI [DC.int (p : Int), DC.int (k : Int)] 0 = (p : Int) := rfl
    have r2 : rI [DC.int (p : Int), DC.int (k : Int)] 1 = (k : Int) := rfl
    rw [ptGo, r1, r2, Int.toNat_natCast]
    have wp := WriteMemory_pgs (a := (p : Int)) (s := s.take k) hp hl
    have tl : (s.take k).length = k := by rw [List.length_take]; omega
    have wo := WriteMemory_other' (a := p) (s := s.take k) hp hl (by omega) (by omega)
    have := ptGo_facts rs (s.drop k) (WriteMemory (⟨l⟩ : SMemory) (p : Int) (s.take k)).1.Pages (by rw [List.length_drop]; exact k5) wp.1 (by rw [wp.2]; exact hl)
    refine ⟨this.1, this.2.1.trans wp.2, fun i hi => ?_⟩
    rw [this.2.2 i hi]
    exact wo i (fun e => hi (e ▸ k4))
theorem put_facts {list_ : Rows} {l : Rows} {domain at_ : Int} {s : Bytes} {write : Bool} (hp : pgs l) (hl : l.length ≤ 64) :
    (put list_ (⟨l⟩ : SMemory) domain at_ s write).1.Pages.length = l.length ∧ ∀ i : Nat, ¬ (∃ j : Nat, j < list_.length ∧ rI (nth list_ j) 0 = domain ∧ rI (nth list_ j) 2 = (i : Int)) → nth (put list_ (⟨l⟩ : SMemory) domain at_ s write).1.Pages i = nth l i := by
  unfold put
  cases hr : (runsOf list_ (⟨l⟩ : SMemory) domain at_ (len s) write).2
  · exact ⟨rfl, fun _ _ => rfl⟩
  · obtain ⟨_, _, c, _⟩ := runsOf_q (m := (⟨l⟩ : SMemory)) (wtPages_of hp hl) hr
    rw [show (len s).toNat = s.length by simp [len]] at c
    have := ptGo_facts _ s l c hp hl
    exact ⟨this.2.1, this.2.2⟩
theorem cp_len (a b : Rows) : ∀ (m i : Nat) (o : Rows), (itN (cpF a b) m i o).length ≤ o.length + m
  | 0, _, _ => Nat.le_refl _
  | m + 1, i, o => by
    rw [itN]
    have := cp_len a b m (i + 1) (cpF a b i o)
    have h2 : (cpF a b i o).length ≤ o.length + 1 := by
      unfold cpF
      cases (bif decide (len a ≤ (i : Int)) then true else !((rS (nth a i) 0) == (rS (nth b i) 0)))
      · exact Nat.le_succ _
      · simp
    omega
theorem cp_mem (a b : Rows) : ∀ (m i : Nat) (o : Rows), ∀ r ∈ itN (cpF a b) m i o, r ∈ o ∨ ∃ j : Nat, i ≤ j ∧ j < i + m ∧ r = [.int (j : Int)] ∧ (bif decide (len a ≤ (j : Int)) then true else !((rS (nth a j) 0) == (rS (nth b j) 0))) = true
  | 0, _, _, r, h => .inl h
  | m + 1, i, o, r, h => by
    rw [itN] at h
    rcases cp_mem a b m (i + 1) _ r h with h | ⟨j, h1, h2, h3, h4⟩
    · unfold cpF at h
      cases hc : (bif decide (len a ≤ (i : Int)) then true else !((rS (nth a i) 0) == (rS (nth b i) 0)))
      · rw [hc] at h
        exact .inl h
      · rw [hc, cond_true] at h
        rcases List.mem_append.1 h with h | h
        · exact .inl h
        · rw [List.mem_singleton] at h
          exact .inr ⟨i, Nat.le_refl _, by omega, h, hc⟩
    · exact .inr ⟨j, by omega, by omega, h3, h4⟩
theorem changed_in {n K : Nat} {at_ : Int} {s : Bytes} {r : List DC} (h : r ∈ ChangedPages (NewMemory 16) (DmaWrite (mpl n) (NewMemory 16) (K : Int) at_ s).1) : rI r 0 = 2 * (K : Int) ∨ rI r 0 = 2 * (K : Int) + 1 := by
  obtain ⟨hp, hl⟩ := new16_pgs
  have hf := put_facts (list_ := mpl n) (domain := (K : Int)) (at_ := at_) (s := s) (write := true) hp (by omega)
  unfold ChangedPages DmaWrite at h
  rcases cp_mem _ _ _ _ _ r h with h | ⟨j, h1, h2, rfl, h4⟩
  · simp at h
  · have e0 : (put (mpl n) (NewMemory 16) (K : Int) at_ s true).1.Pages.length = 16 := hf.1.trans hl
    rw [e0] at h2
    have hd : decide (len (NewMemory 16).Pages ≤ (j : Int)) = false := decide_eq_false (by simp only [len, hl]; omega)
    rw [hd, cond_false] at h4
    by_cases hq : ∃ i : Nat, i < (mpl n).length ∧ rI (nth (mpl n) i) 0 = (K : Int) ∧ rI (nth (mpl n) i) 2 = (j : Int)
    · obtain ⟨i, i1, i2, i3⟩ := hq
      obtain ⟨k, k1, k2⟩ := mpl_mem n _ (nth_mem i1)
      show (j : Int) = 2 * (K : Int) ∨ (j : Int) = 2 * (K : Int) + 1
      omega
    · have := hf.2 j hq
      have h5 : nth (put (mpl n) (NewMemory 16) (K : Int) at_ s true).1.Pages j = nth (NewMemory 16).Pages j := this
      rw [h5] at h4
      simp at h4

def laws_FnFunctionsApart_l0 {α : Type} (bad : α) (k_ : Bool → α) (l1 : Int → Rows → Int → α) (k : Int) (list_ : Rows) (ports : Rows) (maps : Rows) (changed : Rows) (n_0 : Rows) (ih0 : Int → α) (i : Int) : α :=
  bif decide (i < len list_) then
    bif andt (andt true (idx i list_)) (inl (Int.toNat i) list_) then
      l1 i (WritablePages maps (rI (nth list_ (Int.toNat i)) 0)) 0
    else bad
  else bif andt (andt true (!((len list_) == 0))) (GrantPages_ok list_ maps k 40 ([[.int (w64 (2 * (Int.tmod (w64 (k + 1)) (len list_))))]])) then
      k_ (bif FunctionsOk list_ ports then bif FunctionsApart list_ maps then bif (len n_0) == 16 then ((GrantPages list_ maps k 40 ([[.int (w64 (2 * (Int.tmod (w64 (k + 1)) (len list_))))]])).2) == ((len list_) == 1) else false else false else false)
    else bad
def laws_FnFunctionsApart_l1 {α : Type} (bad : α) (k_ : Bool → α) (ih0 : Int → α) (k : Int) (i : Int) (changed : Rows) (pages : Rows) (ih1 : Int → α) (j : Int) : α :=
  bif decide (j < len changed) then
    bif okm (i != k) (andt (andt true (idx j changed)) (inl (Int.toNat j) changed)) true then
      bif bif i != k then hasInt pages (rI (nth changed (Int.toNat j)) 0) else false then k_ false
      else ih1 (w64 (j + 1))
    else bad
  else ih0 (w64 (i + 1))
def laws_FnFunctionsApart_L1 {α : Type} (bad : α) (k_ : Bool → α) (N : Nat) (ih0 : Int → α) (k : Int) (i : Int) (changed : Rows) (pages : Rows) (m_ : Nat) : Int → α :=
  Nat.rec (motive := fun _ => Int → α) (fun _ => bad) (fun _ ih1 => laws_FnFunctionsApart_l1 bad k_ ih0 k i changed pages ih1) m_
theorem laws_FnFunctionsApart_L1_z {α : Type} (bad : α) (k_ : Bool → α) (N : Nat) (ih0 : Int → α) (k : Int) (i : Int) (changed : Rows) (pages : Rows) (j : Int) : laws_FnFunctionsApart_L1 bad k_ N ih0 k i changed pages 0 j = bad := rfl
theorem laws_FnFunctionsApart_L1_s {α : Type} (bad : α) (k_ : Bool → α) (N : Nat) (ih0 : Int → α) (k : Int) (i : Int) (changed : Rows) (pages : Rows) (m_ : Nat) (j : Int) : laws_FnFunctionsApart_L1 bad k_ N ih0 k i changed pages (m_ + 1) j = laws_FnFunctionsApart_l1 bad k_ ih0 k i changed pages (laws_FnFunctionsApart_L1 bad k_ N ih0 k i changed pages m_) j := rfl
def laws_FnFunctionsApart_L0 {α : Type} (bad : α) (k_ : Bool → α) (N : Nat) (k : Int) (list_ : Rows) (ports : Rows) (maps : Rows) (changed : Rows) (n_0 : Rows) (m_ : Nat) : Int → α :=
  Nat.rec (motive := fun _ => Int → α) (fun _ => bad) (fun _ ih0 => laws_FnFunctionsApart_l0 bad k_ (fun i pages => laws_FnFunctionsApart_L1 bad k_ N ih0 k i changed pages N) k list_ ports maps changed n_0 ih0) m_
theorem laws_FnFunctionsApart_L0_z {α : Type} (bad : α) (k_ : Bool → α) (N : Nat) (k : Int) (list_ : Rows) (ports : Rows) (maps : Rows) (changed : Rows) (n_0 : Rows) (i : Int) : laws_FnFunctionsApart_L0 bad k_ N k list_ ports maps changed n_0 0 i = bad := rfl
theorem laws_FnFunctionsApart_L0_s {α : Type} (bad : α) (k_ : Bool → α) (N : Nat) (k : Int) (list_ : Rows) (ports : Rows) (maps : Rows) (changed : Rows) (n_0 : Rows) (m_ : Nat) (i : Int) : laws_FnFunctionsApart_L0 bad k_ N k list_ ports maps changed n_0 (m_ + 1) i = laws_FnFunctionsApart_l0 bad k_ (fun i pages => laws_FnFunctionsApart_L1 bad k_ N (laws_FnFunctionsApart_L0 bad k_ N k list_ ports maps changed n_0 m_) k i changed pages N) k list_ ports maps changed n_0 (laws_FnFunctionsApart_L0 bad k_ N k list_ ports maps changed n_0 m_) i := rfl
def laws_FnFunctionsApart_t {α : Type} (bad : α) (k_ : Bool → α) (l0 : Int → Rows → Rows → Rows → Rows → Rows → Int → α) (code : Rows) : α :=
  let z0 : Int := Int.tmod (cAt code 0) (len ((DrawFunctions code).1))
  let z1 : Nat := Int.toNat z0
  let z2 : Int := rI (nth ((DrawFunctions code).1) z1) 0
  let z3 : SMemory := (DmaWrite ((DrawFunctions code).2.2) (NewMemory 16) z2 (cAt code 1) [115, 111, 109, 101, 32, 98, 121, 116, 101, 115, 32, 116, 104, 97, 116, 32, 97, 114, 101, 32, 119, 114, 105, 116, 116, 101, 110, 32, 98, 121, 32, 97, 32, 102, 117, 110, 99, 116, 105, 111, 110]).1
  bif big code then k_ true
  else bif andt (andt true (cAt_ok code 0)) (!((len ((DrawFunctions code).1)) == 0)) then
      bif andt (andt (andt (andt true (idx z0 ((DrawFunctions code).1))) (inl z1 ((DrawFunctions code).1))) (cAt_ok code 1)) (DmaWrite_ok ((DrawFunctions code).2.2) (NewMemory 16) z2 (cAt code 1) [115, 111, 109, 101, 32, 98, 121, 116, 101, 115, 32, 116, 104, 97, 116, 32, 97, 114, 101, 32, 119, 114, 105, 116, 116, 101, 110, 32, 98, 121, 32, 97, 32, 102, 117, 110, 99, 116, 105, 111, 110]) then
        bif andt true (cpOk (NewMemory 16) z3) then
          l0 z0 ((DrawFunctions code).1) ((DrawFunctions code).2.1) ((DrawFunctions code).2.2) (ChangedPages (NewMemory 16) z3) z3.Pages 0
        else bad
      else bad
    else bad
def laws_FnFunctionsApart_f {α : Type} (bad : α) (k_ : Bool → α) (N : Nat) (code : Rows) : α := laws_FnFunctionsApart_t bad k_ (fun k list_ ports maps changed n_0 => laws_FnFunctionsApart_L0 bad k_ N k list_ ports maps changed n_0 N) code
theorem laws_FnFunctionsApart_c {α : Type} (bad : α) (k_ : Bool → α) (code : Rows) (h_code : WtC (.sl [.int .u8]) (.sl code)) (hok : fitL ((.sl [.int .u8]) :: ([])) (.sl code :: ([])) = true) : ∃ N, laws_FnFunctionsApart_f bad k_ N code = k_ true := by
  obtain ⟨hl, _⟩ := wt_sl h_code
  obtain ⟨F1, F2, F3, F4, F5, F6⟩ := DrawFunctions_facts (code := code)
  have hcr := cAt_range h_code 0
  obtain ⟨np, nl⟩ := new16_pgs
  refine ⟨20, ?_⟩
  unfold laws_FnFunctionsApart_f laws_FnFunctionsApart_t
  have c0 : cAt_ok code 0 = true := rfl
  have c1 : cAt_ok code 1 = true := rfl
  have n0 : (len (DrawFunctions code).1 == 0) = false := by simp only [len, beq_eq_false_iff_ne, ne_eq]; omega
  cases big code
  case true => rfl
  have hk := tmod_rng (x := cAt code 0) (m := len (DrawFunctions code).1) hcr.1 (by simp only [len]; omega)
  generalize Int.tmod (cAt code 0) (len (DrawFunctions code).1) = k at hk
  obtain ⟨K, rfl⟩ := Int.eq_ofNat_of_zero_le hk.1
  have hKL : K < (DrawFunctions code).1.length := by
    have := hk.2
    simp only [len] at this
    omega
  have hKf := FR_c (F3 K hKL)
  have hok : ∀ a b c d, DmaWrite_ok a (NewMemory 16) b c d = true := fun a b c d => by
    unfold DmaWrite_ok sm
    exact decide_eq_true (by omega)
  simp only [c0, c1, n0, hok, idx_nat hKL, inl_nat hKL, Int.toNat_natCast, hKf.1, F5, Bool.not_false, andt_true_l, andt_true_r, cond_true, cond_false]
  have hch := fun r => changed_in (n := (DrawFunctions code).1.length) (K := K) (at_ := cAt code 1) (s := [115, 111, 109, 101, 32, 98, 121, 116, 101, 115, 32, 116, 104, 97, 116, 32, 97, 114, 101, 32, 119, 114, 105, 116, 116, 101, 110, 32, 98, 121, 32, 97, 32, 102, 117, 110, 99, 116, 105, 111, 110]) (r := r)
  have hwl : (DmaWrite (mpl (DrawFunctions code).1.length) (NewMemory 16) (K : Int) (cAt code 1) [115, 111, 109, 101, 32, 98, 121, 116, 101, 115, 32, 116, 104, 97, 116, 32, 97, 114, 101, 32, 119, 114, 105, 116, 116, 101, 110, 32, 98, 121, 32, 97, 32, 102, 117, 110, 99, 116, 105, 111, 110]).1.Pages.length = 16 := (put_facts np (by omega)).1.trans nl
  have hcl : (ChangedPages (NewMemory 16) (DmaWrite (mpl (DrawFunctions code).1.length) (NewMemory 16) (K : Int) (cAt code 1) [115, 111, 109, 101, 32, 98, 121, 116, 101, 115, 32, 116, 104, 97, 116, 32, 97, 114, 101, 32, 119, 114, 105, 116, 116, 101, 110, 32, 98, 121, 32, 97, 32, 102, 117, 110, 99, 116, 105, 111, 110]).1).length ≤ 16 := by
    have := cp_len (NewMemory 16).Pages (DmaWrite (mpl (DrawFunctions code).1.length) (NewMemory 16) (K : Int) (cAt code 1) [115, 111, 109, 101, 32, 98, 121, 116, 101, 115, 32, 116, 104, 97, 116, 32, 97, 114, 101, 32, 119, 114, 105, 116, 116, 101, 110, 32, 98, 121, 32, 97, 32, 102, 117, 110, 99, 116, 105, 111, 110]).1.Pages (DmaWrite (mpl (DrawFunctions code).1.length) (NewMemory 16) (K : Int) (cAt code 1) [115, 111, 109, 101, 32, 98, 121, 116, 101, 115, 32, 116, 104, 97, 116, 32, 97, 114, 101, 32, 119, 114, 105, 116, 116, 101, 110, 32, 98, 121, 32, 97, 32, 102, 117, 110, 99, 116, 105, 111, 110]).1.Pages.length 0 []
    rw [hwl] at this
    unfold ChangedPages
    rw [hwl]
    simpa using this
  generalize (DmaWrite (mpl (DrawFunctions code).1.length) (NewMemory 16) (K : Int) (cAt code 1) [115, 111, 109, 101, 32, 98, 121, 116, 101, 115, 32, 116, 104, 97, 116, 32, 97, 114, 101, 32, 119, 114, 105, 116, 116, 101, 110, 32, 98, 121, 32, 97, 32, 102, 117, 110, 99, 116, 105, 111, 110]).1 = W at hch hwl hcl ⊢
  generalize ChangedPages (NewMemory 16) W = C at hch hcl ⊢
  have hcol := fr_col F3
  generalize (DrawFunctions code).2.1 = ports at F4 F6 ⊢
  generalize (DrawFunctions code).1 = L at F1 F2 F3 F4 F6 hk hKL hKf hcol hch ⊢
  have hmaps : ∀ a b c, GrantPages_ok L (mpl L.length) a b [[.int c]] = true := fun a b c => by
    unfold GrantPages_ok sm
    rw [Bool.and_eq_true]
    exact ⟨decide_eq_true (by rw [mpl_len]; omega), rfl⟩
  have inner : ∀ (ih : Int → α) (i : Nat), i < L.length → laws_FnFunctionsApart_L1 bad k_ 20 ih (K : Int) (i : Int) C (WritablePages (mpl L.length) (i : Int)) 20 0 = ih ((i : Int) + 1) := by
    intro ih i hi
    refine (loop_rowsN C (laws_FnFunctionsApart_L1 bad k_ 20 ih (K : Int) (i : Int) C (WritablePages (mpl L.length) (i : Int))) (fun _ _ c => c) (ih ((i : Int) + 1)) ?_ ?_ 20 (by omega)).trans (go_skip _ C 0)
    · intro n j hj
      rw [laws_FnFunctionsApart_L1_s]
      have hno : (bif (i : Int) != (K : Int) then hasInt (WritablePages (mpl L.length) (i : Int)) (rI (nth C j) 0) else false) = false := by
        by_cases hiK : i = K
        · subst hiK; simp
        · rw [show ((i : Int) != (K : Int)) = true by simp only [bne_iff_ne, ne_eq]; omega, cond_true, wp_all hi F2]
          cases hh : hasInt [[.int (2 * (i : Int))], [.int (2 * (i : Int) + 1)]] (rI (nth C j) 0)
          · rfl
          · obtain ⟨t, t1, t2⟩ := hasInt_iff.1 hh
            have hc := hch _ (nth_mem hj)
            simp only [List.length_cons, List.length_nil] at t1
            have t3 : rI (nth C j) 0 = 2 * (i : Int) ∨ rI (nth C j) 0 = 2 * (i : Int) + 1 := by
              match t, t1, t2 with
              | 0, _, t2 => exact .inl t2.symm
              | 1, _, t2 => exact .inr t2.symm
            omega
      simp only [laws_FnFunctionsApart_l1, lt_len hj, idx_nat hj, inl_nat hj, Int.toNat_natCast, hno, w64_succ hj (show C.length ≤ 9223372036854775807 by omega), andt_true_l, andt_true_r, okm_tt, cond_true, cond_false]
    · intro n
      rw [laws_FnFunctionsApart_L1_s]
      simp only [laws_FnFunctionsApart_l1, not_lt_len, cond_false, w64_in (show -9223372036854775808 ≤ (i : Int) + 1 by omega) (show (i : Int) + 1 ≤ 9223372036854775807 by omega)]
  have hcp : cpOk (NewMemory 16) W = true := by
    unfold cpOk sm
    exact decide_eq_true (by omega)
  rw [hcp, cond_true]
  refine (loop_rowsN L (laws_FnFunctionsApart_L0 bad k_ 20 (K : Int) L ports (mpl L.length) C W.Pages) (fun _ _ c => c) (k_ true) ?_ ?_ 20 (by omega)).trans (go_skip _ L 0)
  · intro n i hi
    rw [laws_FnFunctionsApart_L0_s]
    simp only [laws_FnFunctionsApart_l0, lt_len hi, idx_nat hi, inl_nat hi, Int.toNat_natCast, (FR_c (F3 i hi)).1, andt_true_l, andt_true_r, cond_true, inner _ i hi]
  · intro n
    rw [laws_FnFunctionsApart_L0_s]
    have e1 : FunctionsApart L (mpl L.length) = true := by
      rw [← fa_all F1 F2]
      unfold FunctionsApart
      simp only [hcol, dl_len]
    have e2 : (len W.Pages == 16) = true := by simp only [len, hwl]; rfl
    have e3 : (GrantPages L (mpl L.length) (K : Int) 40 [[.int (w64 (2 * (Int.tmod (w64 ((K : Int) + 1)) (len L))))]]).2 = (len L == 1) := by
      rw [Grant_congr (l' := dl L.length) (by rw [dl_len]) hcol]
      exact ga_all hKL F2
    have n1 : (len L == 0) = false := by simp only [len, beq_eq_false_iff_ne, ne_eq]; omega
    simp only [laws_FnFunctionsApart_l0, not_lt_len, n1, hmaps, F4, e1, e2, e3, Bool.not_false, andt_true_l, andt_true_r, cond_true, cond_false, beq_self_eq_true]

end
end Go.Proofs.Ytfnkhejoihnlnaa.Pl
