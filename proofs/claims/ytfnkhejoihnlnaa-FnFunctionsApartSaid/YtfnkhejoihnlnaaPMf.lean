/- What functions of the program compute, in plain Lean, as the value machine runs them. Conditions: none. -/
import Derived.Test.YtfnkhejoihnlnaaPMe
import Derived.Test.YtfnkhejoihnlnaaPGr
set_option linter.unusedVariables false
set_option linter.unusedSimpArgs false
set_option maxRecDepth 100000
namespace Go.Proofs.Ytfnkhejoihnlnaa.Pl
open Vm
noncomputable section



theorem RunsOk.len {Q : Nat → Prop} : ∀ {l : Rows} {n : Nat}, RunsOk Q l n → l.length ≤ n
  | [], _, _ => Nat.zero_le _
  | r :: rs, n, ⟨p, k, _, h1, h2, _, _, h3⟩ => by
    have := h3.len
    simp only [List.length_cons]
    omega
theorem RunsOk.imp {Q Q' : Nat → Prop} (h : ∀ i, Q i → Q' i) : ∀ {l : Rows} {n : Nat}, RunsOk Q l n → RunsOk Q' l n
  | [], _, h0 => h0
  | r :: rs, n, ⟨p, k, e, h1, h2, h3, h4, h5⟩ => ⟨p, k, e, h1, h2, h3, h _ h4, h5.imp h⟩
theorem place_cases {list_ : Rows} (hM : MappingsOk list_ = true) {domain a : Int} {write : Bool} (ha : 0 ≤ a) : place list_ domain a write < 0 ∨ ∃ i : Nat, i < list_.length ∧ rI (nth list_ i) 0 = domain ∧ 0 ≤ rI (nth list_ i) 2 ∧ rI (nth list_ i) 2 ≤ 63 ∧
    place list_ domain a write = rI (nth list_ i) 2 * 128 + Int.tmod a 128 := by
  unfold place
  rw [decide_eq_false (show ¬ a < 0 by omega), cond_false]
  rcases plIx_cases list_ domain a with h | ⟨i, h1, h2, h3⟩
  · rw [decide_eq_true h]
    exact .inl (show (-1 : Int) < 0 by decide)
  · rw [h2, Int.toNat_natCast]
    cases (bif decide ((i : Int) < 0) then true else bif write then !(rB (nth list_ i) 3) else false)
    · have hb := (MappingsOk_mem hM).2 (nth list_ i) (nth_mem h1)
      have hp : between (rI (nth list_ i) 2) 0 63 = true := by
        unfold mapBad at hb
        cases h4 : between (rI (nth list_ i) 2) 0 63
        · rw [h4] at hb
          revert hb
          cases between (rI (nth list_ i) 0) 0 7 <;> cases between (rI (nth list_ i) 1) 0 1023 <;> simp
        · rfl
      have hp := between_iff.1 hp
      have r := tmod_rng (x := a) (m := 128) ha (by omega)
      refine .inr ⟨i, h1, h3, hp.1, hp.2, ?_⟩
      rw [cond_false, w64_in (n := rI (nth list_ i) 2 * 128) (by omega) (by omega), w64_in (by omega) (by omega)]
    · exact .inl (show (-1 : Int) < 0 by decide)
theorem rnGo_runs {list_ pages : Rows} (hM : MappingsOk list_ = true) {domain : Int} {write : Bool} : ∀ (q : Nat) (a n : Int) (o : Rows), n < q → 0 ≤ n → n ≤ 4096 → (0 < n → 0 ≤ a) → (rnGo list_ domain write pages q a n o).2 = true →
    ∃ rs, (rnGo list_ domain write pages q a n o).1 = o ++ rs ∧ RunsOk (fun p => ∃ i : Nat, i < list_.length ∧ rI (nth list_ i) 0 = domain ∧ rI (nth list_ i) 2 = (p : Int)) rs n.toNat
  | 0, a, n, o, h1, h2, _, _, _ => by omega
  | q + 1, a, n, o, h1, h2, h3, h4, h5 => by
    unfold rnGo at h5 ⊢
    by_cases hn : 0 < n
    · rw [decide_eq_true hn, cond_true] at h5 ⊢
      have ha := h4 hn
      obtain ⟨r1, r2, r3, r4⟩ := part_rng ha hn h3
      cases hc : (bif decide (place list_ domain a write < 0) then true else !(within (⟨pages⟩ : SMemory) (place list_ domain a write) (minI n (w64 (128 - Int.tmod a 128)))))
      · rw [hc, cond_false] at h5
        rw [cond_false]
        cases hov : (bif decide (w64 (a + minI n (w64 (128 - Int.tmod a 128))) < 0) then decide (0 < w64 (n - minI n (w64 (128 - Int.tmod a 128)))) else false)
        · rw [hov, cond_false] at h5
          rw [cond_false]
          rw [r4] at h5 hov ⊢
          obtain ⟨rs, e1, e2⟩ := rnGo_runs hM q _ _ _ (by omega) (by omega) (by omega) (fun hp => by
            rw [decide_eq_true hp] at hov
            have hov : decide (w64 (a + minI n (w64 (128 - Int.tmod a 128))) < 0) = false := by
              cases hd : decide (w64 (a + minI n (w64 (128 - Int.tmod a 128))) < 0)
              · rfl
              · rw [hd] at hov; cases hov
            have := of_decide_eq_false hov
            omega) h5
          refine ⟨[.int (place list_ domain a write), .int (minI n (w64 (128 - Int.tmod a 128)))] :: rs, by rw [e1, List.append_assoc]; rfl, ?_⟩
          rcases place_cases hM (domain := domain) (write := write) ha with hneg | ⟨i, i1, i2, i3, i4, i5⟩
          · rw [decide_eq_true hneg] at hc
            cases hc
          · have r := tmod_rng (x := a) (m := 128) ha (by omega)
            have hdiv : (place list_ domain a write).toNat / 128 = (rI (nth list_ i) 2).toNat ∧ (place list_ domain a write).toNat % 128 = (Int.tmod a 128).toNat := by
              rw [i5]
              omega
            refine ⟨(place list_ domain a write).toNat, (minI n (w64 (128 - Int.tmod a 128))).toNat, ?_, by omega, by omega, by rw [hdiv.2]; omega, ⟨i, i1, i2, by rw [hdiv.1]; omega⟩, ?_⟩
            · rw [Int.toNat_of_nonneg (by rw [i5]; omega), Int.toNat_of_nonneg (by omega)]
            · have : (n - minI n (w64 (128 - Int.tmod a 128))).toNat = n.toNat - (minI n (w64 (128 - Int.tmod a 128))).toNat := by omega
              rw [← this]
              exact e2
        · rw [hov] at h5
          cases h5
      · rw [hc] at h5
        cases h5
    · rw [decide_eq_false hn, cond_false] at h5 ⊢
      refine ⟨[], by simp, ?_⟩
      show n.toNat = 0
      omega
theorem runsOf_q {list_ : Rows} {m : SMemory} {domain at_ n : Int} {write : Bool} (hw : WtC (.sl [.str]) (.sl m.Pages)) (h : (runsOf list_ m domain at_ n write).2 = true) :
    pgs m.Pages ∧ m.Pages.length ≤ 64 ∧ RunsOk (fun p => ∃ i : Nat, i < list_.length ∧ rI (nth list_ i) 0 = domain ∧ rI (nth list_ i) 2 = (p : Int)) (runsOf list_ m domain at_ n write).1 n.toNat ∧ n ≤ 4096 := by
  unfold runsOf at h ⊢
  cases hM : MappingsOk list_
  · rw [hM] at h; cases h
  cases hm : MemoryOk m
  · rw [hM, hm] at h; cases h
  cases hb : between n 0 4096
  · rw [hM, hm, hb] at h; cases h
  have hb := between_iff.1 hb
  obtain ⟨p1, p2⟩ := pgs_of hw hm
  rw [hM, hm, show between n 0 4096 = true from between_iff.2 hb] at h
  simp only [Bool.not_true, cond_false] at h ⊢
  refine ⟨p1, p2, ?_, hb.2⟩
  by_cases h0 : n = 0
  · subst h0
    exact rfl
  · rw [show (n == 0) = false by simpa using h0, cond_false] at h ⊢
    by_cases ha : at_ < 0
    · rw [decide_eq_true ha] at h; cases h
    · rw [decide_eq_false ha, cond_false] at h ⊢
      obtain ⟨rs, e1, e2⟩ := rnGo_runs hM (n.toNat + 1) at_ n [] (by omega) hb.1 hb.2 (fun _ => by omega) h
      rw [e1]
      exact e2
theorem runsOf_runs {list_ : Rows} {m : SMemory} {domain at_ n : Int} {write : Bool} (hw : WtC (.sl [.str]) (.sl m.Pages)) (h : (runsOf list_ m domain at_ n write).2 = true) :
    pgs m.Pages ∧ m.Pages.length ≤ 64 ∧ RunsOk (fun _ => True) (runsOf list_ m domain at_ n write).1 n.toNat ∧ (runsOf list_ m domain at_ n write).1.length ≤ 5000 := by
  obtain ⟨a, b, c, d⟩ := runsOf_q hw h
  have := c.len
  exact ⟨a, b, c.imp (fun _ _ => trivial), by omega⟩
def ptGo : Rows → Bytes → Rows → Rows
  | [], _, l => l
  | r :: rs, s, l => ptGo rs (s.drop (Int.toNat (rI r 1))) (WriteMemory (⟨l⟩ : SMemory) (rI r 0) (s.take (Int.toNat (rI r 1)))).1.Pages

def impl_put_l0 {α : Type} (bad : α) (k_ : SMemory → Bool → α) (x : Int) (x_2 : Rows) (ih0 : Bytes → Int → Rows → α) (s_1 : Bytes) (x_1 : Int) (out_0 : Rows) : α :=
  let z0 : Bytes := subH s_1 (rI (nth x_2 (Int.toNat x_1)) 1)
  bif decide (x_1 < x) then
    bif andt (andt true (idx x_1 x_2)) (inl (Int.toNat x_1) x_2) then
      bif andt (andt true (okH s_1 (rI (nth x_2 (Int.toNat x_1)) 1))) (WriteMemory_ok (⟨out_0⟩ : SMemory) (rI (nth x_2 (Int.toNat x_1)) 0) z0) then
        bif andt true (okL s_1 (rI (nth x_2 (Int.toNat x_1)) 1)) then
          ih0 (subL s_1 (rI (nth x_2 (Int.toNat x_1)) 1)) (w64 (x_1 + 1)) (((WriteMemory (⟨out_0⟩ : SMemory) (rI (nth x_2 (Int.toNat x_1)) 0) z0).1).Pages)
        else bad
      else bad
    else bad
  else k_ (⟨out_0⟩ : SMemory) true
def impl_put_L0 {α : Type} (bad : α) (k_ : SMemory → Bool → α) (N : Nat) (x : Int) (x_2 : Rows) (m_ : Nat) : Bytes → Int → Rows → α :=
  Nat.rec (motive := fun _ => Bytes → Int → Rows → α) (fun _ _ _ => bad) (fun _ ih0 => impl_put_l0 bad k_ x x_2 ih0) m_
theorem impl_put_L0_z {α : Type} (bad : α) (k_ : SMemory → Bool → α) (N : Nat) (x : Int) (x_2 : Rows) (s_1 : Bytes) (x_1 : Int) (out_0 : Rows) : impl_put_L0 bad k_ N x x_2 0 s_1 x_1 out_0 = bad := rfl
theorem impl_put_L0_s {α : Type} (bad : α) (k_ : SMemory → Bool → α) (N : Nat) (x : Int) (x_2 : Rows) (m_ : Nat) (s_1 : Bytes) (x_1 : Int) (out_0 : Rows) : impl_put_L0 bad k_ N x x_2 (m_ + 1) s_1 x_1 out_0 = impl_put_l0 bad k_ x x_2 (impl_put_L0 bad k_ N x x_2 m_) s_1 x_1 out_0 := rfl
def impl_put_t {α : Type} (bad : α) (k_ : SMemory → Bool → α) (l0 : Int → Rows → Bytes → Int → Rows → α) (list_ : Rows) (m : SMemory) (domain : Int) (at_ : Int) (s : Bytes) (write : Bool) : α :=
  let z0 : Rows × Bool := runsOf list_ m domain at_ (len s) write
  bif andt true (memSm m) then
    bif !z0.2 then k_ (idf m) false
    else l0 (len z0.1) z0.1 s 0 ((idf m).Pages)
  else bad
def impl_put_f {α : Type} (bad : α) (k_ : SMemory → Bool → α) (N : Nat) (list_ : Rows) (m : SMemory) (domain : Int) (at_ : Int) (s : Bytes) (write : Bool) : α := impl_put_t bad k_ (fun x x_2 => impl_put_L0 bad k_ N x x_2 N) list_ m domain at_ s write
def put_ok (list_ : Rows) (m : SMemory) (domain : Int) (at_ : Int) (s : Bytes) (write : Bool) : Bool := sm m.Pages
def put (list_ : Rows) (m : SMemory) (domain : Int) (at_ : Int) (s : Bytes) (write : Bool) : SMemory × Bool :=
  bif !(runsOf list_ m domain at_ (len s) write).2 then (m, false) else (⟨ptGo (runsOf list_ m domain at_ (len s) write).1 s m.Pages⟩, true)
theorem impl_put_c {α : Type} (bad : α) (k_ : SMemory → Bool → α) (list_ : Rows) (m : SMemory) (domain : Int) (at_ : Int) (s : Bytes) (write : Bool) (h_list_ : WtC (.sl [.int .i64, .int .i64, .int .i64, .bool]) (.sl list_)) (h_m : WtL SMemory.ct m.enc) (h_domain : WtC (.int .i64) (.int domain)) (h_at_ : WtC (.int .i64) (.int at_)) (h_s : WtC .str (.str s)) (h_write : WtC .bool (.bool write)) (hok : put_ok list_ m domain at_ s write = true) : ∃ N, impl_put_f bad k_ N list_ m domain at_ s write = k_ (put list_ m domain at_ s write).1 (put list_ m domain at_ s write).2 := by
  have hp0 : WtC (.sl [.str]) (.sl m.Pages) := SMemory.wt_Pages h_m
  have hsm : memSm m = true := hok
  have hls := wt_str h_s
  refine ⟨(runsOf list_ m domain at_ (len s) write).1.length + 1, ?_⟩
  unfold impl_put_f impl_put_t put
  rw [show idf m = m from rfl]
  simp only [hsm, andt_true_l, cond_true]
  cases hr : (runsOf list_ m domain at_ (len s) write).2
  · rfl
  · obtain ⟨g1, g2, g3⟩ := runsOf_runs hp0 hr
    simp only [Bool.not_true, cond_false]
    generalize (runsOf list_ m domain at_ (len s) write).1 = R at g3 ⊢
    have key : ∀ (q n i : Nat) (s : Bytes) (l : Rows), i + q = R.length → q < n → RunsOk (fun _ => True) (R.drop i) s.length → pgs l → l.length ≤ 64 → R.length ≤ 5000 →
        impl_put_L0 bad k_ (R.length + 1) (len R) R n s (i : Int) l = k_ (⟨ptGo (R.drop i) s l⟩ : SMemory) true := by
      intro q
      induction q with
      | zero =>
        intro n i s l h1 h2 h3 h4 h5 h6
        obtain ⟨n, rfl⟩ : ∃ q, n = q + 1 := ⟨n - 1, by omega⟩
        rw [impl_put_L0_s, List.drop_eq_nil_of_le (by omega)]
        have hf : decide ((i : Int) < len R) = false := decide_eq_false (by simp only [len]; omega)
        simp only [impl_put_l0, hf, cond_false, ptGo]
      | succ q ih =>
        intro n i s l h1 h2 h3 h4 h5 h6
        obtain ⟨n, rfl⟩ : ∃ q, n = q + 1 := ⟨n - 1, by omega⟩
        have hi : i < R.length := by omega
        have e0 : R[i] = nth R i := by simp [nth, hi]
        rw [List.drop_eq_getElem_cons hi, e0] at h3 ⊢
        obtain ⟨p, k, e1, k1, k2, k3, _, k4⟩ := h3
        rw [impl_put_L0_s]
        have w1 : w64 ((i : Int) + 1) = ((i + 1 : Nat) : Int) := by rw [w64_in (by omega) (by omega)]; omega
        have x1 : okH s (k : Int) = true := by simp only [okH, Bool.and_eq_true, decide_eq_true_eq]; omega
        have x2 : okL s (k : Int) = true := by simp only [okL, Bool.and_eq_true, decide_eq_true_eq]; omega
        have x3 : subH s (k : Int) = s.take k := by simp [subH]
        have x4 : subL s (k : Int) = s.drop k := by simp [subL]
        have x5 : ∀ a b, WriteMemory_ok (⟨l⟩ : SMemory) a b = true := fun a b => by
          unfold WriteMemory_ok sm
          exact decide_eq_true (by show l.length ≤ 16777216; omega)
        have r1 : rI [DC.int (p : Int), DC.int (k : Int)] 0 = (p : Int) := rfl
        have r2 : rI [DC.int (p : Int), DC.int (k : Int)] 1 = (k : Int) := rfl
        have wp := WriteMemory_pgs (a := (p : Int)) (s := s.take k) h4 h5
        have this := ih n (i + 1) (s.drop k) (WriteMemory (⟨l⟩ : SMemory) (p : Int) (s.take k)).1.Pages (by omega) (by omega) (by rw [List.length_drop]; exact k4) wp.1 (by rw [wp.2]; exact h5) h6
        simp only [impl_put_l0, lt_len hi, idx_nat hi, inl_nat hi, Int.toNat_natCast, e1, r1, r2, x1, x2, x3, x4, x5, w1, andt_true_l, andt_true_r, cond_true, ptGo]
        exact this
    exact key R.length (R.length + 1) 0 s m.Pages (by omega) (by omega) (by have h := g3.1; rw [show (len s).toNat = s.length by simp [len]] at h; exact h) g1 g2 g3.2

def impl_DmaWrite_t {α : Type} (bad : α) (k_ : SMemory → Bool → α) (list_ : Rows) (m : SMemory) (domain : Int) (at_ : Int) (s : Bytes) : α :=
  let z0 : SMemory × Bool := put list_ m domain at_ s true
  bif andt true (put_ok list_ m domain at_ s true) then
    k_ z0.1 z0.2
  else bad
def DmaWrite_ok (list_ : Rows) (m : SMemory) (domain : Int) (at_ : Int) (s : Bytes) : Bool := sm m.Pages
def DmaWrite (list_ : Rows) (m : SMemory) (domain : Int) (at_ : Int) (s : Bytes) : SMemory × Bool := put list_ m domain at_ s true
theorem impl_DmaWrite_c {α : Type} (bad : α) (k_ : SMemory → Bool → α) (list_ : Rows) (m : SMemory) (domain : Int) (at_ : Int) (s : Bytes) (h_list_ : WtC (.sl [.int .i64, .int .i64, .int .i64, .bool]) (.sl list_)) (h_m : WtL SMemory.ct m.enc) (h_domain : WtC (.int .i64) (.int domain)) (h_at_ : WtC (.int .i64) (.int at_)) (h_s : WtC .str (.str s)) (hok : DmaWrite_ok list_ m domain at_ s = true) : impl_DmaWrite_t bad k_ list_ m domain at_ s = k_ (DmaWrite list_ m domain at_ s).1 (DmaWrite list_ m domain at_ s).2 := by
  have h : put_ok list_ m domain at_ s true = true := hok
  unfold impl_DmaWrite_t DmaWrite
  simp only [h, andt_true_l, cond_true]

def impl_ChangedPages_l0 {α : Type} (bad : α) (k_ : Rows → α) (x : Rows) (x_1 : Int) (a_1 : Rows) (ih0 : Int → Rows → α) (x_2 : Int) (out_ : Rows) : α :=
  bif decide (x_2 < x_1) then
    bif andt true (idx x_2 x) then
      bif okm (decide (len a_1 ≤ x_2)) true (andt true (idx x_2 a_1)) then
        bif bif decide (len a_1 ≤ x_2) then true else !((rS (nth a_1 (Int.toNat x_2)) 0) == (rS (nth x (Int.toNat x_2)) 0)) then
          bif andt true (room2 8 out_ ([[.int x_2]])) then
            ih0 (w64 (x_2 + 1)) (out_ ++ ([[.int x_2]]))
          else bad
        else ih0 (w64 (x_2 + 1)) out_
      else bad
    else bad
  else k_ out_
def impl_ChangedPages_L0 {α : Type} (bad : α) (k_ : Rows → α) (N : Nat) (x : Rows) (x_1 : Int) (a_1 : Rows) (m_ : Nat) : Int → Rows → α :=
  Nat.rec (motive := fun _ => Int → Rows → α) (fun _ _ => bad) (fun _ ih0 => impl_ChangedPages_l0 bad k_ x x_1 a_1 ih0) m_
theorem impl_ChangedPages_L0_z {α : Type} (bad : α) (k_ : Rows → α) (N : Nat) (x : Rows) (x_1 : Int) (a_1 : Rows) (x_2 : Int) (out_ : Rows) : impl_ChangedPages_L0 bad k_ N x x_1 a_1 0 x_2 out_ = bad := rfl
theorem impl_ChangedPages_L0_s {α : Type} (bad : α) (k_ : Rows → α) (N : Nat) (x : Rows) (x_1 : Int) (a_1 : Rows) (m_ : Nat) (x_2 : Int) (out_ : Rows) : impl_ChangedPages_L0 bad k_ N x x_1 a_1 (m_ + 1) x_2 out_ = impl_ChangedPages_l0 bad k_ x x_1 a_1 (impl_ChangedPages_L0 bad k_ N x x_1 a_1 m_) x_2 out_ := rfl
def impl_ChangedPages_t {α : Type} (bad : α) (k_ : Rows → α) (l0 : Rows → Int → Rows → Int → Rows → α) (a : SMemory) (b : SMemory) : α :=
  l0 b.Pages (len b.Pages) a.Pages 0 []
def impl_ChangedPages_f {α : Type} (bad : α) (k_ : Rows → α) (N : Nat) (a : SMemory) (b : SMemory) : α := impl_ChangedPages_t bad k_ (fun x x_1 a_1 => impl_ChangedPages_L0 bad k_ N x x_1 a_1 N) a b
def cpF (a b : Rows) (i : Nat) (o : Rows) : Rows := bif bif decide (len a ≤ (i : Int)) then true else !((rS (nth a i) 0) == (rS (nth b i) 0)) then o ++ [[.int (i : Int)]] else o
def cpOk (a b : SMemory) : Bool := sm b.Pages
def ChangedPages (a b : SMemory) : Rows := itN (cpF a.Pages b.Pages) b.Pages.length 0 []
theorem impl_ChangedPages_c {α : Type} (bad : α) (k_ : Rows → α) (a : SMemory) (b : SMemory) (h_a : WtL SMemory.ct a.enc) (h_b : WtL SMemory.ct b.enc) (hok : cpOk a b = true) : ∃ N, impl_ChangedPages_f bad k_ N a b = k_ (ChangedPages a b) := by
  obtain ⟨hl, _⟩ := wt_sl (SMemory.wt_Pages h_b)
  have hsm : b.Pages.length ≤ 16777216 := sm_le hok
  refine ⟨b.Pages.length + 1, ?_⟩
  unfold impl_ChangedPages_f impl_ChangedPages_t ChangedPages
  refine loop_inv b.Pages.length (fun n i o => impl_ChangedPages_L0 bad k_ (b.Pages.length + 1) b.Pages (len b.Pages) a.Pages n i o) (cpF a.Pages b.Pages) k_ (fun i o => o.length ≤ i) ?_ ?_ ?_ (b.Pages.length + 1) [] (by simp) (by omega)
  · intro i o hi ho
    unfold cpF
    cases (bif decide (len a.Pages ≤ (i : Int)) then true else !((rS (nth a.Pages i) 0) == (rS (nth b.Pages i) 0)))
    · simp only [cond_false]; omega
    · simp only [cond_true, List.length_append, List.length_cons, List.length_nil]; omega
  · intro n i o hi ho
    show impl_ChangedPages_L0 bad k_ (b.Pages.length + 1) b.Pages (len b.Pages) a.Pages (n + 1) (i : Int) o = _
    rw [impl_ChangedPages_L0_s]
    have hr : ∀ x : List DC, room2 8 o [x] = true := fun x => room2_le (by simp only [List.length_cons, List.length_nil]; omega) (by omega)
    have hok2 : okm (decide (len a.Pages ≤ (i : Int))) true (idx (i : Int) a.Pages) = true := okm_t (fun _ => rfl) (fun h => by
      have := of_decide_eq_false h
      simp only [len] at this
      exact idx_nat (by omega))
    simp only [impl_ChangedPages_l0, lt_len hi, idx_nat hi, w64_succ hi hl, Int.toNat_natCast, hok2, hr, andt_true_l, andt_true_r, cond_true, cpF]
    exact cond_k (K := fun o => impl_ChangedPages_L0 bad k_ (b.Pages.length + 1) b.Pages (len b.Pages) a.Pages n ((i : Int) + 1) o) rfl rfl
  · intro n o ho
    show impl_ChangedPages_L0 bad k_ (b.Pages.length + 1) b.Pages (len b.Pages) a.Pages (n + 1) (b.Pages.length : Int) o = _
    rw [impl_ChangedPages_L0_s]
    simp only [impl_ChangedPages_l0, not_lt_len, cond_false]

def spec_NewMemory_l0 {α : Type} (bad : α) (k_ : SMemory → α) (pages : Int) (ih0 : Int → Rows → α) (k : Int) (m_0 : Rows) : α :=
  bif bif decide (k < pages) then decide (pages ≤ 64) else false then
    bif andt (andt true (l01Long_ok 128 0)) (room2 16 m_0 ([[.str (l01Long 128 0)]])) then
      ih0 (w64 (k + 1)) (m_0 ++ ([[.str (l01Long 128 0)]]))
    else bad
  else k_ (⟨m_0⟩ : SMemory)
def spec_NewMemory_L0 {α : Type} (bad : α) (k_ : SMemory → α) (N : Nat) (pages : Int) (m_ : Nat) : Int → Rows → α :=
  Nat.rec (motive := fun _ => Int → Rows → α) (fun _ _ => bad) (fun _ ih0 => spec_NewMemory_l0 bad k_ pages ih0) m_
theorem spec_NewMemory_L0_z {α : Type} (bad : α) (k_ : SMemory → α) (N : Nat) (pages : Int) (k : Int) (m_0 : Rows) : spec_NewMemory_L0 bad k_ N pages 0 k m_0 = bad := rfl
theorem spec_NewMemory_L0_s {α : Type} (bad : α) (k_ : SMemory → α) (N : Nat) (pages : Int) (m_ : Nat) (k : Int) (m_0 : Rows) : spec_NewMemory_L0 bad k_ N pages (m_ + 1) k m_0 = spec_NewMemory_l0 bad k_ pages (spec_NewMemory_L0 bad k_ N pages m_) k m_0 := rfl
def spec_NewMemory_t {α : Type} (bad : α) (k_ : SMemory → α) (l0 : Int → Rows → α) (pages : Int) : α :=
  l0 0 []
def spec_NewMemory_f {α : Type} (bad : α) (k_ : SMemory → α) (N : Nat) (pages : Int) : α := spec_NewMemory_t bad k_ (spec_NewMemory_L0 bad k_ N pages N) pages
def pg0 : List DC := [.str (l01Long 128 0)]
def NewMemory (pages : Int) : SMemory := ⟨bif decide (pages ≤ 64) then itN (fun _ o => o ++ [pg0]) pages.toNat 0 [] else []⟩
theorem spec_NewMemory_c {α : Type} (bad : α) (k_ : SMemory → α) (pages : Int) (h_pages : WtC (.int .i64) (.int pages)) : ∃ N, spec_NewMemory_f bad k_ N pages = k_ (NewMemory pages) := by
  refine ⟨66, ?_⟩
  unfold spec_NewMemory_f spec_NewMemory_t NewMemory
  by_cases h64 : pages ≤ 64
  · rw [decide_eq_true h64, cond_true]
    refine loop_inv pages.toNat (fun n i o => spec_NewMemory_L0 bad k_ 66 pages n i o) (fun _ o => o ++ [pg0]) (fun o => k_ (⟨o⟩ : SMemory)) (fun i o => o.length ≤ i) ?_ ?_ ?_ 66 [] (by simp) (by omega)
    · intro i o hi ho
      simp only [List.length_append, List.length_cons, List.length_nil]; omega
    · intro n i o hi ho
      show spec_NewMemory_L0 bad k_ 66 pages (n + 1) (i : Int) o = _
      rw [spec_NewMemory_L0_s]
      have hr : ∀ x : List DC, room2 16 o [x] = true := fun x => room2_le (by simp only [List.length_cons, List.length_nil]; omega) (by omega)
      have hl : l01Long_ok 128 0 = true := rfl
      simp only [spec_NewMemory_l0, decide_eq_true (show (i : Int) < pages by omega), decide_eq_true h64, hr, hl, andt_true_l, andt_true_r, cond_true, w64_in (show -9223372036854775808 ≤ (i : Int) + 1 by omega) (show (i : Int) + 1 ≤ 9223372036854775807 by omega)]
      rfl
    · intro n o ho
      show spec_NewMemory_L0 bad k_ 66 pages (n + 1) ((pages.toNat : Nat) : Int) o = _
      rw [spec_NewMemory_L0_s]
      simp only [spec_NewMemory_l0, decide_eq_false (show ¬ ((pages.toNat : Nat) : Int) < pages by omega), cond_false]
  · rw [decide_eq_false h64, cond_false]
    show spec_NewMemory_L0 bad k_ 66 pages 66 0 [] = _
    rw [spec_NewMemory_L0_s]
    have hc : (bif decide ((0 : Int) < pages) then decide (pages ≤ 64) else false) = false := by
      rw [decide_eq_false h64]
      cases decide ((0 : Int) < pages) <;> rfl
    simp only [spec_NewMemory_l0, hc, cond_false]

end
end Go.Proofs.Ytfnkhejoihnlnaa.Pl
