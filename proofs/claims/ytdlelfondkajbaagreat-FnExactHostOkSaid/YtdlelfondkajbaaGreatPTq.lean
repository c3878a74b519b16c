/- What functions of the program compute, in plain Lean, as the value machine runs them. Conditions: none. -/
import Derived.Test.YtdlelfondkajbaaGreatPRg
set_option linter.unusedVariables false
set_option linter.unusedSimpArgs false
set_option maxRecDepth 100000
namespace Go.Proofs.YtdlelfondkajbaaGreat.Pl
open Vm
noncomputable section


def impl_TxOk_l0 {α : Type} (bad : α) (k_ : Bool → α) (x : Rows) (x_1 : Int) (q_5 : Int) (q_6 : Int) (q_7 : Int) (q_8 : Rows) (ih0 : Int → Int → Rows → α) (left : Int) (x_2 : Int) (all : Rows) : α :=
  bif decide (x_2 < x_1) then
    bif andt true (idx x_2 x) then
      bif bif decide (rI (nth x (Int.toNat x_2)) 1 < 1) then true else bif decide (left < rI (nth x (Int.toNat x_2)) 1) then true else !(between (rI (nth x (Int.toNat x_2)) 0) 0 65535) then k_ false
      else bif andt true (room2 8 all (rR (nth x (Int.toNat x_2)) 2)) then
          ih0 (w64 (left - (rI (nth x (Int.toNat x_2)) 1))) (w64 (x_2 + 1)) (all ++ (rR (nth x (Int.toNat x_2)) 2))
        else bad
    else bad
  else bif andt true (givSm (⟨q_5, q_6, q_7, q_8⟩ : SPool) all) then
      k_ ((GiveBuffers (⟨q_5, q_6, q_7, q_8⟩ : SPool) all).2)
    else bad
def impl_TxOk_L0 {α : Type} (bad : α) (k_ : Bool → α) (N : Nat) (x : Rows) (x_1 : Int) (q_5 : Int) (q_6 : Int) (q_7 : Int) (q_8 : Rows) (m_ : Nat) : Int → Int → Rows → α :=
  Nat.rec (motive := fun _ => Int → Int → Rows → α) (fun _ _ _ => bad) (fun _ ih0 => impl_TxOk_l0 bad k_ x x_1 q_5 q_6 q_7 q_8 ih0) m_
theorem impl_TxOk_L0_z {α : Type} (bad : α) (k_ : Bool → α) (N : Nat) (x : Rows) (x_1 : Int) (q_5 : Int) (q_6 : Int) (q_7 : Int) (q_8 : Rows) (left : Int) (x_2 : Int) (all : Rows) : impl_TxOk_L0 bad k_ N x x_1 q_5 q_6 q_7 q_8 0 left x_2 all = bad := rfl
theorem impl_TxOk_L0_s {α : Type} (bad : α) (k_ : Bool → α) (N : Nat) (x : Rows) (x_1 : Int) (q_5 : Int) (q_6 : Int) (q_7 : Int) (q_8 : Rows) (m_ : Nat) (left : Int) (x_2 : Int) (all : Rows) : impl_TxOk_L0 bad k_ N x x_1 q_5 q_6 q_7 q_8 (m_ + 1) left x_2 all = impl_TxOk_l0 bad k_ x x_1 q_5 q_6 q_7 q_8 (impl_TxOk_L0 bad k_ N x x_1 q_5 q_6 q_7 q_8 m_) left x_2 all := rfl
def impl_TxOk_t {α : Type} (bad : α) (k_ : Bool → α) (l0 : Rows → Int → Int → Int → Int → Rows → Int → Int → Rows → α) (q : STxQueue) : α :=
  bif bif !(RingOk q.Ring) then true else bif !(PoolOk q.Pool) then true else !(between q.Next 0 65535) then k_ false
  else l0 q.Waiting (len q.Waiting) q.Pool.Base q.Pool.Size q.Pool.Count q.Pool.Free q.Ring.Size 0 []
def impl_TxOk_f {α : Type} (bad : α) (k_ : Bool → α) (N : Nat) (q : STxQueue) : α := impl_TxOk_t bad k_ (fun x x_1 q_5 q_6 q_7 q_8 => impl_TxOk_L0 bad k_ N x x_1 q_5 q_6 q_7 q_8 N) q
theorem RingOk_size {r : SRing} (h : RingOk r = true) : 2 ≤ r.Size ∧ r.Size ≤ 16 := by
  have hs : ringSize r.Size = true := by
    cases hs : ringSize r.Size
    · unfold RingOk impl_RingOk_t at h
      rw [hs] at h
      revert h
      cases between r.Base 0 130944 <;> simp
    · rfl
  rcases ringSize_cases hs with h | h | h | h <;> omega
def bufs : Rows → Nat
  | [] => 0
  | r :: rs => (rR r 2).length + bufs rs
def allBufs : Rows → Rows
  | [] => []
  | r :: rs => rR r 2 ++ allBufs rs
def sumSl : Rows → Int
  | [] => 0
  | r :: rs => rI r 1 + sumSl rs
def txSm (q : STxQueue) : Bool := sm q.Pool.Free && (sm q.Waiting && decide (bufs q.Waiting ≤ 16777216))
theorem txSm_of {q : STxQueue} (h : txSm q = true) : sm q.Pool.Free = true ∧ q.Waiting.length ≤ 16777216 ∧ bufs q.Waiting ≤ 16777216 := by
  simp only [txSm, Bool.and_eq_true, decide_eq_true_eq] at h
  exact ⟨h.1, sm_le h.2.1, h.2.2⟩
def sentOk (n : Int) (r : List DC) : Bool := bif between (rI r 1) 1 n then between (rI r 0) 0 65535 else false
def TxOk (q : STxQueue) : Bool := bif bif !(RingOk q.Ring) then true else bif !(PoolOk q.Pool) then true else !(between q.Next 0 65535) then false
  else bif q.Waiting.all (sentOk q.Ring.Size) then bif (GiveBuffers q.Pool (allBufs q.Waiting)).2 then decide (sumSl q.Waiting ≤ q.Ring.Size) else false else false
theorem drop_cons {l : Rows} {i : Nat} (h : i < l.length) : l.drop i = nth l i :: l.drop (i + 1) := by
  rw [List.drop_eq_getElem_cons h]
  simp [nth, List.getD_eq_getElem?_getD, h]
theorem bufs_drop {l : Rows} {i : Nat} (h : i < l.length) : bufs (l.drop i) = (rR (nth l i) 2).length + bufs (l.drop (i + 1)) := by
  rw [drop_cons h]
  rfl
theorem bufs_le : ∀ {l : Rows} (i : Nat), bufs (l.drop i) ≤ bufs l
  | [], i => by simp [bufs]
  | r :: rs, 0 => by simp
  | r :: rs, i + 1 => by
    have := bufs_le (l := rs) i
    simp only [List.drop_succ_cons, bufs]
    omega
def txP (n : Int) (r : List DC) (_ : Int × Rows) : Bool := !(sentOk n r)
def txF (r : List DC) (s : Int × Rows) : Int × Rows := (s.1 + rI r 1, s.2 ++ rR r 2)
def txQ (r : List DC) (s : Int × Rows) : Bool := bif decide (rI r 1 < 1) then true else bif decide (s.1 < rI r 1) then true else !(between (rI r 0) 0 65535)
def txG (r : List DC) (s : Int × Rows) : Int × Rows := (s.1 - rI r 1, s.2 ++ rR r 2)
theorem try_tx {α : Type} (n : Int) (x : α) (fin : Int × Rows → α) : ∀ (l : Rows) (s : Int × Rows), tryGo (txP n) txF x fin l s = bif l.all (sentOk n) then fin (s.1 + sumSl l, s.2 ++ allBufs l) else x
  | [], s => by simp [tryGo, sumSl, allBufs]
  | r :: rs, s => by
    simp only [tryGo, txP, List.all_cons]
    cases hs : sentOk n r
    · rfl
    · rw [try_tx n x fin rs]
      simp only [Bool.not_true, cond_false, Bool.true_and, txF, sumSl, allBufs, Int.add_assoc, List.append_assoc]
theorem sentOk_iff {n : Int} {r : List DC} : sentOk n r = true ↔ (1 ≤ rI r 1 ∧ rI r 1 ≤ n) ∧ between (rI r 0) 0 65535 = true := by
  unfold sentOk
  cases h : between (rI r 1) 1 n
  · constructor
    · intro h; cases h
    · intro h'
      have : between (rI r 1) 1 n = true := between_iff.2 h'.1
      rw [h] at this
      cases this
  · have := between_iff.1 h
    simp only [cond_true]
    exact ⟨fun h' => ⟨this, h'⟩, fun h' => h'.2⟩
theorem sumSl_nonneg {n : Int} : ∀ {l : Rows}, l.all (sentOk n) = true → 0 ≤ sumSl l
  | [], _ => by simp [sumSl]
  | r :: rs, h => by
    simp only [List.all_cons, Bool.and_eq_true] at h
    have := sumSl_nonneg h.2
    have := (sentOk_iff.1 h.1).1
    simp only [sumSl]
    omega
theorem try_tx' {α : Type} (n : Int) (x : α) (fin : Rows → α) : ∀ (l : Rows) (s : Int × Rows), s.1 ≤ n → 0 ≤ s.1 → tryGo txQ txG x (fun s => fin s.2) l s = bif l.all (sentOk n) then bif decide (sumSl l ≤ s.1) then fin (s.2 ++ allBufs l) else x else x
  | [], s, h1, h2 => by
    have : decide (sumSl [] ≤ s.1) = true := decide_eq_true h2
    simp only [tryGo, List.all_nil, cond_true, allBufs, List.append_nil, this]
  | r :: rs, s, h1, h2 => by
    simp only [tryGo, List.all_cons]
    by_cases a1 : rI r 1 < 1
    · have e : sentOk n r = false := by
        cases hs : sentOk n r
        · rfl
        · have := (sentOk_iff.1 hs).1; omega
      rw [e]
      simp only [txQ, decide_eq_true a1, cond_true, Bool.false_and, cond_false]
    · cases hb : between (rI r 0) 0 65535
      · have e : sentOk n r = false := by
          cases hs : sentOk n r
          · rfl
          · have := (sentOk_iff.1 hs).2; rw [hb] at this; cases this
        rw [e]
        have : txQ r s = true := by
          simp only [txQ, decide_eq_false a1, hb, cond_false, Bool.not_false]
          cases decide (s.1 < rI r 1) <;> rfl
        rw [this]
        rfl
      · by_cases a2 : s.1 < rI r 1
        · have : txQ r s = true := by simp only [txQ, decide_eq_false a1, decide_eq_true a2, cond_false, cond_true]
          rw [this, cond_true]
          cases hr : (sentOk n r && rs.all (sentOk n))
          · rfl
          · simp only [Bool.and_eq_true] at hr
            have := sumSl_nonneg hr.2
            rw [cond_true, decide_eq_false (by simp only [sumSl]; omega)]
            rfl
        · have : txQ r s = false := by simp only [txQ, decide_eq_false a1, decide_eq_false a2, hb, cond_false, Bool.not_true]
          have e : sentOk n r = true := sentOk_iff.2 ⟨⟨by omega, by omega⟩, hb⟩
          rw [this, cond_false, e, Bool.true_and]
          have ih := try_tx' n x fin rs (txG r s) (by simp only [txG]; omega) (by simp only [txG]; omega)
          rw [ih]
          have ed : decide (sumSl rs ≤ (txG r s).1) = decide (sumSl (r :: rs) ≤ s.1) := by
            have : sumSl rs ≤ (txG r s).1 ↔ sumSl (r :: rs) ≤ s.1 := by simp only [txG, sumSl]; omega
            exact decide_eq_decide.2 this
          rw [ed]
          simp only [txG, allBufs, List.append_assoc]
theorem impl_TxOk_c {α : Type} (bad : α) (k_ : Bool → α) (q : STxQueue) (h_q : WtL STxQueue.ct q.enc) (hok : txSm q = true) : ∃ N, impl_TxOk_f bad k_ N q = k_ (TxOk q) := by
  have hq : txSm q = true := hok
  obtain ⟨hf, hwn, hbn⟩ := txSm_of hq
  obtain ⟨hl, hw⟩ := wt_sl (STxQueue.wt_Waiting h_q)
  refine ⟨q.Waiting.length + 1, ?_⟩
  unfold impl_TxOk_f impl_TxOk_t TxOk
  refine cond_c (fun _ => rfl) (fun hg => ?_)
  have hn : 2 ≤ q.Ring.Size ∧ q.Ring.Size ≤ 16 := by
    cases h1 : RingOk q.Ring
    · rw [h1] at hg; cases hg
    exact RingOk_size h1
  have hgiv : ∀ all : Rows, all.length ≤ 16777216 → givSm q.Pool all = true := by
    intro all h
    have := sm_le hf
    simp only [givSm, hf, Bool.true_and, decide_eq_true_eq]
    omega

  have key : impl_TxOk_L0 bad k_ (q.Waiting.length + 1) q.Waiting (len q.Waiting) q.Pool.Base q.Pool.Size q.Pool.Count q.Pool.Free (q.Waiting.length + 1) q.Ring.Size 0 [] = tryGo txQ txG (k_ false) (fun s => k_ (GiveBuffers q.Pool s.2).2) q.Waiting (q.Ring.Size, []) := by
    refine loop_try q.Waiting (fun n i (s : Int × Rows) => impl_TxOk_L0 bad k_ (q.Waiting.length + 1) q.Waiting (len q.Waiting) q.Pool.Base q.Pool.Size q.Pool.Count q.Pool.Free n s.1 i s.2) txQ txG (k_ false) (fun s => k_ (GiveBuffers q.Pool s.2).2) (fun i s => 0 ≤ s.1 ∧ s.1 ≤ 16 ∧ s.2.length + bufs (q.Waiting.drop i) ≤ 16777216) ?_ ?_ ?_ (q.Ring.Size, []) ⟨by omega, by omega, by simpa using hbn⟩
    · intro i s h hi hp
      have hb := bufs_drop h
      obtain ⟨i1, i2, i3⟩ := hi
      have h1 : ¬ rI (nth q.Waiting i) 1 < 1 := by
        intro hc; simp only [txQ, decide_eq_true hc, cond_true] at hp; cases hp
      have h2 : ¬ s.1 < rI (nth q.Waiting i) 1 := by
        intro hc; simp only [txQ, decide_eq_false h1, decide_eq_true hc, cond_true, cond_false] at hp; cases hp
      refine ⟨by simp only [txG]; omega, by simp only [txG]; omega, ?_⟩
      simp only [txG, List.length_append]
      omega
    · intro n i s h hi
      obtain ⟨i1, i2, i3⟩ := hi
      have hb := bufs_drop h
      show impl_TxOk_L0 bad k_ (q.Waiting.length + 1) q.Waiting (len q.Waiting) q.Pool.Base q.Pool.Size q.Pool.Count q.Pool.Free (n + 1) s.1 (i : Int) s.2 = _
      rw [impl_TxOk_L0_s]
      have hr : room2 8 s.2 (rR (nth q.Waiting i) 2) = true := room2_le (by omega) (by omega)
      simp only [impl_TxOk_l0, lt_len h, idx_nat h, w64_succ h hl, Int.toNat_natCast, andt_true_l, andt_true_r, cond_true, hr]
      refine cond_congr rfl (fun _ => rfl) (fun hp => ?_)
      have h1 : ¬ rI (nth q.Waiting i) 1 < 1 := by
        intro hc; simp only [decide_eq_true hc, cond_true] at hp; cases hp
      have h2 : ¬ s.1 < rI (nth q.Waiting i) 1 := by
        intro hc; simp only [decide_eq_false h1, decide_eq_true hc, cond_true, cond_false] at hp; cases hp
      rw [w64_in (n := s.1 - rI (nth q.Waiting i) 1) (by omega) (by omega)]
      rfl
    · intro n s hi
      obtain ⟨i1, i2, i3⟩ := hi
      show impl_TxOk_L0 bad k_ (q.Waiting.length + 1) q.Waiting (len q.Waiting) q.Pool.Base q.Pool.Size q.Pool.Count q.Pool.Free (n + 1) s.1 (q.Waiting.length : Int) s.2 = _
      rw [impl_TxOk_L0_s]
      have hg : givSm (⟨q.Pool.Base, q.Pool.Size, q.Pool.Count, q.Pool.Free⟩ : SPool) s.2 = true := hgiv s.2 (by omega)
      simp only [impl_TxOk_l0, not_lt_len, cond_false, hg, andt_true_l, cond_true]
  refine key.trans ?_
  refine (try_tx' q.Ring.Size (k_ false) (fun all => k_ (GiveBuffers q.Pool all).2) q.Waiting (q.Ring.Size, []) (by simp) (by show 0 ≤ q.Ring.Size; omega)).trans ?_
  simp only [List.nil_append]
  cases q.Waiting.all (sentOk q.Ring.Size)
  · rfl
  · cases hd : decide (sumSl q.Waiting ≤ q.Ring.Size)
    · simp only [cond_true, cond_false]
      cases (GiveBuffers q.Pool (allBufs q.Waiting)).2 <;> rfl
    · simp only [cond_true]
      cases (GiveBuffers q.Pool (allBufs q.Waiting)).2 <;> rfl

def spec_TxOk_l0 {α : Type} (bad : α) (k_ : Bool → α) (q_2 : Int) (q_5 : Int) (q_6 : Int) (q_7 : Int) (q_8 : Rows) (q_9 : Rows) (ih0 : Int → Int → Rows → α) (slots : Int) (k : Int) (all : Rows) : α :=
  bif decide (k < len q_9) then
    bif andt true (idx k q_9) then
      bif bif !(between (rI (nth q_9 (Int.toNat k)) 1) 1 q_2) then true else !(between (rI (nth q_9 (Int.toNat k)) 0) 0 65535) then k_ false
      else bif andt true (room2 8 all (rR (nth q_9 (Int.toNat k)) 2)) then
          ih0 (w64 (slots + (rI (nth q_9 (Int.toNat k)) 1))) (w64 (k + 1)) (all ++ (rR (nth q_9 (Int.toNat k)) 2))
        else bad
    else bad
  else bif andt true (givSm (⟨q_5, q_6, q_7, q_8⟩ : SPool) all) then
      k_ (bif (GiveBuffers (⟨q_5, q_6, q_7, q_8⟩ : SPool) all).2 then decide (slots ≤ q_2) else false)
    else bad
def spec_TxOk_L0 {α : Type} (bad : α) (k_ : Bool → α) (N : Nat) (q_2 : Int) (q_5 : Int) (q_6 : Int) (q_7 : Int) (q_8 : Rows) (q_9 : Rows) (m_ : Nat) : Int → Int → Rows → α :=
  Nat.rec (motive := fun _ => Int → Int → Rows → α) (fun _ _ _ => bad) (fun _ ih0 => spec_TxOk_l0 bad k_ q_2 q_5 q_6 q_7 q_8 q_9 ih0) m_
theorem spec_TxOk_L0_z {α : Type} (bad : α) (k_ : Bool → α) (N : Nat) (q_2 : Int) (q_5 : Int) (q_6 : Int) (q_7 : Int) (q_8 : Rows) (q_9 : Rows) (slots : Int) (k : Int) (all : Rows) : spec_TxOk_L0 bad k_ N q_2 q_5 q_6 q_7 q_8 q_9 0 slots k all = bad := rfl
theorem spec_TxOk_L0_s {α : Type} (bad : α) (k_ : Bool → α) (N : Nat) (q_2 : Int) (q_5 : Int) (q_6 : Int) (q_7 : Int) (q_8 : Rows) (q_9 : Rows) (m_ : Nat) (slots : Int) (k : Int) (all : Rows) : spec_TxOk_L0 bad k_ N q_2 q_5 q_6 q_7 q_8 q_9 (m_ + 1) slots k all = spec_TxOk_l0 bad k_ q_2 q_5 q_6 q_7 q_8 q_9 (spec_TxOk_L0 bad k_ N q_2 q_5 q_6 q_7 q_8 q_9 m_) slots k all := rfl
def spec_TxOk_t {α : Type} (bad : α) (k_ : Bool → α) (l0 : Int → Int → Int → Int → Rows → Rows → Int → Int → Rows → α) (q : STxQueue) : α :=
  bif bif !(RingOk q.Ring) then true else bif !(PoolOk q.Pool) then true else !(between q.Next 0 65535) then k_ false
  else l0 q.Ring.Size q.Pool.Base q.Pool.Size q.Pool.Count q.Pool.Free q.Waiting 0 0 []
def spec_TxOk_f {α : Type} (bad : α) (k_ : Bool → α) (N : Nat) (q : STxQueue) : α := spec_TxOk_t bad k_ (fun q_2 q_5 q_6 q_7 q_8 q_9 => spec_TxOk_L0 bad k_ N q_2 q_5 q_6 q_7 q_8 q_9 N) q
theorem spec_TxOk_c {α : Type} (bad : α) (k_ : Bool → α) (q : STxQueue) (h_q : WtL STxQueue.ct q.enc) (hok : txSm q = true) : ∃ N, spec_TxOk_f bad k_ N q = k_ (TxOk q) := by
  have hq : txSm q = true := hok
  obtain ⟨hf, hwn, hbn⟩ := txSm_of hq
  obtain ⟨hl, hw⟩ := wt_sl (STxQueue.wt_Waiting h_q)
  refine ⟨q.Waiting.length + 1, ?_⟩
  unfold spec_TxOk_f spec_TxOk_t TxOk
  refine cond_c (fun _ => rfl) (fun hg => ?_)
  have hn : 2 ≤ q.Ring.Size ∧ q.Ring.Size ≤ 16 := by
    cases h1 : RingOk q.Ring
    · rw [h1] at hg; cases hg
    exact RingOk_size h1
  have hgiv : ∀ all : Rows, all.length ≤ 16777216 → givSm q.Pool all = true := by
    intro all h
    have := sm_le hf
    simp only [givSm, hf, Bool.true_and, decide_eq_true_eq]
    omega

  have key : spec_TxOk_L0 bad k_ (q.Waiting.length + 1) q.Ring.Size q.Pool.Base q.Pool.Size q.Pool.Count q.Pool.Free q.Waiting (q.Waiting.length + 1) 0 0 [] = tryGo (txP q.Ring.Size) txF (k_ false) (fun s => k_ (bif (GiveBuffers q.Pool s.2).2 then decide (s.1 ≤ q.Ring.Size) else false)) q.Waiting (0, []) := by
    refine loop_try q.Waiting (fun n i (s : Int × Rows) => spec_TxOk_L0 bad k_ (q.Waiting.length + 1) q.Ring.Size q.Pool.Base q.Pool.Size q.Pool.Count q.Pool.Free q.Waiting n s.1 i s.2) (txP q.Ring.Size) txF (k_ false) (fun s => k_ (bif (GiveBuffers q.Pool s.2).2 then decide (s.1 ≤ q.Ring.Size) else false)) (fun i s => 0 ≤ s.1 ∧ s.1 ≤ 16 * (i : Int) ∧ s.2.length + bufs (q.Waiting.drop i) ≤ 16777216) ?_ ?_ ?_ (0, []) ⟨by simp, by simp, by simpa using hbn⟩
    · intro i s h hi hp
      have hb := bufs_drop h
      obtain ⟨i1, i2, i3⟩ := hi
      have h1 : sentOk q.Ring.Size (nth q.Waiting i) = true := by simpa [txP] using hp
      have h2 := (sentOk_iff.1 h1).1
      refine ⟨by simp only [txF]; omega, by simp only [txF]; omega, ?_⟩
      simp only [txF, List.length_append]
      omega
    · intro n i s h hi
      obtain ⟨i1, i2, i3⟩ := hi
      have hb := bufs_drop h
      show spec_TxOk_L0 bad k_ (q.Waiting.length + 1) q.Ring.Size q.Pool.Base q.Pool.Size q.Pool.Count q.Pool.Free q.Waiting (n + 1) s.1 (i : Int) s.2 = _
      rw [spec_TxOk_L0_s]
      have hr : room2 8 s.2 (rR (nth q.Waiting i) 2) = true := room2_le (by omega) (by omega)
      simp only [spec_TxOk_l0, lt_len h, idx_nat h, w64_succ h hl, Int.toNat_natCast, andt_true_l, andt_true_r, cond_true, hr, txP]
      have hc : (bif !(between (rI (nth q.Waiting i) 1) 1 q.Ring.Size) then true else !(between (rI (nth q.Waiting i) 0) 0 65535)) = !(sentOk q.Ring.Size (nth q.Waiting i)) := by
        unfold sentOk
        cases between (rI (nth q.Waiting i) 1) 1 q.Ring.Size <;> rfl
      rw [hc]
      refine cond_congr rfl (fun _ => rfl) (fun hp => ?_)
      have h1 : sentOk q.Ring.Size (nth q.Waiting i) = true := by simpa using hp
      have h2 := (sentOk_iff.1 h1).1
      rw [w64_in (n := s.1 + rI (nth q.Waiting i) 1) (by omega) (by omega)]
      rfl
    · intro n s hi
      obtain ⟨i1, i2, i3⟩ := hi
      show spec_TxOk_L0 bad k_ (q.Waiting.length + 1) q.Ring.Size q.Pool.Base q.Pool.Size q.Pool.Count q.Pool.Free q.Waiting (n + 1) s.1 (q.Waiting.length : Int) s.2 = _
      rw [spec_TxOk_L0_s]
      have hg : givSm (⟨q.Pool.Base, q.Pool.Size, q.Pool.Count, q.Pool.Free⟩ : SPool) s.2 = true := hgiv s.2 (by omega)
      simp only [spec_TxOk_l0, not_lt_len, cond_false, hg, andt_true_l, cond_true]
  refine key.trans ?_
  refine (try_tx q.Ring.Size (k_ false) (fun s => k_ (bif (GiveBuffers q.Pool s.2).2 then decide (s.1 ≤ q.Ring.Size) else false)) q.Waiting (0, [])).trans ?_
  simp only [List.nil_append, Int.zero_add]
  exact cond_k rfl rfl

end
end Go.Proofs.YtdlelfondkajbaaGreat.Pl
