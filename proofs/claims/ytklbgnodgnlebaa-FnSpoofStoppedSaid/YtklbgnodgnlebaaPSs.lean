/- What functions of the program compute, in plain Lean, as the value machine runs them. Conditions: none. -/
import Derived.Test.YtklbgnodgnlebaaPSz
import Derived.Test.YtklbgnodgnlebaaPSv
set_option linter.unusedVariables false
set_option linter.unusedSimpArgs false
set_option maxRecDepth 100000
namespace Go.Proofs.Ytklbgnodgnlebaa.Pl
open Vm
noncomputable section


theorem tmod_rng {x m : Int} (h0 : 0 ≤ x) (hm : 0 < m) : 0 ≤ Int.tmod x m ∧ Int.tmod x m < m := ⟨Int.tmod_nonneg _ h0, Int.tmod_lt_of_pos _ hm⟩
theorem nth_set (l : Rows) (i j : Nat) (x : List DC) (hi : i < l.length) : nth (l.set i x) j = if j = i then x else nth l j := by
  simp only [nth, List.getD_eq_getElem?_getD]
  by_cases h : j = i
  · subst h
    rw [List.getElem?_set_self hi, if_pos rfl]
    rfl
  · rw [List.getElem?_set_ne (fun e => h e.symm), if_neg h]
theorem cand (a b : Bool) : (bif a then b else false) = true ↔ a = true ∧ b = true := by cases a <;> cases b <;> simp
theorem nth_snoc (o : Rows) (x : List DC) (j : Nat) : nth (o ++ [x]) j = if j < o.length then nth o j else if j = o.length then x else [] := by
  simp only [nth, List.getD_eq_getElem?_getD]
  by_cases h : j < o.length
  · rw [List.getElem?_append_left h, if_pos h]
  · rw [List.getElem?_append_right (by omega), if_neg h]
    by_cases h2 : j = o.length
    · subst h2; simp
    · rw [if_neg h2, List.getElem?_eq_none (by simp only [List.length_cons, List.length_nil]; omega)]
      rfl
theorem anyIdx_of_no {p : Nat → List DC → Bool} {l : Rows} (h : ∀ i, i < l.length → p i (nth l i) = false) : anyIdx p l 0 = false := by
  cases ha : anyIdx p l 0
  · rfl
  · obtain ⟨i, hi, h2⟩ := (anyIdx_iff p l 0).1 ha
    rw [Nat.zero_add, h i hi] at h2
    cases h2
theorem anyN_of_no {p : Nat → Bool} : ∀ (m i : Nat), (∀ j, i ≤ j → j < i + m → p j = false) → anyN p m i = false
  | 0, _, _ => rfl
  | m + 1, i, h => by
    rw [anyN, h i (Nat.le_refl _) (by omega)]
    exact anyN_of_no m (i + 1) (fun j h1 h2 => h j (by omega) (by omega))
theorem anyN_no {p : Nat → Bool} : ∀ {m i : Nat}, anyN p m i = false → ∀ j, i ≤ j → j < i + m → p j = false
  | 0, _, _, j, h1, h2 => by omega
  | m + 1, i, h, j, h1, h2 => by
    rw [anyN] at h
    cases hp : p i
    · rw [hp] at h
      by_cases hj : j = i
      · rw [hj]; exact hp
      · exact anyN_no h j (by omega) (by omega)
    · rw [hp] at h; cases h
/-! valid ports, drawn -/
theorem PortsOk_of {l : Rows} (h1 : 1 ≤ l.length) (h2 : l.length ≤ 8) (h : ∀ i, i < l.length → portBad (nth l i) = false ∧ (i ≠ 0 → portWith l (rI (nth l i) 0) = (i : Int))) : PortsOk l = true := by
  have hb : between (len l) 1 8 = true := between_iff.2 (by simp only [len]; omega)
  unfold PortsOk
  rw [hb, anyIdx_of_no (fun i hi => ?_)]
  · rfl
  · obtain ⟨a, b⟩ := h i hi
    rw [a]
    by_cases h0 : i = 0
    · subst h0; rfl
    · rw [show (((i : Nat) : Int) != 0) = true by simp only [bne_iff_ne, ne_eq]; omega, b h0]
      simp
def pmac (j : Nat) : Int := if j = 0 then 1 else 2 * (j : Int)
def PR (j : Nat) (r : List DC) : Prop := rI r 0 = pmac j ∧ ((rR r 1 = [[.int 1]] ∨ rR r 1 = [[.int 7]]) ∨ rR r 1 = [[.int 1], [.int 7]]) ∧ hasInt (rR r 1) (rI r 2) = true ∧ rB r 3 = rB r 3
theorem pt1_pr {c : Sl01Cur} {n : Nat} (h0 : n ≠ 0) (h1 : n ≤ 1000) : PR n (pt1 c (n : Int)).1 := by
  have hm : w64 (2 * (n : Int)) = pmac n := by
    unfold pmac
    rw [if_neg h0, w64_in (by omega) (by omega)]
  have hh : ∀ (V : Rows) (t : Int), 0 ≤ t → t < len V → hasInt V (rI (nth V t.toNat) 0) = true := fun V t h2 h3 => hasInt_iff.2 ⟨t.toNat, by simp only [len] at h3; omega, rfl⟩
  have one : ∀ V : Rows, 0 < len V → PR n (ptr1 c (n : Int) V).1 ∨ True := fun _ _ => .inr trivial
  have key : ∀ V : Rows, 0 < len V → (((V = [[.int 1]] ∨ V = [[.int 7]]) ∨ V = [[.int 1], [.int 7]])) → PR n (ptr1 c (n : Int) V).1 := by
    intro V hV hv
    have b := l01Below_range (ptZ c).2 (len V)
    exact ⟨hm, hv, hh V _ b.1 (b.2 hV), rfl⟩
  unfold pt1
  cases (ptZ c).1 == 0
  · cases (ptZ c).1 == 1
    · exact key _ (by decide) (.inr rfl)
    · exact key _ (by decide) (.inl (.inr rfl))
  · exact key _ (by decide) (.inl (.inl rfl))
theorem prts_pr : ∀ (m : Nat) (c : Sl01Cur) (o : Rows), 1 ≤ o.length → o.length + m ≤ 1000 → (∀ j, j < o.length → PR j (nth o j)) → ∀ j, j < (prts m c o).1.length → PR j (nth (prts m c o).1 j)
  | 0, _, _, _, _, h => h
  | m + 1, c, o, h1, h2, h => by
    rw [prts]
    refine prts_pr m _ _ (by rw [List.length_append]; omega) (by simp only [List.length_append, List.length_cons, List.length_nil]; omega) (fun j hj => ?_)
    rw [nth_snoc]
    by_cases h3 : j < o.length
    · rw [if_pos h3]; exact h j h3
    · simp only [List.length_append, List.length_cons, List.length_nil] at hj
      rw [if_neg h3, if_pos (by omega), show j = o.length by omega]
      exact pt1_pr (by omega) (by omega)
theorem l32Ports_pr (c : Sl01Cur) : ∀ j, j < (l32Ports c).1.length → PR j (nth (l32Ports c).1 j) := by
  have a := l01Below_range c 4
  have a2 := a.2 (by omega)
  refine prts_pr _ _ _ (by simp) (by simp only [List.length_cons, List.length_nil]; omega) (fun j hj => ?_)
  have : j = 0 := by simpa using hj
  subst this
  exact ⟨rfl, .inr rfl, rfl, rfl⟩
theorem filter_pr {mac : Int} {V : Rows} (h0 : 0 ≤ mac) (h1 : mac ≤ 281474976710654) (hv : ((V = [[.int 1]] ∨ V = [[.int 7]]) ∨ V = [[.int 1], [.int 7]])) : FilterOk (⟨mac, false, V⟩ : SFilter) = true := by
  have hb : between mac 0 281474976710654 = true := between_iff.2 ⟨h0, h1⟩
  unfold FilterOk
  rcases hv with (rfl | rfl) | rfl <;> (simp only [hb]; rfl)
theorem PortsOk_pr {l : Rows} (h1 : 1 ≤ l.length) (h2 : l.length ≤ 8) (h : ∀ j, j < l.length → PR j (nth l j)) : PortsOk l = true := by
  refine PortsOk_of h1 h2 (fun i hi => ⟨?_, fun h0 => ?_⟩)
  · obtain ⟨a, b, c, _⟩ := h i hi
    have hm : 0 ≤ pmac i ∧ pmac i ≤ 1000 := by
      unfold pmac
      by_cases h0 : i = 0
      · rw [if_pos h0]; omega
      · rw [if_neg h0]; omega
    unfold portBad
    rw [a, filter_pr (by omega) (by omega) b, c]
    rfl
  · obtain ⟨a, _⟩ := h i hi
    rw [a]
    rcases portWith_spec l (pmac i) with ⟨_, hn⟩ | ⟨j, hj, hj0, he, hm⟩
    · exact absurd a (hn i hi h0)
    · obtain ⟨b, _⟩ := h j hj
      rw [b] at hm
      unfold pmac at hm
      rw [if_neg hj0, if_neg h0] at hm
      rw [he]
      omega
theorem l32Ports_ok (c : Sl01Cur) : PortsOk (l32Ports c).1 = true := by
  have hl := l32Ports_len c
  exact PortsOk_pr (by omega) (by omega) (l32Ports_pr c)


theorem pt1_four (c : Sl01Cur) (n : Int) : (pt1 c n).1.length = 4 := by
  unfold pt1
  cases (ptZ c).1 == 0
  · cases (ptZ c).1 == 1 <;> rfl
  · rfl
theorem prts_four : ∀ (m : Nat) (c : Sl01Cur) (o : Rows), (∀ r ∈ o, r.length = 4) → ∀ r ∈ (prts m c o).1, r.length = 4
  | 0, _, _, h => h
  | m + 1, c, o, h => by
    rw [prts]
    refine prts_four m _ _ (fun r hr => ?_)
    rcases List.mem_append.1 hr with hr | hr
    · exact h r hr
    · rw [List.mem_singleton] at hr
      rw [hr]
      exact pt1_four _ _
theorem l32Ports_four (c : Sl01Cur) : ∀ r ∈ (l32Ports c).1, r.length = 4 := prts_four _ _ _ (fun r hr => by
  rw [List.mem_singleton] at hr
  rw [hr]
  rfl)
theorem DrawSwitch_list (code : Rows) (h : code.length ≤ 9223372036854775807) : (DrawSwitch code).1 = (l32Ports (l01New code)).1 := by
  have a0 := l01New_ok h
  have a1 := l32Ports_cur a0
  have a2 := l32Ports_len (l01New code)
  have a3 := l01Below_cur a1 (len (l32Ports (l01New code)).1)
  have a4 := l01Below_range (l32Ports (l01New code)).2 (len (l32Ports (l01New code)).1)
  have a5 := a4.2 (by simp only [len]; omega)
  have a6 := l07Packet_k a3 30
  have a7 := l01Once_cur a6.2 3
  have i1 : idx (l01Below (l32Ports (l01New code)).2 (len (l32Ports (l01New code)).1)).1 (l32Ports (l01New code)).1 = true := by
    simp only [len] at a4 a5 ⊢
    simp only [idx, Bool.and_eq_true, decide_eq_true_eq]
    exact ⟨a4.1, a5⟩
  have j1 : inl (Int.toNat (l01Below (l32Ports (l01New code)).2 (len (l32Ports (l01New code)).1)).1) (l32Ports (l01New code)).1 = true := by
    simp only [len] at a4 a5 ⊢
    simp only [inl, decide_eq_true_eq]
    omega
  simp only [DrawSwitch, spec_DrawSwitch_t, a0, cur1_t _ a1, a6.1, cur1_t 3 a6.2, i1, j1, pick_c a7, andt_true_l, andt_true_r, cond_true]
  cases (l01Once (l07Packet (l01Below (l32Ports (l01New code)).2 (len (l32Ports (l01New code)).1)).2 30).2 3).1 <;> rfl
theorem PR_strict {j : Nat} {r : List DC} (h : PR j r) (h4 : r.length = 4) : PR j (splice r 3 [.bool true]) ∧ rB (splice r 3 [.bool true]) 3 = true ∧ rI (splice r 3 [.bool true]) 0 = rI r 0 := by
  match r, h4 with
  | [a, b, c, d], _ => exact ⟨⟨h.1, h.2.1, h.2.2.1, rfl⟩, rfl, rfl⟩
theorem mac_xor {j : Nat} (h : j ≤ 4) : (pmac j != bits .xor .i64 (pmac j) 1024) = true := by
  have : j = 0 ∨ j = 1 ∨ j = 2 ∨ j = 3 ∨ j = 4 := by omega
  rcases this with rfl | rfl | rfl | rfl | rfl <;> decide +kernel
def rowLen (o : Rows) (i : Nat) : Nat := (rR (nth o i) 0).length
def sumFrom (o : Rows) : Nat → Nat → Nat
  | 0, _ => 0
  | m + 1, i => rowLen o i + sumFrom o m (i + 1)
theorem nth_ne {o : Rows} {t j : Nat} {x : List DC} (h : j ≠ t) : nth (o.set t x) j = nth o j := by
  simp only [nth, List.getD_eq_getElem?_getD]
  rw [List.getElem?_set_ne (Ne.symm h)]
theorem sumFrom_out {o : Rows} {t : Nat} {x : List DC} : ∀ (m i : Nat), (t < i ∨ i + m ≤ t) → sumFrom (o.set t x) m i = sumFrom o m i
  | 0, _, _ => rfl
  | m + 1, i, h => by
    simp only [sumFrom, rowLen]
    rw [nth_ne (by omega), sumFrom_out m (i + 1) (by omega)]
theorem sumFrom_in {o : Rows} {t : Nat} {x : List DC} (ht : t < o.length) : ∀ (m i : Nat), i ≤ t → t < i + m → sumFrom (o.set t x) m i + rowLen o t = sumFrom o m i + (rR x 0).length
  | 0, _, h1, h2 => by omega
  | m + 1, i, h1, h2 => by
    simp only [sumFrom]
    by_cases hi : i = t
    · subst hi
      rw [sumFrom_out m (i + 1) (by omega)]
      have : rowLen (o.set i x) i = (rR x 0).length := by simp only [rowLen]; rw [nth_setl ht]
      omega
    · have := sumFrom_in (x := x) ht m (i + 1) (by omega) (by omega)
      have e : rowLen (o.set t x) i = rowLen o i := by simp only [rowLen]; rw [nth_ne hi]
      omega
theorem sum_put {l : Rows} {p : SPacket} {v : Int} {o : Rows} {k : Nat} (hk : k < o.length) {t : List DC} (ht : t = [.int (k : Int)]) : sumFrom (dpPut l p v o t) o.length 0 = sumFrom o o.length 0 + 1 := by
  subst ht
  have e : Int.toNat (rI [DC.int (k : Int)] 0) = k := rfl
  unfold dpPut
  rw [e]
  have := sumFrom_in (x := [.sl (rR (nth o k) 0 ++ [SPacket.enc (LeavePacket l (rI [DC.int (k : Int)] 0) v p)])]) hk o.length 0 (Nat.zero_le _) (by omega)
  have e2 : (rR [DC.sl (rR (nth o k) 0 ++ [SPacket.enc (LeavePacket l (rI [DC.int (k : Int)] 0) v p)])] 0).length = rowLen o k + 1 := by
    show (rR (nth o k) 0 ++ [_]).length = _
    rw [List.length_append]
    rfl
  omega
theorem sum_folds {l : Rows} {p : SPacket} {v : Int} : ∀ (T : Rows) (o : Rows), (∀ r ∈ T, ∃ k : Nat, k < o.length ∧ r = [.int (k : Int)]) → sumFrom (T.foldl (dpPut l p v) o) o.length 0 = sumFrom o o.length 0 + T.length
  | [], o, _ => rfl
  | t :: T, o, h => by
    obtain ⟨k, hk, ht⟩ := h t (List.mem_cons_self ..)
    have hl : (dpPut l p v o t).length = o.length := by unfold dpPut; rw [List.length_set]
    have := sum_folds (l := l) (p := p) (v := v) T (dpPut l p v o t) (fun r hr => by rw [hl]; exact h r (List.mem_cons_of_mem _ hr))
    rw [hl, sum_put hk ht] at this
    rw [List.foldl_cons, this, List.length_cons]
    omega
theorem sum_zero (n : Nat) : ∀ (m i : Nat), sumFrom (List.replicate n [.sl []]) m i = 0
  | 0, _ => rfl
  | m + 1, i => by
    simp only [sumFrom]
    rw [sum_zero n m (i + 1)]
    have : rowLen (List.replicate n [DC.sl []]) i = 0 := by
      simp only [rowLen, nth, List.getD_eq_getElem?_getD]
      by_cases h : i < n
      · rw [List.getElem?_replicate_of_lt h]; rfl
      · rw [List.getElem?_eq_none (by simp; omega)]; rfl
    omega
theorem ev_spoof {L : Rows} {a : Nat} {p : SPacket} (h0 : a ≠ 0) (hs : rB (nth L a) 3 = true) (hm : (rI (nth L a) 0 != p.SrcMac) = true) : EntryVlan L (a : Int) p = -1 := by
  unfold EntryVlan
  rw [Int.toNat_natCast, hs, hm, show ((a : Int) != 0) = true by simp only [bne_iff_ne, ne_eq]; omega]
  cases (bif !(PortsOk L) then true else bif !(SuperOk p) then true else !(between (a : Int) 0 (w64 ((len L) - 1))))
  · cases hasInt (rR (nth L a) 1) (bif p.Vlan == (-1) then rI (nth L a) 2 else p.Vlan) <;> rfl
  · rfl

def laws_FnSpoofStopped_l0 {α : Type} (bad : α) (k_ : Bool → α) (from_ : Int) (p : Int) (p_1 : Int) (p_2 : Int) (p_3 : Int) (p_4 : Int) (p_5 : Int) (p_6 : Int) (p_7 : Int) (p_8 : Int) (p_9 : Int) (p_10 : Int) (p_11 : Int) (p_12 : Int) (p_13 : Int) (p_14 : Int) (p_15 : Bytes) (list_ : Rows) (ih0 : Int → Int → Rows → α) (sum : Int) (k : Int) (ports : Rows) : α :=
  let z0 : SPacket := (⟨p, p_1, p_2, p_3, p_4, p_5, p_6, p_7, (⟨p_8, p_9, p_10, p_11, p_12, p_13, p_14, p_15⟩ : SSegment)⟩ : SPacket)
  bif decide (k < len ports) then
    bif andt (andt true (idx k ports)) (inl (Int.toNat k) ports) then
      ih0 (w64 (sum + (len (rR (nth ports (Int.toNat k)) 0)))) (w64 (k + 1)) (List.set ports (Int.toNat k) (splice (nth ports (Int.toNat k)) 0 [.sl (rR (nth ports (Int.toNat k)) 0)]))
    else bad
  else bif from_ == 0 then k_ (bif sum == (len (SwitchPacket list_ from_ z0)) then (len ports) == (len list_) else false)
  else k_ (bif sum == 0 then bif (len ports) == (len list_) then (EntryVlan list_ from_ z0) == (-1) else false else false)
def laws_FnSpoofStopped_L0 {α : Type} (bad : α) (k_ : Bool → α) (N : Nat) (from_ : Int) (p : Int) (p_1 : Int) (p_2 : Int) (p_3 : Int) (p_4 : Int) (p_5 : Int) (p_6 : Int) (p_7 : Int) (p_8 : Int) (p_9 : Int) (p_10 : Int) (p_11 : Int) (p_12 : Int) (p_13 : Int) (p_14 : Int) (p_15 : Bytes) (list_ : Rows) (m_ : Nat) : Int → Int → Rows → α :=
  Nat.rec (motive := fun _ => Int → Int → Rows → α) (fun _ _ _ => bad) (fun _ ih0 => laws_FnSpoofStopped_l0 bad k_ from_ p p_1 p_2 p_3 p_4 p_5 p_6 p_7 p_8 p_9 p_10 p_11 p_12 p_13 p_14 p_15 list_ ih0) m_
theorem laws_FnSpoofStopped_L0_z {α : Type} (bad : α) (k_ : Bool → α) (N : Nat) (from_ : Int) (p : Int) (p_1 : Int) (p_2 : Int) (p_3 : Int) (p_4 : Int) (p_5 : Int) (p_6 : Int) (p_7 : Int) (p_8 : Int) (p_9 : Int) (p_10 : Int) (p_11 : Int) (p_12 : Int) (p_13 : Int) (p_14 : Int) (p_15 : Bytes) (list_ : Rows) (sum : Int) (k : Int) (ports : Rows) : laws_FnSpoofStopped_L0 bad k_ N from_ p p_1 p_2 p_3 p_4 p_5 p_6 p_7 p_8 p_9 p_10 p_11 p_12 p_13 p_14 p_15 list_ 0 sum k ports = bad := rfl
theorem laws_FnSpoofStopped_L0_s {α : Type} (bad : α) (k_ : Bool → α) (N : Nat) (from_ : Int) (p : Int) (p_1 : Int) (p_2 : Int) (p_3 : Int) (p_4 : Int) (p_5 : Int) (p_6 : Int) (p_7 : Int) (p_8 : Int) (p_9 : Int) (p_10 : Int) (p_11 : Int) (p_12 : Int) (p_13 : Int) (p_14 : Int) (p_15 : Bytes) (list_ : Rows) (m_ : Nat) (sum : Int) (k : Int) (ports : Rows) : laws_FnSpoofStopped_L0 bad k_ N from_ p p_1 p_2 p_3 p_4 p_5 p_6 p_7 p_8 p_9 p_10 p_11 p_12 p_13 p_14 p_15 list_ (m_ + 1) sum k ports = laws_FnSpoofStopped_l0 bad k_ from_ p p_1 p_2 p_3 p_4 p_5 p_6 p_7 p_8 p_9 p_10 p_11 p_12 p_13 p_14 p_15 list_ (laws_FnSpoofStopped_L0 bad k_ N from_ p p_1 p_2 p_3 p_4 p_5 p_6 p_7 p_8 p_9 p_10 p_11 p_12 p_13 p_14 p_15 list_ m_) sum k ports := rfl
def laws_FnSpoofStopped_t {α : Type} (bad : α) (k_ : Bool → α) (l0 : Int → Int → Int → Int → Int → Int → Int → Int → Int → Int → Int → Int → Int → Int → Int → Int → Bytes → Rows → Int → Int → Rows → α) (code : Rows) : α :=
  let z0 : Rows := List.set ((DrawSwitch code).1) (Int.toNat ((DrawSwitch code).2.1)) (splice (nth ((DrawSwitch code).1) (Int.toNat ((DrawSwitch code).2.1))) 3 [.bool true])
  bif big code then k_ true
  else bif andt true (DrawSwitch_ok code) then
      bif andt (andt true (idx ((DrawSwitch code).2.1) ((DrawSwitch code).1))) (inl (Int.toNat ((DrawSwitch code).2.1)) ((DrawSwitch code).1)) then
        bif andt (andt true (idx ((DrawSwitch code).2.1) z0)) (inl (Int.toNat ((DrawSwitch code).2.1)) z0) then
          bif andt true (DeliverPorts_ok z0 ((DrawSwitch code).2.1) ([[.int (((DrawSwitch code).2.2).DstMac), .int (bits .xor .i64 (rI (nth z0 (Int.toNat ((DrawSwitch code).2.1))) 0) 1024), .int (((DrawSwitch code).2.2).Vlan), .int (((DrawSwitch code).2.2).Tos), .int (((DrawSwitch code).2.2).Id), .int (((DrawSwitch code).2.2).Ttl), .int (((DrawSwitch code).2.2).SrcIp), .int (((DrawSwitch code).2.2).DstIp), .int ((((DrawSwitch code).2.2).Seg).Kind), .int ((((DrawSwitch code).2.2).Seg).SrcPort), .int ((((DrawSwitch code).2.2).Seg).DstPort), .int ((((DrawSwitch code).2.2).Seg).Seq), .int ((((DrawSwitch code).2.2).Seg).Ack), .int ((((DrawSwitch code).2.2).Seg).Flags), .int ((((DrawSwitch code).2.2).Seg).Window), .str ((((DrawSwitch code).2.2).Seg).Body)]])) then
            l0 ((DrawSwitch code).2.1) (((DrawSwitch code).2.2).DstMac) (bits .xor .i64 (rI (nth z0 (Int.toNat ((DrawSwitch code).2.1))) 0) 1024) (((DrawSwitch code).2.2).Vlan) (((DrawSwitch code).2.2).Tos) (((DrawSwitch code).2.2).Id) (((DrawSwitch code).2.2).Ttl) (((DrawSwitch code).2.2).SrcIp) (((DrawSwitch code).2.2).DstIp) ((((DrawSwitch code).2.2).Seg).Kind) ((((DrawSwitch code).2.2).Seg).SrcPort) ((((DrawSwitch code).2.2).Seg).DstPort) ((((DrawSwitch code).2.2).Seg).Seq) ((((DrawSwitch code).2.2).Seg).Ack) ((((DrawSwitch code).2.2).Seg).Flags) ((((DrawSwitch code).2.2).Seg).Window) ((((DrawSwitch code).2.2).Seg).Body) z0 0 0 (DeliverPorts z0 ((DrawSwitch code).2.1) ([[.int (((DrawSwitch code).2.2).DstMac), .int (bits .xor .i64 (rI (nth z0 (Int.toNat ((DrawSwitch code).2.1))) 0) 1024), .int (((DrawSwitch code).2.2).Vlan), .int (((DrawSwitch code).2.2).Tos), .int (((DrawSwitch code).2.2).Id), .int (((DrawSwitch code).2.2).Ttl), .int (((DrawSwitch code).2.2).SrcIp), .int (((DrawSwitch code).2.2).DstIp), .int ((((DrawSwitch code).2.2).Seg).Kind), .int ((((DrawSwitch code).2.2).Seg).SrcPort), .int ((((DrawSwitch code).2.2).Seg).DstPort), .int ((((DrawSwitch code).2.2).Seg).Seq), .int ((((DrawSwitch code).2.2).Seg).Ack), .int ((((DrawSwitch code).2.2).Seg).Flags), .int ((((DrawSwitch code).2.2).Seg).Window), .str ((((DrawSwitch code).2.2).Seg).Body)]]))
          else bad
        else bad
      else bad
    else bad
def laws_FnSpoofStopped_f {α : Type} (bad : α) (k_ : Bool → α) (N : Nat) (code : Rows) : α := laws_FnSpoofStopped_t bad k_ (fun from_ p p_1 p_2 p_3 p_4 p_5 p_6 p_7 p_8 p_9 p_10 p_11 p_12 p_13 p_14 p_15 list_ => laws_FnSpoofStopped_L0 bad k_ N from_ p p_1 p_2 p_3 p_4 p_5 p_6 p_7 p_8 p_9 p_10 p_11 p_12 p_13 p_14 p_15 list_ N) code
theorem laws_FnSpoofStopped_c {α : Type} (bad : α) (k_ : Bool → α) (code : Rows) (h_code : WtC (.sl [.int .u8]) (.sl code)) (hok : fitL ((.sl [.int .u8]) :: ([])) (.sl code :: ([])) = true) : ∃ N, laws_FnSpoofStopped_f bad k_ N code = k_ true := by
  obtain ⟨hl, _⟩ := wt_sl h_code
  obtain ⟨d0, d1, d2, d3, d4⟩ := DrawSwitch_k hl
  have hpr := l32Ports_pr (l01New code)
  have hfour := l32Ports_four (l01New code)
  rw [← DrawSwitch_list code hl] at hpr hfour
  refine ⟨10, ?_⟩
  unfold laws_FnSpoofStopped_f laws_FnSpoofStopped_t
  cases big code
  · simp only [d0, andt_true_l, cond_true, cond_false]
    generalize DrawSwitch code = D at d1 d2 d3 d4 hpr hfour ⊢
    obtain ⟨L, a, P⟩ := D
    simp only at d1 d2 d3 d4 hpr hfour ⊢
    obtain ⟨A, rfl⟩ : ∃ A : Nat, a = (A : Int) := ⟨a.toNat, by omega⟩
    have hA : A < L.length := by simp only [len] at d4; omega
    rw [Int.toNat_natCast]
    have h4A := hfour (nth L A) (nth_mem hA)
    obtain ⟨s1, s2, s3⟩ := PR_strict (hpr A hA) h4A
    have hL : (L.set A (splice (nth L A) 3 [.bool true])).length = L.length := List.length_set
    have hnA : nth (L.set A (splice (nth L A) 3 [.bool true])) A = splice (nth L A) 3 [.bool true] := nth_setl hA _
    have hpr2 : ∀ j, j < (L.set A (splice (nth L A) 3 [.bool true])).length → PR j (nth (L.set A (splice (nth L A) 3 [.bool true])) j) := by
      intro j hj
      rw [hL] at hj
      by_cases hjA : j = A
      · subst hjA
        rw [hnA]
        exact s1
      · rw [nth_ne hjA]
        exact hpr j hj
    have hP : PortsOk (L.set A (splice (nth L A) 3 [.bool true])) = true := PortsOk_pr (by rw [hL]; exact d1) (by rw [hL]; omega) hpr2
    have hstr : rB (nth (L.set A (splice (nth L A) 3 [.bool true])) A) 3 = true := by rw [hnA]; exact s2
    have hmac : rI (nth (L.set A (splice (nth L A) 3 [.bool true])) A) 0 = pmac A := by rw [hnA, s3]; exact (hpr A hA).1
    have i1 := idx_nat hA
    have i2 := inl_nat hA
    simp only [i1, i2, idx_setl, inl_setl, andt_true_l, cond_true]
    generalize L.set A (splice (nth L A) 3 [.bool true]) = M at hL hP hstr hmac ⊢
    rw [hmac]
    have hx := mac_xor (j := A) (by omega)
    have key : ∀ (p p_1 p_2 p_3 p_4 p_5 p_6 p_7 p_8 p_9 p_10 p_11 p_12 p_13 p_14 : Int) (p_15 : Bytes), (pmac A != p_1) = true → laws_FnSpoofStopped_L0 bad k_ 10 (A : Int) p p_1 p_2 p_3 p_4 p_5 p_6 p_7 p_8 p_9 p_10 p_11 p_12 p_13 p_14 p_15 M 10 0 0 (DeliverPorts M (A : Int) ([[.int p, .int p_1, .int p_2, .int p_3, .int p_4, .int p_5, .int p_6, .int p_7, .int p_8, .int p_9, .int p_10, .int p_11, .int p_12, .int p_13, .int p_14, .str p_15]] : Rows)) = k_ true := by
      intro p p_1 p_2 p_3 p_4 p_5 p_6 p_7 p_8 p_9 p_10 p_11 p_12 p_13 p_14 p_15 hx
      have hD : DeliverPorts M (A : Int) ([[.int p, .int p_1, .int p_2, .int p_3, .int p_4, .int p_5, .int p_6, .int p_7, .int p_8, .int p_9, .int p_10, .int p_11, .int p_12, .int p_13, .int p_14, .str p_15]] : Rows) = (SwitchPacket M (A : Int) (⟨p, p_1, p_2, p_3, p_4, p_5, p_6, p_7, (⟨p_8, p_9, p_10, p_11, p_12, p_13, p_14, p_15⟩ : SSegment)⟩ : SPacket)).foldl (dpPut M (⟨p, p_1, p_2, p_3, p_4, p_5, p_6, p_7, (⟨p_8, p_9, p_10, p_11, p_12, p_13, p_14, p_15⟩ : SSegment)⟩ : SPacket) (EntryVlan M (A : Int) (⟨p, p_1, p_2, p_3, p_4, p_5, p_6, p_7, (⟨p_8, p_9, p_10, p_11, p_12, p_13, p_14, p_15⟩ : SSegment)⟩ : SPacket))) (List.replicate M.length [.sl []]) := by
        unfold DeliverPorts
        rw [hP]
        rfl
      have hDI := DI.all (l := M) (a := (A : Int)) ([[.int p, .int p_1, .int p_2, .int p_3, .int p_4, .int p_5, .int p_6, .int p_7, .int p_8, .int p_9, .int p_10, .int p_11, .int p_12, .int p_13, .int p_14, .str p_15]] : Rows) 0 _ (DI.start M.length)
      have hDe : List.foldl (dpOne M (A : Int)) (List.replicate M.length [.sl []]) ([[.int p, .int p_1, .int p_2, .int p_3, .int p_4, .int p_5, .int p_6, .int p_7, .int p_8, .int p_9, .int p_10, .int p_11, .int p_12, .int p_13, .int p_14, .str p_15]] : Rows) = DeliverPorts M (A : Int) ([[.int p, .int p_1, .int p_2, .int p_3, .int p_4, .int p_5, .int p_6, .int p_7, .int p_8, .int p_9, .int p_10, .int p_11, .int p_12, .int p_13, .int p_14, .str p_15]] : Rows) := by
        unfold DeliverPorts
        rw [hP]
        rfl
      rw [hDe] at hDI
      have hTm : ∀ r ∈ SwitchPacket M (A : Int) (⟨p, p_1, p_2, p_3, p_4, p_5, p_6, p_7, (⟨p_8, p_9, p_10, p_11, p_12, p_13, p_14, p_15⟩ : SSegment)⟩ : SPacket), ∃ k : Nat, k < (List.replicate M.length ([.sl []] : List DC)).length ∧ r = [.int (k : Int)] := fun r hr => by
        obtain ⟨_, k, hk, e, _⟩ := sw_mem hr
        exact ⟨k, by simpa using hk, e⟩
      have hS := sum_folds (l := M) (p := (⟨p, p_1, p_2, p_3, p_4, p_5, p_6, p_7, (⟨p_8, p_9, p_10, p_11, p_12, p_13, p_14, p_15⟩ : SSegment)⟩ : SPacket)) (v := EntryVlan M (A : Int) (⟨p, p_1, p_2, p_3, p_4, p_5, p_6, p_7, (⟨p_8, p_9, p_10, p_11, p_12, p_13, p_14, p_15⟩ : SSegment)⟩ : SPacket)) _ _ hTm
      rw [← hD, sum_zero, List.length_replicate, Nat.zero_add] at hS
      have hsw := (sw_len M (A : Int) (⟨p, p_1, p_2, p_3, p_4, p_5, p_6, p_7, (⟨p_8, p_9, p_10, p_11, p_12, p_13, p_14, p_15⟩ : SSegment)⟩ : SPacket)).1
      have round : ∀ (m q i s : Nat) (o : Rows), m < q → i + m = M.length → o.length = M.length → s ≤ 1000 * i → (∀ j, j < M.length → (nth o j).length = 1 ∧ rowLen o j ≤ 8) →
          laws_FnSpoofStopped_L0 bad k_ 10 (A : Int) p p_1 p_2 p_3 p_4 p_5 p_6 p_7 p_8 p_9 p_10 p_11 p_12 p_13 p_14 p_15 M q (s : Int) (i : Int) o =
          (bif (A : Int) == 0 then k_ (bif ((s + sumFrom o m i : Nat) : Int) == (len (SwitchPacket M (A : Int) (⟨p, p_1, p_2, p_3, p_4, p_5, p_6, p_7, (⟨p_8, p_9, p_10, p_11, p_12, p_13, p_14, p_15⟩ : SSegment)⟩ : SPacket))) then (len M) == (len M) else false)
            else k_ (bif ((s + sumFrom o m i : Nat) : Int) == 0 then bif (len M) == (len M) then (EntryVlan M (A : Int) (⟨p, p_1, p_2, p_3, p_4, p_5, p_6, p_7, (⟨p_8, p_9, p_10, p_11, p_12, p_13, p_14, p_15⟩ : SSegment)⟩ : SPacket)) == (-1) else false else false)) := by
        intro m
        induction m with
        | zero =>
          intro q i s o h1 h2 h3 h4 h5
          obtain ⟨q, rfl⟩ : ∃ p, q = p + 1 := ⟨q - 1, by omega⟩
          rw [laws_FnSpoofStopped_L0_s]
          have hf : decide ((i : Int) < len M) = false := decide_eq_false (by simp only [len]; omega)
          have hlo : len o = len M := by simp only [len, h3]
          simp only [laws_FnSpoofStopped_l0, hf, cond_false, hlo, sumFrom, Nat.add_zero]
        | succ m ihm =>
          intro q i s o h1 h2 h3 h4 h5
          obtain ⟨q, rfl⟩ : ∃ p, q = p + 1 := ⟨q - 1, by omega⟩
          rw [laws_FnSpoofStopped_L0_s]
          have hi : i < o.length := by omega
          have h5i := h5 i (by omega)
          have hlen : len (rR (nth o i) 0) = ((rowLen o i : Nat) : Int) := rfl
          have hw1 : w64 ((s : Int) + ((rowLen o i : Nat) : Int)) = ((s + rowLen o i : Nat) : Int) := by rw [w64_in (by omega) (by omega)]; omega
          have hw2 : w64 ((i : Int) + 1) = ((i + 1 : Nat) : Int) := by rw [w64_in (by omega) (by omega)]; omega
          have hsp : splice (nth o i) 0 [.sl (rR (nth o i) 0)] = [.sl (rR (nth o i) 0)] := splice_all (by rw [h5i.1]; rfl)
          have := ihm q (i + 1) (s + rowLen o i) (o.set i [.sl (rR (nth o i) 0)]) (by omega) (by omega) (by rw [List.length_set]; exact h3) (by omega) (fun j hj => by
            by_cases hji : j = i
            · subst hji
              have e : nth (o.set j [.sl (rR (nth o j) 0)]) j = [.sl (rR (nth o j) 0)] := nth_setl hi _
              simp only [rowLen, e]
              exact ⟨rfl, h5i.2⟩
            · simp only [rowLen, nth_ne hji]
              exact h5 j hj)
          have hs2 : sumFrom o (m + 1) i = rowLen o i + sumFrom (o.set i [.sl (rR (nth o i) 0)]) m (i + 1) := by
            rw [sumFrom_out m (i + 1) (by omega)]
            rfl
          simp only [laws_FnSpoofStopped_l0, lt_len hi, idx_nat hi, inl_nat hi, Int.toNat_natCast, hlen, hw1, hw2, hsp, andt_true_l, cond_true]
          rw [this, hs2, Nat.add_assoc]
      have := round M.length 10 0 0 (DeliverPorts M (A : Int) ([[.int p, .int p_1, .int p_2, .int p_3, .int p_4, .int p_5, .int p_6, .int p_7, .int p_8, .int p_9, .int p_10, .int p_11, .int p_12, .int p_13, .int p_14, .str p_15]] : Rows)) (by omega) (by omega) hDI.1 (by omega) (fun j hj => ⟨(hDI.2 j hj).1, (hDI.2 j hj).2⟩)
      refine this.trans ?_
      rw [hS]
      by_cases hA0 : A = 0
      · subst hA0
        have e1 : (((0 + (SwitchPacket M ((0 : Nat) : Int) (⟨p, p_1, p_2, p_3, p_4, p_5, p_6, p_7, (⟨p_8, p_9, p_10, p_11, p_12, p_13, p_14, p_15⟩ : SSegment)⟩ : SPacket)).length : Nat) : Int) == len (SwitchPacket M ((0 : Nat) : Int) (⟨p, p_1, p_2, p_3, p_4, p_5, p_6, p_7, (⟨p_8, p_9, p_10, p_11, p_12, p_13, p_14, p_15⟩ : SSegment)⟩ : SPacket))) = true := by
          rw [Nat.zero_add]
          exact beq_self_eq_true _
        rw [e1, show ((((0 : Nat) : Int)) == 0) = true from rfl, beq_self_eq_true]
        rfl
      · have hev := ev_spoof (L := M) (a := A) (p := (⟨p, p_1, p_2, p_3, p_4, p_5, p_6, p_7, (⟨p_8, p_9, p_10, p_11, p_12, p_13, p_14, p_15⟩ : SSegment)⟩ : SPacket)) hA0 hstr (by rw [hmac]; exact hx)
        have hsw0 : SwitchPacket M (A : Int) (⟨p, p_1, p_2, p_3, p_4, p_5, p_6, p_7, (⟨p_8, p_9, p_10, p_11, p_12, p_13, p_14, p_15⟩ : SSegment)⟩ : SPacket) = [] := by
          unfold SwitchPacket
          rw [hev]
          rfl
        rw [hsw0, hev, show ((A : Int) == 0) = false by simp only [beq_eq_false_iff_ne, ne_eq]; omega, beq_self_eq_true]
        rfl
    have hok2 : ∀ x : List DC, DeliverPorts_ok M (A : Int) [x] = true := fun _ => rfl
    simp only [hok2, andt_true_l, cond_true]
    exact key _ _ _ _ _ _ _ _ _ _ _ _ _ _ _ _ hx
  · exact rfl

end
end Go.Proofs.Ytklbgnodgnlebaa.Pl
