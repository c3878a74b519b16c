/- What functions of the program compute, in plain Lean, as the value machine runs them. Conditions: none. -/
import Derived.Test.YtklbgnodgnlebaaPSy
import Derived.Test.YtklbgnodgnlebaaPDm
set_option linter.unusedVariables false
set_option linter.unusedSimpArgs false
set_option maxRecDepth 100000
namespace Go.Proofs.Ytklbgnodgnlebaa.Pl
open Vm
noncomputable section


def laws_FnExactSwitchPacket_t {α : Type} (bad : α) (k_ : Bool → α) (aList : Rows) (aFrom : Int) (aP : SPacket) : α :=
  let z0 : Rows := SwitchPacket (idf aList) aFrom (idf aP)
  let z1 : Bool := andt true (same z0 z0)
  let z2 : Bool := !(yes2 z0 z0)
  let z3 : Bool := decide ((markPortS (idf aList) 1).1 < 0)
  let z4 : Int × Rows := markIntS z0 1
  let z5 : Bool := andt true (hdo fIntS 1 z4.2 1)
  let z6 : Int := heldIntS z4.2 1
  let z7 : Bool := decide (z6 < 0)
  let z8 : Bool := z6 != z4.1
  bif decide (laws_szPortS aList 1048576 < 0) then k_ true
  else bif decide (laws_szPacket aP (laws_szPortS aList 1048576) < 0) then k_ true
  else bif andt true (laws_toPortS_ok aList) then
      bif andt true (laws_toPortS_ok aList) then
        bif z1 then
          bif z2 then k_ false
          else bif andt (andt true (laws_toPortS_ok aList)) (same (idf aList) (idf aList)) then
              bif !(yes2 (idf aList) (idf aList)) then k_ false
              else bif andt true (mkdOk fPort gPort (idf aList) 1) then
                  bif okm z3 true z1 then
                    bif bif z3 then true else z2 then k_ false
                    else bif andt true (mko 1 z0 1) then
                        bif z5 then
                          bif z7 then k_ false
                          else bif z8 then k_ false
                          else bif andt true (laws_toPortS_ok aList) then
                              bif z1 then
                                bif z2 then k_ false
                                else bif z5 then
                                    bif z7 then k_ false
                                    else bif z8 then k_ false
                                    else k_ true
                                  else bad
                              else bad
                            else bad
                        else bad
                      else bad
                  else bad
                else bad
            else bad
        else bad
      else bad
    else bad
theorem laws_FnExactSwitchPacket_c {α : Type} (bad : α) (k_ : Bool → α) (aList : Rows) (aFrom : Int) (aP : SPacket) (h_aList : WtC (.sl [.int .i64, .sl [.int .i64], .int .i64, .bool]) (.sl aList)) (h_aFrom : WtC (.int .i64) (.int aFrom)) (h_aP : WtL SPacket.ct aP.enc) (hok : fitL ((.sl [.int .i64, .sl [.int .i64], .int .i64, .bool]) :: ((.int .i64) :: (SPacket.ct ++ ([])))) (.sl aList :: (.int aFrom :: (aP.enc ++ ([])))) = true) : laws_FnExactSwitchPacket_t bad k_ aList aFrom aP = k_ true := by
  unfold laws_FnExactSwitchPacket_t
  by_cases c0 : laws_szPortS aList 1048576 < 0
  · simp only [c0, decide_true, decide_false, cond_true, cond_false]
  have k0 := laws_szPortS_ok h_aList (by omega) (by omega) (Int.not_lt.1 c0)
  by_cases c1 : laws_szPacket aP (laws_szPortS aList 1048576) < 0
  · simp only [c0, c1, decide_true, decide_false, cond_true, cond_false]
  have k1 := laws_szPacket_ok h_aP (Int.not_lt.1 c0) k0.1 (Int.not_lt.1 c1)
  obtain ⟨p1, p2, p3⟩ := markPortS_facts (ports_sm k0.2) (k := 1) (by omega) (by omega)
  have p4 : ¬ (markPortS aList 1).1 < 0 := by omega
  have hg := (sw_len aList aFrom aP).1
  have gs : sm (SwitchPacket aList aFrom aP) = true := decide_eq_true (by omega)
  have m1 : mko 1 (SwitchPacket aList aFrom aP) 1 = true := mko_mk gs (by omega) (by omega)
  have m2 : hdo fIntS 1 (mkl fIntS 1 (SwitchPacket aList aFrom aP).length 1) 1 = true := hdo_mk gs (by omega) (by omega)
  have m3 : ¬ 1 + 1 * ((SwitchPacket aList aFrom aP).length : Int) < 0 := by omega
  simp only [c0, c1, decide_false, cond_false, cond_true, idf, k0.2, k1.2, p1, p4, m1, m2, m3, markIntS, heldIntS, mkl_length, andt_true_l, andt_true_r, same_refl, yes2, beq_self_eq_true, bne_self_eq_false, Bool.not_true, okm_tt]


theorem itN_foldl {σ : Type} (g : σ → List DC → σ) : ∀ (l p : Rows) (s : σ), itN (fun i s => g s (nth (p ++ l) i)) l.length p.length s = l.foldl g s
  | [], p, s => rfl
  | r :: l, p, s => by
    have := itN_foldl g l (p ++ [r]) (g s r)
    rw [List.append_assoc, List.length_append] at this
    simp only [List.length_cons, itN, List.foldl_cons]
    rw [nth_mid]
    exact this
theorem szAll_len {f : List DC → Int → Int} {a : Rows} {left : Int} (h1 : 0 ≤ left) (h2 : left ≤ 1048576) (ha : a.length ≤ 9223372036854775807) (h0 : 0 ≤ szAll f a left) : a.length ≤ 1048576 := by
  obtain ⟨e, hl⟩ := sz_len h1 h2 ha
  simp only [szAll, e] at h0
  by_cases hn : left - len a < 0
  · simp [hn] at h0
  · simp only [len] at hn; omega
def dpPut (l : Rows) (p : SPacket) (v : Int) (o : Rows) (t : List DC) : Rows := List.set o (Int.toNat (rI t 0)) [.sl (rR (nth o (Int.toNat (rI t 0))) 0 ++ [SPacket.enc (LeavePacket l (rI t 0) v p)])]
def dpOne (l : Rows) (a : Int) (o : Rows) (q : List DC) : Rows := (SwitchPacket l a (SPacket.decAt q 0)).foldl (dpPut l (SPacket.decAt q 0) (EntryVlan l a (SPacket.decAt q 0))) o
def DI (n m : Nat) (o : Rows) : Prop := o.length = n ∧ ∀ i, i < n → (nth o i).length = 1 ∧ (rR (nth o i) 0).length ≤ m
theorem DI.mono {n m m' : Nat} {o : Rows} (h : DI n m o) (hm : m ≤ m') : DI n m' o := ⟨h.1, fun i hi => ⟨(h.2 i hi).1, Nat.le_trans (h.2 i hi).2 hm⟩⟩
theorem DI.put {l : Rows} {p : SPacket} {v : Int} {n m k : Nat} {o : Rows} (h : DI n m o) (hk : k < n) {t : List DC} (ht : t = [.int (k : Int)]) : DI n (m + 1) (dpPut l p v o t) := by
  subst ht
  have e : Int.toNat (rI [DC.int (k : Int)] 0) = k := rfl
  unfold dpPut
  rw [e]
  refine ⟨by rw [List.length_set]; exact h.1, fun i hi => ?_⟩
  by_cases hik : i = k
  · subst hik
    rw [nth_setl (by rw [h.1]; exact hi)]
    refine ⟨rfl, ?_⟩
    have := (h.2 i hi).2
    show ((rR (nth o i) 0) ++ [_]).length ≤ m + 1
    rw [List.length_append]
    simp only [List.length_cons, List.length_nil]
    omega
  · have : nth (o.set k [.sl (rR (nth o k) 0 ++ [SPacket.enc (LeavePacket l (rI [DC.int (k : Int)] 0) v p)])]) i = nth o i := by
      simp only [nth, List.getD_eq_getElem?_getD]
      rw [List.getElem?_set_ne (Ne.symm hik)]
    rw [this]
    exact ⟨(h.2 i hi).1, Nat.le_trans (h.2 i hi).2 (Nat.le_succ m)⟩
theorem DI.folds {l : Rows} {p : SPacket} {v : Int} {n : Nat} : ∀ (T : Rows) (m : Nat) (o : Rows), (∀ r ∈ T, ∃ k : Nat, k < n ∧ r = [.int (k : Int)]) → DI n m o → DI n (m + T.length) (T.foldl (dpPut l p v) o)
  | [], m, o, _, h => h
  | t :: T, m, o, hT, h => by
    obtain ⟨k, hk, ht⟩ := hT t (List.mem_cons_self ..)
    have := DI.folds (l := l) (p := p) (v := v) T (m + 1) (dpPut l p v o t) (fun r hr => hT r (List.mem_cons_of_mem _ hr)) (h.put hk ht)
    rw [List.length_cons, List.foldl_cons]
    exact this.mono (by omega)
theorem DI.one {l : Rows} {a : Int} {m : Nat} {o : Rows} (h : DI l.length m o) (q : List DC) : DI l.length (m + 8) (dpOne l a o q) := by
  have := DI.folds (l := l) (p := SPacket.decAt q 0) (v := EntryVlan l a (SPacket.decAt q 0)) (SwitchPacket l a (SPacket.decAt q 0)) m o (fun r hr => by
    obtain ⟨_, k, hk, e, _⟩ := sw_mem hr
    exact ⟨k, hk, e⟩) h
  exact this.mono (by have := (sw_len l a (SPacket.decAt q 0)).1; omega)
theorem DI.all {l : Rows} {a : Int} : ∀ (ps : Rows) (m : Nat) (o : Rows), DI l.length m o → DI l.length (m + 8 * ps.length) (ps.foldl (dpOne l a) o)
  | [], m, o, h => h
  | q :: ps, m, o, h => by
    rw [List.foldl_cons, List.length_cons]
    exact (DI.all ps (m + 8) _ (h.one q)).mono (by omega)
theorem DI.start (n : Nat) : DI n 0 (List.replicate n [.sl []]) := by
  refine ⟨by simp, fun i hi => ?_⟩
  have : nth (List.replicate n [DC.sl []]) i = [.sl []] := by
    simp only [nth, List.getD_eq_getElem?_getD, List.getElem?_replicate_of_lt hi]
    rfl
  rw [this]
  exact ⟨rfl, Nat.le_refl _⟩
def DeliverPorts (l : Rows) (a : Int) (ps : Rows) : Rows := bif !(PortsOk l) then [] else ps.foldl (dpOne l a) (List.replicate l.length [.sl []])
def DeliverPorts_ok (l : Rows) (a : Int) (ps : Rows) : Bool := sm ps
theorem DeliverPorts_facts (l : Rows) (a : Int) (ps : Rows) : (DeliverPorts l a ps).length ≤ 8 ∧ ∀ r ∈ DeliverPorts l a ps, (rR r 0).length ≤ 8 * ps.length := by
  unfold DeliverPorts
  cases hP : PortsOk l
  · exact ⟨by simp, fun r hr => by cases hr⟩
  · obtain ⟨h1, h8, _⟩ := PortsOk_facts hP
    simp only [Bool.not_true, cond_false]
    have := DI.all (l := l) (a := a) ps 0 _ (DI.start l.length)
    refine ⟨by rw [this.1]; exact h8, fun r hr => ?_⟩
    obtain ⟨i, hi, rfl⟩ := List.getElem_of_mem hr
    have h2 := (this.2 i (by rw [← this.1]; exact hi)).2
    have e : nth (ps.foldl (dpOne l a) (List.replicate l.length [.sl []])) i = (ps.foldl (dpOne l a) (List.replicate l.length [.sl []]))[i] := by
      simp only [nth, List.getD_eq_getElem?_getD, List.getElem?_eq_getElem hi]
      rfl
    rw [e] at h2
    omega

def spec_DeliverPorts_l0 {α : Type} (bad : α) (k_ : Rows → α) (l1 : Int → Rows → Int → Rows → α) (list_ : Rows) (from_ : Int) (packets : Rows) (ih0 : Int → Rows → α) (i : Int) (out_ : Rows) : α :=
  bif decide (i < len packets) then
    bif andt true (idx i packets) then
      l1 i (SwitchPacket list_ from_ (SPacket.decAt (nth packets (Int.toNat i)) 0)) 0 out_
    else bad
  else k_ out_
def spec_DeliverPorts_l1 {α : Type} (bad : α) (k_ : Rows → α) (ih0 : Int → Rows → α) (list_ : Rows) (from_ : Int) (packets : Rows) (i : Int) (ports : Rows) (ih1 : Int → Rows → α) (k : Int) (out_1 : Rows) : α :=
  let z0 : Bool := idx (rI (nth ports (Int.toNat k)) 0) out_1
  let z1 : Nat := Int.toNat (rI (nth ports (Int.toNat k)) 0)
  let z2 : Bool := inl z1 out_1
  let z3 : List DC := nth out_1 z1
  bif decide (k < len ports) then
    bif andt (andt (andt (andt (andt (andt (andt (andt (andt (andt (andt (andt (andt true (idx k ports)) (inl (Int.toNat k) ports)) (idx k ports)) (inl (Int.toNat k) ports)) z0) z2) (idx k ports)) (inl (Int.toNat k) ports)) (idx i packets)) (idx i packets)) (room2 136 (rR z3 0) [SPacket.enc (LeavePacket list_ (rI (nth ports (Int.toNat k)) 0) (EntryVlan list_ from_ (SPacket.decAt (nth packets (Int.toNat i)) 0)) (SPacket.decAt (nth packets (Int.toNat i)) 0))])) z0) (z2 && (Nat.beq z1 z1)) then
      ih1 (w64 (k + 1)) (List.set out_1 z1 (splice z3 0 ([.sl ((rR z3 0) ++ [SPacket.enc (LeavePacket list_ (rI (nth ports (Int.toNat k)) 0) (EntryVlan list_ from_ (SPacket.decAt (nth packets (Int.toNat i)) 0)) (SPacket.decAt (nth packets (Int.toNat i)) 0))])])))
    else bad
  else ih0 (w64 (i + 1)) out_1
def spec_DeliverPorts_L1 {α : Type} (bad : α) (k_ : Rows → α) (N : Nat) (ih0 : Int → Rows → α) (list_ : Rows) (from_ : Int) (packets : Rows) (i : Int) (ports : Rows) (m_ : Nat) : Int → Rows → α :=
  Nat.rec (motive := fun _ => Int → Rows → α) (fun _ _ => bad) (fun _ ih1 => spec_DeliverPorts_l1 bad k_ ih0 list_ from_ packets i ports ih1) m_
theorem spec_DeliverPorts_L1_z {α : Type} (bad : α) (k_ : Rows → α) (N : Nat) (ih0 : Int → Rows → α) (list_ : Rows) (from_ : Int) (packets : Rows) (i : Int) (ports : Rows) (k : Int) (out_1 : Rows) : spec_DeliverPorts_L1 bad k_ N ih0 list_ from_ packets i ports 0 k out_1 = bad := rfl
theorem spec_DeliverPorts_L1_s {α : Type} (bad : α) (k_ : Rows → α) (N : Nat) (ih0 : Int → Rows → α) (list_ : Rows) (from_ : Int) (packets : Rows) (i : Int) (ports : Rows) (m_ : Nat) (k : Int) (out_1 : Rows) : spec_DeliverPorts_L1 bad k_ N ih0 list_ from_ packets i ports (m_ + 1) k out_1 = spec_DeliverPorts_l1 bad k_ ih0 list_ from_ packets i ports (spec_DeliverPorts_L1 bad k_ N ih0 list_ from_ packets i ports m_) k out_1 := rfl
def spec_DeliverPorts_L0 {α : Type} (bad : α) (k_ : Rows → α) (N : Nat) (list_ : Rows) (from_ : Int) (packets : Rows) (m_ : Nat) : Int → Rows → α :=
  Nat.rec (motive := fun _ => Int → Rows → α) (fun _ _ => bad) (fun _ ih0 => spec_DeliverPorts_l0 bad k_ (fun i ports => spec_DeliverPorts_L1 bad k_ N ih0 list_ from_ packets i ports N) list_ from_ packets ih0) m_
theorem spec_DeliverPorts_L0_z {α : Type} (bad : α) (k_ : Rows → α) (N : Nat) (list_ : Rows) (from_ : Int) (packets : Rows) (i : Int) (out_ : Rows) : spec_DeliverPorts_L0 bad k_ N list_ from_ packets 0 i out_ = bad := rfl
theorem spec_DeliverPorts_L0_s {α : Type} (bad : α) (k_ : Rows → α) (N : Nat) (list_ : Rows) (from_ : Int) (packets : Rows) (m_ : Nat) (i : Int) (out_ : Rows) : spec_DeliverPorts_L0 bad k_ N list_ from_ packets (m_ + 1) i out_ = spec_DeliverPorts_l0 bad k_ (fun i ports => spec_DeliverPorts_L1 bad k_ N (spec_DeliverPorts_L0 bad k_ N list_ from_ packets m_) list_ from_ packets i ports N) list_ from_ packets (spec_DeliverPorts_L0 bad k_ N list_ from_ packets m_) i out_ := rfl
def spec_DeliverPorts_t {α : Type} (bad : α) (k_ : Rows → α) (l0 : Int → Rows → α) (list_ : Rows) (from_ : Int) (packets : Rows) : α :=
  bif !(PortsOk list_) then k_ []
  else bif andt true (makeOk 24 (len list_) (len list_)) then
      l0 0 (List.replicate (Int.toNat (len list_)) (([.sl []]) : List DC))
    else bad
def spec_DeliverPorts_f {α : Type} (bad : α) (k_ : Rows → α) (N : Nat) (list_ : Rows) (from_ : Int) (packets : Rows) : α := spec_DeliverPorts_t bad k_ (spec_DeliverPorts_L0 bad k_ N list_ from_ packets N) list_ from_ packets
theorem spec_DeliverPorts_c {α : Type} (bad : α) (k_ : Rows → α) (list_ : Rows) (from_ : Int) (packets : Rows) (h_list_ : WtC (.sl [.int .i64, .sl [.int .i64], .int .i64, .bool]) (.sl list_)) (h_from_ : WtC (.int .i64) (.int from_)) (h_packets : WtC (.sl [.int .i64, .int .i64, .int .i64, .int .i64, .int .i64, .int .i64, .int .i64, .int .i64, .int .i64, .int .i64, .int .i64, .int .i64, .int .i64, .int .i64, .int .i64, .str]) (.sl packets)) (hok : DeliverPorts_ok list_ from_ packets = true) : ∃ N, spec_DeliverPorts_f bad k_ N list_ from_ packets = k_ (DeliverPorts list_ from_ packets) := by
  obtain ⟨hl, _⟩ := wt_sl h_list_
  obtain ⟨hlp, _⟩ := wt_sl h_packets
  have hsm : packets.length ≤ 16777216 := sm_le hok
  refine ⟨packets.length + 10, ?_⟩
  unfold spec_DeliverPorts_f spec_DeliverPorts_t DeliverPorts
  cases hP : PortsOk list_
  · rfl
  obtain ⟨_, h8, _⟩ := PortsOk_facts hP
  have e0 : Int.toNat (len list_) = list_.length := by simp [len]
  have hmk : makeOk 24 (len list_) (len list_) = true := by
    simp only [makeOk, e0, Bool.and_eq_true, decide_eq_true_eq]
    simp only [len]
    omega
  simp only [Bool.not_true, cond_false, hmk, andt_true_l, cond_true, e0]
  refine (loop_inv packets.length (fun n i o => spec_DeliverPorts_L0 bad k_ (packets.length + 10) list_ from_ packets n i o) (fun i o => dpOne list_ from_ o (nth packets i)) k_ (fun i o => DI list_.length (8 * i) o) ?_ ?_ ?_ (packets.length + 10) _ (DI.start _) (by omega)).trans ?_
  · intro i o hi ho
    exact (ho.one _).mono (by omega)
  · intro n i o hi ho
    show spec_DeliverPorts_L0 bad k_ (packets.length + 10) list_ from_ packets (n + 1) (i : Int) o = _
    rw [spec_DeliverPorts_L0_s]
    simp only [spec_DeliverPorts_l0, lt_len hi, idx_nat hi, andt_true_l, cond_true, Int.toNat_natCast]
    have hT := (sw_len list_ from_ (SPacket.decAt (nth packets i) 0)).1
    have hTm : ∀ r ∈ SwitchPacket list_ from_ (SPacket.decAt (nth packets i) 0), ∃ k : Nat, k < list_.length ∧ r = [.int (k : Int)] := fun r hr => by
      obtain ⟨_, k, hk, e, _⟩ := sw_mem hr
      exact ⟨k, hk, e⟩
    unfold dpOne
    generalize SwitchPacket list_ from_ (SPacket.decAt (nth packets i) 0) = T at hT hTm ⊢
    refine (loop_inv T.length (fun m j o => spec_DeliverPorts_L1 bad k_ (packets.length + 10) (spec_DeliverPorts_L0 bad k_ (packets.length + 10) list_ from_ packets n) list_ from_ packets (i : Int) T m j o) (fun j o => dpPut list_ (SPacket.decAt (nth packets i) 0) (EntryVlan list_ from_ (SPacket.decAt (nth packets i) 0)) o (nth T j)) (fun o => spec_DeliverPorts_L0 bad k_ (packets.length + 10) list_ from_ packets n ((i : Int) + 1) o) (fun j o => DI list_.length (8 * i + j) o) ?_ ?_ ?_ (packets.length + 10) o ho (by omega)).trans ?_
    · intro j o hj ho
      obtain ⟨t, ht, hr⟩ := hTm (nth T j) (nth_mem hj)
      exact ho.put ht hr
    · intro m j o hj ho
      show spec_DeliverPorts_L1 bad k_ (packets.length + 10) _ list_ from_ packets (i : Int) T (m + 1) (j : Int) o = _
      rw [spec_DeliverPorts_L1_s]
      obtain ⟨t, ht, hr⟩ := hTm (nth T j) (nth_mem hj)

      have er : rI (nth T j) 0 = (t : Int) := by rw [hr]; rfl
      have hto : t < o.length := by rw [ho.1]; exact ht
      have h1 := (ho.2 t ht)
      have hroom : ∀ q : List DC, room2 136 (rR (nth o t) 0) [q] = true := fun q => room2_le (by simp only [List.length_cons, List.length_nil]; omega) (by omega)
      have hsp : ∀ x : DC, splice (nth o t) 0 [x] = [x] := fun x => splice_all (by rw [h1.1]; rfl)

      simp only [spec_DeliverPorts_l1, lt_len hj, idx_nat hj, inl_nat hj, idx_nat hi, er, idx_nat hto, inl_nat hto, hroom, Nat.beq_refl, Bool.and_true, w64_in (show -9223372036854775808 ≤ (j : Int) + 1 by omega) (show (j : Int) + 1 ≤ 9223372036854775807 by omega), Int.toNat_natCast, andt_true_l, andt_true_r, cond_true, dpPut, hsp]
    · intro m o ho
      show spec_DeliverPorts_L1 bad k_ (packets.length + 10) _ list_ from_ packets (i : Int) T (m + 1) (T.length : Int) o = _
      rw [spec_DeliverPorts_L1_s]
      simp only [spec_DeliverPorts_l1, not_lt_len, cond_false, w64_succ hi hlp]
    · have := itN_foldl (dpPut list_ (SPacket.decAt (nth packets i) 0) (EntryVlan list_ from_ (SPacket.decAt (nth packets i) 0))) T [] o
      exact congrArg (fun x => spec_DeliverPorts_L0 bad k_ (packets.length + 10) list_ from_ packets n ((i : Int) + 1) x) this
  · intro n o ho
    show spec_DeliverPorts_L0 bad k_ (packets.length + 10) list_ from_ packets (n + 1) (packets.length : Int) o = _
    rw [spec_DeliverPorts_L0_s]
    simp only [spec_DeliverPorts_l0, not_lt_len, cond_false]
  · exact congrArg k_ (itN_foldl (dpOne list_ from_) packets [] _)

def impl_DeliverPorts_l0 {α : Type} (bad : α) (k_ : Rows → α) (l1 : Int → Int → Int → Int → Int → Int → Int → Int → Int → Int → Int → Int → Int → Int → Int → Int → Int → Int → Bytes → Rows → Int → Rows → α) (list_ : Rows) (from_ : Int) (packets : Rows) (x_1 : Int) (ih0 : Int → Rows → α) (x_2 : Int) (out_ : Rows) : α :=
  let z0 : Rows := SwitchPacket list_ from_ (SPacket.decAt (nth packets (Int.toNat x_2)) 0)
  bif decide (x_2 < x_1) then
    bif andt true (idx x_2 packets) then
      l1 (EntryVlan list_ from_ (SPacket.decAt (nth packets (Int.toNat x_2)) 0)) x_2 (len z0) (rI (nth packets (Int.toNat x_2)) 0) (rI (nth packets (Int.toNat x_2)) 1) (rI (nth packets (Int.toNat x_2)) 2) (rI (nth packets (Int.toNat x_2)) 3) (rI (nth packets (Int.toNat x_2)) 4) (rI (nth packets (Int.toNat x_2)) 5) (rI (nth packets (Int.toNat x_2)) 6) (rI (nth packets (Int.toNat x_2)) 7) (rI (nth packets (Int.toNat x_2)) 8) (rI (nth packets (Int.toNat x_2)) 9) (rI (nth packets (Int.toNat x_2)) 10) (rI (nth packets (Int.toNat x_2)) 11) (rI (nth packets (Int.toNat x_2)) 12) (rI (nth packets (Int.toNat x_2)) 13) (rI (nth packets (Int.toNat x_2)) 14) (rS (nth packets (Int.toNat x_2)) 15) z0 0 out_
    else bad
  else k_ out_
def impl_DeliverPorts_l1 {α : Type} (bad : α) (k_ : Rows → α) (ih0 : Int → Rows → α) (list_ : Rows) (vlan : Int) (x_2 : Int) (x_6 : Int) (p : Int) (p_1 : Int) (p_2 : Int) (p_3 : Int) (p_4 : Int) (p_5 : Int) (p_6 : Int) (p_7 : Int) (p_8 : Int) (p_9 : Int) (p_10 : Int) (p_11 : Int) (p_12 : Int) (p_13 : Int) (p_14 : Int) (p_15 : Bytes) (x_8 : Rows) (ih1 : Int → Rows → α) (x_7 : Int) (out_1 : Rows) : α :=
  let z0 : Bool := idx (rI (nth x_8 (Int.toNat x_7)) 0) out_1
  let z1 : Nat := Int.toNat (rI (nth x_8 (Int.toNat x_7)) 0)
  let z2 : Bool := inl z1 out_1
  let z3 : List DC := nth out_1 z1
  bif decide (x_7 < x_6) then
    bif andt (andt true (idx x_7 x_8)) (inl (Int.toNat x_7) x_8) then
      bif andt (andt (andt (andt (andt true z0) z2) (room2 136 (rR z3 0) [SPacket.enc (LeavePacket list_ (rI (nth x_8 (Int.toNat x_7)) 0) vlan (⟨p, p_1, p_2, p_3, p_4, p_5, p_6, p_7, (⟨p_8, p_9, p_10, p_11, p_12, p_13, p_14, p_15⟩ : SSegment)⟩ : SPacket))])) z0) (z2 && (Nat.beq z1 z1)) then
        ih1 (w64 (x_7 + 1)) (List.set out_1 z1 (splice z3 0 ([.sl ((rR z3 0) ++ [SPacket.enc (LeavePacket list_ (rI (nth x_8 (Int.toNat x_7)) 0) vlan (⟨p, p_1, p_2, p_3, p_4, p_5, p_6, p_7, (⟨p_8, p_9, p_10, p_11, p_12, p_13, p_14, p_15⟩ : SSegment)⟩ : SPacket))])])))
      else bad
    else bad
  else ih0 (w64 (x_2 + 1)) out_1
def impl_DeliverPorts_L1 {α : Type} (bad : α) (k_ : Rows → α) (N : Nat) (ih0 : Int → Rows → α) (list_ : Rows) (vlan : Int) (x_2 : Int) (x_6 : Int) (p : Int) (p_1 : Int) (p_2 : Int) (p_3 : Int) (p_4 : Int) (p_5 : Int) (p_6 : Int) (p_7 : Int) (p_8 : Int) (p_9 : Int) (p_10 : Int) (p_11 : Int) (p_12 : Int) (p_13 : Int) (p_14 : Int) (p_15 : Bytes) (x_8 : Rows) (m_ : Nat) : Int → Rows → α :=
  Nat.rec (motive := fun _ => Int → Rows → α) (fun _ _ => bad) (fun _ ih1 => impl_DeliverPorts_l1 bad k_ ih0 list_ vlan x_2 x_6 p p_1 p_2 p_3 p_4 p_5 p_6 p_7 p_8 p_9 p_10 p_11 p_12 p_13 p_14 p_15 x_8 ih1) m_
theorem impl_DeliverPorts_L1_z {α : Type} (bad : α) (k_ : Rows → α) (N : Nat) (ih0 : Int → Rows → α) (list_ : Rows) (vlan : Int) (x_2 : Int) (x_6 : Int) (p : Int) (p_1 : Int) (p_2 : Int) (p_3 : Int) (p_4 : Int) (p_5 : Int) (p_6 : Int) (p_7 : Int) (p_8 : Int) (p_9 : Int) (p_10 : Int) (p_11 : Int) (p_12 : Int) (p_13 : Int) (p_14 : Int) (p_15 : Bytes) (x_8 : Rows) (x_7 : Int) (out_1 : Rows) : impl_DeliverPorts_L1 bad k_ N ih0 list_ vlan x_2 x_6 p p_1 p_2 p_3 p_4 p_5 p_6 p_7 p_8 p_9 p_10 p_11 p_12 p_13 p_14 p_15 x_8 0 x_7 out_1 = bad := rfl
theorem impl_DeliverPorts_L1_s {α : Type} (bad : α) (k_ : Rows → α) (N : Nat) (ih0 : Int → Rows → α) (list_ : Rows) (vlan : Int) (x_2 : Int) (x_6 : Int) (p : Int) (p_1 : Int) (p_2 : Int) (p_3 : Int) (p_4 : Int) (p_5 : Int) (p_6 : Int) (p_7 : Int) (p_8 : Int) (p_9 : Int) (p_10 : Int) (p_11 : Int) (p_12 : Int) (p_13 : Int) (p_14 : Int) (p_15 : Bytes) (x_8 : Rows) (m_ : Nat) (x_7 : Int) (out_1 : Rows) : impl_DeliverPorts_L1 bad k_ N ih0 list_ vlan x_2 x_6 p p_1 p_2 p_3 p_4 p_5 p_6 p_7 p_8 p_9 p_10 p_11 p_12 p_13 p_14 p_15 x_8 (m_ + 1) x_7 out_1 = impl_DeliverPorts_l1 bad k_ ih0 list_ vlan x_2 x_6 p p_1 p_2 p_3 p_4 p_5 p_6 p_7 p_8 p_9 p_10 p_11 p_12 p_13 p_14 p_15 x_8 (impl_DeliverPorts_L1 bad k_ N ih0 list_ vlan x_2 x_6 p p_1 p_2 p_3 p_4 p_5 p_6 p_7 p_8 p_9 p_10 p_11 p_12 p_13 p_14 p_15 x_8 m_) x_7 out_1 := rfl
def impl_DeliverPorts_L0 {α : Type} (bad : α) (k_ : Rows → α) (N : Nat) (list_ : Rows) (from_ : Int) (packets : Rows) (x_1 : Int) (m_ : Nat) : Int → Rows → α :=
  Nat.rec (motive := fun _ => Int → Rows → α) (fun _ _ => bad) (fun _ ih0 => impl_DeliverPorts_l0 bad k_ (fun vlan x_2 x_6 p p_1 p_2 p_3 p_4 p_5 p_6 p_7 p_8 p_9 p_10 p_11 p_12 p_13 p_14 p_15 x_8 => impl_DeliverPorts_L1 bad k_ N ih0 list_ vlan x_2 x_6 p p_1 p_2 p_3 p_4 p_5 p_6 p_7 p_8 p_9 p_10 p_11 p_12 p_13 p_14 p_15 x_8 N) list_ from_ packets x_1 ih0) m_
theorem impl_DeliverPorts_L0_z {α : Type} (bad : α) (k_ : Rows → α) (N : Nat) (list_ : Rows) (from_ : Int) (packets : Rows) (x_1 : Int) (x_2 : Int) (out_ : Rows) : impl_DeliverPorts_L0 bad k_ N list_ from_ packets x_1 0 x_2 out_ = bad := rfl
theorem impl_DeliverPorts_L0_s {α : Type} (bad : α) (k_ : Rows → α) (N : Nat) (list_ : Rows) (from_ : Int) (packets : Rows) (x_1 : Int) (m_ : Nat) (x_2 : Int) (out_ : Rows) : impl_DeliverPorts_L0 bad k_ N list_ from_ packets x_1 (m_ + 1) x_2 out_ = impl_DeliverPorts_l0 bad k_ (fun vlan x_2 x_6 p p_1 p_2 p_3 p_4 p_5 p_6 p_7 p_8 p_9 p_10 p_11 p_12 p_13 p_14 p_15 x_8 => impl_DeliverPorts_L1 bad k_ N (impl_DeliverPorts_L0 bad k_ N list_ from_ packets x_1 m_) list_ vlan x_2 x_6 p p_1 p_2 p_3 p_4 p_5 p_6 p_7 p_8 p_9 p_10 p_11 p_12 p_13 p_14 p_15 x_8 N) list_ from_ packets x_1 (impl_DeliverPorts_L0 bad k_ N list_ from_ packets x_1 m_) x_2 out_ := rfl
def impl_DeliverPorts_t {α : Type} (bad : α) (k_ : Rows → α) (l0 : Int → Int → Rows → α) (list_ : Rows) (from_ : Int) (packets : Rows) : α :=
  bif !(PortsOk list_) then k_ []
  else bif andt true (makeOk 24 (len list_) (len list_)) then
      l0 (len packets) 0 (List.replicate (Int.toNat (len list_)) (([.sl []]) : List DC))
    else bad
def impl_DeliverPorts_f {α : Type} (bad : α) (k_ : Rows → α) (N : Nat) (list_ : Rows) (from_ : Int) (packets : Rows) : α := impl_DeliverPorts_t bad k_ (fun x_1 => impl_DeliverPorts_L0 bad k_ N list_ from_ packets x_1 N) list_ from_ packets
theorem impl_DeliverPorts_c {α : Type} (bad : α) (k_ : Rows → α) (list_ : Rows) (from_ : Int) (packets : Rows) (h_list_ : WtC (.sl [.int .i64, .sl [.int .i64], .int .i64, .bool]) (.sl list_)) (h_from_ : WtC (.int .i64) (.int from_)) (h_packets : WtC (.sl [.int .i64, .int .i64, .int .i64, .int .i64, .int .i64, .int .i64, .int .i64, .int .i64, .int .i64, .int .i64, .int .i64, .int .i64, .int .i64, .int .i64, .int .i64, .str]) (.sl packets)) (hok : DeliverPorts_ok list_ from_ packets = true) : ∃ N, impl_DeliverPorts_f bad k_ N list_ from_ packets = k_ (DeliverPorts list_ from_ packets) := by
  obtain ⟨hl, _⟩ := wt_sl h_list_
  obtain ⟨hlp, _⟩ := wt_sl h_packets
  have hsm : packets.length ≤ 16777216 := sm_le hok
  refine ⟨packets.length + 10, ?_⟩
  unfold impl_DeliverPorts_f impl_DeliverPorts_t DeliverPorts
  cases hP : PortsOk list_
  · rfl
  obtain ⟨_, h8, _⟩ := PortsOk_facts hP
  have e0 : Int.toNat (len list_) = list_.length := by simp [len]
  have hmk : makeOk 24 (len list_) (len list_) = true := by
    simp only [makeOk, e0, Bool.and_eq_true, decide_eq_true_eq]
    simp only [len]
    omega
  simp only [Bool.not_true, cond_false, hmk, andt_true_l, cond_true, e0]
  refine (loop_inv packets.length (fun n i o => impl_DeliverPorts_L0 bad k_ (packets.length + 10) list_ from_ packets (len packets) n i o) (fun i o => dpOne list_ from_ o (nth packets i)) k_ (fun i o => DI list_.length (8 * i) o) ?_ ?_ ?_ (packets.length + 10) _ (DI.start _) (by omega)).trans ?_
  · intro i o hi ho
    exact (ho.one _).mono (by omega)
  · intro n i o hi ho
    show impl_DeliverPorts_L0 bad k_ (packets.length + 10) list_ from_ packets (len packets) (n + 1) (i : Int) o = _
    rw [impl_DeliverPorts_L0_s]
    simp only [impl_DeliverPorts_l0, lt_len hi, idx_nat hi, andt_true_l, cond_true, Int.toNat_natCast]
    have hT := (sw_len list_ from_ (SPacket.decAt (nth packets i) 0)).1
    have hTm : ∀ r ∈ SwitchPacket list_ from_ (SPacket.decAt (nth packets i) 0), ∃ k : Nat, k < list_.length ∧ r = [.int (k : Int)] := fun r hr => by
      obtain ⟨_, k, hk, e, _⟩ := sw_mem hr
      exact ⟨k, hk, e⟩
    have key : ∀ (V x : Int) (p p_1 p_2 p_3 p_4 p_5 p_6 p_7 p_8 p_9 p_10 p_11 p_12 p_13 p_14 : Int) (p_15 : Bytes) (T : Rows), x = len T → T.length ≤ 8 → (∀ r ∈ T, ∃ k : Nat, k < list_.length ∧ r = [.int (k : Int)]) →
        impl_DeliverPorts_L1 bad k_ (packets.length + 10) (impl_DeliverPorts_L0 bad k_ (packets.length + 10) list_ from_ packets (len packets) n) list_ V (i : Int) x p p_1 p_2 p_3 p_4 p_5 p_6 p_7 p_8 p_9 p_10 p_11 p_12 p_13 p_14 p_15 T (packets.length + 10) 0 o =
        impl_DeliverPorts_L0 bad k_ (packets.length + 10) list_ from_ packets (len packets) n ((i : Int) + 1) (T.foldl (dpPut list_ (⟨p, p_1, p_2, p_3, p_4, p_5, p_6, p_7, (⟨p_8, p_9, p_10, p_11, p_12, p_13, p_14, p_15⟩ : SSegment)⟩ : SPacket) V) o) := by
      intro V x p p_1 p_2 p_3 p_4 p_5 p_6 p_7 p_8 p_9 p_10 p_11 p_12 p_13 p_14 p_15 T hx hT hTm
      subst hx
      refine (loop_inv T.length (fun m j o => impl_DeliverPorts_L1 bad k_ (packets.length + 10) (impl_DeliverPorts_L0 bad k_ (packets.length + 10) list_ from_ packets (len packets) n) list_ V (i : Int) (len T) p p_1 p_2 p_3 p_4 p_5 p_6 p_7 p_8 p_9 p_10 p_11 p_12 p_13 p_14 p_15 T m j o) (fun j o => dpPut list_ (⟨p, p_1, p_2, p_3, p_4, p_5, p_6, p_7, (⟨p_8, p_9, p_10, p_11, p_12, p_13, p_14, p_15⟩ : SSegment)⟩ : SPacket) V o (nth T j)) (fun o => impl_DeliverPorts_L0 bad k_ (packets.length + 10) list_ from_ packets (len packets) n ((i : Int) + 1) o) (fun j o => DI list_.length (8 * i + j) o) ?_ ?_ ?_ (packets.length + 10) o ho (by omega)).trans ?_
      · intro j o hj ho
        obtain ⟨t, ht, hr⟩ := hTm (nth T j) (nth_mem hj)
        exact ho.put ht hr
      · intro m j o hj ho
        show impl_DeliverPorts_L1 bad k_ (packets.length + 10) _ list_ V (i : Int) (len T) p p_1 p_2 p_3 p_4 p_5 p_6 p_7 p_8 p_9 p_10 p_11 p_12 p_13 p_14 p_15 T (m + 1) (j : Int) o = _
        rw [impl_DeliverPorts_L1_s]
        obtain ⟨t, ht, hr⟩ := hTm (nth T j) (nth_mem hj)

        have er : rI (nth T j) 0 = (t : Int) := by rw [hr]; rfl
        have hto : t < o.length := by rw [ho.1]; exact ht
        have h1 := (ho.2 t ht)
        have hroom : ∀ q : List DC, room2 136 (rR (nth o t) 0) [q] = true := fun q => room2_le (by simp only [List.length_cons, List.length_nil]; omega) (by omega)
        have hsp : ∀ x : DC, splice (nth o t) 0 [x] = [x] := fun x => splice_all (by rw [h1.1]; rfl)
  
        simp only [impl_DeliverPorts_l1, lt_len hj, idx_nat hj, inl_nat hj, er, idx_nat hto, inl_nat hto, hroom, Nat.beq_refl, Bool.and_true, w64_in (show -9223372036854775808 ≤ (j : Int) + 1 by omega) (show (j : Int) + 1 ≤ 9223372036854775807 by omega), Int.toNat_natCast, andt_true_l, andt_true_r, cond_true, dpPut, hsp]
      · intro m o ho
        show impl_DeliverPorts_L1 bad k_ (packets.length + 10) _ list_ V (i : Int) (len T) p p_1 p_2 p_3 p_4 p_5 p_6 p_7 p_8 p_9 p_10 p_11 p_12 p_13 p_14 p_15 T (m + 1) (T.length : Int) o = _
        rw [impl_DeliverPorts_L1_s]
        simp only [impl_DeliverPorts_l1, not_lt_len, cond_false, w64_succ hi hlp]
      · have := itN_foldl (dpPut list_ (⟨p, p_1, p_2, p_3, p_4, p_5, p_6, p_7, (⟨p_8, p_9, p_10, p_11, p_12, p_13, p_14, p_15⟩ : SSegment)⟩ : SPacket) V) T [] o
        exact congrArg (fun x => impl_DeliverPorts_L0 bad k_ (packets.length + 10) list_ from_ packets (len packets) n ((i : Int) + 1) x) this
    exact key _ _ _ _ _ _ _ _ _ _ _ _ _ _ _ _ _ _ _ rfl hT hTm
  · intro n o ho
    show impl_DeliverPorts_L0 bad k_ (packets.length + 10) list_ from_ packets (len packets) (n + 1) (packets.length : Int) o = _
    rw [impl_DeliverPorts_L0_s]
    simp only [impl_DeliverPorts_l0, not_lt_len, cond_false]
  · exact congrArg k_ (itN_foldl (dpOne list_ from_) packets [] _)

def laws_FnExactDeliverPorts_t {α : Type} (bad : α) (k_ : Bool → α) (aList : Rows) (aFrom : Int) (aPackets : Rows) : α :=
  let z0 : Bool := DeliverPorts_ok (idf aList) aFrom (idf aPackets)
  let z1 : Bool := andt (andt (andt true (laws_toPortS_ok aList)) (sm aPackets)) z0
  let z2 : Rows := DeliverPorts (idf aList) aFrom (idf aPackets)
  let z3 : Bool := andt true (same z2 z2)
  let z4 : Bool := !(yes2 z2 z2)
  let z5 : Bool := decide ((markPacketS (idf aPackets) ((markPortS (idf aList) 1).1)).1 < 0)
  let z6 : Int × Rows := markPacketSS z2 1
  let z7 : Bool := andt true (hkSS z6.2 1)
  let z8 : Int := heldPacketSS z6.2 1
  let z9 : Bool := decide (z8 < 0)
  let z10 : Bool := z8 != z6.1
  bif decide (laws_szPortS aList 1048576 < 0) then k_ true
  else bif decide (laws_szPacketS aPackets (laws_szPortS aList 1048576) < 0) then k_ true
  else bif z1 then
      bif andt true (laws_toPortS_ok aList) then
        bif andt true (sm aPackets) then
          bif andt true z0 then
            bif z3 then
              bif z4 then k_ false
              else bif andt (andt true (laws_toPortS_ok aList)) (same (idf aList) (idf aList)) then
                  bif !(yes2 (idf aList) (idf aList)) then k_ false
                  else bif andt (andt true (sm aPackets)) (same (idf aPackets) (idf aPackets)) then
                      bif !(yes2 (idf aPackets) (idf aPackets)) then k_ false
                      else bif andt true (mkdOk fPort gPort (idf aList) 1) then
                          bif andt true (mko 16 (idf aPackets) ((markPortS (idf aList) 1).1)) then
                            bif okm z5 true z3 then
                              bif bif z5 then true else z4 then k_ false
                              else bif andt true (mkdOk fSS gSS z2 1) then
                                  bif z7 then
                                    bif z9 then k_ false
                                    else bif z10 then k_ false
                                    else bif z1 then
                                        bif z3 then
                                          bif z4 then k_ false
                                          else bif z7 then
                                              bif z9 then k_ false
                                              else bif z10 then k_ false
                                              else k_ true
                                            else bad
                                        else bad
                                      else bad
                                  else bad
                                else bad
                            else bad
                          else bad
                        else bad
                    else bad
                else bad
            else bad
          else bad
        else bad
      else bad
    else bad
theorem laws_FnExactDeliverPorts_c {α : Type} (bad : α) (k_ : Bool → α) (aList : Rows) (aFrom : Int) (aPackets : Rows) (h_aList : WtC (.sl [.int .i64, .sl [.int .i64], .int .i64, .bool]) (.sl aList)) (h_aFrom : WtC (.int .i64) (.int aFrom)) (h_aPackets : WtC (.sl [.int .i64, .int .i64, .int .i64, .int .i64, .int .i64, .int .i64, .int .i64, .int .i64, .int .i64, .int .i64, .int .i64, .int .i64, .int .i64, .int .i64, .int .i64, .str]) (.sl aPackets)) (hok : fitL ((.sl [.int .i64, .sl [.int .i64], .int .i64, .bool]) :: ((.int .i64) :: ((.sl [.int .i64, .int .i64, .int .i64, .int .i64, .int .i64, .int .i64, .int .i64, .int .i64, .int .i64, .int .i64, .int .i64, .int .i64, .int .i64, .int .i64, .int .i64, .str]) :: ([])))) (.sl aList :: (.int aFrom :: (.sl aPackets :: ([])))) = true) : laws_FnExactDeliverPorts_t bad k_ aList aFrom aPackets = k_ true := by
  unfold laws_FnExactDeliverPorts_t
  by_cases c0 : laws_szPortS aList 1048576 < 0
  · simp only [c0, decide_true, decide_false, cond_true, cond_false]
  have k0 := laws_szPortS_ok h_aList (by omega) (by omega) (Int.not_lt.1 c0)
  by_cases c1 : laws_szPacketS aPackets (laws_szPortS aList 1048576) < 0
  · simp only [c0, c1, decide_true, decide_false, cond_true, cond_false]
  have k1 := laws_szPacketS_ok h_aPackets (Int.not_lt.1 c0) k0.1 (Int.not_lt.1 c1)
  obtain ⟨p1, p2, p3⟩ := markPortS_facts (ports_sm k0.2) (k := 1) (by omega) (by omega)
  have hpl := sm_le k1.2
  have p4 : mko 16 aPackets (markPortS aList 1).1 = true := mko_mk k1.2 (by omega) (by omega)
  have p5 : ¬ (markPortS aList 1).1 + 16 * (aPackets.length : Int) < 0 := by omega
  obtain ⟨hg1, hg2⟩ := DeliverPorts_facts aList aFrom aPackets
  have hpl2 : aPackets.length ≤ 1048576 := szAll_len (Int.not_lt.1 c0) k0.1 (wt_sl h_aPackets).1 (Int.not_lt.1 c1)
  obtain ⟨m1, m2, m3, m4⟩ := mh_PacketSS (a := DeliverPorts aList aFrom aPackets) (B := 8388608) (by omega) (by omega) (by omega) (fun r hr => by have := hg2 r hr; omega) (k := 1) (by omega) (by omega)
  have m5 : ¬ (mkd fSS (DeliverPorts aList aFrom aPackets) 1).2 < 0 := by omega
  simp only [c0, c1, decide_false, cond_false, cond_true, idf, k0.2, k1.2, p1, p4, p5, m1, m2, m3, m5, markPacketS, markPacketSS, heldPacketSS, DeliverPorts_ok, k1.2, andt_true_l, andt_true_r, same_refl, yes2, beq_self_eq_true, bne_self_eq_false, Bool.not_true, okm_tt]

end
end Go.Proofs.Ytklbgnodgnlebaa.Pl
