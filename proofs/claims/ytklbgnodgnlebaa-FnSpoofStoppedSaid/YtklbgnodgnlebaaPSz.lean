/- What functions of the program compute, in plain Lean, as the value machine runs them. Conditions: none. -/
import Derived.Test.YtklbgnodgnlebaaPSy
import Derived.Test.YtklbgnodgnlebaaPDr
set_option linter.unusedVariables false
set_option linter.unusedSimpArgs false
set_option maxRecDepth 100000
namespace Go.Proofs.Ytklbgnodgnlebaa.Pl
open Vm
noncomputable section


def spec_DrawSwitch_t {α : Type} (bad : α) (k_ : Rows → Int → SPacket → α) (code : Rows) : α :=
  let z0 : Int × Sl01Cur := l01Below ((l32Ports (l01New code)).2) (len ((l32Ports (l01New code)).1))
  let z1 : SPacket × Sl01Cur := l07Packet z0.2 30
  let z2 : Sl01Cur := z1.2
  let z3 : Bool × Sl01Cur := l01Once z2 3
  let z4 : Nat := Int.toNat z0.1
  let z5 : Sl01Cur := z3.2
  let z6 : Rows := [[.int 2], [.int 4], [.int 6], [.int 8], [.int 281474976710655]]
  let z7 : Bool := andt true (pickOk z5 z6)
  let z8 : Int := (l01PickInt z5 z6).1
  let z9 : SPacket := z1.1
  let z10 : Int := z9.Vlan
  let z11 : Int := z9.Tos
  let z12 : Int := z9.Id
  let z13 : Int := z9.Ttl
  let z14 : Int := z9.SrcIp
  let z15 : Int := z9.DstIp
  let z16 : SSegment := z9.Seg
  bif andt true (curOk (l01New code)) then
    bif andt true (curOk1 ((l32Ports (l01New code)).2) (len ((l32Ports (l01New code)).1))) then
      bif andt true (l07Packet_ok z0.2 30) then
        bif andt true (curOk1 z2 3) then
          bif !z3.1 then
            bif andt (andt true (idx z0.1 ((l32Ports (l01New code)).1))) (inl z4 ((l32Ports (l01New code)).1)) then
              bif z7 then
                k_ ((l32Ports (l01New code)).1) z0.1 (⟨z8, rI (nth ((l32Ports (l01New code)).1) z4) 0, z10, z11, z12, z13, z14, z15, z16⟩ : SPacket)
              else bad
            else bad
          else bif z7 then
              k_ ((l32Ports (l01New code)).1) z0.1 (⟨z8, z9.SrcMac, z10, z11, z12, z13, z14, z15, z16⟩ : SPacket)
            else bad
        else bad
      else bad
    else bad
  else bad
def DrawSwitch_ok (code : Rows) : Bool := spec_DrawSwitch_t false (fun _ _ _ => true) code
def DrawSwitch (code : Rows) : Rows × Int × SPacket := (spec_DrawSwitch_t none (fun r0 r1 r2 => some (r0, r1, r2)) code).getD ([], 0, ⟨0, 0, 0, 0, 0, 0, 0, 0, ⟨0, 0, 0, 0, 0, 0, 0, []⟩⟩)
theorem spec_DrawSwitch_c {α : Type} (bad : α) (k_ : Rows → Int → SPacket → α) (code : Rows) (hok : DrawSwitch_ok code = true) : spec_DrawSwitch_t bad k_ code = k_ (DrawSwitch code).1 (DrawSwitch code).2.1 (DrawSwitch code).2.2 := by
  exact part_all (K := fun r : Rows × Int × SPacket => k_ r.1 r.2.1 r.2.2) (part_guard (part_guard (part_guard (part_guard (part_cond (part_guard (part_guard (fun _ => ⟨_, rfl, rfl⟩))) (part_guard (fun _ => ⟨_, rfl, rfl⟩))))))) hok


theorem DrawSwitch_k {code : Rows} (h : code.length ≤ 9223372036854775807) : DrawSwitch_ok code = true ∧ 1 ≤ (DrawSwitch code).1.length ∧ (DrawSwitch code).1.length ≤ 5 ∧ 0 ≤ (DrawSwitch code).2.1 ∧ (DrawSwitch code).2.1 < len (DrawSwitch code).1 := by
  have a0 := l01New_ok h
  have a1 := l32Ports_cur a0
  have a2 := l32Ports_len (l01New code)
  have a3 := l01Below_cur a1 (len (l32Ports (l01New code)).1)
  have a4 := l01Below_range (l32Ports (l01New code)).2 (len (l32Ports (l01New code)).1)
  have a5 := a4.2 (by simp only [len]; omega)
  have a6 := l07Packet_k a3 30
  have a7 := l01Once_cur a6.2 3
  have i1 : idx (l01Below (l32Ports (l01New code)).2 (len (l32Ports (l01New code)).1)).1 (l32Ports (l01New code)).1 = true := by
    simp only [len] at a4 a5 ⊢
    simp only [idx, Bool.and_eq_true, decide_eq_true_eq]
    exact ⟨a4.1, a5⟩
  have j1 : inl (Int.toNat (l01Below (l32Ports (l01New code)).2 (len (l32Ports (l01New code)).1)).1) (l32Ports (l01New code)).1 = true := by
    simp only [len] at a4 a5 ⊢
    simp only [inl, decide_eq_true_eq]
    omega
  simp only [DrawSwitch_ok, DrawSwitch, spec_DrawSwitch_t, a0, cur1_t _ a1, a6.1, cur1_t 3 a6.2, i1, j1, pick_c a7, andt_true_l, andt_true_r, cond_true]
  cases (l01Once (l07Packet (l01Below (l32Ports (l01New code)).2 (len (l32Ports (l01New code)).1)).2 30).2 3).1
  · exact ⟨rfl, by show 1 ≤ (l32Ports (l01New code)).1.length; omega, by show (l32Ports (l01New code)).1.length ≤ 5; omega, a4.1, a5⟩
  · exact ⟨rfl, by show 1 ≤ (l32Ports (l01New code)).1.length; omega, by show (l32Ports (l01New code)).1.length ≤ 5; omega, a4.1, a5⟩


theorem super_set {p : SPacket} {w : Int} (h : SuperOk p = true) (h1 : -1 ≤ w) (h2 : w ≤ 4095) : SuperOk (⟨p.DstMac, p.SrcMac, w, p.Tos, p.Id, p.Ttl, p.SrcIp, p.DstIp, p.Seg⟩ : SPacket) = true := by
  have hw : between w (-1) 4095 = true := between_iff.2 ⟨h1, h2⟩
  unfold SuperOk impl_SuperOk_t at h ⊢
  cases hv : between p.Vlan (-1) 4095
  · rw [hv] at h
    revert h
    cases between p.DstMac 0 281474976710655 <;> cases between p.SrcMac 0 281474976710655 <;> simp
  · rw [hv] at h
    simp only [hw]
    exact h
theorem leave_back {L : Rows} {p : SPacket} {k : Nat} {v : Int} (hP : PortsOk L = true) (hS : SuperOk p = true) (hk : k < L.length) (hh : hasInt (rR (nth L k) 1) v = true) (hst : rB (nth L k) 3 = false) :
    EntryVlan L (k : Int) (LeavePacket L (k : Int) v p) = v := by
  obtain ⟨h1, h8, hp⟩ := PortsOk_facts hP
  obtain ⟨v0, v1⟩ := FilterOk_vlans (port_good (hp k hk).1).1 hh
  have hb : between (k : Int) 0 (w64 ((len L) - 1)) = true := by
    have e : w64 ((len L) - 1) = (L.length : Int) - 1 := by simp only [len]; exact w64_in (by omega) (by omega)
    rw [e]
    exact (between_iff (n := (k : Int)) (a := 0) (b := (L.length : Int) - 1)).2 (by omega)
  unfold LeavePacket
  rw [hP, hb, hS, Int.toNat_natCast, hh]
  simp only [Bool.not_true, cond_false]
  by_cases hn : v = rI (nth L k) 2
  · rw [show (v == rI (nth L k) 2) = true by simpa using hn, cond_true]
    have hS' := super_set (w := -1) hS (by omega) (by omega)
    unfold EntryVlan
    rw [hP, hb, hS', Int.toNat_natCast, ← hn, hst]
    simp only [Bool.not_true, cond_false, beq_self_eq_true, cond_true, hh]
    cases ((k : Int) != 0) <;> rfl
  · rw [show (v == rI (nth L k) 2) = false by simpa using hn, cond_false]
    have hS' := super_set (w := v) hS (by omega) (by omega)
    have hne : (v == -1) = false := by simp only [beq_eq_false_iff_ne, ne_eq]; omega
    unfold EntryVlan
    rw [hP, hb, hS', Int.toNat_natCast]
    simp only [hne, hh, hst, Bool.not_true, cond_false]
    cases ((k : Int) != 0) <;> rfl

def laws_has_l0 {α : Type} (bad : α) (k_ : Bool → α) (list_ : Rows) (k : Int) (ih0 : Int → α) (i : Int) : α :=
  bif decide (i < len list_) then
    bif andt true (idx i list_) then
      bif (rI (nth list_ (Int.toNat i)) 0) == k then k_ true
      else ih0 (w64 (i + 1))
    else bad
  else k_ false
def laws_has_L0 {α : Type} (bad : α) (k_ : Bool → α) (N : Nat) (list_ : Rows) (k : Int) (m_ : Nat) : Int → α :=
  Nat.rec (motive := fun _ => Int → α) (fun _ => bad) (fun _ ih0 => laws_has_l0 bad k_ list_ k ih0) m_
theorem laws_has_L0_z {α : Type} (bad : α) (k_ : Bool → α) (N : Nat) (list_ : Rows) (k : Int) (i : Int) : laws_has_L0 bad k_ N list_ k 0 i = bad := rfl
theorem laws_has_L0_s {α : Type} (bad : α) (k_ : Bool → α) (N : Nat) (list_ : Rows) (k : Int) (m_ : Nat) (i : Int) : laws_has_L0 bad k_ N list_ k (m_ + 1) i = laws_has_l0 bad k_ list_ k (laws_has_L0 bad k_ N list_ k m_) i := rfl
def laws_has_t {α : Type} (bad : α) (k_ : Bool → α) (l0 : Int → α) (list_ : Rows) (k : Int) : α :=
  l0 0
def laws_has_f {α : Type} (bad : α) (k_ : Bool → α) (N : Nat) (list_ : Rows) (k : Int) : α := laws_has_t bad k_ (laws_has_L0 bad k_ N list_ k N) list_ k
theorem laws_has_c {α : Type} (bad : α) (k_ : Bool → α) (list_ : Rows) (k : Int) (h_list_ : WtC (.sl [.int .i64]) (.sl list_)) (h_k : WtC (.int .i64) (.int k)) : ∃ N, laws_has_f bad k_ N list_ k = k_ (hasInt list_ k) := by
  obtain ⟨hl, _⟩ := wt_sl h_list_
  refine ⟨list_.length + 1, ?_⟩
  unfold laws_has_f laws_has_t
  refine (loop_rows0 list_ (laws_has_L0 bad k_ (list_.length + 1) list_ k) (fun i r c => bif (rI r 0) == k then k_ true else c) (k_ false) ?_ ?_).trans ?_
  · intro n i h
    rw [laws_has_L0_s]
    simp only [laws_has_l0, lt_len h, idx_nat h, w64_succ h hl, Int.toNat_natCast, andt_true_l, andt_true_r, cond_true]
  · intro n
    rw [laws_has_L0_s]
    simp only [laws_has_l0, not_lt_len, cond_false]
  · exact (go_anyIdx (fun _ r => (rI r 0) == k) (k_ true) (k_ false) list_ 0).trans (by unfold hasInt; cases anyIdx (fun _ r => (rI r 0) == k) list_ 0 <;> rfl)

def laws_big_t {α : Type} (k_ : Bool → α) (code : Rows) : α :=
  k_ (decide (1048576 < len code))
def big (code : Rows) : Bool := laws_big_t id code
theorem laws_big_c {α : Type} (k_ : Bool → α) (code : Rows) : laws_big_t k_ code = k_ (big code) := by
  rfl

def laws_FnSwitched_l0 {α : Type} (bad : α) (k_ : Bool → α) (from_ : Int) (v : Int) (p : Int) (p_1 : Int) (p_2 : Int) (p_3 : Int) (p_4 : Int) (p_5 : Int) (p_6 : Int) (p_7 : Int) (p_8 : Int) (p_9 : Int) (p_10 : Int) (p_11 : Int) (p_12 : Int) (p_13 : Int) (p_14 : Int) (p_15 : Bytes) (list_ : Rows) (out_ : Rows) (ih0 : Int → α) (k : Int) : α :=
  let z0 : Bool := decide (rI (nth out_ (Int.toNat k)) 0 < 0)
  let z1 : Bool := andt (andt true (idx k out_)) (inl (Int.toNat k) out_)
  let z2 : Bool := decide (len list_ ≤ rI (nth out_ (Int.toNat k)) 0)
  let z3 : Bool := andt (andt z1 (idx k out_)) (inl (Int.toNat k) out_)
  let z4 : Bool := idx (rI (nth out_ (Int.toNat k)) 0) list_
  let z5 : Nat := Int.toNat (rI (nth out_ (Int.toNat k)) 0)
  let z6 : Bool := inl z5 list_
  let z7 : List DC := nth list_ z5
  let z8 : SPacket := (⟨p, p_1, p_2, p_3, p_4, p_5, p_6, p_7, (⟨p_8, p_9, p_10, p_11, p_12, p_13, p_14, p_15⟩ : SSegment)⟩ : SPacket)
  let z9 : Bool := (EntryVlan list_ (rI (nth out_ (Int.toNat k)) 0) (LeavePacket list_ (rI (nth out_ (Int.toNat k)) 0) v z8)) != v
  bif decide (k < len out_) then
    bif okm z0 z1 (okm z2 z3 (andt (andt (andt (andt z3 (idx k out_)) (inl (Int.toNat k) out_)) z4) z6)) then
      bif bif z0 then true else bif z2 then true else !(hasInt (rR z7 1) v) then k_ false
      else bif z1 then
          bif okm z9 (andt (andt z3 z4) z6) z1 then
            bif bif z9 then !(rB z7 3) else false then k_ false
            else ih0 (w64 (k + 1))
          else bad
        else bad
    else bad
  else k_ ((len out_) == (len (SwitchPacket list_ from_ z8)))
def laws_FnSwitched_L0 {α : Type} (bad : α) (k_ : Bool → α) (N : Nat) (from_ : Int) (v : Int) (p : Int) (p_1 : Int) (p_2 : Int) (p_3 : Int) (p_4 : Int) (p_5 : Int) (p_6 : Int) (p_7 : Int) (p_8 : Int) (p_9 : Int) (p_10 : Int) (p_11 : Int) (p_12 : Int) (p_13 : Int) (p_14 : Int) (p_15 : Bytes) (list_ : Rows) (out_ : Rows) (m_ : Nat) : Int → α :=
  Nat.rec (motive := fun _ => Int → α) (fun _ => bad) (fun _ ih0 => laws_FnSwitched_l0 bad k_ from_ v p p_1 p_2 p_3 p_4 p_5 p_6 p_7 p_8 p_9 p_10 p_11 p_12 p_13 p_14 p_15 list_ out_ ih0) m_
theorem laws_FnSwitched_L0_z {α : Type} (bad : α) (k_ : Bool → α) (N : Nat) (from_ : Int) (v : Int) (p : Int) (p_1 : Int) (p_2 : Int) (p_3 : Int) (p_4 : Int) (p_5 : Int) (p_6 : Int) (p_7 : Int) (p_8 : Int) (p_9 : Int) (p_10 : Int) (p_11 : Int) (p_12 : Int) (p_13 : Int) (p_14 : Int) (p_15 : Bytes) (list_ : Rows) (out_ : Rows) (k : Int) : laws_FnSwitched_L0 bad k_ N from_ v p p_1 p_2 p_3 p_4 p_5 p_6 p_7 p_8 p_9 p_10 p_11 p_12 p_13 p_14 p_15 list_ out_ 0 k = bad := rfl
theorem laws_FnSwitched_L0_s {α : Type} (bad : α) (k_ : Bool → α) (N : Nat) (from_ : Int) (v : Int) (p : Int) (p_1 : Int) (p_2 : Int) (p_3 : Int) (p_4 : Int) (p_5 : Int) (p_6 : Int) (p_7 : Int) (p_8 : Int) (p_9 : Int) (p_10 : Int) (p_11 : Int) (p_12 : Int) (p_13 : Int) (p_14 : Int) (p_15 : Bytes) (list_ : Rows) (out_ : Rows) (m_ : Nat) (k : Int) : laws_FnSwitched_L0 bad k_ N from_ v p p_1 p_2 p_3 p_4 p_5 p_6 p_7 p_8 p_9 p_10 p_11 p_12 p_13 p_14 p_15 list_ out_ (m_ + 1) k = laws_FnSwitched_l0 bad k_ from_ v p p_1 p_2 p_3 p_4 p_5 p_6 p_7 p_8 p_9 p_10 p_11 p_12 p_13 p_14 p_15 list_ out_ (laws_FnSwitched_L0 bad k_ N from_ v p p_1 p_2 p_3 p_4 p_5 p_6 p_7 p_8 p_9 p_10 p_11 p_12 p_13 p_14 p_15 list_ out_ m_) k := rfl
def laws_FnSwitched_t {α : Type} (bad : α) (k_ : Bool → α) (l0 : Int → Int → Int → Int → Int → Int → Int → Int → Int → Int → Int → Int → Int → Int → Int → Int → Int → Bytes → Rows → Rows → Int → α) (code : Rows) : α :=
  let z0 : Int := EntryVlan ((DrawSwitch code).1) ((DrawSwitch code).2.1) ((DrawSwitch code).2.2)
  let z1 : Rows := SwitchPacket ((DrawSwitch code).1) ((DrawSwitch code).2.1) ((DrawSwitch code).2.2)
  let z2 : Int := len z1
  let z3 : Bool := hasInt z1 ((DrawSwitch code).2.1)
  let z4 : Bool := bif (((DrawSwitch code).2.2).DstMac) != 281474976710655 then bif decide (1 < z2) then true else z3 else z3
  bif big code then k_ true
  else bif andt true (DrawSwitch_ok code) then
      bif bif z0 != z0 then true else bif decide (z0 < 0) then bif decide (0 < z2) then true else z4 else z4 then k_ false
      else l0 ((DrawSwitch code).2.1) z0 (((DrawSwitch code).2.2).DstMac) (((DrawSwitch code).2.2).SrcMac) (((DrawSwitch code).2.2).Vlan) (((DrawSwitch code).2.2).Tos) (((DrawSwitch code).2.2).Id) (((DrawSwitch code).2.2).Ttl) (((DrawSwitch code).2.2).SrcIp) (((DrawSwitch code).2.2).DstIp) ((((DrawSwitch code).2.2).Seg).Kind) ((((DrawSwitch code).2.2).Seg).SrcPort) ((((DrawSwitch code).2.2).Seg).DstPort) ((((DrawSwitch code).2.2).Seg).Seq) ((((DrawSwitch code).2.2).Seg).Ack) ((((DrawSwitch code).2.2).Seg).Flags) ((((DrawSwitch code).2.2).Seg).Window) ((((DrawSwitch code).2.2).Seg).Body) ((DrawSwitch code).1) z1 0
    else bad
def laws_FnSwitched_f {α : Type} (bad : α) (k_ : Bool → α) (N : Nat) (code : Rows) : α := laws_FnSwitched_t bad k_ (fun from_ v p p_1 p_2 p_3 p_4 p_5 p_6 p_7 p_8 p_9 p_10 p_11 p_12 p_13 p_14 p_15 list_ out_ => laws_FnSwitched_L0 bad k_ N from_ v p p_1 p_2 p_3 p_4 p_5 p_6 p_7 p_8 p_9 p_10 p_11 p_12 p_13 p_14 p_15 list_ out_ N) code
theorem laws_FnSwitched_c {α : Type} (bad : α) (k_ : Bool → α) (code : Rows) (h_code : WtC (.sl [.int .u8]) (.sl code)) (hok : fitL ((.sl [.int .u8]) :: ([])) (.sl code :: ([])) = true) : ∃ N, laws_FnSwitched_f bad k_ N code = k_ true := by
  obtain ⟨hl, _⟩ := wt_sl h_code
  obtain ⟨d0, d1, d2, d3, d4⟩ := DrawSwitch_k hl
  refine ⟨10, ?_⟩
  unfold laws_FnSwitched_f laws_FnSwitched_t
  cases big code
  · simp only [d0, andt_true_l, cond_true, cond_false]
    generalize DrawSwitch code = D at d1 d2 d3 d4 ⊢
    obtain ⟨L, a, p⟩ := D
    simp only at d1 d2 d3 d4 ⊢
    have hlen := sw_len L a p
    have hmem := fun r h => sw_mem (l := L) (a := a) (p := p) (r := r) h
    have hself : (EntryVlan L a p != EntryVlan L a p) = false := by simp
    have hfrom : hasInt (SwitchPacket L a p) a = false := by
      cases hh : hasInt (SwitchPacket L a p) a
      · rfl
      · obtain ⟨i, hi, e⟩ := hasInt_iff.1 hh
        obtain ⟨_, k, _, e2, e3, _⟩ := hmem _ (nth_mem hi)
        rw [e2] at e
        exact absurd e e3
    have hz4 : (bif p.DstMac != 281474976710655 then bif decide (1 < len (SwitchPacket L a p)) then true else false else false) = false := by
      by_cases hm : p.DstMac = 281474976710655
      · rw [show (p.DstMac != 281474976710655) = false by simpa using hm]
        rfl
      · have := hlen.2 hm
        rw [show (p.DstMac != 281474976710655) = true by simpa using hm, decide_eq_false (show ¬ 1 < len (SwitchPacket L a p) by simp only [len]; omega)]
        rfl
    have hneg : (bif decide (EntryVlan L a p < 0) then bif decide (0 < len (SwitchPacket L a p)) then true else false else false) = false := by
      by_cases hv : EntryVlan L a p < 0
      · have : SwitchPacket L a p = [] := by unfold SwitchPacket; rw [decide_eq_true hv]; rfl
        rw [this, decide_eq_true hv]
        rfl
      · rw [decide_eq_false hv]
        rfl
    simp only [hself, hfrom, hz4, hneg, cond_false]
    generalize hO : SwitchPacket L a p = O at hlen hmem ⊢
    have eta : (⟨p.DstMac, p.SrcMac, p.Vlan, p.Tos, p.Id, p.Ttl, p.SrcIp, p.DstIp, (⟨p.Seg.Kind, p.Seg.SrcPort, p.Seg.DstPort, p.Seg.Seq, p.Seg.Ack, p.Seg.Flags, p.Seg.Window, p.Seg.Body⟩ : SSegment)⟩ : SPacket) = p := rfl
    refine (loop_rowsN O (laws_FnSwitched_L0 bad k_ 10 a (EntryVlan L a p) p.DstMac p.SrcMac p.Vlan p.Tos p.Id p.Ttl p.SrcIp p.DstIp p.Seg.Kind p.Seg.SrcPort p.Seg.DstPort p.Seg.Seq p.Seg.Ack p.Seg.Flags p.Seg.Window p.Seg.Body L O) (fun i r c => c) (k_ true) ?_ ?_ 10 (by omega)).trans ?_
    · intro n i h
      rw [laws_FnSwitched_L0_s]
      obtain ⟨hv, k, hk, e, hka, hhas⟩ := hmem _ (nth_mem h)
      obtain ⟨hP, hS, _⟩ := ev_facts hv
      have er : rI (nth O i) 0 = (k : Int) := by rw [e]; rfl
      have n1 : decide ((k : Int) < 0) = false := decide_eq_false (by omega)
      have n2 : decide (len L ≤ (k : Int)) = false := decide_eq_false (by simp only [len]; omega)
      have hb := leave_back hP hS hk hhas
      simp only [laws_FnSwitched_l0, lt_len h, idx_nat h, inl_nat h, er, n1, n2, idx_nat hk, inl_nat hk, hhas, eta, Int.toNat_natCast, w64_in (show -9223372036854775808 ≤ (i : Int) + 1 by omega) (show (i : Int) + 1 ≤ 9223372036854775807 by omega), andt_true_l, andt_true_r, okm_tt, cond_true, cond_false, Bool.not_true]
      cases hst : rB (nth L k) 3
      · rw [hb hst]
        simp
      · cases (EntryVlan L (k : Int) (LeavePacket L (k : Int) (EntryVlan L a p) p) != EntryVlan L a p) <;> rfl
    · intro n
      rw [laws_FnSwitched_L0_s]
      simp only [laws_FnSwitched_l0, not_lt_len, eta, hO, beq_self_eq_true, cond_false]
    · exact go_skip (k_ true) O 0
  · exact rfl

end
end Go.Proofs.Ytklbgnodgnlebaa.Pl
