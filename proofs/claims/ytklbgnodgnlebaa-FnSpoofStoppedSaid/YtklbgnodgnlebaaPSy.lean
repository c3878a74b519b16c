/- What functions of the program compute, in plain Lean, as the value machine runs them. Conditions: none. -/
import Derived.Test.YtklbgnodgnlebaaPSx
import Derived.Test.YtklbgnodgnlebaaPPo
set_option linter.unusedVariables false
set_option linter.unusedSimpArgs false
set_option maxRecDepth 100000
namespace Go.Proofs.Ytklbgnodgnlebaa.Pl
open Vm
noncomputable section



theorem ev_facts {l : Rows} {a : Int} {p : SPacket} (h : ¬ EntryVlan l a p < 0) : PortsOk l = true ∧ SuperOk p = true ∧ between a 0 (w64 ((len l) - 1)) = true := by
  unfold EntryVlan at h
  cases h1 : PortsOk l
  · rw [h1] at h; exact absurd (show (-1 : Int) < 0 by decide) h
  cases h2 : SuperOk p
  · rw [h1, h2] at h; exact absurd (show (-1 : Int) < 0 by decide) h
  cases h3 : between a 0 (w64 ((len l) - 1))
  · rw [h1, h2, h3] at h; exact absurd (show (-1 : Int) < 0 by decide) h
  exact ⟨rfl, rfl, rfl⟩
/-! where a packet leaves -/
def rng (n : Nat) : Rows := (List.range n).map (fun (k : Nat) => [DC.int (k : Int)])
theorem rng_succ (n : Nat) : rng (n + 1) = rng n ++ [[.int (n : Int)]] := by simp [rng, List.range_succ]
theorem rng_len (n : Nat) : (rng n).length = n := by simp [rng]
def selr (l : Rows) (a v : Int) (r : List DC) : Bool := bif (rI r 0) != a then hasInt (rR (nth l (Int.toNat (rI r 0))) 1) v else false
def tgs (l : Rows) (m : Int) : Rows := bif decide (0 ≤ portWith l m) then [[.int (portWith l m)]] else bif m == 281474976710655 then rng l.length else [[.int 0]]
def SwitchPacket (list_ : Rows) (from_ : Int) (p : SPacket) : Rows := bif decide (EntryVlan list_ from_ p < 0) then [] else (tgs list_ p.DstMac).filter (selr list_ from_ (EntryVlan list_ from_ p))
theorem itN_filter (q : Nat → Bool) (o : Rows) : ∀ n, itN (fun k o => bif q k then o ++ [[.int (k : Int)]] else o) n 0 o = o ++ (rng n).filter (fun r => q (rI r 0).toNat)
  | 0 => by simp [itN, rng]
  | n + 1 => by
    rw [itN_snoc, itN_filter q o n, rng_succ, List.filter_append, Nat.zero_add]
    have e : (rI [DC.int (n : Int)] 0).toNat = n := rfl
    cases hq : q n
    · have : [[DC.int (n : Int)]].filter (fun r => q (rI r 0).toNat) = [] := by simp [List.filter, e, hq]
      rw [this, List.append_nil]
      rfl
    · have : [[DC.int (n : Int)]].filter (fun r => q (rI r 0).toNat) = [[DC.int (n : Int)]] := by simp [List.filter, e, hq]
      rw [this, ← List.append_assoc]
      rfl
theorem rng_one {P : List DC → Bool} {t : Nat} : ∀ n, t < n → (rng n).filter (fun r => P r && ((rI r 0).toNat == t)) = [[.int (t : Int)]].filter P
  | 0, h => by omega
  | n + 1, h => by
    rw [rng_succ, List.filter_append]
    have e : (rI [DC.int (n : Int)] 0).toNat = n := rfl
    by_cases ht : t = n
    · subst ht
      have h0 : (rng t).filter (fun r => P r && ((rI r 0).toNat == t)) = [] := by
        rw [List.filter_eq_nil_iff]
        intro r hr
        simp only [rng, List.mem_map, List.mem_range] at hr
        obtain ⟨k, hk, rfl⟩ := hr
        have : (rI [DC.int (k : Int)] 0).toNat = k := rfl
        simp only [this, Bool.and_eq_true, beq_iff_eq, not_and]
        omega
      rw [h0, List.nil_append]
      simp [List.filter, e]
    · have h1 : [[DC.int (n : Int)]].filter (fun r => P r && ((rI r 0).toNat == t)) = [] := by
        have : (n == t) = false := by simpa using fun h => ht h.symm
        simp [List.filter, e, this]
      rw [h1, List.append_nil]
      exact rng_one n (by omega)
theorem tgs_facts {l : Rows} {m : Int} (h : PortsOk l = true) : ∀ r ∈ tgs l m, ∃ k : Nat, k < l.length ∧ r = [.int (k : Int)] := by
  obtain ⟨h1, h8, _⟩ := PortsOk_facts h
  intro r hr
  unfold tgs at hr
  rcases portWith_spec l m with ⟨e, _⟩ | ⟨i, hi, h0, e, _⟩
  · rw [e] at hr
    cases hb : (m == 281474976710655)
    · rw [hb] at hr
      have hr : r ∈ [[DC.int 0]] := hr
      rw [List.mem_singleton] at hr
      exact ⟨0, by omega, hr⟩
    · rw [hb] at hr
      have hr : r ∈ rng l.length := hr
      simp only [rng, List.mem_map, List.mem_range] at hr
      obtain ⟨k, hk, rfl⟩ := hr
      exact ⟨k, hk, rfl⟩
  · rw [e, decide_eq_true (show (0 : Int) ≤ (i : Int) by omega), cond_true, List.mem_singleton] at hr
    exact ⟨i, hi, hr⟩
theorem tgs_len {l : Rows} {m : Int} (h : PortsOk l = true) : (tgs l m).length ≤ 8 ∧ (m ≠ 281474976710655 → (tgs l m).length ≤ 1) := by
  obtain ⟨h1, h8, _⟩ := PortsOk_facts h
  unfold tgs
  cases decide (0 ≤ portWith l m)
  · by_cases hm : m = 281474976710655
    · rw [show (m == 281474976710655) = true by simpa using hm]
      simp only [cond_false, cond_true, rng_len]
      exact ⟨h8, fun h => absurd hm h⟩
    · rw [show (m == 281474976710655) = false by simpa using hm]
      exact ⟨by simp, fun _ => by simp⟩
  · exact ⟨by simp, fun _ => by simp⟩
theorem sw_mem {l : Rows} {a : Int} {p : SPacket} {r : List DC} (h : r ∈ SwitchPacket l a p) : ¬ EntryVlan l a p < 0 ∧ ∃ k : Nat, k < l.length ∧ r = [.int (k : Int)] ∧ (k : Int) ≠ a ∧ hasInt (rR (nth l k) 1) (EntryVlan l a p) = true := by
  unfold SwitchPacket at h
  by_cases hv : EntryVlan l a p < 0
  · rw [decide_eq_true hv] at h
    cases h
  · rw [decide_eq_false hv, cond_false, List.mem_filter] at h
    obtain ⟨k, hk, rfl⟩ := tgs_facts (ev_facts hv).1 r h.1
    have hs := h.2
    unfold selr at hs
    rw [show rI [DC.int (k : Int)] 0 = (k : Int) from rfl] at hs
    refine ⟨hv, k, hk, rfl, ?_, ?_⟩
    · intro e
      rw [show ((k : Int) != a) = false by simpa using e] at hs
      cases hs
    · cases hb : ((k : Int) != a)
      · rw [hb] at hs; cases hs
      · rw [hb] at hs
        rw [Int.toNat_natCast] at hs
        exact hs
theorem sw_len (l : Rows) (a : Int) (p : SPacket) : (SwitchPacket l a p).length ≤ 8 ∧ (p.DstMac ≠ 281474976710655 → (SwitchPacket l a p).length ≤ 1) := by
  unfold SwitchPacket
  by_cases hv : EntryVlan l a p < 0
  · rw [decide_eq_true hv]
    exact ⟨by simp, fun _ => by simp⟩
  · rw [decide_eq_false hv, cond_false]
    have h1 := tgs_len (m := p.DstMac) (ev_facts hv).1
    have h2 := List.length_filter_le (selr l a (EntryVlan l a p)) (tgs l p.DstMac)
    exact ⟨by omega, fun hm => by have := h1.2 hm; omega⟩

def impl_SwitchPacket_l0 {α : Type} (bad : α) (k_ : Rows → α) (list_ : Rows) (from_ : Int) (vlan : Int) (x : Int) (p_1 : Int) (p_2 : Int) (p_3 : Int) (p_4 : Int) (p_5 : Int) (p_6 : Int) (p_7 : Int) (p_8 : Int) (p_9 : Int) (p_10 : Int) (p_11 : Int) (p_12 : Int) (p_13 : Int) (p_14 : Int) (p_15 : Int) (p_16 : Bytes) (x_2 : Rows) (ih0 : Int → Rows → α) (x_1 : Int) (out_ : Rows) : α :=
  let z0 : Bool := (rI (nth x_2 (Int.toNat x_1)) 0) != from_
  bif decide (x_1 < x) then
    bif andt (andt true (idx x_1 x_2)) (inl (Int.toNat x_1) x_2) then
      bif okm z0 (andt true (idx (rI (nth x_2 (Int.toNat x_1)) 0) list_)) true then
        bif bif z0 then hasInt (rR (nth list_ (Int.toNat (rI (nth x_2 (Int.toNat x_1)) 0))) 1) vlan else false then
          bif andt true (room2 8 out_ ([[.int (rI (nth x_2 (Int.toNat x_1)) 0)]])) then
            ih0 (w64 (x_1 + 1)) (out_ ++ ([[.int (rI (nth x_2 (Int.toNat x_1)) 0)]]))
          else bad
        else ih0 (w64 (x_1 + 1)) out_
      else bad
    else bad
  else k_ out_
def impl_SwitchPacket_l1 {α : Type} (bad : α) (k_ : Rows → α) (l0 : Int → Int → Int → Int → Int → Int → Int → Int → Int → Int → Int → Int → Int → Int → Int → Int → Int → Bytes → Rows → Int → Rows → α) (list_ : Rows) (from_ : Int) (vlan_1 : Int) (x_3 : Int) (p_17 : Int) (p_18 : Int) (p_19 : Int) (p_20 : Int) (p_21 : Int) (p_22 : Int) (p_23 : Int) (p_24 : Int) (p_25 : Int) (p_26 : Int) (p_27 : Int) (p_28 : Int) (p_29 : Int) (p_30 : Int) (p_31 : Int) (p_32 : Bytes) (ih1 : Int → Rows → α) (x_4 : Int) (to : Rows) : α :=
  bif decide (x_4 < x_3) then
    bif andt true (room2 8 to ([[.int x_4]])) then
      ih1 (w64 (x_4 + 1)) (to ++ ([[.int x_4]]))
    else bad
  else l0 vlan_1 (len to) p_17 p_18 p_19 p_20 p_21 p_22 p_23 p_24 p_25 p_26 p_27 p_28 p_29 p_30 p_31 p_32 to 0 []
def impl_SwitchPacket_L0 {α : Type} (bad : α) (k_ : Rows → α) (N : Nat) (list_ : Rows) (from_ : Int) (vlan : Int) (x : Int) (p_1 : Int) (p_2 : Int) (p_3 : Int) (p_4 : Int) (p_5 : Int) (p_6 : Int) (p_7 : Int) (p_8 : Int) (p_9 : Int) (p_10 : Int) (p_11 : Int) (p_12 : Int) (p_13 : Int) (p_14 : Int) (p_15 : Int) (p_16 : Bytes) (x_2 : Rows) (m_ : Nat) : Int → Rows → α :=
  Nat.rec (motive := fun _ => Int → Rows → α) (fun _ _ => bad) (fun _ ih0 => impl_SwitchPacket_l0 bad k_ list_ from_ vlan x p_1 p_2 p_3 p_4 p_5 p_6 p_7 p_8 p_9 p_10 p_11 p_12 p_13 p_14 p_15 p_16 x_2 ih0) m_
theorem impl_SwitchPacket_L0_z {α : Type} (bad : α) (k_ : Rows → α) (N : Nat) (list_ : Rows) (from_ : Int) (vlan : Int) (x : Int) (p_1 : Int) (p_2 : Int) (p_3 : Int) (p_4 : Int) (p_5 : Int) (p_6 : Int) (p_7 : Int) (p_8 : Int) (p_9 : Int) (p_10 : Int) (p_11 : Int) (p_12 : Int) (p_13 : Int) (p_14 : Int) (p_15 : Int) (p_16 : Bytes) (x_2 : Rows) (x_1 : Int) (out_ : Rows) : impl_SwitchPacket_L0 bad k_ N list_ from_ vlan x p_1 p_2 p_3 p_4 p_5 p_6 p_7 p_8 p_9 p_10 p_11 p_12 p_13 p_14 p_15 p_16 x_2 0 x_1 out_ = bad := rfl
theorem impl_SwitchPacket_L0_s {α : Type} (bad : α) (k_ : Rows → α) (N : Nat) (list_ : Rows) (from_ : Int) (vlan : Int) (x : Int) (p_1 : Int) (p_2 : Int) (p_3 : Int) (p_4 : Int) (p_5 : Int) (p_6 : Int) (p_7 : Int) (p_8 : Int) (p_9 : Int) (p_10 : Int) (p_11 : Int) (p_12 : Int) (p_13 : Int) (p_14 : Int) (p_15 : Int) (p_16 : Bytes) (x_2 : Rows) (m_ : Nat) (x_1 : Int) (out_ : Rows) : impl_SwitchPacket_L0 bad k_ N list_ from_ vlan x p_1 p_2 p_3 p_4 p_5 p_6 p_7 p_8 p_9 p_10 p_11 p_12 p_13 p_14 p_15 p_16 x_2 (m_ + 1) x_1 out_ = impl_SwitchPacket_l0 bad k_ list_ from_ vlan x p_1 p_2 p_3 p_4 p_5 p_6 p_7 p_8 p_9 p_10 p_11 p_12 p_13 p_14 p_15 p_16 x_2 (impl_SwitchPacket_L0 bad k_ N list_ from_ vlan x p_1 p_2 p_3 p_4 p_5 p_6 p_7 p_8 p_9 p_10 p_11 p_12 p_13 p_14 p_15 p_16 x_2 m_) x_1 out_ := rfl
def impl_SwitchPacket_L1 {α : Type} (bad : α) (k_ : Rows → α) (N : Nat) (list_ : Rows) (from_ : Int) (vlan_1 : Int) (x_3 : Int) (p_17 : Int) (p_18 : Int) (p_19 : Int) (p_20 : Int) (p_21 : Int) (p_22 : Int) (p_23 : Int) (p_24 : Int) (p_25 : Int) (p_26 : Int) (p_27 : Int) (p_28 : Int) (p_29 : Int) (p_30 : Int) (p_31 : Int) (p_32 : Bytes) (m_ : Nat) : Int → Rows → α :=
  Nat.rec (motive := fun _ => Int → Rows → α) (fun _ _ => bad) (fun _ ih1 => impl_SwitchPacket_l1 bad k_ (fun vlan x p_1 p_2 p_3 p_4 p_5 p_6 p_7 p_8 p_9 p_10 p_11 p_12 p_13 p_14 p_15 p_16 x_2 => impl_SwitchPacket_L0 bad k_ N list_ from_ vlan x p_1 p_2 p_3 p_4 p_5 p_6 p_7 p_8 p_9 p_10 p_11 p_12 p_13 p_14 p_15 p_16 x_2 N) list_ from_ vlan_1 x_3 p_17 p_18 p_19 p_20 p_21 p_22 p_23 p_24 p_25 p_26 p_27 p_28 p_29 p_30 p_31 p_32 ih1) m_
theorem impl_SwitchPacket_L1_z {α : Type} (bad : α) (k_ : Rows → α) (N : Nat) (list_ : Rows) (from_ : Int) (vlan_1 : Int) (x_3 : Int) (p_17 : Int) (p_18 : Int) (p_19 : Int) (p_20 : Int) (p_21 : Int) (p_22 : Int) (p_23 : Int) (p_24 : Int) (p_25 : Int) (p_26 : Int) (p_27 : Int) (p_28 : Int) (p_29 : Int) (p_30 : Int) (p_31 : Int) (p_32 : Bytes) (x_4 : Int) (to : Rows) : impl_SwitchPacket_L1 bad k_ N list_ from_ vlan_1 x_3 p_17 p_18 p_19 p_20 p_21 p_22 p_23 p_24 p_25 p_26 p_27 p_28 p_29 p_30 p_31 p_32 0 x_4 to = bad := rfl
theorem impl_SwitchPacket_L1_s {α : Type} (bad : α) (k_ : Rows → α) (N : Nat) (list_ : Rows) (from_ : Int) (vlan_1 : Int) (x_3 : Int) (p_17 : Int) (p_18 : Int) (p_19 : Int) (p_20 : Int) (p_21 : Int) (p_22 : Int) (p_23 : Int) (p_24 : Int) (p_25 : Int) (p_26 : Int) (p_27 : Int) (p_28 : Int) (p_29 : Int) (p_30 : Int) (p_31 : Int) (p_32 : Bytes) (m_ : Nat) (x_4 : Int) (to : Rows) : impl_SwitchPacket_L1 bad k_ N list_ from_ vlan_1 x_3 p_17 p_18 p_19 p_20 p_21 p_22 p_23 p_24 p_25 p_26 p_27 p_28 p_29 p_30 p_31 p_32 (m_ + 1) x_4 to = impl_SwitchPacket_l1 bad k_ (fun vlan x p_1 p_2 p_3 p_4 p_5 p_6 p_7 p_8 p_9 p_10 p_11 p_12 p_13 p_14 p_15 p_16 x_2 => impl_SwitchPacket_L0 bad k_ N list_ from_ vlan x p_1 p_2 p_3 p_4 p_5 p_6 p_7 p_8 p_9 p_10 p_11 p_12 p_13 p_14 p_15 p_16 x_2 N) list_ from_ vlan_1 x_3 p_17 p_18 p_19 p_20 p_21 p_22 p_23 p_24 p_25 p_26 p_27 p_28 p_29 p_30 p_31 p_32 (impl_SwitchPacket_L1 bad k_ N list_ from_ vlan_1 x_3 p_17 p_18 p_19 p_20 p_21 p_22 p_23 p_24 p_25 p_26 p_27 p_28 p_29 p_30 p_31 p_32 m_) x_4 to := rfl
def impl_SwitchPacket_t {α : Type} (bad : α) (k_ : Rows → α) (l0 : Int → Int → Int → Int → Int → Int → Int → Int → Int → Int → Int → Int → Int → Int → Int → Int → Int → Bytes → Rows → Int → Rows → α) (l1 : Int → Int → Int → Int → Int → Int → Int → Int → Int → Int → Int → Int → Int → Int → Int → Int → Int → Bytes → Int → Rows → α) (list_ : Rows) (from_ : Int) (p : SPacket) : α :=
  bif decide (EntryVlan list_ from_ p < 0) then k_ []
  else bif decide (0 ≤ portWith list_ p.DstMac) then l0 (EntryVlan list_ from_ p) 1 p.DstMac p.SrcMac p.Vlan p.Tos p.Id p.Ttl p.SrcIp p.DstIp p.Seg.Kind p.Seg.SrcPort p.Seg.DstPort p.Seg.Seq p.Seg.Ack p.Seg.Flags p.Seg.Window p.Seg.Body ([[.int (portWith list_ p.DstMac)]]) 0 []
  else bif p.DstMac == 281474976710655 then l1 (EntryVlan list_ from_ p) (len list_) p.DstMac p.SrcMac p.Vlan p.Tos p.Id p.Ttl p.SrcIp p.DstIp p.Seg.Kind p.Seg.SrcPort p.Seg.DstPort p.Seg.Seq p.Seg.Ack p.Seg.Flags p.Seg.Window p.Seg.Body 0 []
  else l0 (EntryVlan list_ from_ p) 1 p.DstMac p.SrcMac p.Vlan p.Tos p.Id p.Ttl p.SrcIp p.DstIp p.Seg.Kind p.Seg.SrcPort p.Seg.DstPort p.Seg.Seq p.Seg.Ack p.Seg.Flags p.Seg.Window p.Seg.Body ([[.int 0]]) 0 []
def impl_SwitchPacket_f {α : Type} (bad : α) (k_ : Rows → α) (N : Nat) (list_ : Rows) (from_ : Int) (p : SPacket) : α := impl_SwitchPacket_t bad k_ (fun vlan x p_1 p_2 p_3 p_4 p_5 p_6 p_7 p_8 p_9 p_10 p_11 p_12 p_13 p_14 p_15 p_16 x_2 => impl_SwitchPacket_L0 bad k_ N list_ from_ vlan x p_1 p_2 p_3 p_4 p_5 p_6 p_7 p_8 p_9 p_10 p_11 p_12 p_13 p_14 p_15 p_16 x_2 N) (fun vlan_1 x_3 p_17 p_18 p_19 p_20 p_21 p_22 p_23 p_24 p_25 p_26 p_27 p_28 p_29 p_30 p_31 p_32 => impl_SwitchPacket_L1 bad k_ N list_ from_ vlan_1 x_3 p_17 p_18 p_19 p_20 p_21 p_22 p_23 p_24 p_25 p_26 p_27 p_28 p_29 p_30 p_31 p_32 N) list_ from_ p
theorem impl_SwitchPacket_c {α : Type} (bad : α) (k_ : Rows → α) (list_ : Rows) (from_ : Int) (p : SPacket) (h_list_ : WtC (.sl [.int .i64, .sl [.int .i64], .int .i64, .bool]) (.sl list_)) (h_from_ : WtC (.int .i64) (.int from_)) (h_p : WtL SPacket.ct p.enc) : ∃ N, impl_SwitchPacket_f bad k_ N list_ from_ p = k_ (SwitchPacket list_ from_ p) := by
  obtain ⟨hl, _⟩ := wt_sl h_list_
  refine ⟨10, ?_⟩
  unfold impl_SwitchPacket_f impl_SwitchPacket_t SwitchPacket
  by_cases hv : EntryVlan list_ from_ p < 0
  · rw [decide_eq_true hv]
    rfl
  rw [decide_eq_false hv]
  simp only [cond_false]
  have hP := (ev_facts hv).1
  obtain ⟨h1, h8, _⟩ := PortsOk_facts hP
  have hT := tgs_facts (m := p.DstMac) hP
  have hTl := (tgs_len (m := p.DstMac) hP).1
  generalize EntryVlan list_ from_ p = v
  have key : ∀ (x : Int) (p_1 p_2 p_3 p_4 p_5 p_6 p_7 p_8 p_9 p_10 p_11 p_12 p_13 p_14 p_15 : Int) (p_16 : Bytes) (T : Rows), x = len T → T.length ≤ 8 → (∀ r ∈ T, ∃ k : Nat, k < list_.length ∧ r = [.int (k : Int)]) →
      impl_SwitchPacket_L0 bad k_ 10 list_ from_ v x p_1 p_2 p_3 p_4 p_5 p_6 p_7 p_8 p_9 p_10 p_11 p_12 p_13 p_14 p_15 p_16 T 10 0 [] = k_ (T.filter (selr list_ from_ v)) := by
    intro x p_1 p_2 p_3 p_4 p_5 p_6 p_7 p_8 p_9 p_10 p_11 p_12 p_13 p_14 p_15 p_16 T hx hT8 hTm
    subst hx
    refine (loop_inv T.length (fun n i o => impl_SwitchPacket_L0 bad k_ 10 list_ from_ v (len T) p_1 p_2 p_3 p_4 p_5 p_6 p_7 p_8 p_9 p_10 p_11 p_12 p_13 p_14 p_15 p_16 T n i o) (fun i o => bif selr list_ from_ v (nth T i) then o ++ [nth T i] else o) (fun o => k_ o) (fun i o => o.length ≤ i) ?_ ?_ ?_ 10 [] (by simp) (by omega)).trans ?_
    · intro i o hi ho
      cases selr list_ from_ v (nth T i)
      · simp only [cond_false]; omega
      · simp only [cond_true, List.length_append, List.length_cons, List.length_nil]; omega
    · intro n i o hi ho
      show impl_SwitchPacket_L0 bad k_ 10 list_ from_ v (len T) p_1 p_2 p_3 p_4 p_5 p_6 p_7 p_8 p_9 p_10 p_11 p_12 p_13 p_14 p_15 p_16 T (n + 1) (i : Int) o = _
      rw [impl_SwitchPacket_L0_s]
      obtain ⟨k, hk, hr⟩ := hTm (nth T i) (nth_mem hi)
      have er : rI (nth T i) 0 = (k : Int) := by rw [hr]; rfl
      have hroom : ∀ q : List DC, room2 8 o [q] = true := fun q => room2_le (by simp only [List.length_cons, List.length_nil]; omega) (by omega)
      have hes : selr list_ from_ v (nth T i) = (bif (k : Int) != from_ then hasInt (rR (nth list_ k) 1) v else false) := by
        unfold selr
        rw [er, Int.toNat_natCast]
      simp only [impl_SwitchPacket_l0, lt_len hi, idx_nat hi, inl_nat hi, er, idx_nat hk, hroom, w64_in (show -9223372036854775808 ≤ (i : Int) + 1 by omega) (show (i : Int) + 1 ≤ 9223372036854775807 by omega), Int.toNat_natCast, andt_true_l, andt_true_r, okm_tt, cond_true, hes]
      cases hsel : (bif (k : Int) != from_ then hasInt (rR (nth list_ k) 1) v else false)
      · rfl
      · rw [cond_true, cond_true, hr]
    · intro n o ho
      show impl_SwitchPacket_L0 bad k_ 10 list_ from_ v (len T) p_1 p_2 p_3 p_4 p_5 p_6 p_7 p_8 p_9 p_10 p_11 p_12 p_13 p_14 p_15 p_16 T (n + 1) (T.length : Int) o = _
      rw [impl_SwitchPacket_L0_s]
      simp only [impl_SwitchPacket_l0, not_lt_len, cond_false]
    · have : ∀ (q : List DC → Bool) (T : Rows), itN (fun i o => bif q (nth T i) then o ++ [nth T i] else o) T.length 0 [] = T.filter q := by
        intro q T
        have gen : ∀ (m : Nat), m ≤ T.length → itN (fun i o => bif q (nth T i) then o ++ [nth T i] else o) m 0 [] = (T.take m).filter q := by
          intro m
          induction m with
          | zero => intro _; simp [itN]
          | succ m ih =>
            intro hm
            have hm' : m < T.length := by omega
            rw [itN_snoc, ih (by omega), Nat.zero_add, List.take_add_one, List.getElem?_eq_getElem hm', List.filter_append]
            have en : nth T m = T[m] := by simp only [nth, List.getD_eq_getElem?_getD, List.getElem?_eq_getElem hm']; rfl
            rw [en]
            cases hq : q T[m]
            · simp [List.filter, hq]
            · simp [List.filter, hq]
        rw [gen T.length (Nat.le_refl _), List.take_length]
      exact congrArg k_ (this _ T)
  unfold tgs at hT hTl ⊢
  by_cases h0 : 0 ≤ portWith list_ p.DstMac
  · rw [decide_eq_true h0] at hT hTl ⊢
    simp only [cond_true] at hT hTl ⊢
    exact key _ _ _ _ _ _ _ _ _ _ _ _ _ _ _ _ _ _ rfl hTl hT
  · rw [decide_eq_false h0] at hT hTl ⊢
    simp only [cond_false] at hT hTl ⊢
    cases hb : (p.DstMac == 281474976710655)
    · rw [hb] at hT hTl
      simp only [cond_false] at hT hTl ⊢
      exact key _ _ _ _ _ _ _ _ _ _ _ _ _ _ _ _ _ _ rfl hTl hT
    · rw [hb] at hT hTl
      simp only [cond_true] at hT hTl ⊢
      have k1 : ∀ (x : Int) (p_17 p_18 p_19 p_20 p_21 p_22 p_23 p_24 p_25 p_26 p_27 p_28 p_29 p_30 p_31 : Int) (p_32 : Bytes), x = len list_ →
          impl_SwitchPacket_L1 bad k_ 10 list_ from_ v x p_17 p_18 p_19 p_20 p_21 p_22 p_23 p_24 p_25 p_26 p_27 p_28 p_29 p_30 p_31 p_32 10 0 [] = k_ ((rng list_.length).filter (selr list_ from_ v)) := by
        intro x p_17 p_18 p_19 p_20 p_21 p_22 p_23 p_24 p_25 p_26 p_27 p_28 p_29 p_30 p_31 p_32 hx
        subst hx
        refine (loop_inv list_.length (fun n i o => impl_SwitchPacket_L1 bad k_ 10 list_ from_ v (len list_) p_17 p_18 p_19 p_20 p_21 p_22 p_23 p_24 p_25 p_26 p_27 p_28 p_29 p_30 p_31 p_32 n i o) (fun i o => o ++ [[.int (i : Int)]]) (fun o => impl_SwitchPacket_L0 bad k_ 10 list_ from_ v (len o) p_17 p_18 p_19 p_20 p_21 p_22 p_23 p_24 p_25 p_26 p_27 p_28 p_29 p_30 p_31 p_32 o 10 0 []) (fun i o => o.length ≤ i) ?_ ?_ ?_ 10 [] (by simp) (by omega)).trans ?_
        · intro i o hi ho
          simp only [List.length_append, List.length_cons, List.length_nil]; omega
        · intro n i o hi ho
          show impl_SwitchPacket_L1 bad k_ 10 list_ from_ v (len list_) p_17 p_18 p_19 p_20 p_21 p_22 p_23 p_24 p_25 p_26 p_27 p_28 p_29 p_30 p_31 p_32 (n + 1) (i : Int) o = _
          rw [impl_SwitchPacket_L1_s]
          have hroom : ∀ q : List DC, room2 8 o [q] = true := fun q => room2_le (by simp only [List.length_cons, List.length_nil]; omega) (by omega)
          simp only [impl_SwitchPacket_l1, lt_len hi, hroom, w64_in (show -9223372036854775808 ≤ (i : Int) + 1 by omega) (show (i : Int) + 1 ≤ 9223372036854775807 by omega), andt_true_l, cond_true]
        · intro n o ho
          show impl_SwitchPacket_L1 bad k_ 10 list_ from_ v (len list_) p_17 p_18 p_19 p_20 p_21 p_22 p_23 p_24 p_25 p_26 p_27 p_28 p_29 p_30 p_31 p_32 (n + 1) (list_.length : Int) o = _
          rw [impl_SwitchPacket_L1_s]
          simp only [impl_SwitchPacket_l1, not_lt_len, cond_false]
        · have e := itN_filter (fun _ => true) [] list_.length
          simp only [cond_true, List.nil_append] at e
          have e2 : (rng list_.length).filter (fun _ => true) = rng list_.length := List.filter_eq_self.2 (fun _ _ => rfl)
          rw [e, e2]
          exact key _ _ _ _ _ _ _ _ _ _ _ _ _ _ _ _ _ _ rfl hTl hT
      exact k1 _ _ _ _ _ _ _ _ _ _ _ _ _ _ _ _ _ rfl

def spec_SwitchPacket_l0 {α : Type} (bad : α) (k_ : Rows → α) (l1 : Int → Int → Rows → α) (list_ : Rows) (from_ : Int) (v : Int) (p_1 : Int) (out_ : Rows) (ih0 : Int → Int → α) (to : Int) (k : Int) : α :=
  bif decide (k < len list_) then
    bif andt true (idx k list_) then
      ih0 (bif (rI (nth list_ (Int.toNat k)) 0) == p_1 then k else to) (w64 (k + 1))
    else bad
  else l1 to 0 out_
def spec_SwitchPacket_l1 {α : Type} (bad : α) (k_ : Rows → α) (list_ : Rows) (from_ : Int) (v : Int) (to : Int) (p_1 : Int) (ih1 : Int → Rows → α) (k_1 : Int) (out_1 : Rows) : α :=
  let z0 : Bool := hasInt (rR (nth list_ (Int.toNat k_1)) 1) v
  bif decide (k_1 < len list_) then
    bif okm (k_1 != from_) (okm z0 (okm (k_1 == to) (andt true (idx k_1 list_)) (andt true (idx k_1 list_))) (andt true (idx k_1 list_))) true then
      bif bif k_1 != from_ then bif z0 then bif k_1 == to then true else p_1 == 281474976710655 else false else false then
        bif andt true (room2 8 out_1 ([[.int k_1]])) then
          ih1 (w64 (k_1 + 1)) (out_1 ++ ([[.int k_1]]))
        else bad
      else ih1 (w64 (k_1 + 1)) out_1
    else bad
  else k_ out_1
def spec_SwitchPacket_L1 {α : Type} (bad : α) (k_ : Rows → α) (N : Nat) (list_ : Rows) (from_ : Int) (v : Int) (to : Int) (p_1 : Int) (m_ : Nat) : Int → Rows → α :=
  Nat.rec (motive := fun _ => Int → Rows → α) (fun _ _ => bad) (fun _ ih1 => spec_SwitchPacket_l1 bad k_ list_ from_ v to p_1 ih1) m_
theorem spec_SwitchPacket_L1_z {α : Type} (bad : α) (k_ : Rows → α) (N : Nat) (list_ : Rows) (from_ : Int) (v : Int) (to : Int) (p_1 : Int) (k_1 : Int) (out_1 : Rows) : spec_SwitchPacket_L1 bad k_ N list_ from_ v to p_1 0 k_1 out_1 = bad := rfl
theorem spec_SwitchPacket_L1_s {α : Type} (bad : α) (k_ : Rows → α) (N : Nat) (list_ : Rows) (from_ : Int) (v : Int) (to : Int) (p_1 : Int) (m_ : Nat) (k_1 : Int) (out_1 : Rows) : spec_SwitchPacket_L1 bad k_ N list_ from_ v to p_1 (m_ + 1) k_1 out_1 = spec_SwitchPacket_l1 bad k_ list_ from_ v to p_1 (spec_SwitchPacket_L1 bad k_ N list_ from_ v to p_1 m_) k_1 out_1 := rfl
def spec_SwitchPacket_L0 {α : Type} (bad : α) (k_ : Rows → α) (N : Nat) (list_ : Rows) (from_ : Int) (v : Int) (p_1 : Int) (out_ : Rows) (m_ : Nat) : Int → Int → α :=
  Nat.rec (motive := fun _ => Int → Int → α) (fun _ _ => bad) (fun _ ih0 => spec_SwitchPacket_l0 bad k_ (fun to => spec_SwitchPacket_L1 bad k_ N list_ from_ v to p_1 N) list_ from_ v p_1 out_ ih0) m_
theorem spec_SwitchPacket_L0_z {α : Type} (bad : α) (k_ : Rows → α) (N : Nat) (list_ : Rows) (from_ : Int) (v : Int) (p_1 : Int) (out_ : Rows) (to : Int) (k : Int) : spec_SwitchPacket_L0 bad k_ N list_ from_ v p_1 out_ 0 to k = bad := rfl
theorem spec_SwitchPacket_L0_s {α : Type} (bad : α) (k_ : Rows → α) (N : Nat) (list_ : Rows) (from_ : Int) (v : Int) (p_1 : Int) (out_ : Rows) (m_ : Nat) (to : Int) (k : Int) : spec_SwitchPacket_L0 bad k_ N list_ from_ v p_1 out_ (m_ + 1) to k = spec_SwitchPacket_l0 bad k_ (fun to => spec_SwitchPacket_L1 bad k_ N list_ from_ v to p_1 N) list_ from_ v p_1 out_ (spec_SwitchPacket_L0 bad k_ N list_ from_ v p_1 out_ m_) to k := rfl
def spec_SwitchPacket_t {α : Type} (bad : α) (k_ : Rows → α) (l0 : Int → Int → Rows → Int → Int → α) (list_ : Rows) (from_ : Int) (p : SPacket) : α :=
  bif decide (EntryVlan list_ from_ p < 0) then k_ []
  else l0 (EntryVlan list_ from_ p) p.DstMac [] 0 1
def spec_SwitchPacket_f {α : Type} (bad : α) (k_ : Rows → α) (N : Nat) (list_ : Rows) (from_ : Int) (p : SPacket) : α := spec_SwitchPacket_t bad k_ (fun v p_1 out_ => spec_SwitchPacket_L0 bad k_ N list_ from_ v p_1 out_ N) list_ from_ p
theorem spec_SwitchPacket_c {α : Type} (bad : α) (k_ : Rows → α) (list_ : Rows) (from_ : Int) (p : SPacket) (h_list_ : WtC (.sl [.int .i64, .sl [.int .i64], .int .i64, .bool]) (.sl list_)) (h_from_ : WtC (.int .i64) (.int from_)) (h_p : WtL SPacket.ct p.enc) : ∃ N, spec_SwitchPacket_f bad k_ N list_ from_ p = k_ (SwitchPacket list_ from_ p) := by
  obtain ⟨hl, _⟩ := wt_sl h_list_
  refine ⟨10, ?_⟩
  unfold spec_SwitchPacket_f spec_SwitchPacket_t SwitchPacket
  by_cases hv : EntryVlan list_ from_ p < 0
  · rw [decide_eq_true hv]
    rfl
  rw [decide_eq_false hv]
  simp only [cond_false]
  have hP := (ev_facts hv).1
  obtain ⟨h1, h8, hports⟩ := PortsOk_facts hP
  generalize EntryVlan list_ from_ p = v
  have k1 : ∀ t : Int, spec_SwitchPacket_L1 bad k_ 10 list_ from_ v t p.DstMac 10 0 [] = k_ ((rng list_.length).filter (fun r => bif ((rI r 0).toNat : Int) != from_ then bif hasInt (rR (nth list_ (rI r 0).toNat) 1) v then bif ((rI r 0).toNat : Int) == t then true else p.DstMac == 281474976710655 else false else false)) := by
    intro t
    refine (loop_inv list_.length (fun n i o => spec_SwitchPacket_L1 bad k_ 10 list_ from_ v t p.DstMac n i o) (fun k o => bif (bif (k : Int) != from_ then bif hasInt (rR (nth list_ k) 1) v then bif (k : Int) == t then true else p.DstMac == 281474976710655 else false else false) then o ++ [[.int (k : Int)]] else o) (fun o => k_ o) (fun i o => o.length ≤ i) ?_ ?_ ?_ 10 [] (by simp) (by omega)).trans ?_
    · intro k o hi ho
      show List.length (bif (bif (k : Int) != from_ then bif hasInt (rR (nth list_ k) 1) v then bif (k : Int) == t then true else p.DstMac == 281474976710655 else false else false) then o ++ [[.int (k : Int)]] else o) ≤ k + 1
      cases (bif (k : Int) != from_ then bif hasInt (rR (nth list_ k) 1) v then bif (k : Int) == t then true else p.DstMac == 281474976710655 else false else false)
      · simp only [cond_false]; omega
      · simp only [cond_true, List.length_append, List.length_cons, List.length_nil]; omega
    · intro n i o hi ho
      show spec_SwitchPacket_L1 bad k_ 10 list_ from_ v t p.DstMac (n + 1) (i : Int) o = _
      rw [spec_SwitchPacket_L1_s]
      have hroom : ∀ q : List DC, room2 8 o [q] = true := fun q => room2_le (by simp only [List.length_cons, List.length_nil]; omega) (by omega)
      simp only [spec_SwitchPacket_l1, lt_len hi, idx_nat hi, hroom, w64_in (show -9223372036854775808 ≤ (i : Int) + 1 by omega) (show (i : Int) + 1 ≤ 9223372036854775807 by omega), Int.toNat_natCast, andt_true_l, andt_true_r, okm_tt, cond_true]
      cases (bif (i : Int) != from_ then bif hasInt (rR (nth list_ i) 1) v then bif (i : Int) == t then true else p.DstMac == 281474976710655 else false else false) <;> rfl
    · intro n o ho
      show spec_SwitchPacket_L1 bad k_ 10 list_ from_ v t p.DstMac (n + 1) (list_.length : Int) o = _
      rw [spec_SwitchPacket_L1_s]
      simp only [spec_SwitchPacket_l1, not_lt_len, cond_false]
    · have e := itN_filter (fun k => bif (k : Int) != from_ then bif hasInt (rR (nth list_ k) 1) v then bif (k : Int) == t then true else p.DstMac == 281474976710655 else false else false) [] list_.length
      rw [List.nil_append] at e
      exact congrArg k_ e
  have k0 : spec_SwitchPacket_L0 bad k_ 10 list_ from_ v p.DstMac [] 10 0 1 = spec_SwitchPacket_L1 bad k_ 10 list_ from_ v (itN (fun j t => bif (rI (nth list_ (j + 1)) 0) == p.DstMac then ((j + 1 : Nat) : Int) else t) (list_.length - 1) 0 0) p.DstMac 10 0 [] := by
    refine (loop_inv (list_.length - 1) (fun n j t => spec_SwitchPacket_L0 bad k_ 10 list_ from_ v p.DstMac [] n t (j + 1)) (fun j t => bif (rI (nth list_ (j + 1)) 0) == p.DstMac then ((j + 1 : Nat) : Int) else t) (fun t => spec_SwitchPacket_L1 bad k_ 10 list_ from_ v t p.DstMac 10 0 []) (fun _ _ => True) (fun _ _ _ _ => trivial) ?_ ?_ 10 0 trivial (by omega))
    · intro n j t hj _
      show spec_SwitchPacket_L0 bad k_ 10 list_ from_ v p.DstMac [] (n + 1) t ((j : Int) + 1) = _
      rw [spec_SwitchPacket_L0_s]
      have hj1 : j + 1 < list_.length := by omega
      have e1 : (j : Int) + 1 = ((j + 1 : Nat) : Int) := by omega
      rw [e1]
      have e2 : w64 (((j + 1 : Nat) : Int) + 1) = ((j + 1 : Nat) : Int) + 1 := w64_in (by omega) (by omega)
      simp only [spec_SwitchPacket_l0, lt_len hj1, idx_nat hj1, e2, Int.toNat_natCast, andt_true_l, cond_true]
    · intro n t _
      show spec_SwitchPacket_L0 bad k_ 10 list_ from_ v p.DstMac [] (n + 1) t (((list_.length - 1 : Nat) : Int) + 1) = _
      rw [spec_SwitchPacket_L0_s]
      have e1 : ((list_.length - 1 : Nat) : Int) + 1 = (list_.length : Int) := by omega
      rw [e1]
      simp only [spec_SwitchPacket_l0, not_lt_len, cond_false]
  refine k0.trans ?_
  rw [k1]
  refine congrArg k_ ?_
  have hto : ∀ m, m ≤ list_.length - 1 → itN (fun j t => bif (rI (nth list_ (j + 1)) 0) == p.DstMac then ((j + 1 : Nat) : Int) else t) m 0 0 = if 0 ≤ portWith list_ p.DstMac ∧ portWith list_ p.DstMac ≤ (m : Int) then portWith list_ p.DstMac else 0 := by
    intro m
    induction m with
    | zero =>
      intro _
      rcases portWith_spec list_ p.DstMac with ⟨e, _⟩ | ⟨i, hi, h0, e, _⟩
      · rw [e]; rfl
      · rw [e, if_neg (by omega)]; rfl
    | succ m ih =>
      intro hm
      rw [itN_snoc, ih (by omega), Nat.zero_add]
      by_cases hq : rI (nth list_ (m + 1)) 0 = p.DstMac
      · have := (hports (m + 1) (by omega)).2 (by omega)
        rw [hq] at this
        rw [show ((rI (nth list_ (m + 1)) 0) == p.DstMac) = true by simpa using hq, cond_true, this, if_pos (by omega)]
      · rw [show ((rI (nth list_ (m + 1)) 0) == p.DstMac) = false by simpa using hq, cond_false]
        rcases portWith_spec list_ p.DstMac with ⟨e, _⟩ | ⟨i, hi, h0, e, e2⟩
        · rw [e, if_neg (by omega), if_neg (by omega)]
        · have : i ≠ m + 1 := fun h => hq (h ▸ e2)
          rw [e]
          by_cases him : (i : Int) ≤ (m : Int)
          · rw [if_pos (by omega), if_pos (by omega)]
          · rw [if_neg (by omega), if_neg (by omega)]
  rw [hto _ (Nat.le_refl _)]
  unfold tgs
  by_cases hb : p.DstMac = 281474976710655
  · have hb' : (p.DstMac == 281474976710655) = true := by simpa using hb
    have hno : portWith list_ p.DstMac = -1 := by
      rcases portWith_spec list_ p.DstMac with ⟨e, _⟩ | ⟨i, hi, h0, e, e2⟩
      · exact e
      · exfalso
        have := FilterOk_mac (port_good (hports i hi).1).1
        simp only at this
        omega
    rw [hno, hb']
    simp only [show decide ((0 : Int) ≤ -1) = false from rfl, cond_false, cond_true]
    apply List.filter_congr
    intro r hr
    simp only [rng, List.mem_map, List.mem_range] at hr
    obtain ⟨k, hk, rfl⟩ := hr
    have : rI [DC.int (k : Int)] 0 = (k : Int) := rfl
    unfold selr
    rw [this, Int.toNat_natCast]
    cases ((k : Int) != from_) <;> cases hasInt (rR (nth list_ k) 1) v <;> cases ((k : Int) == (if 0 ≤ (-1 : Int) ∧ (-1 : Int) ≤ ((list_.length - 1 : Nat) : Int) then (-1 : Int) else 0)) <;> rfl
  · have hb' : (p.DstMac == 281474976710655) = false := by simpa using hb
    rw [hb']
    have main : ∀ t : Nat, t < list_.length → (rng list_.length).filter (fun r => bif ((rI r 0).toNat : Int) != from_ then bif hasInt (rR (nth list_ (rI r 0).toNat) 1) v then bif ((rI r 0).toNat : Int) == (t : Int) then true else false else false else false) = [[.int (t : Int)]].filter (selr list_ from_ v) := by
      intro t ht
      rw [← rng_one list_.length ht]
      apply List.filter_congr
      intro r hr
      simp only [rng, List.mem_map, List.mem_range] at hr
      obtain ⟨k, hk, rfl⟩ := hr
      have : rI [DC.int (k : Int)] 0 = (k : Int) := rfl
      unfold selr
      rw [this, Int.toNat_natCast]
      have e3 : ((k : Int) == (t : Int)) = (k == t) := by
        by_cases h : k = t
        · subst h; simp
        · rw [show (k == t) = false by simpa using h]
          simp only [beq_eq_false_iff_ne, ne_eq]
          omega
      rw [e3]
      cases ((k : Int) != from_) <;> cases hasInt (rR (nth list_ k) 1) v <;> cases (k == t) <;> rfl
    rcases portWith_spec list_ p.DstMac with ⟨e, _⟩ | ⟨i, hi, h0, e, e2⟩
    · rw [e]
      exact main 0 (by omega)
    · rw [e, if_pos (by omega), decide_eq_true (show (0 : Int) ≤ (i : Int) by omega)]
      exact main i hi

end
end Go.Proofs.Ytklbgnodgnlebaa.Pl
