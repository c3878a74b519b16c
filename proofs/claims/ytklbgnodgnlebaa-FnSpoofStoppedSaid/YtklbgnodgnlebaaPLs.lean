/- What functions of the program compute, in plain Lean, as the value machine runs them. Conditions: none. -/
import Derived.Test.YtklbgnodgnlebaaPre
import Derived.Test.YtklbgnodgnlebaaLem
set_option linter.unusedVariables false
set_option linter.unusedSimpArgs false
set_option maxRecDepth 100000
namespace Go.Proofs.Ytklbgnodgnlebaa.Pl
open Vm
noncomputable section

structure SSegment where
  Kind : Int
  SrcPort : Int
  DstPort : Int
  Seq : Int
  Ack : Int
  Flags : Int
  Window : Int
  Body : Bytes
def SSegment.enc (x : SSegment) : List DC := [.int x.Kind, .int x.SrcPort, .int x.DstPort, .int x.Seq, .int x.Ack, .int x.Flags, .int x.Window, .str x.Body]
def SSegment.decAt (r : List DC) (o : Nat) : SSegment := ⟨rI r (o + 0), rI r (o + 1), rI r (o + 2), rI r (o + 3), rI r (o + 4), rI r (o + 5), rI r (o + 6), rS r (o + 7)⟩
def SSegment.ct : List CT := [.int .i64, .int .i64, .int .i64, .int .i64, .int .i64, .int .i64, .int .i64, .str]
theorem SSegment.eta {r : List DC} (h : WtL SSegment.ct r) : (SSegment.decAt r 0).enc = r := (show (SSegment.decAt r 0).enc = canonL SSegment.ct r 0 from by kernel_rfl).trans (canon_eq h)
theorem SSegment.of_wt {r : List CT} {ds : List DC} (h : WtL (SSegment.ct ++ r) ds) : ∃ (x : SSegment) (ds' : List DC), ds = x.enc ++ ds' ∧ WtL SSegment.ct x.enc ∧ WtL r ds' := by
  obtain ⟨d1, d2, rfl, h1, h2⟩ := wtl_split h
  exact ⟨SSegment.decAt d1 0, d2, by rw [SSegment.eta h1], by rw [SSegment.eta h1]; exact h1, h2⟩
theorem SSegment.wt_Kind {x : SSegment} (h : WtL SSegment.ct x.enc) : WtC (.int .i64) (.int x.Kind) := wtl_get 0 h rfl rfl
theorem SSegment.wt_SrcPort {x : SSegment} (h : WtL SSegment.ct x.enc) : WtC (.int .i64) (.int x.SrcPort) := wtl_get 1 h rfl rfl
theorem SSegment.wt_DstPort {x : SSegment} (h : WtL SSegment.ct x.enc) : WtC (.int .i64) (.int x.DstPort) := wtl_get 2 h rfl rfl
theorem SSegment.wt_Seq {x : SSegment} (h : WtL SSegment.ct x.enc) : WtC (.int .i64) (.int x.Seq) := wtl_get 3 h rfl rfl
theorem SSegment.wt_Ack {x : SSegment} (h : WtL SSegment.ct x.enc) : WtC (.int .i64) (.int x.Ack) := wtl_get 4 h rfl rfl
theorem SSegment.wt_Flags {x : SSegment} (h : WtL SSegment.ct x.enc) : WtC (.int .i64) (.int x.Flags) := wtl_get 5 h rfl rfl
theorem SSegment.wt_Window {x : SSegment} (h : WtL SSegment.ct x.enc) : WtC (.int .i64) (.int x.Window) := wtl_get 6 h rfl rfl
theorem SSegment.wt_Body {x : SSegment} (h : WtL SSegment.ct x.enc) : WtC .str (.str x.Body) := wtl_get 7 h rfl rfl

structure SPacket where
  DstMac : Int
  SrcMac : Int
  Vlan : Int
  Tos : Int
  Id : Int
  Ttl : Int
  SrcIp : Int
  DstIp : Int
  Seg : SSegment
def SPacket.enc (x : SPacket) : List DC := [.int x.DstMac, .int x.SrcMac, .int x.Vlan, .int x.Tos, .int x.Id, .int x.Ttl, .int x.SrcIp, .int x.DstIp, .int x.Seg.Kind, .int x.Seg.SrcPort, .int x.Seg.DstPort, .int x.Seg.Seq, .int x.Seg.Ack, .int x.Seg.Flags, .int x.Seg.Window, .str x.Seg.Body]
def SPacket.decAt (r : List DC) (o : Nat) : SPacket := ⟨rI r (o + 0), rI r (o + 1), rI r (o + 2), rI r (o + 3), rI r (o + 4), rI r (o + 5), rI r (o + 6), rI r (o + 7), SSegment.decAt r (o + 8)⟩
def SPacket.ct : List CT := [.int .i64, .int .i64, .int .i64, .int .i64, .int .i64, .int .i64, .int .i64, .int .i64, .int .i64, .int .i64, .int .i64, .int .i64, .int .i64, .int .i64, .int .i64, .str]
theorem SPacket.eta {r : List DC} (h : WtL SPacket.ct r) : (SPacket.decAt r 0).enc = r := (show (SPacket.decAt r 0).enc = canonL SPacket.ct r 0 from by kernel_rfl).trans (canon_eq h)
theorem SPacket.of_wt {r : List CT} {ds : List DC} (h : WtL (SPacket.ct ++ r) ds) : ∃ (x : SPacket) (ds' : List DC), ds = x.enc ++ ds' ∧ WtL SPacket.ct x.enc ∧ WtL r ds' := by
  obtain ⟨d1, d2, rfl, h1, h2⟩ := wtl_split h
  exact ⟨SPacket.decAt d1 0, d2, by rw [SPacket.eta h1], by rw [SPacket.eta h1]; exact h1, h2⟩
theorem SPacket.wt_DstMac {x : SPacket} (h : WtL SPacket.ct x.enc) : WtC (.int .i64) (.int x.DstMac) := wtl_get 0 h rfl rfl
theorem SPacket.wt_SrcMac {x : SPacket} (h : WtL SPacket.ct x.enc) : WtC (.int .i64) (.int x.SrcMac) := wtl_get 1 h rfl rfl
theorem SPacket.wt_Vlan {x : SPacket} (h : WtL SPacket.ct x.enc) : WtC (.int .i64) (.int x.Vlan) := wtl_get 2 h rfl rfl
theorem SPacket.wt_Tos {x : SPacket} (h : WtL SPacket.ct x.enc) : WtC (.int .i64) (.int x.Tos) := wtl_get 3 h rfl rfl
theorem SPacket.wt_Id {x : SPacket} (h : WtL SPacket.ct x.enc) : WtC (.int .i64) (.int x.Id) := wtl_get 4 h rfl rfl
theorem SPacket.wt_Ttl {x : SPacket} (h : WtL SPacket.ct x.enc) : WtC (.int .i64) (.int x.Ttl) := wtl_get 5 h rfl rfl
theorem SPacket.wt_SrcIp {x : SPacket} (h : WtL SPacket.ct x.enc) : WtC (.int .i64) (.int x.SrcIp) := wtl_get 6 h rfl rfl
theorem SPacket.wt_DstIp {x : SPacket} (h : WtL SPacket.ct x.enc) : WtC (.int .i64) (.int x.DstIp) := wtl_get 7 h rfl rfl
theorem SPacket.wt_Seg {x : SPacket} (h : WtL SPacket.ct x.enc) : WtL SSegment.ct x.Seg.enc := wtl_seg 8 8 h

structure SPort where
  Mac : Int
  Vlans : Rows
  Native : Int
  Strict : Bool
def SPort.enc (x : SPort) : List DC := [.int x.Mac, .sl x.Vlans, .int x.Native, .bool x.Strict]
def SPort.decAt (r : List DC) (o : Nat) : SPort := ⟨rI r (o + 0), rR r (o + 1), rI r (o + 2), rB r (o + 3)⟩
def SPort.ct : List CT := [.int .i64, .sl [.int .i64], .int .i64, .bool]
theorem SPort.eta {r : List DC} (h : WtL SPort.ct r) : (SPort.decAt r 0).enc = r := (show (SPort.decAt r 0).enc = canonL SPort.ct r 0 from by kernel_rfl).trans (canon_eq h)
theorem SPort.of_wt {r : List CT} {ds : List DC} (h : WtL (SPort.ct ++ r) ds) : ∃ (x : SPort) (ds' : List DC), ds = x.enc ++ ds' ∧ WtL SPort.ct x.enc ∧ WtL r ds' := by
  obtain ⟨d1, d2, rfl, h1, h2⟩ := wtl_split h
  exact ⟨SPort.decAt d1 0, d2, by rw [SPort.eta h1], by rw [SPort.eta h1]; exact h1, h2⟩
theorem SPort.wt_Mac {x : SPort} (h : WtL SPort.ct x.enc) : WtC (.int .i64) (.int x.Mac) := wtl_get 0 h rfl rfl
theorem SPort.wt_Vlans {x : SPort} (h : WtL SPort.ct x.enc) : WtC (.sl [.int .i64]) (.sl x.Vlans) := wtl_get 1 h rfl rfl
theorem SPort.wt_Native {x : SPort} (h : WtL SPort.ct x.enc) : WtC (.int .i64) (.int x.Native) := wtl_get 2 h rfl rfl
theorem SPort.wt_Strict {x : SPort} (h : WtL SPort.ct x.enc) : WtC .bool (.bool x.Strict) := wtl_get 3 h rfl rfl

def laws_eqSegment_t {α : Type} (k_ : Bool → α) (a : SSegment) (b : SSegment) : α :=
  bif a.Kind != b.Kind then k_ false
  else bif a.SrcPort != b.SrcPort then k_ false
  else bif a.DstPort != b.DstPort then k_ false
  else bif a.Seq != b.Seq then k_ false
  else bif a.Ack != b.Ack then k_ false
  else bif a.Flags != b.Flags then k_ false
  else bif a.Window != b.Window then k_ false
  else bif !(a.Body == b.Body) then k_ false
  else k_ true
theorem laws_eqSegment_c {α : Type} (k_ : Bool → α) (a : SSegment) (b : SSegment) (h_a : WtL SSegment.ct a.enc) (h_b : WtL SSegment.ct b.enc) (hok : same a b = true) : laws_eqSegment_t k_ a b = k_ (yes2 a b) := by
  obtain rfl := same_eq hok
  simp only [laws_eqSegment_t, same_refl, yes2, bne_self_eq_false, beq_self_eq_true, Bool.not_true, cond_false, cond_true, andt_true_l, andt_true_r]

def laws_eqPacket_t {α : Type} (bad : α) (k_ : Bool → α) (a : SPacket) (b : SPacket) : α :=
  bif a.DstMac != b.DstMac then k_ false
  else bif a.SrcMac != b.SrcMac then k_ false
  else bif a.Vlan != b.Vlan then k_ false
  else bif a.Tos != b.Tos then k_ false
  else bif a.Id != b.Id then k_ false
  else bif a.Ttl != b.Ttl then k_ false
  else bif a.SrcIp != b.SrcIp then k_ false
  else bif a.DstIp != b.DstIp then k_ false
  else bif andt true (same a.Seg b.Seg) then
      bif !(yes2 a.Seg b.Seg) then k_ false
      else k_ true
    else bad
theorem laws_eqPacket_c {α : Type} (bad : α) (k_ : Bool → α) (a : SPacket) (b : SPacket) (h_a : WtL SPacket.ct a.enc) (h_b : WtL SPacket.ct b.enc) (hok : same a b = true) : laws_eqPacket_t bad k_ a b = k_ (yes2 a b) := by
  obtain rfl := same_eq hok
  simp only [laws_eqPacket_t, same_refl, yes2, bne_self_eq_false, beq_self_eq_true, Bool.not_true, cond_false, cond_true, andt_true_l, andt_true_r]

def laws_eqPacketS_l0 {α : Type} (bad : α) (k_ : Bool → α) (a : Rows) (b : Rows) (ih0 : Int → α) (i : Int) : α :=
  bif decide (i < len a) then
    bif andt (andt (andt true (idx i a)) (idx i b)) (same (SPacket.decAt (nth a (Int.toNat i)) 0) (SPacket.decAt (nth b (Int.toNat i)) 0)) then
      bif !(yes2 (SPacket.decAt (nth a (Int.toNat i)) 0) (SPacket.decAt (nth b (Int.toNat i)) 0)) then k_ false
      else ih0 (w64 (i + 1))
    else bad
  else k_ true
def laws_eqPacketS_L0 {α : Type} (bad : α) (k_ : Bool → α) (N : Nat) (a : Rows) (b : Rows) (m_ : Nat) : Int → α :=
  Nat.rec (motive := fun _ => Int → α) (fun _ => bad) (fun _ ih0 => laws_eqPacketS_l0 bad k_ a b ih0) m_
theorem laws_eqPacketS_L0_z {α : Type} (bad : α) (k_ : Bool → α) (N : Nat) (a : Rows) (b : Rows) (i : Int) : laws_eqPacketS_L0 bad k_ N a b 0 i = bad := rfl
theorem laws_eqPacketS_L0_s {α : Type} (bad : α) (k_ : Bool → α) (N : Nat) (a : Rows) (b : Rows) (m_ : Nat) (i : Int) : laws_eqPacketS_L0 bad k_ N a b (m_ + 1) i = laws_eqPacketS_l0 bad k_ a b (laws_eqPacketS_L0 bad k_ N a b m_) i := rfl
def laws_eqPacketS_t {α : Type} (bad : α) (k_ : Bool → α) (l0 : Int → α) (a : Rows) (b : Rows) : α :=
  bif (len a) != (len b) then k_ false
  else l0 0
def laws_eqPacketS_f {α : Type} (bad : α) (k_ : Bool → α) (N : Nat) (a : Rows) (b : Rows) : α := laws_eqPacketS_t bad k_ (laws_eqPacketS_L0 bad k_ N a b N) a b
theorem laws_eqPacketS_c {α : Type} (bad : α) (k_ : Bool → α) (a : Rows) (b : Rows) (h_a : WtC (.sl [.int .i64, .int .i64, .int .i64, .int .i64, .int .i64, .int .i64, .int .i64, .int .i64, .int .i64, .int .i64, .int .i64, .int .i64, .int .i64, .int .i64, .int .i64, .str]) (.sl a)) (h_b : WtC (.sl [.int .i64, .int .i64, .int .i64, .int .i64, .int .i64, .int .i64, .int .i64, .int .i64, .int .i64, .int .i64, .int .i64, .int .i64, .int .i64, .int .i64, .int .i64, .str]) (.sl b)) (hok : same a b = true) : ∃ N, laws_eqPacketS_f bad k_ N a b = k_ (yes2 a b) := by
  obtain rfl := same_eq hok
  obtain ⟨hl, _⟩ := wt_sl h_a
  refine ⟨a.length + 1, ?_⟩
  unfold laws_eqPacketS_f laws_eqPacketS_t
  simp only [bne_self_eq_false, cond_false]
  refine (loop_rows0 a (laws_eqPacketS_L0 bad k_ (a.length + 1) a a) (fun _ _ c => c) (k_ true) ?_ ?_).trans (go_skip _ _ _)
  · intro n i h
    rw [laws_eqPacketS_L0_s]
    simp only [laws_eqPacketS_l0, lt_len h, idx_nat h, w64_succ h hl, Int.toNat_natCast, andt_true_l, andt_true_r, cond_true, cond_false, bne_self_eq_false, beq_self_eq_true, Bool.not_true, same_refl, yes2]
  · intro n
    rw [laws_eqPacketS_L0_s]
    simp only [laws_eqPacketS_l0, not_lt_len, cond_false]

def laws_toSegment_t {α : Type} (k_ : SSegment → α) (a : SSegment) : α :=
  k_ a
theorem laws_toSegment_c {α : Type} (k_ : SSegment → α) (a : SSegment) (h_a : WtL SSegment.ct a.enc) : laws_toSegment_t k_ a = k_ (idf a) := by
  rfl

def laws_toPacket_t {α : Type} (k_ : SPacket → α) (a : SPacket) : α :=
  k_ (⟨a.DstMac, a.SrcMac, a.Vlan, a.Tos, a.Id, a.Ttl, a.SrcIp, a.DstIp, idf a.Seg⟩ : SPacket)
theorem laws_toPacket_c {α : Type} (k_ : SPacket → α) (a : SPacket) (h_a : WtL SPacket.ct a.enc) : laws_toPacket_t k_ a = k_ (idf a) := by
  rfl

def laws_szSegment_t {α : Type} (k_ : Int → α) (a : SSegment) (left : Int) : α :=
  let z0 : Int := w64 (left - (len a.Body))
  bif decide (z0 < 0) then k_ (-1)
  else k_ z0
def laws_szSegment (a : SSegment) (left : Int) : Int := laws_szSegment_t id a left
theorem laws_szSegment_c {α : Type} (k_ : Int → α) (a : SSegment) (left : Int) : laws_szSegment_t k_ a left = k_ (laws_szSegment a left) := by
  exact cond_k rfl rfl

def laws_szPacket_t {α : Type} (k_ : Int → α) (a : SPacket) (left : Int) : α :=
  bif decide (laws_szSegment a.Seg left < 0) then k_ (-1)
  else k_ (laws_szSegment a.Seg left)
def laws_szPacket (a : SPacket) (left : Int) : Int := laws_szPacket_t id a left
theorem laws_szPacket_c {α : Type} (k_ : Int → α) (a : SPacket) (left : Int) : laws_szPacket_t k_ a left = k_ (laws_szPacket a left) := by
  exact cond_k rfl rfl

def laws_eqPacketSS_l0 {α : Type} (bad : α) (k_ : Bool → α) (a : Rows) (b : Rows) (ih0 : Int → α) (i : Int) : α :=
  bif decide (i < len a) then
    bif andt (andt (andt true (idx i a)) (idx i b)) (same (rR (nth a (Int.toNat i)) 0) (rR (nth b (Int.toNat i)) 0)) then
      bif !(yes2 (rR (nth a (Int.toNat i)) 0) (rR (nth b (Int.toNat i)) 0)) then k_ false
      else ih0 (w64 (i + 1))
    else bad
  else k_ true
def laws_eqPacketSS_L0 {α : Type} (bad : α) (k_ : Bool → α) (N : Nat) (a : Rows) (b : Rows) (m_ : Nat) : Int → α :=
  Nat.rec (motive := fun _ => Int → α) (fun _ => bad) (fun _ ih0 => laws_eqPacketSS_l0 bad k_ a b ih0) m_
theorem laws_eqPacketSS_L0_z {α : Type} (bad : α) (k_ : Bool → α) (N : Nat) (a : Rows) (b : Rows) (i : Int) : laws_eqPacketSS_L0 bad k_ N a b 0 i = bad := rfl
theorem laws_eqPacketSS_L0_s {α : Type} (bad : α) (k_ : Bool → α) (N : Nat) (a : Rows) (b : Rows) (m_ : Nat) (i : Int) : laws_eqPacketSS_L0 bad k_ N a b (m_ + 1) i = laws_eqPacketSS_l0 bad k_ a b (laws_eqPacketSS_L0 bad k_ N a b m_) i := rfl
def laws_eqPacketSS_t {α : Type} (bad : α) (k_ : Bool → α) (l0 : Int → α) (a : Rows) (b : Rows) : α :=
  bif (len a) != (len b) then k_ false
  else l0 0
def laws_eqPacketSS_f {α : Type} (bad : α) (k_ : Bool → α) (N : Nat) (a : Rows) (b : Rows) : α := laws_eqPacketSS_t bad k_ (laws_eqPacketSS_L0 bad k_ N a b N) a b
theorem laws_eqPacketSS_c {α : Type} (bad : α) (k_ : Bool → α) (a : Rows) (b : Rows) (h_a : WtC (.sl [.sl [.int .i64, .int .i64, .int .i64, .int .i64, .int .i64, .int .i64, .int .i64, .int .i64, .int .i64, .int .i64, .int .i64, .int .i64, .int .i64, .int .i64, .int .i64, .str]]) (.sl a)) (h_b : WtC (.sl [.sl [.int .i64, .int .i64, .int .i64, .int .i64, .int .i64, .int .i64, .int .i64, .int .i64, .int .i64, .int .i64, .int .i64, .int .i64, .int .i64, .int .i64, .int .i64, .str]]) (.sl b)) (hok : same a b = true) : ∃ N, laws_eqPacketSS_f bad k_ N a b = k_ (yes2 a b) := by
  obtain rfl := same_eq hok
  obtain ⟨hl, _⟩ := wt_sl h_a
  refine ⟨a.length + 1, ?_⟩
  unfold laws_eqPacketSS_f laws_eqPacketSS_t
  simp only [bne_self_eq_false, cond_false]
  refine (loop_rows0 a (laws_eqPacketSS_L0 bad k_ (a.length + 1) a a) (fun _ _ c => c) (k_ true) ?_ ?_).trans (go_skip _ _ _)
  · intro n i h
    rw [laws_eqPacketSS_L0_s]
    simp only [laws_eqPacketSS_l0, lt_len h, idx_nat h, w64_succ h hl, Int.toNat_natCast, andt_true_l, andt_true_r, cond_true, cond_false, bne_self_eq_false, beq_self_eq_true, Bool.not_true, same_refl, yes2]
  · intro n
    rw [laws_eqPacketSS_L0_s]
    simp only [laws_eqPacketSS_l0, not_lt_len, cond_false]

def laws_szPacketS_l0 {α : Type} (bad : α) (k_ : Int → α) (a : Rows) (ih0 : Int → Int → α) (left_1 : Int) (i : Int) : α :=
  let z0 : Int := laws_szPacket (SPacket.decAt (nth a (Int.toNat i)) 0) left_1
  bif decide (i < len a) then
    bif andt true (idx i a) then
      bif decide (z0 < 0) then k_ (-1)
      else ih0 z0 (w64 (i + 1))
    else bad
  else k_ left_1
def laws_szPacketS_L0 {α : Type} (bad : α) (k_ : Int → α) (N : Nat) (a : Rows) (m_ : Nat) : Int → Int → α :=
  Nat.rec (motive := fun _ => Int → Int → α) (fun _ _ => bad) (fun _ ih0 => laws_szPacketS_l0 bad k_ a ih0) m_
theorem laws_szPacketS_L0_z {α : Type} (bad : α) (k_ : Int → α) (N : Nat) (a : Rows) (left_1 : Int) (i : Int) : laws_szPacketS_L0 bad k_ N a 0 left_1 i = bad := rfl
theorem laws_szPacketS_L0_s {α : Type} (bad : α) (k_ : Int → α) (N : Nat) (a : Rows) (m_ : Nat) (left_1 : Int) (i : Int) : laws_szPacketS_L0 bad k_ N a (m_ + 1) left_1 i = laws_szPacketS_l0 bad k_ a (laws_szPacketS_L0 bad k_ N a m_) left_1 i := rfl
def laws_szPacketS_t {α : Type} (bad : α) (k_ : Int → α) (l0 : Int → Int → α) (a : Rows) (left : Int) : α :=
  bif decide (w64 (left - (len a)) < 0) then k_ (-1)
  else l0 (w64 (left - (len a))) 0
def laws_szPacketS_f {α : Type} (bad : α) (k_ : Int → α) (N : Nat) (a : Rows) (left : Int) : α := laws_szPacketS_t bad k_ (laws_szPacketS_L0 bad k_ N a N) a left
def laws_szPacketS (a : Rows) (left : Int) : Int := szAll (fun r l => laws_szPacket (SPacket.decAt r 0) l) a left
theorem laws_szPacketS_c {α : Type} (bad : α) (k_ : Int → α) (a : Rows) (left : Int) (h_a : WtC (.sl [.int .i64, .int .i64, .int .i64, .int .i64, .int .i64, .int .i64, .int .i64, .int .i64, .int .i64, .int .i64, .int .i64, .int .i64, .int .i64, .int .i64, .int .i64, .str]) (.sl a)) (h_left : WtC (.int .i64) (.int left)) : ∃ N, laws_szPacketS_f bad k_ N a left = k_ (laws_szPacketS a left) := by
  obtain ⟨hl, _⟩ := wt_sl h_a
  refine ⟨a.length + 1, ?_⟩
  unfold laws_szPacketS_f laws_szPacketS_t laws_szPacketS szAll
  refine cond_k rfl ?_
  refine (loop_rows a (fun n i l => laws_szPacketS_L0 bad k_ (a.length + 1) a n l i) (fun _ r c l => bif decide ((fun r l => laws_szPacket (SPacket.decAt r 0) l) r l < 0) then k_ (-1) else c ((fun r l => laws_szPacket (SPacket.decAt r 0) l) r l)) k_ ?_ ?_ _).trans (go_sz (fun r l => laws_szPacket (SPacket.decAt r 0) l) k_ a 0 _)
  · intro n i l h
    try dsimp only
    rw [laws_szPacketS_L0_s]
    simp only [laws_szPacketS_l0, lt_len h, idx_nat h, w64_succ h hl, Int.toNat_natCast, andt_true_l, andt_true_r, cond_true]
  · intro n l
    try dsimp only
    rw [laws_szPacketS_L0_s]
    simp only [laws_szPacketS_l0, not_lt_len, cond_false]

def laws_eqIntS_l0 {α : Type} (bad : α) (k_ : Bool → α) (a : Rows) (b : Rows) (ih0 : Int → α) (i : Int) : α :=
  bif decide (i < len a) then
    bif andt (andt true (idx i a)) (idx i b) then
      bif (rI (nth a (Int.toNat i)) 0) != (rI (nth b (Int.toNat i)) 0) then k_ false
      else ih0 (w64 (i + 1))
    else bad
  else k_ true
def laws_eqIntS_L0 {α : Type} (bad : α) (k_ : Bool → α) (N : Nat) (a : Rows) (b : Rows) (m_ : Nat) : Int → α :=
  Nat.rec (motive := fun _ => Int → α) (fun _ => bad) (fun _ ih0 => laws_eqIntS_l0 bad k_ a b ih0) m_
theorem laws_eqIntS_L0_z {α : Type} (bad : α) (k_ : Bool → α) (N : Nat) (a : Rows) (b : Rows) (i : Int) : laws_eqIntS_L0 bad k_ N a b 0 i = bad := rfl
theorem laws_eqIntS_L0_s {α : Type} (bad : α) (k_ : Bool → α) (N : Nat) (a : Rows) (b : Rows) (m_ : Nat) (i : Int) : laws_eqIntS_L0 bad k_ N a b (m_ + 1) i = laws_eqIntS_l0 bad k_ a b (laws_eqIntS_L0 bad k_ N a b m_) i := rfl
def laws_eqIntS_t {α : Type} (bad : α) (k_ : Bool → α) (l0 : Int → α) (a : Rows) (b : Rows) : α :=
  bif (len a) != (len b) then k_ false
  else l0 0
def laws_eqIntS_f {α : Type} (bad : α) (k_ : Bool → α) (N : Nat) (a : Rows) (b : Rows) : α := laws_eqIntS_t bad k_ (laws_eqIntS_L0 bad k_ N a b N) a b
theorem laws_eqIntS_c {α : Type} (bad : α) (k_ : Bool → α) (a : Rows) (b : Rows) (h_a : WtC (.sl [.int .i64]) (.sl a)) (h_b : WtC (.sl [.int .i64]) (.sl b)) (hok : same a b = true) : ∃ N, laws_eqIntS_f bad k_ N a b = k_ (yes2 a b) := by
  obtain rfl := same_eq hok
  obtain ⟨hl, _⟩ := wt_sl h_a
  refine ⟨a.length + 1, ?_⟩
  unfold laws_eqIntS_f laws_eqIntS_t
  simp only [bne_self_eq_false, cond_false]
  refine (loop_rows0 a (laws_eqIntS_L0 bad k_ (a.length + 1) a a) (fun _ _ c => c) (k_ true) ?_ ?_).trans (go_skip _ _ _)
  · intro n i h
    rw [laws_eqIntS_L0_s]
    simp only [laws_eqIntS_l0, lt_len h, idx_nat h, w64_succ h hl, Int.toNat_natCast, andt_true_l, andt_true_r, cond_true, cond_false, bne_self_eq_false, beq_self_eq_true, Bool.not_true, same_refl, yes2]
  · intro n
    rw [laws_eqIntS_L0_s]
    simp only [laws_eqIntS_l0, not_lt_len, cond_false]

def laws_eqPort_t {α : Type} (bad : α) (k_ : Bool → α) (a : SPort) (b : SPort) : α :=
  bif a.Mac != b.Mac then k_ false
  else bif andt true (same a.Vlans b.Vlans) then
      bif !(yes2 a.Vlans b.Vlans) then k_ false
      else bif a.Native != b.Native then k_ false
      else bif !(a.Strict == b.Strict) then k_ false
      else k_ true
    else bad
theorem laws_eqPort_c {α : Type} (bad : α) (k_ : Bool → α) (a : SPort) (b : SPort) (h_a : WtL SPort.ct a.enc) (h_b : WtL SPort.ct b.enc) (hok : same a b = true) : laws_eqPort_t bad k_ a b = k_ (yes2 a b) := by
  obtain rfl := same_eq hok
  simp only [laws_eqPort_t, same_refl, yes2, bne_self_eq_false, beq_self_eq_true, Bool.not_true, cond_false, cond_true, andt_true_l, andt_true_r]

def laws_szIntS_t {α : Type} (k_ : Int → α) (a : Rows) (left : Int) : α :=
  bif decide (w64 (left - (len a)) < 0) then k_ (-1)
  else k_ (w64 (left - (len a)))
theorem laws_szIntS_c {α : Type} (k_ : Int → α) (a : Rows) (left : Int) (h_a : WtC (.sl [.int .i64]) (.sl a)) (h_left : WtC (.int .i64) (.int left)) : laws_szIntS_t k_ a left = k_ (szFlat a left) := by
  exact cond_k rfl rfl

def laws_toIntS_l0 {α : Type} (bad : α) (k_ : Rows → α) (a : Rows) (ih0 : Int → Rows → α) (i : Int) (out_ : Rows) : α :=
  bif decide (i < len a) then
    bif andt (andt (andt true (idx i a)) (idx i out_)) (inl (Int.toNat i) out_) then
      ih0 (w64 (i + 1)) (List.set out_ (Int.toNat i) (splice (nth out_ (Int.toNat i)) 0 [.int (rI (nth a (Int.toNat i)) 0)]))
    else bad
  else k_ out_
def laws_toIntS_L0 {α : Type} (bad : α) (k_ : Rows → α) (N : Nat) (a : Rows) (m_ : Nat) : Int → Rows → α :=
  Nat.rec (motive := fun _ => Int → Rows → α) (fun _ _ => bad) (fun _ ih0 => laws_toIntS_l0 bad k_ a ih0) m_
theorem laws_toIntS_L0_z {α : Type} (bad : α) (k_ : Rows → α) (N : Nat) (a : Rows) (i : Int) (out_ : Rows) : laws_toIntS_L0 bad k_ N a 0 i out_ = bad := rfl
theorem laws_toIntS_L0_s {α : Type} (bad : α) (k_ : Rows → α) (N : Nat) (a : Rows) (m_ : Nat) (i : Int) (out_ : Rows) : laws_toIntS_L0 bad k_ N a (m_ + 1) i out_ = laws_toIntS_l0 bad k_ a (laws_toIntS_L0 bad k_ N a m_) i out_ := rfl
def laws_toIntS_t {α : Type} (bad : α) (k_ : Rows → α) (l0 : Int → Rows → α) (a : Rows) : α :=
  bif andt true (makeOk 8 (len a) (len a)) then
    l0 0 (List.replicate (Int.toNat (len a)) ([.int 0] : List DC))
  else bad
def laws_toIntS_f {α : Type} (bad : α) (k_ : Rows → α) (N : Nat) (a : Rows) : α := laws_toIntS_t bad k_ (laws_toIntS_L0 bad k_ N a N) a
theorem laws_toIntS_c {α : Type} (bad : α) (k_ : Rows → α) (a : Rows) (h_a : WtC (.sl [.int .i64]) (.sl a)) (hok : sm a = true) : ∃ N, laws_toIntS_f bad k_ N a = k_ (idf a) := by
  obtain ⟨hl, hw⟩ := wt_sl h_a
  have hsm := hok
  refine ⟨a.length + 1, ?_⟩
  unfold laws_toIntS_f laws_toIntS_t
  have e0 : Int.toNat (len a) = a.length := by simp [len]
  simp only [make_sm hsm (show 8 ≤ 8388608 by omega), andt_true_l, cond_true, e0]
  refine copy_set a (laws_toIntS_L0 bad k_ (a.length + 1) a) k_ [.int 0] (fun o r => splice o 0 ([.int (rI r 0)])) ?_ ?_ ?_
  · intro n i out h ho
    rw [laws_toIntS_L0_s]
    simp only [laws_toIntS_l0, lt_len h, idx_nat h, idx_set ho h, inl_nat (show i < out.length by omega), w64_succ h hl, Int.toNat_natCast, Bool.and_true, andt_true_l, andt_true_r, cond_true]
    try rfl
  · intro n out ho
    rw [laws_toIntS_L0_s]
    simp only [laws_toIntS_l0, not_lt_len, cond_false]
  · intro r hr
    refine (splice_all ?_).trans ?_
    · rfl
    · exact row_int (hw r hr)

def laws_toPort_t {α : Type} (bad : α) (k_ : SPort → α) (a : SPort) : α :=
  bif andt true (sm a.Vlans) then
    k_ (⟨a.Mac, idf a.Vlans, a.Native, a.Strict⟩ : SPort)
  else bad
def laws_toPort_ok (a : SPort) : Bool := laws_toPort_t false (fun _ => true) a
theorem laws_toPort_c {α : Type} (bad : α) (k_ : SPort → α) (a : SPort) (h_a : WtL SPort.ct a.enc) (hok : laws_toPort_ok a = true) : laws_toPort_t bad k_ a = k_ (idf a) := by
  exact guard_id (fun _ => rfl) hok

def laws_szPort_t {α : Type} (k_ : Int → α) (a : SPort) (left : Int) : α :=
  bif decide (szFlat a.Vlans left < 0) then k_ (-1)
  else k_ (szFlat a.Vlans left)
def laws_szPort (a : SPort) (left : Int) : Int := laws_szPort_t id a left
theorem laws_szPort_c {α : Type} (k_ : Int → α) (a : SPort) (left : Int) : laws_szPort_t k_ a left = k_ (laws_szPort a left) := by
  exact cond_k rfl rfl

def laws_szPortS_l0 {α : Type} (bad : α) (k_ : Int → α) (a : Rows) (ih0 : Int → Int → α) (left_1 : Int) (i : Int) : α :=
  let z0 : Int := laws_szPort (SPort.decAt (nth a (Int.toNat i)) 0) left_1
  bif decide (i < len a) then
    bif andt true (idx i a) then
      bif decide (z0 < 0) then k_ (-1)
      else ih0 z0 (w64 (i + 1))
    else bad
  else k_ left_1
def laws_szPortS_L0 {α : Type} (bad : α) (k_ : Int → α) (N : Nat) (a : Rows) (m_ : Nat) : Int → Int → α :=
  Nat.rec (motive := fun _ => Int → Int → α) (fun _ _ => bad) (fun _ ih0 => laws_szPortS_l0 bad k_ a ih0) m_
theorem laws_szPortS_L0_z {α : Type} (bad : α) (k_ : Int → α) (N : Nat) (a : Rows) (left_1 : Int) (i : Int) : laws_szPortS_L0 bad k_ N a 0 left_1 i = bad := rfl
theorem laws_szPortS_L0_s {α : Type} (bad : α) (k_ : Int → α) (N : Nat) (a : Rows) (m_ : Nat) (left_1 : Int) (i : Int) : laws_szPortS_L0 bad k_ N a (m_ + 1) left_1 i = laws_szPortS_l0 bad k_ a (laws_szPortS_L0 bad k_ N a m_) left_1 i := rfl
def laws_szPortS_t {α : Type} (bad : α) (k_ : Int → α) (l0 : Int → Int → α) (a : Rows) (left : Int) : α :=
  bif decide (w64 (left - (len a)) < 0) then k_ (-1)
  else l0 (w64 (left - (len a))) 0
def laws_szPortS_f {α : Type} (bad : α) (k_ : Int → α) (N : Nat) (a : Rows) (left : Int) : α := laws_szPortS_t bad k_ (laws_szPortS_L0 bad k_ N a N) a left
def laws_szPortS (a : Rows) (left : Int) : Int := szAll (fun r l => laws_szPort (SPort.decAt r 0) l) a left
theorem laws_szPortS_c {α : Type} (bad : α) (k_ : Int → α) (a : Rows) (left : Int) (h_a : WtC (.sl [.int .i64, .sl [.int .i64], .int .i64, .bool]) (.sl a)) (h_left : WtC (.int .i64) (.int left)) : ∃ N, laws_szPortS_f bad k_ N a left = k_ (laws_szPortS a left) := by
  obtain ⟨hl, _⟩ := wt_sl h_a
  refine ⟨a.length + 1, ?_⟩
  unfold laws_szPortS_f laws_szPortS_t laws_szPortS szAll
  refine cond_k rfl ?_
  refine (loop_rows a (fun n i l => laws_szPortS_L0 bad k_ (a.length + 1) a n l i) (fun _ r c l => bif decide ((fun r l => laws_szPort (SPort.decAt r 0) l) r l < 0) then k_ (-1) else c ((fun r l => laws_szPort (SPort.decAt r 0) l) r l)) k_ ?_ ?_ _).trans (go_sz (fun r l => laws_szPort (SPort.decAt r 0) l) k_ a 0 _)
  · intro n i l h
    try dsimp only
    rw [laws_szPortS_L0_s]
    simp only [laws_szPortS_l0, lt_len h, idx_nat h, w64_succ h hl, Int.toNat_natCast, andt_true_l, andt_true_r, cond_true]
  · intro n l
    try dsimp only
    rw [laws_szPortS_L0_s]
    simp only [laws_szPortS_l0, not_lt_len, cond_false]

def laws_toPortS_l0 {α : Type} (bad : α) (k_ : Rows → α) (a : Rows) (ih0 : Int → Rows → α) (i : Int) (out_ : Rows) : α :=
  bif decide (i < len a) then
    bif andt (andt (andt (andt true (idx i a)) (laws_toPort_ok (SPort.decAt (nth a (Int.toNat i)) 0))) (idx i out_)) ((inl (Int.toNat i) out_) && true) then
      ih0 (w64 (i + 1)) (List.set out_ (Int.toNat i) (splice (nth out_ (Int.toNat i)) 0 (SPort.enc (idf (SPort.decAt (nth a (Int.toNat i)) 0)))))
    else bad
  else k_ out_
def laws_toPortS_L0 {α : Type} (bad : α) (k_ : Rows → α) (N : Nat) (a : Rows) (m_ : Nat) : Int → Rows → α :=
  Nat.rec (motive := fun _ => Int → Rows → α) (fun _ _ => bad) (fun _ ih0 => laws_toPortS_l0 bad k_ a ih0) m_
theorem laws_toPortS_L0_z {α : Type} (bad : α) (k_ : Rows → α) (N : Nat) (a : Rows) (i : Int) (out_ : Rows) : laws_toPortS_L0 bad k_ N a 0 i out_ = bad := rfl
theorem laws_toPortS_L0_s {α : Type} (bad : α) (k_ : Rows → α) (N : Nat) (a : Rows) (m_ : Nat) (i : Int) (out_ : Rows) : laws_toPortS_L0 bad k_ N a (m_ + 1) i out_ = laws_toPortS_l0 bad k_ a (laws_toPortS_L0 bad k_ N a m_) i out_ := rfl
def laws_toPortS_t {α : Type} (bad : α) (k_ : Rows → α) (l0 : Int → Rows → α) (a : Rows) : α :=
  bif andt true (makeOk 48 (len a) (len a)) then
    l0 0 (List.replicate (Int.toNat (len a)) (([.int 0, .sl [], .int 0, .bool false]) : List DC))
  else bad
def laws_toPortS_f {α : Type} (bad : α) (k_ : Rows → α) (N : Nat) (a : Rows) : α := laws_toPortS_t bad k_ (laws_toPortS_L0 bad k_ N a N) a
def laws_toPortS_ok (a : Rows) : Bool := sm a && a.all fun r => laws_toPort_ok (SPort.decAt r 0)
theorem laws_toPortS_c {α : Type} (bad : α) (k_ : Rows → α) (a : Rows) (h_a : WtC (.sl [.int .i64, .sl [.int .i64], .int .i64, .bool]) (.sl a)) (hok : laws_toPortS_ok a = true) : ∃ N, laws_toPortS_f bad k_ N a = k_ (idf a) := by
  obtain ⟨hl, hw⟩ := wt_sl h_a
  simp only [laws_toPortS_ok, Bool.and_eq_true, List.all_eq_true] at hok
  obtain ⟨hsm, hel⟩ := hok
  refine ⟨a.length + 1, ?_⟩
  unfold laws_toPortS_f laws_toPortS_t
  have e0 : Int.toNat (len a) = a.length := by simp [len]
  simp only [make_sm hsm (show 48 ≤ 8388608 by omega), andt_true_l, cond_true, e0]
  refine copy_set a (laws_toPortS_L0 bad k_ (a.length + 1) a) k_ [.int 0, .sl [], .int 0, .bool false] (fun o r => splice o 0 (SPort.enc (idf (SPort.decAt r 0)))) ?_ ?_ ?_
  · intro n i out h ho
    have he2 := hel (nth a i) (nth_mem h)
    rw [laws_toPortS_L0_s]
    simp only [laws_toPortS_l0, lt_len h, idx_nat h, idx_set ho h, inl_nat (show i < out.length by omega), w64_succ h hl, Int.toNat_natCast, Bool.and_true, andt_true_l, andt_true_r, cond_true, he2]
    try rfl
  · intro n out ho
    rw [laws_toPortS_L0_s]
    simp only [laws_toPortS_l0, not_lt_len, cond_false]
  · intro r hr
    refine (splice_all ?_).trans ?_
    · rfl
    · exact SPort.eta (hw r hr)

def laws_toPacketS_l0 {α : Type} (bad : α) (k_ : Rows → α) (a : Rows) (ih0 : Int → Rows → α) (i : Int) (out_ : Rows) : α :=
  bif decide (i < len a) then
    bif andt (andt (andt true (idx i a)) (idx i out_)) (inl (Int.toNat i) out_) then
      ih0 (w64 (i + 1)) (List.set out_ (Int.toNat i) (splice (nth out_ (Int.toNat i)) 0 (SPacket.enc (idf (SPacket.decAt (nth a (Int.toNat i)) 0)))))
    else bad
  else k_ out_
def laws_toPacketS_L0 {α : Type} (bad : α) (k_ : Rows → α) (N : Nat) (a : Rows) (m_ : Nat) : Int → Rows → α :=
  Nat.rec (motive := fun _ => Int → Rows → α) (fun _ _ => bad) (fun _ ih0 => laws_toPacketS_l0 bad k_ a ih0) m_
theorem laws_toPacketS_L0_z {α : Type} (bad : α) (k_ : Rows → α) (N : Nat) (a : Rows) (i : Int) (out_ : Rows) : laws_toPacketS_L0 bad k_ N a 0 i out_ = bad := rfl
theorem laws_toPacketS_L0_s {α : Type} (bad : α) (k_ : Rows → α) (N : Nat) (a : Rows) (m_ : Nat) (i : Int) (out_ : Rows) : laws_toPacketS_L0 bad k_ N a (m_ + 1) i out_ = laws_toPacketS_l0 bad k_ a (laws_toPacketS_L0 bad k_ N a m_) i out_ := rfl
def laws_toPacketS_t {α : Type} (bad : α) (k_ : Rows → α) (l0 : Int → Rows → α) (a : Rows) : α :=
  bif andt true (makeOk 136 (len a) (len a)) then
    l0 0 (List.replicate (Int.toNat (len a)) (([.int 0, .int 0, .int 0, .int 0, .int 0, .int 0, .int 0, .int 0, .int 0, .int 0, .int 0, .int 0, .int 0, .int 0, .int 0, .str []]) : List DC))
  else bad
def laws_toPacketS_f {α : Type} (bad : α) (k_ : Rows → α) (N : Nat) (a : Rows) : α := laws_toPacketS_t bad k_ (laws_toPacketS_L0 bad k_ N a N) a
theorem laws_toPacketS_c {α : Type} (bad : α) (k_ : Rows → α) (a : Rows) (h_a : WtC (.sl [.int .i64, .int .i64, .int .i64, .int .i64, .int .i64, .int .i64, .int .i64, .int .i64, .int .i64, .int .i64, .int .i64, .int .i64, .int .i64, .int .i64, .int .i64, .str]) (.sl a)) (hok : sm a = true) : ∃ N, laws_toPacketS_f bad k_ N a = k_ (idf a) := by
  obtain ⟨hl, hw⟩ := wt_sl h_a
  have hsm := hok
  refine ⟨a.length + 1, ?_⟩
  unfold laws_toPacketS_f laws_toPacketS_t
  have e0 : Int.toNat (len a) = a.length := by simp [len]
  simp only [make_sm hsm (show 136 ≤ 8388608 by omega), andt_true_l, cond_true, e0]
  refine copy_set a (laws_toPacketS_L0 bad k_ (a.length + 1) a) k_ [.int 0, .int 0, .int 0, .int 0, .int 0, .int 0, .int 0, .int 0, .int 0, .int 0, .int 0, .int 0, .int 0, .int 0, .int 0, .str []] (fun o r => splice o 0 (SPacket.enc (idf (SPacket.decAt r 0)))) ?_ ?_ ?_
  · intro n i out h ho
    rw [laws_toPacketS_L0_s]
    simp only [laws_toPacketS_l0, lt_len h, idx_nat h, idx_set ho h, inl_nat (show i < out.length by omega), w64_succ h hl, Int.toNat_natCast, Bool.and_true, andt_true_l, andt_true_r, cond_true]
    try rfl
  · intro n out ho
    rw [laws_toPacketS_L0_s]
    simp only [laws_toPacketS_l0, not_lt_len, cond_false]
  · intro r hr
    refine (splice_all ?_).trans ?_
    · rfl
    · exact SPacket.eta (hw r hr)

def laws_eqPortS_l0 {α : Type} (bad : α) (k_ : Bool → α) (a : Rows) (b : Rows) (ih0 : Int → α) (i : Int) : α :=
  bif decide (i < len a) then
    bif andt (andt (andt true (idx i a)) (idx i b)) (same (SPort.decAt (nth a (Int.toNat i)) 0) (SPort.decAt (nth b (Int.toNat i)) 0)) then
      bif !(yes2 (SPort.decAt (nth a (Int.toNat i)) 0) (SPort.decAt (nth b (Int.toNat i)) 0)) then k_ false
      else ih0 (w64 (i + 1))
    else bad
  else k_ true
def laws_eqPortS_L0 {α : Type} (bad : α) (k_ : Bool → α) (N : Nat) (a : Rows) (b : Rows) (m_ : Nat) : Int → α :=
  Nat.rec (motive := fun _ => Int → α) (fun _ => bad) (fun _ ih0 => laws_eqPortS_l0 bad k_ a b ih0) m_
theorem laws_eqPortS_L0_z {α : Type} (bad : α) (k_ : Bool → α) (N : Nat) (a : Rows) (b : Rows) (i : Int) : laws_eqPortS_L0 bad k_ N a b 0 i = bad := rfl
theorem laws_eqPortS_L0_s {α : Type} (bad : α) (k_ : Bool → α) (N : Nat) (a : Rows) (b : Rows) (m_ : Nat) (i : Int) : laws_eqPortS_L0 bad k_ N a b (m_ + 1) i = laws_eqPortS_l0 bad k_ a b (laws_eqPortS_L0 bad k_ N a b m_) i := rfl
def laws_eqPortS_t {α : Type} (bad : α) (k_ : Bool → α) (l0 : Int → α) (a : Rows) (b : Rows) : α :=
  bif (len a) != (len b) then k_ false
  else l0 0
def laws_eqPortS_f {α : Type} (bad : α) (k_ : Bool → α) (N : Nat) (a : Rows) (b : Rows) : α := laws_eqPortS_t bad k_ (laws_eqPortS_L0 bad k_ N a b N) a b
theorem laws_eqPortS_c {α : Type} (bad : α) (k_ : Bool → α) (a : Rows) (b : Rows) (h_a : WtC (.sl [.int .i64, .sl [.int .i64], .int .i64, .bool]) (.sl a)) (h_b : WtC (.sl [.int .i64, .sl [.int .i64], .int .i64, .bool]) (.sl b)) (hok : same a b = true) : ∃ N, laws_eqPortS_f bad k_ N a b = k_ (yes2 a b) := by
  obtain rfl := same_eq hok
  obtain ⟨hl, _⟩ := wt_sl h_a
  refine ⟨a.length + 1, ?_⟩
  unfold laws_eqPortS_f laws_eqPortS_t
  simp only [bne_self_eq_false, cond_false]
  refine (loop_rows0 a (laws_eqPortS_L0 bad k_ (a.length + 1) a a) (fun _ _ c => c) (k_ true) ?_ ?_).trans (go_skip _ _ _)
  · intro n i h
    rw [laws_eqPortS_L0_s]
    simp only [laws_eqPortS_l0, lt_len h, idx_nat h, w64_succ h hl, Int.toNat_natCast, andt_true_l, andt_true_r, cond_true, cond_false, bne_self_eq_false, beq_self_eq_true, Bool.not_true, same_refl, yes2]
  · intro n
    rw [laws_eqPortS_L0_s]
    simp only [laws_eqPortS_l0, not_lt_len, cond_false]

theorem laws_szSegment_ok {a : SSegment} {left : Int} (hwt : WtL SSegment.ct a.enc) (h1 : 0 ≤ left) (h2 : left ≤ 1048576) (h0 : 0 ≤ laws_szSegment a left) : laws_szSegment a left ≤ 1048576 ∧ True := by
  simp only [laws_szSegment, laws_szSegment_t, id] at h0 ⊢
  by_cases c0 : w64 (left - (len a.Body)) < 0
  · simp only [c0, decide_true, cond_true] at h0; omega
  simp only [c0, decide_false, cond_false] at h0 ⊢
  have k0 := sz_str (wt_str (SSegment.wt_Body hwt)) h1 h2 (Int.not_lt.1 c0)
  exact ⟨k0.1, trivial⟩

theorem laws_szPacket_ok {a : SPacket} {left : Int} (hwt : WtL SPacket.ct a.enc) (h1 : 0 ≤ left) (h2 : left ≤ 1048576) (h0 : 0 ≤ laws_szPacket a left) : laws_szPacket a left ≤ 1048576 ∧ True := by
  simp only [laws_szPacket, laws_szPacket_t, id] at h0 ⊢
  by_cases c0 : laws_szSegment a.Seg left < 0
  · simp only [c0, decide_true, cond_true] at h0; omega
  simp only [c0, decide_false, cond_false] at h0 ⊢
  have k0 := laws_szSegment_ok (SPacket.wt_Seg hwt) h1 h2 (Int.not_lt.1 c0)
  exact ⟨k0.1, trivial⟩

theorem laws_szPacketS_ok {a : Rows} {left : Int} (hwt : WtC (.sl [.int .i64, .int .i64, .int .i64, .int .i64, .int .i64, .int .i64, .int .i64, .int .i64, .int .i64, .int .i64, .int .i64, .int .i64, .int .i64, .int .i64, .int .i64, .str]) (.sl a)) (h1 : 0 ≤ left) (h2 : left ≤ 1048576) (h0 : 0 ≤ laws_szPacketS a left) : laws_szPacketS a left ≤ 1048576 ∧ sm a = true := by
  obtain ⟨hl, hw⟩ := wt_sl hwt
  have h3 := szAll_ok (P := fun _ => True) (fun r hr l hl0 hl1 h => ⟨(laws_szPacket_ok (by rw [SPacket.eta (hw r hr)]; exact hw r hr) hl0 hl1 h).1, trivial⟩) h1 h2 hl h0
  exact ⟨h3.1, h3.2.1⟩

theorem laws_szPort_ok {a : SPort} {left : Int} (hwt : WtL SPort.ct a.enc) (h1 : 0 ≤ left) (h2 : left ≤ 1048576) (h0 : 0 ≤ laws_szPort a left) : laws_szPort a left ≤ 1048576 ∧ laws_toPort_ok a = true := by
  simp only [laws_szPort, laws_szPort_t, id] at h0 ⊢
  by_cases c0 : szFlat a.Vlans left < 0
  · simp only [c0, decide_true, cond_true] at h0; omega
  simp only [c0, decide_false, cond_false] at h0 ⊢
  have k0 := szFlat_ok h1 h2 (wt_sl (SPort.wt_Vlans hwt)).1 (Int.not_lt.1 c0)
  exact ⟨k0.1, by simp only [laws_toPort_ok, laws_toPort_t, k0.2, andt_true_l, andt_true_r, cond_true]⟩

theorem laws_szPortS_ok {a : Rows} {left : Int} (hwt : WtC (.sl [.int .i64, .sl [.int .i64], .int .i64, .bool]) (.sl a)) (h1 : 0 ≤ left) (h2 : left ≤ 1048576) (h0 : 0 ≤ laws_szPortS a left) : laws_szPortS a left ≤ 1048576 ∧ laws_toPortS_ok a = true := by
  obtain ⟨hl, hw⟩ := wt_sl hwt
  have h3 := szAll_ok (P := fun r => laws_toPort_ok (SPort.decAt r 0) = true) (fun r hr l hl0 hl1 h => laws_szPort_ok (by rw [SPort.eta (hw r hr)]; exact hw r hr) hl0 hl1 h) h1 h2 hl h0
  exact ⟨h3.1, by simp only [laws_toPortS_ok, Bool.and_eq_true, List.all_eq_true]; exact h3.2⟩


def laws_markIntS_l0 {α : Type} (bad : α) (k_ : Int → Rows → α) (ih0 : Int → Int → Rows → α) (k_1 : Int) (i : Int) (a_1 : Rows) : α :=
  bif decide (i < len a_1) then
    bif andt (andt true (idx i a_1)) (inl (Int.toNat i) a_1) then
      ih0 (w64 (k_1 + 1)) (w64 (i + 1)) (List.set a_1 (Int.toNat i) (splice (nth a_1 (Int.toNat i)) 0 [.int k_1]))
    else bad
  else k_ k_1 a_1
def laws_markIntS_L0 {α : Type} (bad : α) (k_ : Int → Rows → α) (N : Nat) (m_ : Nat) : Int → Int → Rows → α :=
  Nat.rec (motive := fun _ => Int → Int → Rows → α) (fun _ _ _ => bad) (fun _ ih0 => laws_markIntS_l0 bad k_ ih0) m_
theorem laws_markIntS_L0_z {α : Type} (bad : α) (k_ : Int → Rows → α) (N : Nat) (k_1 : Int) (i : Int) (a_1 : Rows) : laws_markIntS_L0 bad k_ N 0 k_1 i a_1 = bad := rfl
theorem laws_markIntS_L0_s {α : Type} (bad : α) (k_ : Int → Rows → α) (N : Nat) (m_ : Nat) (k_1 : Int) (i : Int) (a_1 : Rows) : laws_markIntS_L0 bad k_ N (m_ + 1) k_1 i a_1 = laws_markIntS_l0 bad k_ (laws_markIntS_L0 bad k_ N m_) k_1 i a_1 := rfl
def laws_markIntS_t {α : Type} (bad : α) (k_ : Int → Rows → α) (l0 : Int → Int → Rows → α) (a : Rows) (k : Int) : α :=
  l0 k 0 a
def laws_markIntS_f {α : Type} (bad : α) (k_ : Int → Rows → α) (N : Nat) (a : Rows) (k : Int) : α := laws_markIntS_t bad k_ (laws_markIntS_L0 bad k_ N N) a k
def fIntS (k : Int) : List DC := [.int k]
def markIntS (a : Rows) (k : Int) : Int × Rows := (k + 1 * a.length, mkl fIntS 1 a.length k)
theorem laws_markIntS_c {α : Type} (bad : α) (k_ : Int → Rows → α) (a : Rows) (k : Int) (h_a : WtC (.sl [.int .i64]) (.sl a)) (h_k : WtC (.int .i64) (.int k)) (hok : mko 1 a k = true) : ∃ N, laws_markIntS_f bad k_ N a k = k_ (markIntS a k).1 (markIntS a k).2 := by
  obtain ⟨hl, hw⟩ := wt_sl h_a
  obtain ⟨h1, h2, h3⟩ := mko_of hok
  refine ⟨a.length + 1, ?_⟩
  unfold laws_markIntS_f laws_markIntS_t markIntS
  refine mark_loop a k 1 fIntS (laws_markIntS_L0 bad k_ (a.length + 1)) k_ ?_ ?_
  · intro n i b h hb hn
    rw [laws_markIntS_L0_s]
    have w1 : w64 (k + 1 * (i : Int) + 1) = k + 1 * (i : Int) + 1 := w64_in (by omega) (by omega)
    have hs : splice (nth a i) 0 (fIntS (k + 1 * (i : Int))) = fIntS (k + 1 * (i : Int)) := splice_all (by rw [wtl_len (hw (nth a i) (nth_mem h))]; rfl)
    simp only [laws_markIntS_l0, lt_len (show i < b.length by omega), idx_nat (show i < b.length by omega), inl_nat (show i < b.length by omega), w64_succ h hl, Int.toNat_natCast, andt_true_l, andt_true_r, cond_true, hn, w1]
    rw [← hs]; rfl
  · intro n b hb
    rw [laws_markIntS_L0_s]
    simp only [laws_markIntS_l0, ← hb, not_lt_len, cond_false]

def laws_heldIntS_l0 {α : Type} (bad : α) (k_ : Int → α) (a : Rows) (ih0 : Int → Int → α) (k_1 : Int) (i : Int) : α :=
  bif decide (i < len a) then
    bif andt true (idx i a) then
      bif (rI (nth a (Int.toNat i)) 0) != k_1 then k_ (-1)
      else ih0 (w64 (k_1 + 1)) (w64 (i + 1))
    else bad
  else k_ k_1
def laws_heldIntS_L0 {α : Type} (bad : α) (k_ : Int → α) (N : Nat) (a : Rows) (m_ : Nat) : Int → Int → α :=
  Nat.rec (motive := fun _ => Int → Int → α) (fun _ _ => bad) (fun _ ih0 => laws_heldIntS_l0 bad k_ a ih0) m_
theorem laws_heldIntS_L0_z {α : Type} (bad : α) (k_ : Int → α) (N : Nat) (a : Rows) (k_1 : Int) (i : Int) : laws_heldIntS_L0 bad k_ N a 0 k_1 i = bad := rfl
theorem laws_heldIntS_L0_s {α : Type} (bad : α) (k_ : Int → α) (N : Nat) (a : Rows) (m_ : Nat) (k_1 : Int) (i : Int) : laws_heldIntS_L0 bad k_ N a (m_ + 1) k_1 i = laws_heldIntS_l0 bad k_ a (laws_heldIntS_L0 bad k_ N a m_) k_1 i := rfl
def laws_heldIntS_t {α : Type} (bad : α) (k_ : Int → α) (l0 : Int → Int → α) (a : Rows) (k : Int) : α :=
  l0 k 0
def laws_heldIntS_f {α : Type} (bad : α) (k_ : Int → α) (N : Nat) (a : Rows) (k : Int) : α := laws_heldIntS_t bad k_ (laws_heldIntS_L0 bad k_ N a N) a k
def heldIntS (a : Rows) (k : Int) : Int := k + 1 * a.length
theorem laws_heldIntS_c {α : Type} (bad : α) (k_ : Int → α) (a : Rows) (k : Int) (h_a : WtC (.sl [.int .i64]) (.sl a)) (h_k : WtC (.int .i64) (.int k)) (hok : hdo fIntS 1 a k = true) : ∃ N, laws_heldIntS_f bad k_ N a k = k_ (heldIntS a k) := by
  obtain ⟨hl, hw⟩ := wt_sl h_a
  obtain ⟨h0, h1, h2, h3⟩ := hdo_of hok
  refine ⟨a.length + 1, ?_⟩
  unfold laws_heldIntS_f laws_heldIntS_t heldIntS
  refine held_loop a k 1 fIntS (laws_heldIntS_L0 bad k_ (a.length + 1) a) k_ h0 ?_ ?_
  · intro n i h hn
    rw [laws_heldIntS_L0_s]
    have w1 : w64 (k + 1 * (i : Int) + 1) = k + 1 * (i : Int) + 1 := w64_in (by omega) (by omega)
    simp only [laws_heldIntS_l0, lt_len h, idx_nat h, w64_succ h hl, Int.toNat_natCast, andt_true_l, andt_true_r, cond_true, hn, w1, rI_one, bne_self_eq_false, fIntS, cond_false]
  · intro n
    rw [laws_heldIntS_L0_s]
    simp only [laws_heldIntS_l0, not_lt_len, cond_false]

def laws_markText_l0 {α : Type} (bad : α) (k_ : Bytes → α) (ih0 : Int → Bytes → α) (k_1 : Int) (out_ : Bytes) : α :=
  bif decide (0 < k_1) then
    bif andt true (catOk (toStr ([[.int (IntKind.wrap .u8 (w64 (48 + (Int.tmod k_1 10))))]])) out_) then
      ih0 (w64 (Int.tdiv k_1 10)) ((toStr ([[.int (IntKind.wrap .u8 (w64 (48 + (Int.tmod k_1 10))))]])) ++ out_)
    else bad
  else bif andt true (catOk [109] out_) then
      k_ ([109] ++ out_)
    else bad
def laws_markText_L0 {α : Type} (bad : α) (k_ : Bytes → α) (N : Nat) (m_ : Nat) : Int → Bytes → α :=
  Nat.rec (motive := fun _ => Int → Bytes → α) (fun _ _ => bad) (fun _ ih0 => laws_markText_l0 bad k_ ih0) m_
theorem laws_markText_L0_z {α : Type} (bad : α) (k_ : Bytes → α) (N : Nat) (k_1 : Int) (out_ : Bytes) : laws_markText_L0 bad k_ N 0 k_1 out_ = bad := rfl
theorem laws_markText_L0_s {α : Type} (bad : α) (k_ : Bytes → α) (N : Nat) (m_ : Nat) (k_1 : Int) (out_ : Bytes) : laws_markText_L0 bad k_ N (m_ + 1) k_1 out_ = laws_markText_l0 bad k_ (laws_markText_L0 bad k_ N m_) k_1 out_ := rfl
def laws_markText_t {α : Type} (bad : α) (k_ : Bytes → α) (l0 : Int → Bytes → α) (k : Int) : α :=
  bif decide (k ≤ 0) then k_ [109, 48]
  else l0 k []
def laws_markText_f {α : Type} (bad : α) (k_ : Bytes → α) (N : Nat) (k : Int) : α := laws_markText_t bad k_ (laws_markText_L0 bad k_ N N) k
def mtD (k : Int) : Bytes := toStr ([[.int (IntKind.wrap .u8 (w64 (48 + (Int.tmod k 10))))]])
def mtl : Nat → Int → Bytes → Bytes
  | 0, _, o => o
  | n + 1, k, o => bif decide (0 < k) then mtl n (w64 (Int.tdiv k 10)) (mtD k ++ o) else o
def markText (k : Int) : Bytes := bif decide (k ≤ 0) then [109, 48] else [109] ++ mtl 25 k []
theorem laws_markText_c {α : Type} (bad : α) (k_ : Bytes → α) (k : Int) (h_k : WtC (.int .i64) (.int k)) : ∃ N, laws_markText_f bad k_ N k = k_ (markText k) := by
  have h63 := wt_int h_k
  refine ⟨26, ?_⟩
  have key : ∀ (n : Nat) (k : Int) (o : Bytes), 0 ≤ k → k ≤ 9223372036854775807 → k < 10 ^ n → o.length + n ≤ 100 →
      laws_markText_L0 bad k_ 26 (n + 1) k o = k_ ([109] ++ mtl n k o) := by
    intro n
    induction n with
    | zero =>
      intro k o h0 h1 h2 h3
      have : k = 0 := by simp only [Int.pow_zero] at h2; omega
      subst this
      rw [laws_markText_L0_s]
      have c1 : catOk [109] o = true := by simp only [catOk, List.length_cons, List.length_nil, decide_eq_true_eq]; omega
      simp only [laws_markText_l0, c1, andt_true_l, cond_true, mtl]
      rfl
    | succ n ih =>
      intro k o h0 h1 h2 h3
      rw [laws_markText_L0_s]
      have c1 : catOk [109] o = true := by simp only [catOk, List.length_cons, List.length_nil, decide_eq_true_eq]; omega
      by_cases hk : 0 < k
      · have l1 : (mtD k).length = 1 := rfl
        have c2 : catOk (mtD k) o = true := by simp only [catOk, l1, decide_eq_true_eq]; omega
        have e1 : Int.tdiv k 10 = k / 10 := Int.tdiv_eq_ediv_of_nonneg h0
        have e2 : w64 (Int.tdiv k 10) = k / 10 := by rw [e1]; exact w64_in (by omega) (by omega)
        have := ih (k / 10) (mtD k ++ o) (by omega) (by omega) (by rw [Int.pow_succ] at h2; omega) (by rw [List.length_append, l1]; omega)
        have hd : decide (0 < k) = true := decide_eq_true hk
        unfold laws_markText_l0 mtl
        rw [hd, e2]
        show (bif andt true (catOk (mtD k) o) then _ else bad) = _
        rw [c2]
        exact this
      · have hd : decide (0 < k) = false := decide_eq_false hk
        simp only [laws_markText_l0, hd, c1, andt_true_l, cond_true, cond_false, mtl]
  unfold laws_markText_f laws_markText_t markText
  by_cases h : k ≤ 0
  · simp only [decide_eq_true h, cond_true]
  · simp only [decide_eq_false h, cond_false]
    exact key 25 k [] (by omega) (by omega) (by omega) (by simp)

end
end Go.Proofs.Ytklbgnodgnlebaa.Pl
