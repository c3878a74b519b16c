/- What functions of the program compute, in plain Lean, as the value machine runs them. Conditions: none. -/
import Derived.Test.YtklbgnodgnlebaaPSx
import Derived.Test.YtklbgnodgnlebaaPCu
set_option linter.unusedVariables false
set_option linter.unusedSimpArgs false
set_option maxRecDepth 100000
namespace Go.Proofs.Ytklbgnodgnlebaa.Pl
open Vm
noncomputable section



theorem pick_t {c : Sl01Cur} {l : Rows} (h : curOk c = true) (hl : 0 < l.length) : pickOk c l = true := by
  unfold pickOk
  rw [h]
  exact decide_eq_true hl
theorem pick_c {c : Sl01Cur} {x : List DC} {l : Rows} (h : curOk c = true) : pickOk c (x :: l) = true := pick_t h (Nat.zero_lt_succ _)
theorem cur1_t {c : Sl01Cur} (n : Int) (h : curOk c = true) : curOk1 c n = true := h
theorem cur_eta (c : Sl01Cur) : (⟨c.b, c.i, c.h⟩ : Sl01Cur) = c := rfl

def spec_l06Host_t {α : Type} (bad : α) (k_ : Int → Sl01Cur → α) (c : Sl01Cur) : α :=
  bif andt true (curOk1 c 3) then
    k_ (w64 (167772161 + ((l01Below c 3).1))) ((l01Below c 3).2)
  else bad
def l06Host_ok (c : Sl01Cur) : Bool := spec_l06Host_t false (fun _ _ => true) c
def l06Host (c : Sl01Cur) : Int × Sl01Cur := (spec_l06Host_t none (fun r0 r1 => some (r0, r1)) c).getD (0, ⟨[], 0, 0⟩)
theorem spec_l06Host_c {α : Type} (bad : α) (k_ : Int → Sl01Cur → α) (c : Sl01Cur) (hok : l06Host_ok c = true) : spec_l06Host_t bad k_ c = k_ (l06Host c).1 (l06Host c).2 := by
  exact part_all (K := fun r : Int × Sl01Cur => k_ r.1 r.2) (part_guard (fun _ => ⟨_, rfl, rfl⟩)) hok


theorem l06Host_k {c : Sl01Cur} (h : curOk c = true) : l06Host_ok c = true ∧ curOk (l06Host c).2 = true := by
  simp only [l06Host_ok, l06Host, spec_l06Host_t, cur1_t _ h, andt_true_l, cond_true, Option.getD_some, l01Below_cur h, and_self]

def spec_l06Flags_t {α : Type} (bad : α) (k_ : Int → Sl01Cur → α) (c : Sl01Cur) : α :=
  let z0 : Rows := [[.int 16], [.int 16], [.int 16], [.int 24], [.int 17], [.int 2], [.int 4], [.int 31], [.int 0]]
  let z1 : Int × Sl01Cur := l01PickInt c z0
  bif andt true (pickOk c z0) then
    k_ z1.1 z1.2
  else bad
def l06Flags_ok (c : Sl01Cur) : Bool := spec_l06Flags_t false (fun _ _ => true) c
def l06Flags (c : Sl01Cur) : Int × Sl01Cur := (spec_l06Flags_t none (fun r0 r1 => some (r0, r1)) c).getD (0, ⟨[], 0, 0⟩)
theorem spec_l06Flags_c {α : Type} (bad : α) (k_ : Int → Sl01Cur → α) (c : Sl01Cur) (hok : l06Flags_ok c = true) : spec_l06Flags_t bad k_ c = k_ (l06Flags c).1 (l06Flags c).2 := by
  exact part_all (K := fun r : Int × Sl01Cur => k_ r.1 r.2) (part_guard (fun _ => ⟨_, rfl, rfl⟩)) hok


theorem l06Flags_k {c : Sl01Cur} (h : curOk c = true) : l06Flags_ok c = true ∧ curOk (l06Flags c).2 = true := by
  have hp : pickOk c [[.int 16], [.int 16], [.int 16], [.int 24], [.int 17], [.int 2], [.int 4], [.int 31], [.int 0]] = true := pick_t h (by decide)
  simp only [l06Flags_ok, l06Flags, spec_l06Flags_t, hp, andt_true_l, cond_true, Option.getD_some, l01PickInt_cur h, and_self]

def spec_l06Segment_t {α : Type} (bad : α) (k_ : SSegment → Sl01Cur → α) (c : Sl01Cur) (most : Int) : α :=
  let z0 : Int × Sl01Cur := l01PickInt ((l01Below ((l01Below c 2).2) 65536).2) ([[.int 0], [.int 100], [.int 4294967290], [.int ((l01Below ((l01Below c 2).2) 65536).1)]])
  let z1 : Sl01Cur := z0.2
  let z2 : Int × Sl01Cur := l01PickInt z1 ([[.int 0], [.int 5], [.int 4294967295]])
  let z3 : Sl01Cur := z2.2
  let z4 : Int × Sl01Cur := l06Flags z3
  let z5 : Sl01Cur := z4.2
  let z6 : Int × Sl01Cur := l01PickInt z5 ([[.int 0], [.int 512], [.int 65535]])
  let z7 : Sl01Cur := z6.2
  let z8 : Int × Sl01Cur := l01Below z7 (w64 (most + 1))
  let z9 : Sl01Cur := z8.2
  let z10 : Int := z8.1
  let z11 : Bytes × Sl01Cur := l01Text z9 z10
  let z12 : Sl01Cur := z11.2
  let z13 : Bool × Sl01Cur := l01Once z12 4
  let z14 : Int := w64 (1000 + ((l01Below c 2).1))
  let z15 : Bytes := z11.1
  let z16 : Sl01Cur := z13.2
  bif andt (andt (andt (andt (andt (andt true (curOk1 c 2)) (curOk1 ((l01Below c 2).2) 65536)) (pickOk ((l01Below ((l01Below c 2).2) 65536).2) ([[.int 0], [.int 100], [.int 4294967290], [.int ((l01Below ((l01Below c 2).2) 65536).1)]]))) (pickOk z1 ([[.int 0], [.int 5], [.int 4294967295]]))) (l06Flags_ok z3)) (pickOk z5 ([[.int 0], [.int 512], [.int 65535]])) then
    bif andt (andt true (curOk1 z7 (w64 (most + 1)))) (curOk1 z9 z10) then
      bif andt true (curOk1 z12 4) then
        bif z13.1 then k_ (⟨17, z14, 53, 0, 0, 0, 0, z15⟩ : SSegment) z16
        else k_ (⟨6, z14, 80, z0.1, z2.1, z4.1, z6.1, z15⟩ : SSegment) z16
      else bad
    else bad
  else bad
def l06Segment_ok (c : Sl01Cur) (most : Int) : Bool := spec_l06Segment_t false (fun _ _ => true) c most
def l06Segment (c : Sl01Cur) (most : Int) : SSegment × Sl01Cur := (spec_l06Segment_t none (fun r0 r1 => some (r0, r1)) c most).getD (⟨0, 0, 0, 0, 0, 0, 0, []⟩, ⟨[], 0, 0⟩)
theorem spec_l06Segment_c {α : Type} (bad : α) (k_ : SSegment → Sl01Cur → α) (c : Sl01Cur) (most : Int) (hok : l06Segment_ok c most = true) : spec_l06Segment_t bad k_ c most = k_ (l06Segment c most).1 (l06Segment c most).2 := by
  exact part_all (K := fun r : SSegment × Sl01Cur => k_ r.1 r.2) (part_guard (part_guard (part_guard (part_cond (fun _ => ⟨_, rfl, rfl⟩) (fun _ => ⟨_, rfl, rfl⟩))))) hok


theorem l06Segment_k {c : Sl01Cur} (h : curOk c = true) (most : Int) : l06Segment_ok c most = true ∧ curOk (l06Segment c most).2 = true := by
  have a1 := l01Below_cur h 2
  have a2 := l01Below_cur a1 65536
  have a3 := l01PickInt_cur a2 [[.int 0], [.int 100], [.int 4294967290], [.int ((l01Below ((l01Below c 2).2) 65536).1)]]
  have a4 := l01PickInt_cur a3 [[.int 0], [.int 5], [.int 4294967295]]
  have a5 := l06Flags_k a4
  have a6 := l01PickInt_cur a5.2 [[.int 0], [.int 512], [.int 65535]]
  have a7 := l01Below_cur a6 (w64 (most + 1))
  have a8 := fun n => l01Text_cur a7 n
  have a9 := fun n => l01Once_cur (a8 n) 4
  simp only [l06Segment_ok, l06Segment, spec_l06Segment_t, cur1_t _ h, cur1_t _ a1, pick_c a2, pick_c a3, a5.1, pick_c a5.2, cur1_t _ a6, cur1_t _ a7, cur1_t _ (a8 _), andt_true_l, andt_true_r, cond_true]
  cases (l01Once (l01Text (l01Below (l01PickInt (l06Flags (l01PickInt (l01PickInt (l01Below (l01Below c 2).2 65536).2 [[.int 0], [.int 100], [.int 4294967290], [.int ((l01Below ((l01Below c 2).2) 65536).1)]]).2 [[.int 0], [.int 5], [.int 4294967295]]).2).2 [[.int 0], [.int 512], [.int 65535]]).2 (w64 (most + 1))).2 (l01Below (l01PickInt (l06Flags (l01PickInt (l01PickInt (l01Below (l01Below c 2).2 65536).2 [[.int 0], [.int 100], [.int 4294967290], [.int ((l01Below ((l01Below c 2).2) 65536).1)]]).2 [[.int 0], [.int 5], [.int 4294967295]]).2).2 [[.int 0], [.int 512], [.int 65535]]).2 (w64 (most + 1))).1).2 4).1
  · exact ⟨rfl, a9 _⟩
  · exact ⟨rfl, a9 _⟩

def spec_l07Packet_t {α : Type} (bad : α) (k_ : SPacket → Sl01Cur → α) (c : Sl01Cur) (most : Int) : α :=
  let z0 : Rows := [[.int 2], [.int 2], [.int 2], [.int 4], [.int 281474976710655]]
  let z1 : Int × Sl01Cur := l01PickInt c z0
  let z2 : Int × Sl01Cur := l01PickInt z1.2 ([[.int 6], [.int 8]])
  let z3 : Sl01Cur := z2.2
  let z4 : Int × Sl01Cur := l01PickInt z3 ([[.int (-1)], [.int (-1)], [.int 7]])
  let z5 : Sl01Cur := z4.2
  let z6 : Int × Sl01Cur := l01PickInt z5 ([[.int 0], [.int 0], [.int 255]])
  let z7 : Sl01Cur := z6.2
  let z8 : Int × Sl01Cur := l01PickInt z7 ([[.int 1], [.int 65535], [.int 65534]])
  let z9 : Sl01Cur := z8.2
  let z10 : Int × Sl01Cur := l01PickInt z9 ([[.int 64], [.int 64], [.int 255]])
  let z11 : Sl01Cur := z10.2
  let z12 : Int × Sl01Cur := l06Host z11
  let z13 : Sl01Cur := z12.2
  let z14 : SSegment × Sl01Cur := l06Segment z13 (minI most 128)
  let z15 : SSegment := z14.1
  let z16 : Int := z15.Kind
  let z17 : Bool := z16 == 6
  let z18 : Int := z15.Flags
  let z19 : Bool := (bits .andNot .i64 z18 9) == 16
  let z20 : Sl01Cur := z14.2
  let z21 : Bool × Sl01Cur := l01Once z20 2
  let z22 : Sl01Cur := z21.2
  let z23 : Rows := z20.b
  let z24 : Int := z20.i
  let z25 : Int := z20.h
  let z26 : Sl01Cur := (⟨bif z17 then bif z19 then bif decide (128 < most) then z22.b else z23 else z23 else z23, bif z17 then bif z19 then bif decide (128 < most) then z22.i else z24 else z24 else z24, bif z17 then bif z19 then bif decide (128 < most) then z22.h else z25 else z25 else z25⟩ : Sl01Cur)
  let z27 : Int := w64 ((w64 (most - 128)) + 1)
  let z28 : Int × Sl01Cur := l01Below z26 z27
  let z29 : Sl01Cur := z28.2
  let z30 : Int := w64 (128 + z28.1)
  let z31 : Int := z2.1
  let z32 : Int := z4.1
  let z33 : Int := z6.1
  let z34 : Int := z8.1
  let z35 : Int := z10.1
  let z36 : Int := z12.1
  let z37 : Bytes × Sl01Cur := l01Text z29 z30
  bif andt (andt (andt (andt (andt (andt (andt true (pickOk c z0)) (pickOk z1.2 ([[.int 6], [.int 8]]))) (pickOk z3 ([[.int (-1)], [.int (-1)], [.int 7]]))) (pickOk z5 ([[.int 0], [.int 0], [.int 255]]))) (pickOk z7 ([[.int 1], [.int 65535], [.int 65534]]))) (pickOk z9 ([[.int 64], [.int 64], [.int 255]]))) (l06Host_ok z11) then
    bif andt true (l06Segment_ok z13 (minI most 128)) then
      bif okm z17 (okm z19 (okm (decide (128 < most)) (andt true (curOk1 z20 2)) true) true) true then
        bif bif z17 then bif z19 then bif decide (128 < most) then z21.1 else false else false else false then
          bif andt (andt true (curOk1 z26 z27)) (curOk1 z29 z30) then
            k_ (⟨z1.1, z31, z32, z33, z34, z35, z36, 167772161, (⟨z16, z15.SrcPort, z15.DstPort, z15.Seq, z15.Ack, z18, z15.Window, z37.1⟩ : SSegment)⟩ : SPacket) z37.2
          else bad
        else k_ (⟨z1.1, z31, z32, z33, z34, z35, z36, 167772161, z15⟩ : SPacket) z26
      else bad
    else bad
  else bad
def l07Packet_ok (c : Sl01Cur) (most : Int) : Bool := spec_l07Packet_t false (fun _ _ => true) c most
def l07Packet (c : Sl01Cur) (most : Int) : SPacket × Sl01Cur := (spec_l07Packet_t none (fun r0 r1 => some (r0, r1)) c most).getD (⟨0, 0, 0, 0, 0, 0, 0, 0, ⟨0, 0, 0, 0, 0, 0, 0, []⟩⟩, ⟨[], 0, 0⟩)
theorem spec_l07Packet_c {α : Type} (bad : α) (k_ : SPacket → Sl01Cur → α) (c : Sl01Cur) (most : Int) (hok : l07Packet_ok c most = true) : spec_l07Packet_t bad k_ c most = k_ (l07Packet c most).1 (l07Packet c most).2 := by
  exact part_all (K := fun r : SPacket × Sl01Cur => k_ r.1 r.2) (part_guard (part_guard (part_guard (part_cond (part_guard (fun _ => ⟨_, rfl, rfl⟩)) (fun _ => ⟨_, rfl, rfl⟩))))) hok


theorem cur_if {b : Bool} {x y : Sl01Cur} (hx : curOk x = true) (hy : curOk y = true) : curOk (⟨bif b then x.b else y.b, bif b then x.i else y.i, bif b then x.h else y.h⟩ : Sl01Cur) = true := by
  cases b
  · exact hy
  · exact hx
theorem l07Packet_k {c : Sl01Cur} (h : curOk c = true) (most : Int) : l07Packet_ok c most = true ∧ curOk (l07Packet c most).2 = true := by
  have a1 := l01PickInt_cur h [[.int 2], [.int 2], [.int 2], [.int 4], [.int 281474976710655]]
  have a2 := l01PickInt_cur a1 [[.int 6], [.int 8]]
  have a3 := l01PickInt_cur a2 [[.int (-1)], [.int (-1)], [.int 7]]
  have a4 := l01PickInt_cur a3 [[.int 0], [.int 0], [.int 255]]
  have a5 := l01PickInt_cur a4 [[.int 1], [.int 65535], [.int 65534]]
  have a6 := l01PickInt_cur a5 [[.int 64], [.int 64], [.int 255]]
  have a7 := l06Host_k a6
  have a8 := l06Segment_k a7.2 (minI most 128)
  simp only [l07Packet_ok, l07Packet, spec_l07Packet_t, pick_c h, pick_c a1, pick_c a2, pick_c a3, pick_c a4, pick_c a5, a7.1, a8.1, cur1_t 2 a8.2, andt_true_l, andt_true_r, cond_true, okm_tt]
  generalize l06Segment (l06Host (l01PickInt (l01PickInt (l01PickInt (l01PickInt (l01PickInt (l01PickInt c [[.int 2], [.int 2], [.int 2], [.int 4], [.int 281474976710655]]).2 [[.int 6], [.int 8]]).2 [[.int (-1)], [.int (-1)], [.int 7]]).2 [[.int 0], [.int 0], [.int 255]]).2 [[.int 1], [.int 65535], [.int 65534]]).2 [[.int 64], [.int 64], [.int 255]]).2).2 (minI most 128) = G at a8 ⊢
  have b1 := l01Once_cur a8.2 2
  have b2 := l01Below_cur b1 (w64 (w64 (most - 128) + 1))
  have b3 := l01Text_cur b2 (w64 (128 + (l01Below (l01Once G.2 2).2 (w64 (w64 (most - 128) + 1))).1))
  cases (G.1.Kind == 6)
  · exact ⟨rfl, a8.2⟩
  cases ((bits .andNot .i64 G.1.Flags 9) == 16)
  · exact ⟨rfl, a8.2⟩
  cases decide (128 < most)
  · exact ⟨rfl, a8.2⟩
  simp only [cond_true, cur_eta, cur1_t _ b1, cur1_t _ b2, andt_true_l]
  cases (l01Once G.2 2).1
  · exact ⟨rfl, b1⟩
  · exact ⟨rfl, b3⟩

def spec_l32Ports_l0 {α : Type} (bad : α) (k_ : Rows → Sl01Cur → α) (ih0 : Int → Rows → Int → Int → Rows → α) (k : Int) (b5000000 : Rows) (b5000000_1 : Int) (b5000000_2 : Int) (out_ : Rows) : α :=
  let z0 : Int × Sl01Cur := l01Below ((l01Once (⟨b5000000, b5000000_1, b5000000_2⟩ : Sl01Cur) 2).2) 3
  let z1 : Bool := andt true (curOk1 z0.2 1)
  let z2 : Int × Sl01Cur := l01Below z0.2 1
  let z3 : Int := z2.1
  let z4 : Nat := Int.toNat z3
  let z5 : Sl01Cur := z2.2
  let z6 : Rows := z5.b
  let z7 : Int := z5.i
  let z8 : Int := z5.h
  let z9 : Int × Sl01Cur := l01Below z0.2 2
  let z10 : Int := z9.1
  let z11 : Sl01Cur := z9.2
  bif decide (0 < k) then
    bif andt true (curOk1 (⟨b5000000, b5000000_1, b5000000_2⟩ : Sl01Cur) 2) then
      bif andt true (curOk1 ((l01Once (⟨b5000000, b5000000_1, b5000000_2⟩ : Sl01Cur) 2).2) 3) then
        bif z0.1 == 0 then
          bif andt (andt z1 (idx z3 (([[.int 1]]) : Rows))) (inl z4 (([[.int 1]]) : Rows)) then
            bif andt true (room2 48 out_ ([[.int (w64 (2 * (len out_))), .sl ([[.int 1]]), .int (rI (nth ([[.int 1]]) z4) 0), .bool ((l01Once (⟨b5000000, b5000000_1, b5000000_2⟩ : Sl01Cur) 2).1)]])) then
              ih0 (w64 (k - 1)) z6 z7 z8 (out_ ++ ([[.int (w64 (2 * (len out_))), .sl ([[.int 1]]), .int (rI (nth ([[.int 1]]) z4) 0), .bool ((l01Once (⟨b5000000, b5000000_1, b5000000_2⟩ : Sl01Cur) 2).1)]]))
            else bad
          else bad
        else bif z0.1 == 1 then
          bif andt (andt z1 (idx z3 (([[.int 7]]) : Rows))) (inl z4 (([[.int 7]]) : Rows)) then
            bif andt true (room2 48 out_ ([[.int (w64 (2 * (len out_))), .sl ([[.int 7]]), .int (rI (nth ([[.int 7]]) z4) 0), .bool ((l01Once (⟨b5000000, b5000000_1, b5000000_2⟩ : Sl01Cur) 2).1)]])) then
              ih0 (w64 (k - 1)) z6 z7 z8 (out_ ++ ([[.int (w64 (2 * (len out_))), .sl ([[.int 7]]), .int (rI (nth ([[.int 7]]) z4) 0), .bool ((l01Once (⟨b5000000, b5000000_1, b5000000_2⟩ : Sl01Cur) 2).1)]]))
            else bad
          else bad
        else bif andt (andt (andt true (curOk1 z0.2 2)) (idx z10 (([[.int 1], [.int 7]]) : Rows))) (inl (Int.toNat z10) (([[.int 1], [.int 7]]) : Rows)) then
            bif andt true (room2 48 out_ ([[.int (w64 (2 * (len out_))), .sl ([[.int 1], [.int 7]]), .int (rI (nth ([[.int 1], [.int 7]]) (Int.toNat z10)) 0), .bool ((l01Once (⟨b5000000, b5000000_1, b5000000_2⟩ : Sl01Cur) 2).1)]])) then
              ih0 (w64 (k - 1)) z11.b z11.i z11.h (out_ ++ ([[.int (w64 (2 * (len out_))), .sl ([[.int 1], [.int 7]]), .int (rI (nth ([[.int 1], [.int 7]]) (Int.toNat z10)) 0), .bool ((l01Once (⟨b5000000, b5000000_1, b5000000_2⟩ : Sl01Cur) 2).1)]]))
            else bad
          else bad
      else bad
    else bad
  else k_ out_ (⟨b5000000, b5000000_1, b5000000_2⟩ : Sl01Cur)
def spec_l32Ports_L0 {α : Type} (bad : α) (k_ : Rows → Sl01Cur → α) (N : Nat) (m_ : Nat) : Int → Rows → Int → Int → Rows → α :=
  Nat.rec (motive := fun _ => Int → Rows → Int → Int → Rows → α) (fun _ _ _ _ _ => bad) (fun _ ih0 => spec_l32Ports_l0 bad k_ ih0) m_
theorem spec_l32Ports_L0_z {α : Type} (bad : α) (k_ : Rows → Sl01Cur → α) (N : Nat) (k : Int) (b5000000 : Rows) (b5000000_1 : Int) (b5000000_2 : Int) (out_ : Rows) : spec_l32Ports_L0 bad k_ N 0 k b5000000 b5000000_1 b5000000_2 out_ = bad := rfl
theorem spec_l32Ports_L0_s {α : Type} (bad : α) (k_ : Rows → Sl01Cur → α) (N : Nat) (m_ : Nat) (k : Int) (b5000000 : Rows) (b5000000_1 : Int) (b5000000_2 : Int) (out_ : Rows) : spec_l32Ports_L0 bad k_ N (m_ + 1) k b5000000 b5000000_1 b5000000_2 out_ = spec_l32Ports_l0 bad k_ (spec_l32Ports_L0 bad k_ N m_) k b5000000 b5000000_1 b5000000_2 out_ := rfl
def spec_l32Ports_t {α : Type} (bad : α) (k_ : Rows → Sl01Cur → α) (l0 : Int → Rows → Int → Int → Rows → α) (c : Sl01Cur) : α :=
  bif andt true (curOk1 c 4) then
    l0 (w64 (1 + ((l01Below c 4).1))) (((l01Below c 4).2).b) (((l01Below c 4).2).i) (((l01Below c 4).2).h) ([[.int 1, .sl ([[.int 1], [.int 7]]), .int 1, .bool false]])
  else bad
def spec_l32Ports_f {α : Type} (bad : α) (k_ : Rows → Sl01Cur → α) (N : Nat) (c : Sl01Cur) : α := spec_l32Ports_t bad k_ (spec_l32Ports_L0 bad k_ N N) c
def ptS (c : Sl01Cur) : Bool × Sl01Cur := l01Once c 2
def ptZ (c : Sl01Cur) : Int × Sl01Cur := l01Below (ptS c).2 3
def ptr1 (c : Sl01Cur) (n : Int) (V : Rows) : List DC × Sl01Cur := ([.int (w64 (2 * n)), .sl V, .int (rI (nth V (Int.toNat (l01Below (ptZ c).2 (len V)).1)) 0), .bool (ptS c).1], (l01Below (ptZ c).2 (len V)).2)
def pt1 (c : Sl01Cur) (n : Int) : List DC × Sl01Cur := bif (ptZ c).1 == 0 then ptr1 c n [[.int 1]] else bif (ptZ c).1 == 1 then ptr1 c n [[.int 7]] else ptr1 c n [[.int 1], [.int 7]]
def prts : Nat → Sl01Cur → Rows → Rows × Sl01Cur
  | 0, c, o => (o, c)
  | m + 1, c, o => prts m (pt1 c (len o)).2 (o ++ [(pt1 c (len o)).1])
def up0 : List DC := [.int 1, .sl [[.int 1], [.int 7]], .int 1, .bool false]
def l32Ports (c : Sl01Cur) : Rows × Sl01Cur := prts (1 + (l01Below c 4).1).toNat (l01Below c 4).2 [up0]
theorem pt1_cur {c : Sl01Cur} (h : curOk c = true) (n : Int) : curOk (pt1 c n).2 = true := by
  have h2 : curOk (ptZ c).2 = true := l01Below_cur (l01Once_cur h 2) 3
  unfold pt1
  cases (ptZ c).1 == 0
  · cases (ptZ c).1 == 1
    · exact l01Below_cur h2 _
    · exact l01Below_cur h2 _
  · exact l01Below_cur h2 _
theorem prts_cur : ∀ (m : Nat) {c : Sl01Cur} (o : Rows), curOk c = true → curOk (prts m c o).2 = true
  | 0, _, _, h => h
  | m + 1, c, o, h => prts_cur m _ (pt1_cur h _)
theorem prts_len : ∀ (m : Nat) (c : Sl01Cur) (o : Rows), (prts m c o).1.length = o.length + m
  | 0, _, _ => rfl
  | m + 1, c, o => by rw [prts, prts_len m]; simp; omega
theorem l32Ports_cur {c : Sl01Cur} (h : curOk c = true) : curOk (l32Ports c).2 = true := prts_cur _ _ (l01Below_cur h 4)
theorem l32Ports_len (c : Sl01Cur) : 2 ≤ (l32Ports c).1.length ∧ (l32Ports c).1.length ≤ 5 := by
  have a := l01Below_range c 4
  have a2 := a.2 (by omega)
  unfold l32Ports
  rw [prts_len]
  simp only [List.length_cons, List.length_nil]
  omega
theorem spec_l32Ports_c {α : Type} (bad : α) (k_ : Rows → Sl01Cur → α) (c : Sl01Cur) (h_c : WtL Sl01Cur.ct c.enc) (hok : curOk c = true) : ∃ N, spec_l32Ports_f bad k_ N c = k_ (l32Ports c).1 (l32Ports c).2 := by
  have hA := l01Below_range c 4
  have hA2 := hA.2 (by omega)
  have hc := l01Below_cur hok 4
  refine ⟨6, ?_⟩
  unfold spec_l32Ports_f spec_l32Ports_t l32Ports
  simp only [cur1_t 4 hok, andt_true_l, cond_true]
  have key : ∀ (m q : Nat) (c : Sl01Cur) (o : Rows), m < q → o.length + m ≤ 100 → curOk c = true → spec_l32Ports_L0 bad k_ 6 q (m : Int) c.b c.i c.h o = k_ (prts m c o).1 (prts m c o).2 := by
    intro m
    induction m with
    | zero =>
      intro q c o h1 h2 h3
      obtain ⟨q, rfl⟩ : ∃ p, q = p + 1 := ⟨q - 1, by omega⟩
      rw [spec_l32Ports_L0_s]
      simp only [spec_l32Ports_l0, show decide ((0 : Int) < ((0 : Nat) : Int)) = false from rfl, cond_false, cur_eta, prts]
    | succ m ihm =>
      intro q c o h1 h2 h3
      obtain ⟨q, rfl⟩ : ∃ p, q = p + 1 := ⟨q - 1, by omega⟩
      rw [spec_l32Ports_L0_s]
      have h4 := l01Once_cur h3 2
      have h5 := l01Below_cur h4 3
      have hr : ∀ x : List DC, room2 48 o [x] = true := fun x => room2_le (by simp only [List.length_cons, List.length_nil]; omega) (by omega)
      have ew : w64 (((m + 1 : Nat) : Int) - 1) = (m : Int) := by rw [w64_in (by omega) (by omega)]; omega
      have this := ihm q (pt1 c (len o)).2 (o ++ [(pt1 c (len o)).1]) (by omega) (by simp only [List.length_append, List.length_cons, List.length_nil]; omega) (pt1_cur h3 _)
      have b1 := l01Below_range (l01Below (l01Once c 2).2 3).2 1
      have b2 := l01Below_range (l01Below (l01Once c 2).2 3).2 2
      have b11 := b1.2 (by omega)
      have b22 := b2.2 (by omega)
      have i1 : ∀ x : List DC, idx (l01Below (l01Below (l01Once c 2).2 3).2 1).1 [x] = true := fun x => by simp only [idx, List.length_cons, List.length_nil, Bool.and_eq_true, decide_eq_true_eq]; omega
      have j1 : ∀ x : List DC, inl (Int.toNat (l01Below (l01Below (l01Once c 2).2 3).2 1).1) [x] = true := fun x => by simp only [inl, List.length_cons, List.length_nil, decide_eq_true_eq]; omega
      have i2 : ∀ x y : List DC, idx (l01Below (l01Below (l01Once c 2).2 3).2 2).1 [x, y] = true := fun x y => by simp only [idx, List.length_cons, List.length_nil, Bool.and_eq_true, decide_eq_true_eq]; omega
      have j2 : ∀ x y : List DC, inl (Int.toNat (l01Below (l01Below (l01Once c 2).2 3).2 2).1) [x, y] = true := fun x y => by simp only [inl, List.length_cons, List.length_nil, decide_eq_true_eq]; omega
      simp only [spec_l32Ports_l0, decide_eq_true (show (0 : Int) < ((m + 1 : Nat) : Int) by omega), cur_eta, cur1_t 2 h3, cur1_t 3 h4, cur1_t 1 h5, cur1_t 2 h5, i1, j1, i2, j2, hr, ew, andt_true_l, andt_true_r, cond_true, prts]
      refine Eq.trans ?_ this
      unfold pt1 ptr1 ptZ ptS
      have e1 : len [[DC.int 1]] = 1 := rfl
      have e2 : len [[DC.int 7]] = 1 := rfl
      have e3 : len [[DC.int 1], [DC.int 7]] = 2 := rfl
      rw [e1, e2, e3]
      cases ((l01Below (l01Once c 2).2 3).1 == 0)
      · cases ((l01Below (l01Once c 2).2 3).1 == 1) <;> rfl
      · rfl
  have := key (1 + (l01Below c 4).1).toNat 6 (l01Below c 4).2 [up0] (by omega) (by simp only [List.length_cons, List.length_nil]; omega) hc
  rw [show (((1 + (l01Below c 4).1).toNat : Nat) : Int) = w64 (1 + (l01Below c 4).1) by rw [w64_in (by omega) (by omega)]; omega] at this
  exact this

end
end Go.Proofs.Ytklbgnodgnlebaa.Pl
