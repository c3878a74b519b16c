/- What functions of the program compute, in plain Lean, as the value machine runs them. Conditions: none. -/
import Derived.Test.YtklbgnodgnlebaaPSy
import Derived.Test.YtklbgnodgnlebaaPCu
set_option linter.unusedVariables false
set_option linter.unusedSimpArgs false
namespace Go.Proofs.Ytklbgnodgnlebaa.Pl
open Vm
noncomputable section



theorem pick_t {c : Sl01Cur} {l : Rows} (h : curOk c = true) (hl : 0 < l.length) : pickOk c l = true := by
  unfold pickOk
  rw [h]
  exact decide_eq_true hl
theorem pick_c {c : Sl01Cur} {x : List DC} {l : Rows} (h : curOk c = true) : pickOk c (x :: l) = true := pick_t h (Nat.zero_lt_succ _)
theorem cur1_t {c : Sl01Cur} (n : Int) (h : curOk c = true) : curOk1 c n = true := h
theorem cur_eta (c : Sl01Cur) : (⟨c.b, c.i, c.h⟩ : Sl01Cur) = c := rfl

def spec_l06Host_t {α : Type} (bad : α) (k_ : Int → Sl01Cur → α) (c : Sl01Cur) : α :=
  bif andt true (curOk1 c 3) then
    k_ (w64 (167772161 + ((l01Below c 3).1))) ((l01Below c 3).2)
  else bad
def l06Host_ok (c : Sl01Cur) : Bool := spec_l06Host_t false (fun _ _ => true) c
def l06Host (c : Sl01Cur) : Int × Sl01Cur := (spec_l06Host_t none (fun r0 r1 => some (r0, r1)) c).getD (0, ⟨[], 0, 0⟩)
theorem spec_l06Host_c {α : Type} (bad : α) (k_ : Int → Sl01Cur → α) (c : Sl01Cur) (hok : l06Host_ok c = true) : spec_l06Host_t bad k_ c = k_ (l06Host c).1 (l06Host c).2 := by
  exact part_all (K := fun r : Int × Sl01Cur => k_ r.1 r.2) (part_guard (fun _ => ⟨_, rfl, rfl⟩)) hok


theorem l06Host_k {c : Sl01Cur} (h : curOk c = true) : l06Host_ok c = true ∧ curOk (l06Host c).2 = true := by
  simp only [l06Host_ok, l06Host, spec_l06Host_t, cur1_t _ h, andt_true_l, cond_true, Option.getD_some, l01Below_cur h, and_self]

def spec_l06Flags_t {α : Type} (bad : α) (k_ : Int → Sl01Cur → α) (c : Sl01Cur) : α :=
  let z0 : Rows := [[.int 16], [.int 16], [.int 16], [.int 24], [.int 17], [.int 2], [.int 4], [.int 31], [.int 0]]
  let z1 : Int × Sl01Cur := l01PickInt c z0
  bif andt true (pickOk c z0) then
    k_ z1.1 z1.2
  else bad
def l06Flags_ok (c : Sl01Cur) : Bool := spec_l06Flags_t false (fun _ _ => true) c
def l06Flags (c : Sl01Cur) : Int × Sl01Cur := (spec_l06Flags_t none (fun r0 r1 => some (r0, r1)) c).getD (0, ⟨[], 0, 0⟩)
theorem spec_l06Flags_c {α : Type} (bad : α) (k_ : Int → Sl01Cur → α) (c : Sl01Cur) (hok : l06Flags_ok c = true) : spec_l06Flags_t bad k_ c = k_ (l06Flags c).1 (l06Flags c).2 := by
  exact part_all (K := fun r : Int × Sl01Cur => k_ r.1 r.2) (part_guard (fun _ => ⟨_, rfl, rfl⟩)) hok


theorem l06Flags_k {c : Sl01Cur} (h : curOk c = true) : l06Flags_ok c = true ∧ curOk (l06Flags c).2 = true := by
  have hp : pickOk c [[.int 16], [.int 16], [.int 16], [.int 24], [.int 17], [.int 2], [.int 4], [.int 31], [.int 0]] = true := pick_t h (by decide)
  simp only [l06Flags_ok, l06Flags, spec_l06Flags_t, hp, andt_true_l, cond_true, Option.getD_some, l01PickInt_cur h, and_self]

def spec_l06Segment_t {α : Type} (bad : α) (k_ : SSegment → Sl01Cur → α) (c : Sl01Cur) (most : Int) : α :=
  let z0 : Int × Sl01Cur := l01PickInt ((l01Below ((l01Below c 2).2) 65536).2) ([[.int 0], [.int 100], [.int 4294967290], [.int ((l01Below ((l01Below c 2).2) 65536).1)]])
  let z1 : Sl01Cur := z0.2
  let z2 : Int × Sl01Cur := l01PickInt z1 ([[.int 0], [.int 5], [.int 4294967295]])
  let z3 : Sl01Cur := z2.2
  let z4 : Int × Sl01Cur := l06Flags z3
  let z5 : Sl01Cur := z4.2
  let z6 : Int × Sl01Cur := l01PickInt z5 ([[.int 0], [.int 512], [.int 65535]])
  let z7 : Sl01Cur := z6.2
  let z8 : Int × Sl01Cur := l01Below z7 (w64 (most + 1))
  let z9 : Sl01Cur := z8.2
  let z10 : Int := z8.1
  let z11 : Bytes × Sl01Cur := l01Text z9 z10
  let z12 : Sl01Cur := z11.2
  let z13 : Bool × Sl01Cur := l01Once z12 4
  let z14 : Int := w64 (1000 + ((l01Below c 2).1))
  let z15 : Bytes := z11.1
  let z16 : Sl01Cur := z13.2
  bif andt (andt (andt (andt (andt (andt true (curOk1 c 2)) (curOk1 ((l01Below c 2).2) 65536)) (pickOk ((l01Below ((l01Below c 2).2) 65536).2) ([[.int 0], [.int 100], [.int 4294967290], [.int ((l01Below ((l01Below c 2).2) 65536).1)]]))) (pickOk z1 ([[.int 0], [.int 5], [.int 4294967295]]))) (l06Flags_ok z3)) (pickOk z5 ([[.int 0], [.int 512], [.int 65535]])) then
    bif andt (andt true (curOk1 z7 (w64 (most + 1)))) (curOk1 z9 z10) then
      bif andt true (curOk1 z12 4) then
        bif z13.1 then k_ (⟨17, z14, 53, 0, 0, 0, 0, z15⟩ : SSegment) z16
        else k_ (⟨6, z14, 80, z0.1, z2.1, z4.1, z6.1, z15⟩ : SSegment) z16
      else bad
    else bad
  else bad
def l06Segment_ok (c : Sl01Cur) (most : Int) : Bool := spec_l06Segment_t false (fun _ _ => true) c most
def l06Segment (c : Sl01Cur) (most : Int) : SSegment × Sl01Cur := (spec_l06Segment_t none (fun r0 r1 => some (r0, r1)) c most).getD (⟨0, 0, 0, 0, 0, 0, 0, []⟩, ⟨[], 0, 0⟩)
theorem spec_l06Segment_c {α : Type} (bad : α) (k_ : SSegment → Sl01Cur → α) (c : Sl01Cur) (most : Int) (hok : l06Segment_ok c most = true) : spec_l06Segment_t bad k_ c most = k_ (l06Segment c most).1 (l06Segment c most).2 := by
  exact part_all (K := fun r : SSegment × Sl01Cur => k_ r.1 r.2) (part_guard (part_guard (part_guard (part_cond (fun _ => ⟨_, rfl, rfl⟩) (fun _ => ⟨_, rfl, rfl⟩))))) hok


theorem l06Segment_k {c : Sl01Cur} (h : curOk c = true) (most : Int) : l06Segment_ok c most = true ∧ curOk (l06Segment c most).2 = true := by
  have a1 := l01Below_cur h 2
  have a2 := l01Below_cur a1 65536
  have a3 := l01PickInt_cur a2 [[.int 0], [.int 100], [.int 4294967290], [.int ((l01Below ((l01Below c 2).2) 65536).1)]]
  have a4 := l01PickInt_cur a3 [[.int 0], [.int 5], [.int 4294967295]]
  have a5 := l06Flags_k a4
  have a6 := l01PickInt_cur a5.2 [[.int 0], [.int 512], [.int 65535]]
  have a7 := l01Below_cur a6 (w64 (most + 1))
  have a8 := fun n => l01Text_cur a7 n
  have a9 := fun n => l01Once_cur (a8 n) 4
  simp only [l06Segment_ok, l06Segment, spec_l06Segment_t, cur1_t _ h, cur1_t _ a1, pick_c a2, pick_c a3, a5.1, pick_c a5.2, cur1_t _ a6, cur1_t _ a7, cur1_t _ (a8 _), andt_true_l, andt_true_r, cond_true]
  cases (l01Once (l01Text (l01Below (l01PickInt (l06Flags (l01PickInt (l01PickInt (l01Below (l01Below c 2).2 65536).2 [[.int 0], [.int 100], [.int 4294967290], [.int ((l01Below ((l01Below c 2).2) 65536).1)]]).2 [[.int 0], [.int 5], [.int 4294967295]]).2).2 [[.int 0], [.int 512], [.int 65535]]).2 (w64 (most + 1))).2 (l01Below (l01PickInt (l06Flags (l01PickInt (l01PickInt (l01Below (l01Below c 2).2 65536).2 [[.int 0], [.int 100], [.int 4294967290], [.int ((l01Below ((l01Below c 2).2) 65536).1)]]).2 [[.int 0], [.int 5], [.int 4294967295]]).2).2 [[.int 0], [.int 512], [.int 65535]]).2 (w64 (most + 1))).1).2 4).1
  · exact ⟨rfl, a9 _⟩
  · exact ⟨rfl, a9 _⟩

def spec_l07Packet_t {α : Type} (bad : α) (k_ : SPacket → Sl01Cur → α) (c : Sl01Cur) (most : Int) : α :=
  let z0 : Rows := [[.int 2], [.int 2], [.int 2], [.int 4], [.int 281474976710655]]
  let z1 : Int × Sl01Cur := l01PickInt c z0
  let z2 : Int × Sl01Cur := l01PickInt z1.2 ([[.int 6], [.int 8]])
  let z3 : Sl01Cur := z2.2
  let z4 : Int × Sl01Cur := l01PickInt z3 ([[.int (-1)], [.int (-1)], [.int 7]])
  let z5 : Sl01Cur := z4.2
  let z6 : Int × Sl01Cur := l01PickInt z5 ([[.int 0], [.int 0], [.int 255]])
  let z7 : Sl01Cur := z6.2
  let z8 : Int × Sl01Cur := l01PickInt z7 ([[.int 1], [.int 65535], [.int 65534]])
  let z9 : Sl01Cur := z8.2
  let z10 : Int × Sl01Cur := l01PickInt z9 ([[.int 64], [.int 64], [.int 255]])
  let z11 : Sl01Cur := z10.2
  let z12 : Int × Sl01Cur := l06Host z11
  let z13 : Sl01Cur := z12.2
  let z14 : SSegment × Sl01Cur := l06Segment z13 (minI most 128)
  let z15 : SSegment := z14.1
  let z16 : Int := z15.Kind
  let z17 : Bool := z16 == 6
  let z18 : Int := z15.Flags
  let z19 : Bool := (bits .andNot .i64 z18 9) == 16
  let z20 : Sl01Cur := z14.2
  let z21 : Bool × Sl01Cur := l01Once z20 2
  let z22 : Sl01Cur := z21.2
  let z23 : Rows := z20.b
  let z24 : Int := z20.i
  let z25 : Int := z20.h
  let z26 : Sl01Cur := (⟨bif z17 then bif z19 then bif decide (128 < most) then z22.b else z23 else z23 else z23, bif z17 then bif z19 then bif decide (128 < most) then z22.i else z24 else z24 else z24, bif z17 then bif z19 then bif decide (128 < most) then z22.h else z25 else z25 else z25⟩ : Sl01Cur)
  let z27 : Int := w64 ((w64 (most - 128)) + 1)
  let z28 : Int × Sl01Cur := l01Below z26 z27
  let z29 : Sl01Cur := z28.2
  let z30 : Int := w64 (128 + z28.1)
  let z31 : Int := z2.1
  let z32 : Int := z4.1
  let z33 : Int := z6.1
  let z34 : Int := z8.1
  let z35 : Int := z10.1
  let z36 : Int := z12.1
  let z37 : Bytes × Sl01Cur := l01Text z29 z30
  bif andt (andt (andt (andt (andt (andt (andt true (pickOk c z0)) (pickOk z1.2 ([[.int 6], [.int 8]]))) (pickOk z3 ([[.int (-1)], [.int (-1)], [.int 7]]))) (pickOk z5 ([[.int 0], [.int 0], [.int 255]]))) (pickOk z7 ([[.int 1], [.int 65535], [.int 65534]]))) (pickOk z9 ([[.int 64], [.int 64], [.int 255]]))) (l06Host_ok z11) then
    bif andt true (l06Segment_ok z13 (minI most 128)) then
      bif okm z17 (okm z19 (okm (decide (128 < most)) (andt true (curOk1 z20 2)) true) true) true then
        bif bif z17 then bif z19 then bif decide (128 < most) then z21.1 else false else false else false then
          bif andt (andt true (curOk1 z26 z27)) (curOk1 z29 z30) then
            k_ (⟨z1.1, z31, z32, z33, z34, z35, z36, 167772161, (⟨z16, z15.SrcPort, z15.DstPort, z15.Seq, z15.Ack, z18, z15.Window, z37.1⟩ : SSegment)⟩ : SPacket) z37.2
          else bad
        else k_ (⟨z1.1, z31, z32, z33, z34, z35, z36, 167772161, z15⟩ : SPacket) z26
      else bad
    else bad
  else bad
def l07Packet_ok (c : Sl01Cur) (most : Int) : Bool := spec_l07Packet_t false (fun _ _ => true) c most
def l07Packet (c : Sl01Cur) (most : Int) : SPacket × Sl01Cur := (spec_l07Packet_t none (fun r0 r1 => some (r0, r1)) c most).getD (⟨0, 0, 0, 0, 0, 0, 0, 0, ⟨0, 0, 0, 0, 0, 0, 0, []⟩⟩, ⟨[], 0, 0⟩)
theorem spec_l07Packet_c {α : Type} (bad : α) (k_ : SPacket → Sl01Cur → α) (c : Sl01Cur) (most : Int) (hok : l07Packet_ok c most = true) : spec_l07Packet_t bad k_ c most = k_ (l07Packet c most).1 (l07Packet c most).2 := by
  exact part_all (K := fun r : SPacket × Sl01Cur => k_ r.1 r.2) (part_guard (part_guard (part_guard (part_cond (part_guard (fun _ => ⟨_, rfl, rfl⟩)) (fun _ => ⟨_, rfl, rfl⟩))))) hok


theorem cur_if {b : Bool} {x y : Sl01Cur} (hx : curOk x = true) (hy : curOk y = true) : curOk (⟨bif b then x.b else y.b, bif b then x.i else y.i, bif b then x.h else y.h⟩ : Sl01Cur) = true := by
  cases b
  · exact hy
  · exact hx
theorem l07Packet_k {c : Sl01Cur} (h : curOk c = true) (most : Int) : l07Packet_ok c most = true ∧ curOk (l07Packet c most).2 = true := by
  have a1 := l01PickInt_cur h [[.int 2], [.int 2], [.int 2], [.int 4], [.int 281474976710655]]
  have a2 := l01PickInt_cur a1 [[.int 6], [.int 8]]
  have a3 := l01PickInt_cur a2 [[.int (-1)], [.int (-1)], [.int 7]]
  have a4 := l01PickInt_cur a3 [[.int 0], [.int 0], [.int 255]]
  have a5 := l01PickInt_cur a4 [[.int 1], [.int 65535], [.int 65534]]
  have a6 := l01PickInt_cur a5 [[.int 64], [.int 64], [.int 255]]
  have a7 := l06Host_k a6
  have a8 := l06Segment_k a7.2 (minI most 128)
  simp only [l07Packet_ok, l07Packet, spec_l07Packet_t, pick_c h, pick_c a1, pick_c a2, pick_c a3, pick_c a4, pick_c a5, a7.1, a8.1, cur1_t 2 a8.2, andt_true_l, andt_true_r, cond_true, okm_tt]
  generalize l06Segment (l06Host (l01PickInt (l01PickInt (l01PickInt (l01PickInt (l01PickInt (l01PickInt c [[.int 2], [.int 2], [.int 2], [.int 4], [.int 281474976710655]]).2 [[.int 6], [.int 8]]).2 [[.int (-1)], [.int (-1)], [.int 7]]).2 [[.int 0], [.int 0], [.int 255]]).2 [[.int 1], [.int 65535], [.int 65534]]).2 [[.int 64], [.int 64], [.int 255]]).2).2 (minI most 128) = G at a8 ⊢
  have b1 := l01Once_cur a8.2 2
  have b2 := l01Below_cur b1 (w64 (w64 (most - 128) + 1))
  have b3 := l01Text_cur b2 (w64 (128 + (l01Below (l01Once G.2 2).2 (w64 (w64 (most - 128) + 1))).1))
  cases (G.1.Kind == 6)
  · exact ⟨rfl, a8.2⟩
  cases ((bits .andNot .i64 G.1.Flags 9) == 16)
  · exact ⟨rfl, a8.2⟩
  cases decide (128 < most)
  · exact ⟨rfl, a8.2⟩
  simp only [cond_true, cur_eta, cur1_t _ b1, cur1_t _ b2, andt_true_l]
  cases (l01Once G.2 2).1
  · exact ⟨rfl, b1⟩
  · exact ⟨rfl, b3⟩

def spec_l32Ports_l0 {α : Type} (bad : α) (k_ : Rows → Sl01Cur → α) (ih0 : Int → Rows → Int → Int → Rows → α) (k : Int) (b5000000 : Rows) (b5000000_1 : Int) (b5000000_2 : Int) (out_ : Rows) : α :=
  let z0 : Int × Sl01Cur := l01Below ((l01Once (⟨b5000000, b5000000_1, b5000000_2⟩ : Sl01Cur) 2).2) 3
  let z1 : Bool := andt true (curOk1 z0.2 1)
  let z2 : Int × Sl01Cur := l01Below z0.2 1
  let z3 : Int := z2.1
  let z4 : Nat := Int.toNat z3
  let z5 : Sl01Cur := z2.2
  let z6 : Rows := z5.b
  let z7 : Int := z5.i
  let z8 : Int := z5.h
  let z9 : Int × Sl01Cur := l01Below z0.2 2
  let z10 : Int := z9.1
  let z11 : Sl01Cur := z9.2
  bif decide (0 < k) then
    bif andt true (curOk1 (⟨b5000000, b5000000_1, b5000000_2⟩ : Sl01Cur) 2) then
      bif andt true (curOk1 ((l01Once (⟨b5000000, b5000000_1, b5000000_2⟩ : Sl01Cur) 2).2) 3) then
        bif z0.1 == 0 then
          bif andt (andt z1 (idx z3 (([[.int 1]]) : Rows))) (inl z4 (([[.int 1]]) : Rows)) then
            bif andt true (room2 48 out_ ([[.int (w64 (2 * (len out_))), .sl ([[.int 1]]), .int (rI (nth ([[.int 1]]) z4) 0), .bool ((l01Once (⟨b5000000, b5000000_1, b5000000_2⟩ : Sl01Cur) 2).1)]])) then
              ih0 (w64 (k - 1)) z6 z7 z8 (out_ ++ ([[.int (w64 (2 * (len out_))), .sl ([[.int 1]]), .int (rI (nth ([[.int 1]]) z4) 0), .bool ((l01Once (⟨b5000000, b5000000_1, b5000000_2⟩ : Sl01Cur) 2).1)]]))
            else bad
          else bad
        else bif z0.1 == 1 then
          bif andt (andt z1 (idx z3 (([[.int 7]]) : Rows))) (inl z4 (([[.int 7]]) : Rows)) then
            bif andt true (room2 48 out_ ([[.int (w64 (2 * (len out_))), .sl ([[.int 7]]), .int (rI (nth ([[.int 7]]) z4) 0), .bool ((l01Once (⟨b5000000, b5000000_1, b5000000_2⟩ : Sl01Cur) 2).1)]])) then
              ih0 (w64 (k - 1)) z6 z7 z8 (out_ ++ ([[.int (w64 (2 * (len out_))), .sl ([[.int 7]]), .int (rI (nth ([[.int 7]]) z4) 0), .bool ((l01Once (⟨b5000000, b5000000_1, b5000000_2⟩ : Sl01Cur) 2).1)]]))
            else bad
          else bad
        else bif andt (andt (andt true (curOk1 z0.2 2)) (idx z10 (([[.int 1], [.int 7]]) : Rows))) (inl (Int.toNat z10) (([[.int 1], [.int 7]]) : Rows)) then
            bif andt true (room2 48 out_ ([[.int (w64 (2 * (len out_))), .sl ([[.int 1], [.int 7]]), .int (rI (nth ([[.int 1], [.int 7]]) (Int.toNat z10)) 0), .bool ((l01Once (⟨b5000000, b5000000_1, b5000000_2⟩ : Sl01Cur) 2).1)]])) then
              ih0 (w64 (k - 1)) z11.b z11.i z11.h (out_ ++ ([[.int (w64 (2 * (len out_))), .sl ([[.int 1], [.int 7]]), .int (rI (nth ([[.int 1], [.int 7]]) (Int.toNat z10)) 0), .bool ((l01Once (⟨b5000000, b5000000_1, b5000000_2⟩ : Sl01Cur) 2).1)]]))
            else bad
          else bad
      else bad
    else bad
  else k_ out_ (⟨b5000000, b5000000_1, b5000000_2⟩ : Sl01Cur)
def spec_l32Ports_L0 {α : Type} (bad : α) (k_ : Rows → Sl01Cur → α) (N : Nat) (m_ : Nat) : Int → Rows → Int → Int → Rows → α :=
  Nat.rec (motive := fun _ => Int → Rows → Int → Int → Rows → α) (fun _ _ _ _ _ => bad) (fun _ ih0 => spec_l32Ports_l0 bad k_ ih0) m_
theorem spec_l32Ports_L0_z {α : Type} (bad : α) (k_ : Rows → Sl01Cur → α) (N : Nat) (k : Int) (b5000000 : Rows) (b5000000_1 : Int) (b5000000_2 : Int) (out_ : Rows) : spec_l32Ports_L0 bad k_ N 0 k b5000000 b5000000_1 b5000000_2 out_ = bad := rfl
theorem spec_l32Ports_L0_s {α : Type} (bad : α) (k_ : Rows → Sl01Cur → α) (N : Nat) (m_ : Nat) (k : Int) (b5000000 : Rows) (b5000000_1 : Int) (b5000000_2 : Int) (out_ : Rows) : spec_l32Ports_L0 bad k_ N (m_ + 1) k b5000000 b5000000_1 b5000000_2 out_ = spec_l32Ports_l0 bad k_ (spec_l32Ports_L0 bad k_ N m_) k b5000000 b5000000_1 b5000000_2 out_ := rfl
def spec_l32Ports_t {α : Type} (bad : α) (k_ : Rows → Sl01Cur → α) (l0 : Int → Rows → Int → Int → Rows → α) (c : Sl01Cur) : α :=
  bif andt true (curOk1 c 4) then
    l0 (w64 (1 + ((l01Below c 4).1))) (((l01Below c 4).2).b) (((l01Below c 4).2).i) (((l01Below c 4).2).h) ([[.int 1, .sl ([[.int 1], [.int 7]]), .int 1, .bool false]])
  else bad
def spec_l32Ports_f {α : Type} (bad : α) (k_ : Rows → Sl01Cur → α) (N : Nat) (c : Sl01Cur) : α := spec_l32Ports_t bad k_ (spec_l32Ports_L0 bad k_ N N) c
def ptS (c : Sl01Cur) : Bool × Sl01Cur := l01Once c 2
def ptZ (c : Sl01Cur) : Int × Sl01Cur := l01Below (ptS c).2 3
def ptr1 (c : Sl01Cur) (n : Int) (V : Rows) : List DC × Sl01Cur := ([.int (w64 (2 * n)), .sl V, .int (rI (nth V (Int.toNat (l01Below (ptZ c).2 (len V)).1)) 0), .bool (ptS c).1], (l01Below (ptZ c).2 (len V)).2)
def pt1 (c : Sl01Cur) (n : Int) : List DC × Sl01Cur := bif (ptZ c).1 == 0 then ptr1 c n [[.int 1]] else bif (ptZ c).1 == 1 then ptr1 c n [[.int 7]] else ptr1 c n [[.int 1], [.int 7]]
def prts : Nat → Sl01Cur → Rows → Rows × Sl01Cur
  | 0, c, o => (o, c)
  | m + 1, c, o => prts m (pt1 c (len o)).2 (o ++ [(pt1 c (len o)).1])
def up0 : List DC := [.int 1, .sl [[.int 1], [.int 7]], .int 1, .bool false]
def l32Ports (c : Sl01Cur) : Rows × Sl01Cur := prts (1 + (l01Below c 4).1).toNat (l01Below c 4).2 [up0]
theorem pt1_cur {c : Sl01Cur} (h : curOk c = true) (n : Int) : curOk (pt1 c n).2 = true := by
  have h2 : curOk (ptZ c).2 = true := l01Below_cur (l01Once_cur h 2) 3
  unfold pt1
  cases (ptZ c).1 == 0
  · cases (ptZ c).1 == 1
    · exact l01Below_cur h2 _
    · exact l01Below_cur h2 _
  · exact l01Below_cur h2 _
theorem prts_cur : ∀ (m : Nat) {c : Sl01Cur} (o : Rows), curOk c = true → curOk (prts m c o).2 = true
  | 0, _, _, h => h
  | m + 1, c, o, h => prts_cur m _ (pt1_cur h _)
theorem prts_len : ∀ (m : Nat) (c : Sl01Cur) (o : Rows), (prts m c o).1.length = o.length + m
  | 0, _, _ => rfl
  | m + 1, c, o => by rw [prts, prts_len m]; simp; omega
theorem l32Ports_cur {c : Sl01Cur} (h : curOk c = true) : curOk (l32Ports c).2 = true := prts_cur _ _ (l01Below_cur h 4)
theorem l32Ports_len (c : Sl01Cur) : 2 ≤ (l32Ports c).1.length ∧ (l32Ports c).1.length ≤ 5 := by
  have a := l01Below_range c 4
  have a2 := a.2 (by omega)
  unfold l32Ports
  rw [prts_len]
  simp only [List.length_cons, List.length_nil]
  omega
theorem spec_l32Ports_c {α : Type} (bad : α) (k_ : Rows → Sl01Cur → α) (c : Sl01Cur) (h_c : WtL Sl01Cur.ct c.enc) (hok : curOk c = true) : ∃ N, spec_l32Ports_f bad k_ N c = k_ (l32Ports c).1 (l32Ports c).2 := by
  have hA := l01Below_range c 4
  have hA2 := hA.2 (by omega)
  have hc := l01Below_cur hok 4
  refine ⟨6, ?_⟩
  unfold spec_l32Ports_f spec_l32Ports_t l32Ports
  simp only [cur1_t 4 hok, andt_true_l, cond_true]
  have key : ∀ (m q : Nat) (c : Sl01Cur) (o : Rows), m < q → o.length + m ≤ 100 → curOk c = true → spec_l32Ports_L0 bad k_ 6 q (m : Int) c.b c.i c.h o = k_ (prts m c o).1 (prts m c o).2 := by
    intro m
    induction m with
    | zero =>
      intro q c o h1 h2 h3
      obtain ⟨q, rfl⟩ : ∃ p, q = p + 1 := ⟨q - 1, by omega⟩
      rw [spec_l32Ports_L0_s]
      simp only [spec_l32Ports_l0, show decide ((0 : Int) < ((0 : Nat) : Int)) = false from rfl, cond_false, cur_eta, prts]
    | succ m ihm =>
      intro q c o h1 h2 h3
      obtain ⟨q, rfl⟩ : ∃ p, q = p + 1 := ⟨q - 1, by omega⟩
      rw [spec_l32Ports_L0_s]
      have h4 := l01Once_cur h3 2
      have h5 := l01Below_cur h4 3
      have hr : ∀ x : List DC, room2 48 o [x] = true := fun x => room2_le (by simp only [List.length_cons, List.length_nil]; omega) (by omega)
      have ew : w64 (((m + 1 : Nat) : Int) - 1) = (m : Int) := by rw [w64_in (by omega) (by omega)]; omega
      have this := ihm q (pt1 c (len o)).2 (o ++ [(pt1 c (len o)).1]) (by omega) (by simp only [List.length_append, List.length_cons, List.length_nil]; omega) (pt1_cur h3 _)
      have b1 := l01Below_range (l01Below (l01Once c 2).2 3).2 1
      have b2 := l01Below_range (l01Below (l01Once c 2).2 3).2 2
      have b11 := b1.2 (by omega)
      have b22 := b2.2 (by omega)
      have i1 : ∀ x : List DC, idx (l01Below (l01Below (l01Once c 2).2 3).2 1).1 [x] = true := fun x => by simp only [idx, List.length_cons, List.length_nil, Bool.and_eq_true, decide_eq_true_eq]; omega
      have j1 : ∀ x : List DC, inl (Int.toNat (l01Below (l01Below (l01Once c 2).2 3).2 1).1) [x] = true := fun x => by simp only [inl, List.length_cons, List.length_nil, decide_eq_true_eq]; omega
      have i2 : ∀ x y : List DC, idx (l01Below (l01Below (l01Once c 2).2 3).2 2).1 [x, y] = true := fun x y => by simp only [idx, List.length_cons, List.length_nil, Bool.and_eq_true, decide_eq_true_eq]; omega
      have j2 : ∀ x y : List DC, inl (Int.toNat (l01Below (l01Below (l01Once c 2).2 3).2 2).1) [x, y] = true := fun x y => by simp only [inl, List.length_cons, List.length_nil, decide_eq_true_eq]; omega
      simp only [spec_l32Ports_l0, decide_eq_true (show (0 : Int) < ((m + 1 : Nat) : Int) by omega), cur_eta, cur1_t 2 h3, cur1_t 3 h4, cur1_t 1 h5, cur1_t 2 h5, i1, j1, i2, j2, hr, ew, andt_true_l, andt_true_r, cond_true, prts]
      refine Eq.trans ?_ this
      unfold pt1 ptr1 ptZ ptS
      have e1 : len [[DC.int 1]] = 1 := rfl
      have e2 : len [[DC.int 7]] = 1 := rfl
      have e3 : len [[DC.int 1], [DC.int 7]] = 2 := rfl
      rw [e1, e2, e3]
      cases ((l01Below (l01Once c 2).2 3).1 == 0)
      · cases ((l01Below (l01Once c 2).2 3).1 == 1) <;> rfl
      · rfl
  have := key (1 + (l01Below c 4).1).toNat 6 (l01Below c 4).2 [up0] (by omega) (by simp only [List.length_cons, List.length_nil]; omega) hc
  rw [show (((1 + (l01Below c 4).1).toNat : Nat) : Int) = w64 (1 + (l01Below c 4).1) by rw [w64_in (by omega) (by omega)]; omega] at this
  exact this

def spec_DrawSwitch_t {α : Type} (bad : α) (k_ : Rows → Int → SPacket → α) (code : Rows) : α :=
  let z0 : Int × Sl01Cur := l01Below ((l32Ports (l01New code)).2) (len ((l32Ports (l01New code)).1))
  let z1 : SPacket × Sl01Cur := l07Packet z0.2 30
  let z2 : Sl01Cur := z1.2
  let z3 : Bool × Sl01Cur := l01Once z2 3
  let z4 : Nat := Int.toNat z0.1
  let z5 : Sl01Cur := z3.2
  let z6 : Rows := [[.int 2], [.int 4], [.int 6], [.int 8], [.int 281474976710655]]
  let z7 : Bool := andt true (pickOk z5 z6)
  let z8 : Int := (l01PickInt z5 z6).1
  let z9 : SPacket := z1.1
  let z10 : Int := z9.Vlan
  let z11 : Int := z9.Tos
  let z12 : Int := z9.Id
  let z13 : Int := z9.Ttl
  let z14 : Int := z9.SrcIp
  let z15 : Int := z9.DstIp
  let z16 : SSegment := z9.Seg
  bif andt true (curOk (l01New code)) then
    bif andt true (curOk1 ((l32Ports (l01New code)).2) (len ((l32Ports (l01New code)).1))) then
      bif andt true (l07Packet_ok z0.2 30) then
        bif andt true (curOk1 z2 3) then
          bif !z3.1 then
            bif andt (andt true (idx z0.1 ((l32Ports (l01New code)).1))) (inl z4 ((l32Ports (l01New code)).1)) then
              bif z7 then
                k_ ((l32Ports (l01New code)).1) z0.1 (⟨z8, rI (nth ((l32Ports (l01New code)).1) z4) 0, z10, z11, z12, z13, z14, z15, z16⟩ : SPacket)
              else bad
            else bad
          else bif z7 then
              k_ ((l32Ports (l01New code)).1) z0.1 (⟨z8, z9.SrcMac, z10, z11, z12, z13, z14, z15, z16⟩ : SPacket)
            else bad
        else bad
      else bad
    else bad
  else bad
def DrawSwitch_ok (code : Rows) : Bool := spec_DrawSwitch_t false (fun _ _ _ => true) code
def DrawSwitch (code : Rows) : Rows × Int × SPacket := (spec_DrawSwitch_t none (fun r0 r1 r2 => some (r0, r1, r2)) code).getD ([], 0, ⟨0, 0, 0, 0, 0, 0, 0, 0, ⟨0, 0, 0, 0, 0, 0, 0, []⟩⟩)
theorem spec_DrawSwitch_c {α : Type} (bad : α) (k_ : Rows → Int → SPacket → α) (code : Rows) (hok : DrawSwitch_ok code = true) : spec_DrawSwitch_t bad k_ code = k_ (DrawSwitch code).1 (DrawSwitch code).2.1 (DrawSwitch code).2.2 := by
  exact part_all (K := fun r : Rows × Int × SPacket => k_ r.1 r.2.1 r.2.2) (part_guard (part_guard (part_guard (part_guard (part_cond (part_guard (part_guard (fun _ => ⟨_, rfl, rfl⟩))) (part_guard (fun _ => ⟨_, rfl, rfl⟩))))))) hok


theorem DrawSwitch_k {code : Rows} (h : code.length ≤ 9223372036854775807) : DrawSwitch_ok code = true ∧ 1 ≤ (DrawSwitch code).1.length ∧ (DrawSwitch code).1.length ≤ 5 ∧ 0 ≤ (DrawSwitch code).2.1 ∧ (DrawSwitch code).2.1 < len (DrawSwitch code).1 := by
  have a0 := l01New_ok h
  have a1 := l32Ports_cur a0
  have a2 := l32Ports_len (l01New code)
  have a3 := l01Below_cur a1 (len (l32Ports (l01New code)).1)
  have a4 := l01Below_range (l32Ports (l01New code)).2 (len (l32Ports (l01New code)).1)
  have a5 := a4.2 (by simp only [len]; omega)
  have a6 := l07Packet_k a3 30
  have a7 := l01Once_cur a6.2 3
  have i1 : idx (l01Below (l32Ports (l01New code)).2 (len (l32Ports (l01New code)).1)).1 (l32Ports (l01New code)).1 = true := by
    simp only [len] at a4 a5 ⊢
    simp only [idx, Bool.and_eq_true, decide_eq_true_eq]
    exact ⟨a4.1, a5⟩
  have j1 : inl (Int.toNat (l01Below (l32Ports (l01New code)).2 (len (l32Ports (l01New code)).1)).1) (l32Ports (l01New code)).1 = true := by
    simp only [len] at a4 a5 ⊢
    simp only [inl, decide_eq_true_eq]
    omega
  simp only [DrawSwitch_ok, DrawSwitch, spec_DrawSwitch_t, a0, cur1_t _ a1, a6.1, cur1_t 3 a6.2, i1, j1, pick_c a7, andt_true_l, andt_true_r, cond_true]
  cases (l01Once (l07Packet (l01Below (l32Ports (l01New code)).2 (len (l32Ports (l01New code)).1)).2 30).2 3).1
  · exact ⟨rfl, by show 1 ≤ (l32Ports (l01New code)).1.length; omega, by show (l32Ports (l01New code)).1.length ≤ 5; omega, a4.1, a5⟩
  · exact ⟨rfl, by show 1 ≤ (l32Ports (l01New code)).1.length; omega, by show (l32Ports (l01New code)).1.length ≤ 5; omega, a4.1, a5⟩


theorem super_set {p : SPacket} {w : Int} (h : SuperOk p = true) (h1 : -1 ≤ w) (h2 : w ≤ 4095) : SuperOk (⟨p.DstMac, p.SrcMac, w, p.Tos, p.Id, p.Ttl, p.SrcIp, p.DstIp, p.Seg⟩ : SPacket) = true := by
  have hw : between w (-1) 4095 = true := between_iff.2 ⟨h1, h2⟩
  unfold SuperOk impl_SuperOk_t at h ⊢
  cases hv : between p.Vlan (-1) 4095
  · rw [hv] at h
    revert h
    cases between p.DstMac 0 281474976710655 <;> cases between p.SrcMac 0 281474976710655 <;> simp
  · rw [hv] at h
    simp only [hw]
    exact h
theorem leave_back {L : Rows} {p : SPacket} {k : Nat} {v : Int} (hP : PortsOk L = true) (hS : SuperOk p = true) (hk : k < L.length) (hh : hasInt (rR (nth L k) 1) v = true) (hst : rB (nth L k) 3 = false) :
    EntryVlan L (k : Int) (LeavePacket L (k : Int) v p) = v := by
  obtain ⟨h1, h8, hp⟩ := PortsOk_facts hP
  obtain ⟨v0, v1⟩ := FilterOk_vlans (port_good (hp k hk).1).1 hh
  have hb : between (k : Int) 0 (w64 ((len L) - 1)) = true := by
    have e : w64 ((len L) - 1) = (L.length : Int) - 1 := by simp only [len]; exact w64_in (by omega) (by omega)
    rw [e]
    exact (between_iff (n := (k : Int)) (a := 0) (b := (L.length : Int) - 1)).2 (by omega)
  unfold LeavePacket
  rw [hP, hb, hS, Int.toNat_natCast, hh]
  simp only [Bool.not_true, cond_false]
  by_cases hn : v = rI (nth L k) 2
  · rw [show (v == rI (nth L k) 2) = true by simpa using hn, cond_true]
    have hS' := super_set (w := -1) hS (by omega) (by omega)
    unfold EntryVlan
    rw [hP, hb, hS', Int.toNat_natCast, ← hn, hst]
    simp only [Bool.not_true, cond_false, beq_self_eq_true, cond_true, hh]
    cases ((k : Int) != 0) <;> rfl
  · rw [show (v == rI (nth L k) 2) = false by simpa using hn, cond_false]
    have hS' := super_set (w := v) hS (by omega) (by omega)
    have hne : (v == -1) = false := by simp only [beq_eq_false_iff_ne, ne_eq]; omega
    unfold EntryVlan
    rw [hP, hb, hS', Int.toNat_natCast]
    simp only [hne, hh, hst, Bool.not_true, cond_false]
    cases ((k : Int) != 0) <;> rfl

def laws_has_l0 {α : Type} (bad : α) (k_ : Bool → α) (list_ : Rows) (k : Int) (ih0 : Int → α) (i : Int) : α :=
  bif decide (i < len list_) then
    bif andt true (idx i list_) then
      bif (rI (nth list_ (Int.toNat i)) 0) == k then k_ true
      else ih0 (w64 (i + 1))
    else bad
  else k_ false
def laws_has_L0 {α : Type} (bad : α) (k_ : Bool → α) (N : Nat) (list_ : Rows) (k : Int) (m_ : Nat) : Int → α :=
  Nat.rec (motive := fun _ => Int → α) (fun _ => bad) (fun _ ih0 => laws_has_l0 bad k_ list_ k ih0) m_
theorem laws_has_L0_z {α : Type} (bad : α) (k_ : Bool → α) (N : Nat) (list_ : Rows) (k : Int) (i : Int) : laws_has_L0 bad k_ N list_ k 0 i = bad := rfl
theorem laws_has_L0_s {α : Type} (bad : α) (k_ : Bool → α) (N : Nat) (list_ : Rows) (k : Int) (m_ : Nat) (i : Int) : laws_has_L0 bad k_ N list_ k (m_ + 1) i = laws_has_l0 bad k_ list_ k (laws_has_L0 bad k_ N list_ k m_) i := rfl
def laws_has_t {α : Type} (bad : α) (k_ : Bool → α) (l0 : Int → α) (list_ : Rows) (k : Int) : α :=
  l0 0
def laws_has_f {α : Type} (bad : α) (k_ : Bool → α) (N : Nat) (list_ : Rows) (k : Int) : α := laws_has_t bad k_ (laws_has_L0 bad k_ N list_ k N) list_ k
theorem laws_has_c {α : Type} (bad : α) (k_ : Bool → α) (list_ : Rows) (k : Int) (h_list_ : WtC (.sl [.int .i64]) (.sl list_)) (h_k : WtC (.int .i64) (.int k)) : ∃ N, laws_has_f bad k_ N list_ k = k_ (hasInt list_ k) := by
  obtain ⟨hl, _⟩ := wt_sl h_list_
  refine ⟨list_.length + 1, ?_⟩
  unfold laws_has_f laws_has_t
  refine (loop_rows0 list_ (laws_has_L0 bad k_ (list_.length + 1) list_ k) (fun i r c => bif (rI r 0) == k then k_ true else c) (k_ false) ?_ ?_).trans ?_
  · intro n i h
    rw [laws_has_L0_s]
    simp only [laws_has_l0, lt_len h, idx_nat h, w64_succ h hl, Int.toNat_natCast, andt_true_l, andt_true_r, cond_true]
  · intro n
    rw [laws_has_L0_s]
    simp only [laws_has_l0, not_lt_len, cond_false]
  · exact (go_anyIdx (fun _ r => (rI r 0) == k) (k_ true) (k_ false) list_ 0).trans (by unfold hasInt; cases anyIdx (fun _ r => (rI r 0) == k) list_ 0 <;> rfl)

def laws_big_t {α : Type} (k_ : Bool → α) (code : Rows) : α :=
  k_ (decide (1048576 < len code))
def big (code : Rows) : Bool := laws_big_t id code
theorem laws_big_c {α : Type} (k_ : Bool → α) (code : Rows) : laws_big_t k_ code = k_ (big code) := by
  rfl

def laws_FnSwitched_l0 {α : Type} (bad : α) (k_ : Bool → α) (from_ : Int) (v : Int) (p : Int) (p_1 : Int) (p_2 : Int) (p_3 : Int) (p_4 : Int) (p_5 : Int) (p_6 : Int) (p_7 : Int) (p_8 : Int) (p_9 : Int) (p_10 : Int) (p_11 : Int) (p_12 : Int) (p_13 : Int) (p_14 : Int) (p_15 : Bytes) (list_ : Rows) (out_ : Rows) (ih0 : Int → α) (k : Int) : α :=
  let z0 : Bool := decide (rI (nth out_ (Int.toNat k)) 0 < 0)
  let z1 : Bool := andt (andt true (idx k out_)) (inl (Int.toNat k) out_)
  let z2 : Bool := decide (len list_ ≤ rI (nth out_ (Int.toNat k)) 0)
  let z3 : Bool := andt (andt z1 (idx k out_)) (inl (Int.toNat k) out_)
  let z4 : Bool := idx (rI (nth out_ (Int.toNat k)) 0) list_
  let z5 : Nat := Int.toNat (rI (nth out_ (Int.toNat k)) 0)
  let z6 : Bool := inl z5 list_
  let z7 : List DC := nth list_ z5
  let z8 : SPacket := (⟨p, p_1, p_2, p_3, p_4, p_5, p_6, p_7, (⟨p_8, p_9, p_10, p_11, p_12, p_13, p_14, p_15⟩ : SSegment)⟩ : SPacket)
  let z9 : Bool := (EntryVlan list_ (rI (nth out_ (Int.toNat k)) 0) (LeavePacket list_ (rI (nth out_ (Int.toNat k)) 0) v z8)) != v
  bif decide (k < len out_) then
    bif okm z0 z1 (okm z2 z3 (andt (andt (andt (andt z3 (idx k out_)) (inl (Int.toNat k) out_)) z4) z6)) then
      bif bif z0 then true else bif z2 then true else !(hasInt (rR z7 1) v) then k_ false
      else bif z1 then
          bif okm z9 (andt (andt z3 z4) z6) z1 then
            bif bif z9 then !(rB z7 3) else false then k_ false
            else ih0 (w64 (k + 1))
          else bad
        else bad
    else bad
  else k_ ((len out_) == (len (SwitchPacket list_ from_ z8)))
def laws_FnSwitched_L0 {α : Type} (bad : α) (k_ : Bool → α) (N : Nat) (from_ : Int) (v : Int) (p : Int) (p_1 : Int) (p_2 : Int) (p_3 : Int) (p_4 : Int) (p_5 : Int) (p_6 : Int) (p_7 : Int) (p_8 : Int) (p_9 : Int) (p_10 : Int) (p_11 : Int) (p_12 : Int) (p_13 : Int) (p_14 : Int) (p_15 : Bytes) (list_ : Rows) (out_ : Rows) (m_ : Nat) : Int → α :=
  Nat.rec (motive := fun _ => Int → α) (fun _ => bad) (fun _ ih0 => laws_FnSwitched_l0 bad k_ from_ v p p_1 p_2 p_3 p_4 p_5 p_6 p_7 p_8 p_9 p_10 p_11 p_12 p_13 p_14 p_15 list_ out_ ih0) m_
theorem laws_FnSwitched_L0_z {α : Type} (bad : α) (k_ : Bool → α) (N : Nat) (from_ : Int) (v : Int) (p : Int) (p_1 : Int) (p_2 : Int) (p_3 : Int) (p_4 : Int) (p_5 : Int) (p_6 : Int) (p_7 : Int) (p_8 : Int) (p_9 : Int) (p_10 : Int) (p_11 : Int) (p_12 : Int) (p_13 : Int) (p_14 : Int) (p_15 : Bytes) (list_ : Rows) (out_ : Rows) (k : Int) : laws_FnSwitched_L0 bad k_ N from_ v p p_1 p_2 p_3 p_4 p_5 p_6 p_7 p_8 p_9 p_10 p_11 p_12 p_13 p_14 p_15 list_ out_ 0 k = bad := rfl
theorem laws_FnSwitched_L0_s {α : Type} (bad : α) (k_ : Bool → α) (N : Nat) (from_ : Int) (v : Int) (p : Int) (p_1 : Int) (p_2 : Int) (p_3 : Int) (p_4 : Int) (p_5 : Int) (p_6 : Int) (p_7 : Int) (p_8 : Int) (p_9 : Int) (p_10 : Int) (p_11 : Int) (p_12 : Int) (p_13 : Int) (p_14 : Int) (p_15 : Bytes) (list_ : Rows) (out_ : Rows) (m_ : Nat) (k : Int) : laws_FnSwitched_L0 bad k_ N from_ v p p_1 p_2 p_3 p_4 p_5 p_6 p_7 p_8 p_9 p_10 p_11 p_12 p_13 p_14 p_15 list_ out_ (m_ + 1) k = laws_FnSwitched_l0 bad k_ from_ v p p_1 p_2 p_3 p_4 p_5 p_6 p_7 p_8 p_9 p_10 p_11 p_12 p_13 p_14 p_15 list_ out_ (laws_FnSwitched_L0 bad k_ N from_ v p p_1 p_2 p_3 p_4 p_5 p_6 p_7 p_8 p_9 p_10 p_11 p_12 p_13 p_14 p_15 list_ out_ m_) k := rfl
def laws_FnSwitched_t {α : Type} (bad : α) (k_ : Bool → α) (l0 : Int → Int → Int → Int → Int → Int → Int → Int → Int → Int → Int → Int → Int → Int → Int → Int → Int → Bytes → Rows → Rows → Int → α) (code : Rows) : α :=
  let z0 : Int := EntryVlan ((DrawSwitch code).1) ((DrawSwitch code).2.1) ((DrawSwitch code).2.2)
  let z1 : Rows := SwitchPacket ((DrawSwitch code).1) ((DrawSwitch code).2.1) ((DrawSwitch code).2.2)
  let z2 : Int := len z1
  let z3 : Bool := hasInt z1 ((DrawSwitch code).2.1)
  let z4 : Bool := bif (((DrawSwitch code).2.2).DstMac) != 281474976710655 then bif decide (1 < z2) then true else z3 else z3
  bif big code then k_ true
  else bif andt true (DrawSwitch_ok code) then
      bif bif z0 != z0 then true else bif decide (z0 < 0) then bif decide (0 < z2) then true else z4 else z4 then k_ false
      else l0 ((DrawSwitch code).2.1) z0 (((DrawSwitch code).2.2).DstMac) (((DrawSwitch code).2.2).SrcMac) (((DrawSwitch code).2.2).Vlan) (((DrawSwitch code).2.2).Tos) (((DrawSwitch code).2.2).Id) (((DrawSwitch code).2.2).Ttl) (((DrawSwitch code).2.2).SrcIp) (((DrawSwitch code).2.2).DstIp) ((((DrawSwitch code).2.2).Seg).Kind) ((((DrawSwitch code).2.2).Seg).SrcPort) ((((DrawSwitch code).2.2).Seg).DstPort) ((((DrawSwitch code).2.2).Seg).Seq) ((((DrawSwitch code).2.2).Seg).Ack) ((((DrawSwitch code).2.2).Seg).Flags) ((((DrawSwitch code).2.2).Seg).Window) ((((DrawSwitch code).2.2).Seg).Body) ((DrawSwitch code).1) z1 0
    else bad
def laws_FnSwitched_f {α : Type} (bad : α) (k_ : Bool → α) (N : Nat) (code : Rows) : α := laws_FnSwitched_t bad k_ (fun from_ v p p_1 p_2 p_3 p_4 p_5 p_6 p_7 p_8 p_9 p_10 p_11 p_12 p_13 p_14 p_15 list_ out_ => laws_FnSwitched_L0 bad k_ N from_ v p p_1 p_2 p_3 p_4 p_5 p_6 p_7 p_8 p_9 p_10 p_11 p_12 p_13 p_14 p_15 list_ out_ N) code
theorem laws_FnSwitched_c {α : Type} (bad : α) (k_ : Bool → α) (code : Rows) (h_code : WtC (.sl [.int .u8]) (.sl code)) (hok : fitL ((.sl [.int .u8]) :: ([])) (.sl code :: ([])) = true) : ∃ N, laws_FnSwitched_f bad k_ N code = k_ true := by
  obtain ⟨hl, _⟩ := wt_sl h_code
  obtain ⟨d0, d1, d2, d3, d4⟩ := DrawSwitch_k hl
  refine ⟨10, ?_⟩
  unfold laws_FnSwitched_f laws_FnSwitched_t
  cases big code
  · simp only [d0, andt_true_l, cond_true, cond_false]
    generalize DrawSwitch code = D at d1 d2 d3 d4 ⊢
    obtain ⟨L, a, p⟩ := D
    simp only at d1 d2 d3 d4 ⊢
    have hlen := sw_len L a p
    have hmem := fun r h => sw_mem (l := L) (a := a) (p := p) (r := r) h
    have hself : (EntryVlan L a p != EntryVlan L a p) = false := by simp
    have hfrom : hasInt (SwitchPacket L a p) a = false := by
      cases hh : hasInt (SwitchPacket L a p) a
      · rfl
      · obtain ⟨i, hi, e⟩ := hasInt_iff.1 hh
        obtain ⟨_, k, _, e2, e3, _⟩ := hmem _ (nth_mem hi)
        rw [e2] at e
        exact absurd e e3
    have hz4 : (bif p.DstMac != 281474976710655 then bif decide (1 < len (SwitchPacket L a p)) then true else false else false) = false := by
      by_cases hm : p.DstMac = 281474976710655
      · rw [show (p.DstMac != 281474976710655) = false by simpa using hm]
        rfl
      · have := hlen.2 hm
        rw [show (p.DstMac != 281474976710655) = true by simpa using hm, decide_eq_false (show ¬ 1 < len (SwitchPacket L a p) by simp only [len]; omega)]
        rfl
    have hneg : (bif decide (EntryVlan L a p < 0) then bif decide (0 < len (SwitchPacket L a p)) then true else false else false) = false := by
      by_cases hv : EntryVlan L a p < 0
      · have : SwitchPacket L a p = [] := by unfold SwitchPacket; rw [decide_eq_true hv]; rfl
        rw [this, decide_eq_true hv]
        rfl
      · rw [decide_eq_false hv]
        rfl
    simp only [hself, hfrom, hz4, hneg, cond_false]
    generalize hO : SwitchPacket L a p = O at hlen hmem ⊢
    have eta : (⟨p.DstMac, p.SrcMac, p.Vlan, p.Tos, p.Id, p.Ttl, p.SrcIp, p.DstIp, (⟨p.Seg.Kind, p.Seg.SrcPort, p.Seg.DstPort, p.Seg.Seq, p.Seg.Ack, p.Seg.Flags, p.Seg.Window, p.Seg.Body⟩ : SSegment)⟩ : SPacket) = p := rfl
    refine (loop_rowsN O (laws_FnSwitched_L0 bad k_ 10 a (EntryVlan L a p) p.DstMac p.SrcMac p.Vlan p.Tos p.Id p.Ttl p.SrcIp p.DstIp p.Seg.Kind p.Seg.SrcPort p.Seg.DstPort p.Seg.Seq p.Seg.Ack p.Seg.Flags p.Seg.Window p.Seg.Body L O) (fun i r c => c) (k_ true) ?_ ?_ 10 (by omega)).trans ?_
    · intro n i h
      rw [laws_FnSwitched_L0_s]
      obtain ⟨hv, k, hk, e, hka, hhas⟩ := hmem _ (nth_mem h)
      obtain ⟨hP, hS, _⟩ := ev_facts hv
      have er : rI (nth O i) 0 = (k : Int) := by rw [e]; rfl
      have n1 : decide ((k : Int) < 0) = false := decide_eq_false (by omega)
      have n2 : decide (len L ≤ (k : Int)) = false := decide_eq_false (by simp only [len]; omega)
      have hb := leave_back hP hS hk hhas
      simp only [laws_FnSwitched_l0, lt_len h, idx_nat h, inl_nat h, er, n1, n2, idx_nat hk, inl_nat hk, hhas, eta, Int.toNat_natCast, w64_in (show -9223372036854775808 ≤ (i : Int) + 1 by omega) (show (i : Int) + 1 ≤ 9223372036854775807 by omega), andt_true_l, andt_true_r, okm_tt, cond_true, cond_false, Bool.not_true]
      cases hst : rB (nth L k) 3
      · rw [hb hst]
        simp
      · cases (EntryVlan L (k : Int) (LeavePacket L (k : Int) (EntryVlan L a p) p) != EntryVlan L a p) <;> rfl
    · intro n
      rw [laws_FnSwitched_L0_s]
      simp only [laws_FnSwitched_l0, not_lt_len, eta, hO, beq_self_eq_true, cond_false]
    · exact go_skip (k_ true) O 0
  · exact rfl

end
end Go.Proofs.Ytklbgnodgnlebaa.Pl
