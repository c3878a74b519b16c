/- What functions of the program compute, in plain Lean, as the value machine runs them. Conditions: none. -/
import Derived.Test.YtfnkhejoihnlnaaPDp
set_option linter.unusedVariables false
set_option linter.unusedSimpArgs false
namespace Go.Proofs.Ytfnkhejoihnlnaa.Pl
open Vm
noncomputable section


def spec_l09List_l0 {α : Type} (bad : α) (k_ : Rows → Sl01Cur → α) (ih0 : Int → Int → Rows → Int → Int → Int → Int → Int → Int → Int → Int → Int → Int → Int → Int → Int → Int → Int → Int → Int → Bytes → Rows → α) (size : Int) (k : Int) (b5000000 : Rows) (b5000000_1 : Int) (b5000000_2 : Int) (p : Int) (p_1 : Int) (p_2 : Int) (p_3 : Int) (p_4 : Int) (p_5 : Int) (p_6 : Int) (p_7 : Int) (p_8 : Int) (p_9 : Int) (p_10 : Int) (p_11 : Int) (p_12 : Int) (p_13 : Int) (p_14 : Int) (p_15 : Bytes) (out_ : Rows) : α :=
  let z0 : Bool × Sl01Cur := l01Once (⟨b5000000, b5000000_1, b5000000_2⟩ : Sl01Cur) 5
  let z1 : SPacket × Sl01Cur := l07Packet z0.2 40
  let z2 : Bool × Sl01Cur := l01Once z1.2 6
  let z3 : Sl01Cur := z2.2
  let z4 : Int := z1.1.Seg.Kind
  let z5 : Bool := z4 == 6
  let z6 : Int × Sl01Cur := l01Below z3 40
  let z7 : Sl01Cur := z6.2
  let z8 : Rows := [[.int 16], [.int 16], [.int 16], [.int 16], [.int 16], [.int 24], [.int 17], [.int 2]]
  let z9 : Int × Sl01Cur := l01PickInt z7 z8
  let z10 : Sl01Cur := z9.2
  let z11 : Int := w64 (1 + z6.1)
  let z12 : Bytes × Sl01Cur := l01Text z10 z11
  let z13 : Sl01Cur := z12.2
  let z14 : Bool × Sl01Cur := l01Once z13 8
  let z15 : Sl01Cur := z14.2
  let z16 : Rows := bif z5 then z15.b else z13.b
  let z17 : Int := bif z5 then z15.i else z13.i
  let z18 : Int := bif z5 then z15.h else z13.h
  let z19 : Int := Int.tmod (w64 (z1.1.Id + 1)) 65536
  let z20 : Int := z1.1.Seg.SrcPort
  let z21 : Int := z1.1.Seg.DstPort
  let z22 : Int := z1.1.Seg.Seq
  let z23 : Bytes := z12.1
  let z24 : Int := z1.1.Seg.Ack
  let z25 : Int := z9.1
  let z26 : Int := z1.1.Seg.Window
  let z27 : Bool := andt true (room2 136 out_ [SPacket.enc z1.1])
  let z28 : Bool × Sl01Cur := l01Once z7 8
  let z29 : Sl01Cur := z28.2
  let z30 : Rows := bif z5 then z29.b else z7.b
  let z31 : Int := bif z5 then z29.i else z7.i
  let z32 : Int := bif z5 then z29.h else z7.h
  let z33 : Bytes := z1.1.Seg.Body
  let z34 : Int := Int.tmod (w64 (z22 + (len z33))) 4294967296
  let z35 : Int := z1.1.Seg.Flags
  let z36 : Int × Sl01Cur := l01PickInt z3 z8
  let z37 : Sl01Cur := z36.2
  let z38 : Bytes × Sl01Cur := l01Text z37 size
  let z39 : Sl01Cur := z38.2
  let z40 : Bool × Sl01Cur := l01Once z39 8
  let z41 : Sl01Cur := z40.2
  let z42 : Rows := bif z5 then z41.b else z39.b
  let z43 : Int := bif z5 then z41.i else z39.i
  let z44 : Int := bif z5 then z41.h else z39.h
  let z45 : Bytes := z38.1
  let z46 : Int := z36.1
  let z47 : Bool × Sl01Cur := l01Once z3 8
  let z48 : Sl01Cur := z47.2
  let z49 : Rows := bif z5 then z48.b else z3.b
  let z50 : Int := bif z5 then z48.i else z3.i
  let z51 : Int := bif z5 then z48.h else z3.h
  let z52 : Bool × Sl01Cur := l01Once z0.2 6
  let z53 : Int × Sl01Cur := l01Below z52.2 40
  let z54 : Sl01Cur := z53.2
  let z55 : Int × Sl01Cur := l01PickInt z54 z8
  let z56 : Sl01Cur := z55.2
  let z57 : Int := w64 (1 + z53.1)
  let z58 : Bytes × Sl01Cur := l01Text z56 z57
  let z59 : Sl01Cur := z58.2
  let z60 : Bool × Sl01Cur := l01Once z59 8
  let z61 : Sl01Cur := z60.2
  let z62 : Rows := bif p_8 == 6 then z61.b else z59.b
  let z63 : Int := bif p_8 == 6 then z61.i else z59.i
  let z64 : Int := bif p_8 == 6 then z61.h else z59.h
  let z65 : Int := Int.tmod (w64 (p_4 + 1)) 65536
  let z66 : Bytes := z58.1
  let z67 : Int := z55.1
  let z68 : Bool := andt true (room2 136 out_ ([[.int p, .int p_1, .int p_2, .int p_3, .int p_4, .int p_5, .int p_6, .int p_7, .int p_8, .int p_9, .int p_10, .int p_11, .int p_12, .int p_13, .int p_14, .str p_15]]))
  let z69 : Bool × Sl01Cur := l01Once z54 8
  let z70 : Sl01Cur := z69.2
  let z71 : Rows := bif p_8 == 6 then z70.b else z54.b
  let z72 : Int := bif p_8 == 6 then z70.i else z54.i
  let z73 : Int := bif p_8 == 6 then z70.h else z54.h
  let z74 : Int := Int.tmod (w64 (p_11 + (len p_15))) 4294967296
  let z75 : Int × Sl01Cur := l01PickInt z52.2 z8
  let z76 : Sl01Cur := z75.2
  let z77 : Bytes × Sl01Cur := l01Text z76 size
  let z78 : Sl01Cur := z77.2
  let z79 : Bool × Sl01Cur := l01Once z78 8
  let z80 : Sl01Cur := z79.2
  let z81 : Rows := bif p_8 == 6 then z80.b else z78.b
  let z82 : Int := bif p_8 == 6 then z80.i else z78.i
  let z83 : Int := bif p_8 == 6 then z80.h else z78.h
  let z84 : Bytes := z77.1
  let z85 : Int := z75.1
  let z86 : Bool × Sl01Cur := l01Once z52.2 8
  let z87 : Sl01Cur := z86.2
  let z88 : Rows := bif p_8 == 6 then z87.b else z52.2.b
  let z89 : Int := bif p_8 == 6 then z87.i else z52.2.i
  let z90 : Int := bif p_8 == 6 then z87.h else z52.2.h
  bif decide (0 < k) then
    bif andt true (curOk1 (⟨b5000000, b5000000_1, b5000000_2⟩ : Sl01Cur) 5) then
      bif z0.1 then
        bif andt true (l07Packet_ok z0.2 40) then
          bif andt true (curOk1 z1.2 6) then
            bif z2.1 then
              bif andt true (curOk1 z3 40) then
                bif z5 then
                  bif andt true (pickOk z7 z8) then
                    bif andt true (curOk1 z10 z11) then
                      bif andt true (room2 136 out_ ([[.int z1.1.DstMac, .int z1.1.SrcMac, .int z1.1.Vlan, .int z1.1.Tos, .int z1.1.Id, .int z1.1.Ttl, .int z1.1.SrcIp, .int z1.1.DstIp, .int z4, .int z20, .int z21, .int z22, .int z24, .int z25, .int z26, .str z23]])) then
                        bif okm z5 (andt true (curOk1 z13 8)) true then
                          bif bif z5 then !z14.1 else false then ih0 z11 (w64 (k - 1)) z16 z17 z18 z1.1.DstMac z1.1.SrcMac z1.1.Vlan z1.1.Tos z19 z1.1.Ttl z1.1.SrcIp z1.1.DstIp z4 z20 z21 (Int.tmod (w64 (z22 + (len z23))) 4294967296) z24 z25 z26 z23 (out_ ++ ([[.int z1.1.DstMac, .int z1.1.SrcMac, .int z1.1.Vlan, .int z1.1.Tos, .int z1.1.Id, .int z1.1.Ttl, .int z1.1.SrcIp, .int z1.1.DstIp, .int z4, .int z20, .int z21, .int z22, .int z24, .int z25, .int z26, .str z23]]))
                          else ih0 z11 (w64 (k - 1)) z16 z17 z18 z1.1.DstMac z1.1.SrcMac z1.1.Vlan z1.1.Tos z19 z1.1.Ttl z1.1.SrcIp z1.1.DstIp z4 z20 z21 z22 z24 z25 z26 z23 (out_ ++ ([[.int z1.1.DstMac, .int z1.1.SrcMac, .int z1.1.Vlan, .int z1.1.Tos, .int z1.1.Id, .int z1.1.Ttl, .int z1.1.SrcIp, .int z1.1.DstIp, .int z4, .int z20, .int z21, .int z22, .int z24, .int z25, .int z26, .str z23]]))
                        else bad
                      else bad
                    else bad
                  else bad
                else bif z27 then
                    bif okm z5 (andt true (curOk1 z7 8)) true then
                      bif bif z5 then !z28.1 else false then ih0 z11 (w64 (k - 1)) z30 z31 z32 z1.1.DstMac z1.1.SrcMac z1.1.Vlan z1.1.Tos z19 z1.1.Ttl z1.1.SrcIp z1.1.DstIp z4 z20 z21 z34 z24 z35 z26 z33 (out_ ++ [SPacket.enc z1.1])
                      else ih0 z11 (w64 (k - 1)) z30 z31 z32 z1.1.DstMac z1.1.SrcMac z1.1.Vlan z1.1.Tos z19 z1.1.Ttl z1.1.SrcIp z1.1.DstIp z4 z20 z21 z22 z24 z35 z26 z33 (out_ ++ [SPacket.enc z1.1])
                    else bad
                  else bad
              else bad
            else bif z5 then
              bif andt true (pickOk z3 z8) then
                bif andt true (curOk1 z37 size) then
                  bif andt true (room2 136 out_ ([[.int z1.1.DstMac, .int z1.1.SrcMac, .int z1.1.Vlan, .int z1.1.Tos, .int z1.1.Id, .int z1.1.Ttl, .int z1.1.SrcIp, .int z1.1.DstIp, .int z4, .int z20, .int z21, .int z22, .int z24, .int z46, .int z26, .str z45]])) then
                    bif okm z5 (andt true (curOk1 z39 8)) true then
                      bif bif z5 then !z40.1 else false then ih0 size (w64 (k - 1)) z42 z43 z44 z1.1.DstMac z1.1.SrcMac z1.1.Vlan z1.1.Tos z19 z1.1.Ttl z1.1.SrcIp z1.1.DstIp z4 z20 z21 (Int.tmod (w64 (z22 + (len z45))) 4294967296) z24 z46 z26 z45 (out_ ++ ([[.int z1.1.DstMac, .int z1.1.SrcMac, .int z1.1.Vlan, .int z1.1.Tos, .int z1.1.Id, .int z1.1.Ttl, .int z1.1.SrcIp, .int z1.1.DstIp, .int z4, .int z20, .int z21, .int z22, .int z24, .int z46, .int z26, .str z45]]))
                      else ih0 size (w64 (k - 1)) z42 z43 z44 z1.1.DstMac z1.1.SrcMac z1.1.Vlan z1.1.Tos z19 z1.1.Ttl z1.1.SrcIp z1.1.DstIp z4 z20 z21 z22 z24 z46 z26 z45 (out_ ++ ([[.int z1.1.DstMac, .int z1.1.SrcMac, .int z1.1.Vlan, .int z1.1.Tos, .int z1.1.Id, .int z1.1.Ttl, .int z1.1.SrcIp, .int z1.1.DstIp, .int z4, .int z20, .int z21, .int z22, .int z24, .int z46, .int z26, .str z45]]))
                    else bad
                  else bad
                else bad
              else bad
            else bif z27 then
                bif okm z5 (andt true (curOk1 z3 8)) true then
                  bif bif z5 then !z47.1 else false then ih0 size (w64 (k - 1)) z49 z50 z51 z1.1.DstMac z1.1.SrcMac z1.1.Vlan z1.1.Tos z19 z1.1.Ttl z1.1.SrcIp z1.1.DstIp z4 z20 z21 z34 z24 z35 z26 z33 (out_ ++ [SPacket.enc z1.1])
                  else ih0 size (w64 (k - 1)) z49 z50 z51 z1.1.DstMac z1.1.SrcMac z1.1.Vlan z1.1.Tos z19 z1.1.Ttl z1.1.SrcIp z1.1.DstIp z4 z20 z21 z22 z24 z35 z26 z33 (out_ ++ [SPacket.enc z1.1])
                else bad
              else bad
          else bad
        else bad
      else bif andt true (curOk1 z0.2 6) then
          bif z52.1 then
            bif andt true (curOk1 z52.2 40) then
              bif p_8 == 6 then
                bif andt true (pickOk z54 z8) then
                  bif andt true (curOk1 z56 z57) then
                    bif andt true (room2 136 out_ ([[.int p, .int p_1, .int p_2, .int p_3, .int p_4, .int p_5, .int p_6, .int p_7, .int p_8, .int p_9, .int p_10, .int p_11, .int p_12, .int z67, .int p_14, .str z66]])) then
                      bif okm (p_8 == 6) (andt true (curOk1 z59 8)) true then
                        bif bif p_8 == 6 then !z60.1 else false then ih0 z57 (w64 (k - 1)) z62 z63 z64 p p_1 p_2 p_3 z65 p_5 p_6 p_7 p_8 p_9 p_10 (Int.tmod (w64 (p_11 + (len z66))) 4294967296) p_12 z67 p_14 z66 (out_ ++ ([[.int p, .int p_1, .int p_2, .int p_3, .int p_4, .int p_5, .int p_6, .int p_7, .int p_8, .int p_9, .int p_10, .int p_11, .int p_12, .int z67, .int p_14, .str z66]]))
                        else ih0 z57 (w64 (k - 1)) z62 z63 z64 p p_1 p_2 p_3 z65 p_5 p_6 p_7 p_8 p_9 p_10 p_11 p_12 z67 p_14 z66 (out_ ++ ([[.int p, .int p_1, .int p_2, .int p_3, .int p_4, .int p_5, .int p_6, .int p_7, .int p_8, .int p_9, .int p_10, .int p_11, .int p_12, .int z67, .int p_14, .str z66]]))
                      else bad
                    else bad
                  else bad
                else bad
              else bif z68 then
                  bif okm (p_8 == 6) (andt true (curOk1 z54 8)) true then
                    bif bif p_8 == 6 then !z69.1 else false then ih0 z57 (w64 (k - 1)) z71 z72 z73 p p_1 p_2 p_3 z65 p_5 p_6 p_7 p_8 p_9 p_10 z74 p_12 p_13 p_14 p_15 (out_ ++ ([[.int p, .int p_1, .int p_2, .int p_3, .int p_4, .int p_5, .int p_6, .int p_7, .int p_8, .int p_9, .int p_10, .int p_11, .int p_12, .int p_13, .int p_14, .str p_15]]))
                    else ih0 z57 (w64 (k - 1)) z71 z72 z73 p p_1 p_2 p_3 z65 p_5 p_6 p_7 p_8 p_9 p_10 p_11 p_12 p_13 p_14 p_15 (out_ ++ ([[.int p, .int p_1, .int p_2, .int p_3, .int p_4, .int p_5, .int p_6, .int p_7, .int p_8, .int p_9, .int p_10, .int p_11, .int p_12, .int p_13, .int p_14, .str p_15]]))
                  else bad
                else bad
            else bad
          else bif p_8 == 6 then
            bif andt true (pickOk z52.2 z8) then
              bif andt true (curOk1 z76 size) then
                bif andt true (room2 136 out_ ([[.int p, .int p_1, .int p_2, .int p_3, .int p_4, .int p_5, .int p_6, .int p_7, .int p_8, .int p_9, .int p_10, .int p_11, .int p_12, .int z85, .int p_14, .str z84]])) then
                  bif okm (p_8 == 6) (andt true (curOk1 z78 8)) true then
                    bif bif p_8 == 6 then !z79.1 else false then ih0 size (w64 (k - 1)) z81 z82 z83 p p_1 p_2 p_3 z65 p_5 p_6 p_7 p_8 p_9 p_10 (Int.tmod (w64 (p_11 + (len z84))) 4294967296) p_12 z85 p_14 z84 (out_ ++ ([[.int p, .int p_1, .int p_2, .int p_3, .int p_4, .int p_5, .int p_6, .int p_7, .int p_8, .int p_9, .int p_10, .int p_11, .int p_12, .int z85, .int p_14, .str z84]]))
                    else ih0 size (w64 (k - 1)) z81 z82 z83 p p_1 p_2 p_3 z65 p_5 p_6 p_7 p_8 p_9 p_10 p_11 p_12 z85 p_14 z84 (out_ ++ ([[.int p, .int p_1, .int p_2, .int p_3, .int p_4, .int p_5, .int p_6, .int p_7, .int p_8, .int p_9, .int p_10, .int p_11, .int p_12, .int z85, .int p_14, .str z84]]))
                  else bad
                else bad
              else bad
            else bad
          else bif z68 then
              bif okm (p_8 == 6) (andt true (curOk1 z52.2 8)) true then
                bif bif p_8 == 6 then !z86.1 else false then ih0 size (w64 (k - 1)) z88 z89 z90 p p_1 p_2 p_3 z65 p_5 p_6 p_7 p_8 p_9 p_10 z74 p_12 p_13 p_14 p_15 (out_ ++ ([[.int p, .int p_1, .int p_2, .int p_3, .int p_4, .int p_5, .int p_6, .int p_7, .int p_8, .int p_9, .int p_10, .int p_11, .int p_12, .int p_13, .int p_14, .str p_15]]))
                else ih0 size (w64 (k - 1)) z88 z89 z90 p p_1 p_2 p_3 z65 p_5 p_6 p_7 p_8 p_9 p_10 p_11 p_12 p_13 p_14 p_15 (out_ ++ ([[.int p, .int p_1, .int p_2, .int p_3, .int p_4, .int p_5, .int p_6, .int p_7, .int p_8, .int p_9, .int p_10, .int p_11, .int p_12, .int p_13, .int p_14, .str p_15]]))
              else bad
            else bad
        else bad
    else bad
  else k_ out_ (⟨b5000000, b5000000_1, b5000000_2⟩ : Sl01Cur)
def spec_l09List_L0 {α : Type} (bad : α) (k_ : Rows → Sl01Cur → α) (N : Nat) (m_ : Nat) : Int → Int → Rows → Int → Int → Int → Int → Int → Int → Int → Int → Int → Int → Int → Int → Int → Int → Int → Int → Int → Bytes → Rows → α :=
  Nat.rec (motive := fun _ => Int → Int → Rows → Int → Int → Int → Int → Int → Int → Int → Int → Int → Int → Int → Int → Int → Int → Int → Int → Int → Bytes → Rows → α) (fun _ _ _ _ _ _ _ _ _ _ _ _ _ _ _ _ _ _ _ _ _ _ => bad) (fun _ ih0 => spec_l09List_l0 bad k_ ih0) m_
theorem spec_l09List_L0_z {α : Type} (bad : α) (k_ : Rows → Sl01Cur → α) (N : Nat) (size : Int) (k : Int) (b5000000 : Rows) (b5000000_1 : Int) (b5000000_2 : Int) (p : Int) (p_1 : Int) (p_2 : Int) (p_3 : Int) (p_4 : Int) (p_5 : Int) (p_6 : Int) (p_7 : Int) (p_8 : Int) (p_9 : Int) (p_10 : Int) (p_11 : Int) (p_12 : Int) (p_13 : Int) (p_14 : Int) (p_15 : Bytes) (out_ : Rows) : spec_l09List_L0 bad k_ N 0 size k b5000000 b5000000_1 b5000000_2 p p_1 p_2 p_3 p_4 p_5 p_6 p_7 p_8 p_9 p_10 p_11 p_12 p_13 p_14 p_15 out_ = bad := rfl
theorem spec_l09List_L0_s {α : Type} (bad : α) (k_ : Rows → Sl01Cur → α) (N : Nat) (m_ : Nat) (size : Int) (k : Int) (b5000000 : Rows) (b5000000_1 : Int) (b5000000_2 : Int) (p : Int) (p_1 : Int) (p_2 : Int) (p_3 : Int) (p_4 : Int) (p_5 : Int) (p_6 : Int) (p_7 : Int) (p_8 : Int) (p_9 : Int) (p_10 : Int) (p_11 : Int) (p_12 : Int) (p_13 : Int) (p_14 : Int) (p_15 : Bytes) (out_ : Rows) : spec_l09List_L0 bad k_ N (m_ + 1) size k b5000000 b5000000_1 b5000000_2 p p_1 p_2 p_3 p_4 p_5 p_6 p_7 p_8 p_9 p_10 p_11 p_12 p_13 p_14 p_15 out_ = spec_l09List_l0 bad k_ (spec_l09List_L0 bad k_ N m_) size k b5000000 b5000000_1 b5000000_2 p p_1 p_2 p_3 p_4 p_5 p_6 p_7 p_8 p_9 p_10 p_11 p_12 p_13 p_14 p_15 out_ := rfl
def spec_l09List_t {α : Type} (bad : α) (k_ : Rows → Sl01Cur → α) (l0 : Int → Int → Rows → Int → Int → Int → Int → Int → Int → Int → Int → Int → Int → Int → Int → Int → Int → Int → Int → Int → Bytes → Rows → α) (c : Sl01Cur) (most : Int) : α :=
  let z0 : Int × Sl01Cur := l01Below ((l07Packet c 40).2) 3
  let z1 : Int × Sl01Cur := l01Below z0.2 most
  bif andt true (l07Packet_ok c 40) then
    bif andt true (curOk1 ((l07Packet c 40).2) 3) then
      bif andt true (curOk1 z0.2 most) then
        l0 (w64 (8 + (w64 (z0.1 * 8)))) (w64 (1 + z1.1)) z1.2.b z1.2.i z1.2.h (((l07Packet c 40).1).DstMac) (((l07Packet c 40).1).SrcMac) (((l07Packet c 40).1).Vlan) (((l07Packet c 40).1).Tos) (((l07Packet c 40).1).Id) (((l07Packet c 40).1).Ttl) (((l07Packet c 40).1).SrcIp) (((l07Packet c 40).1).DstIp) ((((l07Packet c 40).1).Seg).Kind) ((((l07Packet c 40).1).Seg).SrcPort) ((((l07Packet c 40).1).Seg).DstPort) ((((l07Packet c 40).1).Seg).Seq) ((((l07Packet c 40).1).Seg).Ack) ((((l07Packet c 40).1).Seg).Flags) ((((l07Packet c 40).1).Seg).Window) ((((l07Packet c 40).1).Seg).Body) []
      else bad
    else bad
  else bad
def spec_l09List_f {α : Type} (bad : α) (k_ : Rows → Sl01Cur → α) (N : Nat) (c : Sl01Cur) (most : Int) : α := spec_l09List_t bad k_ (spec_l09List_L0 bad k_ N N) c most
def z9 : Rows := [[.int 16], [.int 16], [.int 16], [.int 16], [.int 16], [.int 24], [.int 17], [.int 2]]
def f9 (c : Sl01Cur) (p : SPacket) : SPacket × Sl01Cur := bif (l01Once c 5).1 then l07Packet (l01Once c 5).2 40 else (p, (l01Once c 5).2)
def n9 (size : Int) (c : Sl01Cur) : Int × Sl01Cur := bif (l01Once c 6).1 then (w64 (1 + (l01Below (l01Once c 6).2 40).1), (l01Below (l01Once c 6).2 40).2) else (size, (l01Once c 6).2)
def bd9 (p : SPacket) (f : Int) (b : Bytes) : SPacket := ⟨p.DstMac, p.SrcMac, p.Vlan, p.Tos, p.Id, p.Ttl, p.SrcIp, p.DstIp, ⟨p.Seg.Kind, p.Seg.SrcPort, p.Seg.DstPort, p.Seg.Seq, p.Seg.Ack, f, p.Seg.Window, b⟩⟩
def b9 (p : SPacket) (size : Int) (c : Sl01Cur) : SPacket × Sl01Cur := bif p.Seg.Kind == 6 then (bd9 p (l01PickInt c z9).1 (l01Text (l01PickInt c z9).2 size).1, (l01Text (l01PickInt c z9).2 size).2) else (p, c)
def id9 (p : SPacket) (q : Int) : SPacket := ⟨p.DstMac, p.SrcMac, p.Vlan, p.Tos, Int.tmod (w64 (p.Id + 1)) 65536, p.Ttl, p.SrcIp, p.DstIp, ⟨p.Seg.Kind, p.Seg.SrcPort, p.Seg.DstPort, q, p.Seg.Ack, p.Seg.Flags, p.Seg.Window, p.Seg.Body⟩⟩
def e9 (p : SPacket) (c : Sl01Cur) : SPacket × Sl01Cur := bif p.Seg.Kind == 6 then (id9 p (bif !(l01Once c 8).1 then Int.tmod (w64 (p.Seg.Seq + (len p.Seg.Body))) 4294967296 else p.Seg.Seq), (l01Once c 8).2) else (id9 p p.Seg.Seq, c)
def s9 (size : Int) (c : Sl01Cur) (p : SPacket) : Int := (n9 size (f9 c p).2).1
def q9 (size : Int) (c : Sl01Cur) (p : SPacket) : SPacket × Sl01Cur := b9 (f9 c p).1 (s9 size c p) (n9 size (f9 c p).2).2
def lst9 : Nat → Int → Sl01Cur → SPacket → Rows → Rows × Sl01Cur
  | 0, _, c, _, o => (o, c)
  | m + 1, size, c, p, o => lst9 m (s9 size c p) (e9 (q9 size c p).1 (q9 size c p).2).2 (e9 (q9 size c p).1 (q9 size c p).2).1 (o ++ [SPacket.enc (q9 size c p).1])
def cur09 (c : Sl01Cur) (most : Int) : Bool := bif curOk c then bif decide (1 ≤ most) then decide (most ≤ 100) else false else false
def l09s (c : Sl01Cur) : Int × Sl01Cur := l01Below (l07Packet c 40).2 3
def l09n (c : Sl01Cur) (most : Int) : Int × Sl01Cur := l01Below (l09s c).2 most
def l09List (c : Sl01Cur) (most : Int) : Rows × Sl01Cur := lst9 (1 + (l09n c most).1).toNat (w64 (8 + (w64 ((l09s c).1 * 8)))) (l09n c most).2 (l07Packet c 40).1 []
def t9 {α : Type} (bad : α) (ih : Int → Int → Rows → Int → Int → Int → Int → Int → Int → Int → Int → Int → Int → Int → Int → Int → Int → Int → Int → Int → Bytes → Rows → α) (S k : Int) (D : Sl01Cur) (p : SPacket) (o : Rows) : α :=
  bif p.Seg.Kind == 6 then
    bif andt true (pickOk D z9) then
      bif andt true (curOk1 (l01PickInt D z9).2 S) then
        bif andt true (room2 136 o [SPacket.enc (bd9 p (l01PickInt D z9).1 (l01Text (l01PickInt D z9).2 S).1)]) then
          bif okm (p.Seg.Kind == 6) (andt true (curOk1 (l01Text (l01PickInt D z9).2 S).2 8)) true then
            bif bif p.Seg.Kind == 6 then !(l01Once (l01Text (l01PickInt D z9).2 S).2 8).1 else false then ih S (w64 (k - 1)) (bif p.Seg.Kind == 6 then (l01Once (l01Text (l01PickInt D z9).2 S).2 8).2.b else (l01Text (l01PickInt D z9).2 S).2.b) (bif p.Seg.Kind == 6 then (l01Once (l01Text (l01PickInt D z9).2 S).2 8).2.i else (l01Text (l01PickInt D z9).2 S).2.i) (bif p.Seg.Kind == 6 then (l01Once (l01Text (l01PickInt D z9).2 S).2 8).2.h else (l01Text (l01PickInt D z9).2 S).2.h) (bd9 p (l01PickInt D z9).1 (l01Text (l01PickInt D z9).2 S).1).DstMac (bd9 p (l01PickInt D z9).1 (l01Text (l01PickInt D z9).2 S).1).SrcMac (bd9 p (l01PickInt D z9).1 (l01Text (l01PickInt D z9).2 S).1).Vlan (bd9 p (l01PickInt D z9).1 (l01Text (l01PickInt D z9).2 S).1).Tos (Int.tmod (w64 ((bd9 p (l01PickInt D z9).1 (l01Text (l01PickInt D z9).2 S).1).Id + 1)) 65536) (bd9 p (l01PickInt D z9).1 (l01Text (l01PickInt D z9).2 S).1).Ttl (bd9 p (l01PickInt D z9).1 (l01Text (l01PickInt D z9).2 S).1).SrcIp (bd9 p (l01PickInt D z9).1 (l01Text (l01PickInt D z9).2 S).1).DstIp (bd9 p (l01PickInt D z9).1 (l01Text (l01PickInt D z9).2 S).1).Seg.Kind (bd9 p (l01PickInt D z9).1 (l01Text (l01PickInt D z9).2 S).1).Seg.SrcPort (bd9 p (l01PickInt D z9).1 (l01Text (l01PickInt D z9).2 S).1).Seg.DstPort (Int.tmod (w64 ((bd9 p (l01PickInt D z9).1 (l01Text (l01PickInt D z9).2 S).1).Seg.Seq + (len (bd9 p (l01PickInt D z9).1 (l01Text (l01PickInt D z9).2 S).1).Seg.Body))) 4294967296) (bd9 p (l01PickInt D z9).1 (l01Text (l01PickInt D z9).2 S).1).Seg.Ack (bd9 p (l01PickInt D z9).1 (l01Text (l01PickInt D z9).2 S).1).Seg.Flags (bd9 p (l01PickInt D z9).1 (l01Text (l01PickInt D z9).2 S).1).Seg.Window (bd9 p (l01PickInt D z9).1 (l01Text (l01PickInt D z9).2 S).1).Seg.Body (o ++ [SPacket.enc (bd9 p (l01PickInt D z9).1 (l01Text (l01PickInt D z9).2 S).1)])
            else ih S (w64 (k - 1)) (bif p.Seg.Kind == 6 then (l01Once (l01Text (l01PickInt D z9).2 S).2 8).2.b else (l01Text (l01PickInt D z9).2 S).2.b) (bif p.Seg.Kind == 6 then (l01Once (l01Text (l01PickInt D z9).2 S).2 8).2.i else (l01Text (l01PickInt D z9).2 S).2.i) (bif p.Seg.Kind == 6 then (l01Once (l01Text (l01PickInt D z9).2 S).2 8).2.h else (l01Text (l01PickInt D z9).2 S).2.h) (bd9 p (l01PickInt D z9).1 (l01Text (l01PickInt D z9).2 S).1).DstMac (bd9 p (l01PickInt D z9).1 (l01Text (l01PickInt D z9).2 S).1).SrcMac (bd9 p (l01PickInt D z9).1 (l01Text (l01PickInt D z9).2 S).1).Vlan (bd9 p (l01PickInt D z9).1 (l01Text (l01PickInt D z9).2 S).1).Tos (Int.tmod (w64 ((bd9 p (l01PickInt D z9).1 (l01Text (l01PickInt D z9).2 S).1).Id + 1)) 65536) (bd9 p (l01PickInt D z9).1 (l01Text (l01PickInt D z9).2 S).1).Ttl (bd9 p (l01PickInt D z9).1 (l01Text (l01PickInt D z9).2 S).1).SrcIp (bd9 p (l01PickInt D z9).1 (l01Text (l01PickInt D z9).2 S).1).DstIp (bd9 p (l01PickInt D z9).1 (l01Text (l01PickInt D z9).2 S).1).Seg.Kind (bd9 p (l01PickInt D z9).1 (l01Text (l01PickInt D z9).2 S).1).Seg.SrcPort (bd9 p (l01PickInt D z9).1 (l01Text (l01PickInt D z9).2 S).1).Seg.DstPort (bd9 p (l01PickInt D z9).1 (l01Text (l01PickInt D z9).2 S).1).Seg.Seq (bd9 p (l01PickInt D z9).1 (l01Text (l01PickInt D z9).2 S).1).Seg.Ack (bd9 p (l01PickInt D z9).1 (l01Text (l01PickInt D z9).2 S).1).Seg.Flags (bd9 p (l01PickInt D z9).1 (l01Text (l01PickInt D z9).2 S).1).Seg.Window (bd9 p (l01PickInt D z9).1 (l01Text (l01PickInt D z9).2 S).1).Seg.Body (o ++ [SPacket.enc (bd9 p (l01PickInt D z9).1 (l01Text (l01PickInt D z9).2 S).1)])
          else bad
        else bad
      else bad
    else bad
  else bif andt true (room2 136 o [SPacket.enc p]) then
      bif okm (p.Seg.Kind == 6) (andt true (curOk1 D 8)) true then
        bif bif p.Seg.Kind == 6 then !(l01Once D 8).1 else false then ih S (w64 (k - 1)) (bif p.Seg.Kind == 6 then (l01Once D 8).2.b else D.b) (bif p.Seg.Kind == 6 then (l01Once D 8).2.i else D.i) (bif p.Seg.Kind == 6 then (l01Once D 8).2.h else D.h) p.DstMac p.SrcMac p.Vlan p.Tos (Int.tmod (w64 (p.Id + 1)) 65536) p.Ttl p.SrcIp p.DstIp p.Seg.Kind p.Seg.SrcPort p.Seg.DstPort (Int.tmod (w64 (p.Seg.Seq + (len p.Seg.Body))) 4294967296) p.Seg.Ack p.Seg.Flags p.Seg.Window p.Seg.Body (o ++ [SPacket.enc p])
        else ih S (w64 (k - 1)) (bif p.Seg.Kind == 6 then (l01Once D 8).2.b else D.b) (bif p.Seg.Kind == 6 then (l01Once D 8).2.i else D.i) (bif p.Seg.Kind == 6 then (l01Once D 8).2.h else D.h) p.DstMac p.SrcMac p.Vlan p.Tos (Int.tmod (w64 (p.Id + 1)) 65536) p.Ttl p.SrcIp p.DstIp p.Seg.Kind p.Seg.SrcPort p.Seg.DstPort p.Seg.Seq p.Seg.Ack p.Seg.Flags p.Seg.Window p.Seg.Body (o ++ [SPacket.enc p])
      else bad
    else bad
def r9 {α : Type} (bad : α) (ih : Int → Int → Rows → Int → Int → Int → Int → Int → Int → Int → Int → Int → Int → Int → Int → Int → Int → Int → Int → Int → Bytes → Rows → α) (s k : Int) (C : Sl01Cur) (p : SPacket) (o : Rows) : α :=
  bif andt true (curOk1 C 6) then
    bif (l01Once C 6).1 then
      bif andt true (curOk1 (l01Once C 6).2 40) then t9 bad ih (w64 (1 + (l01Below (l01Once C 6).2 40).1)) k (l01Below (l01Once C 6).2 40).2 p o else bad
    else t9 bad ih s k (l01Once C 6).2 p o
  else bad
def r0 {α : Type} (bad fin : α) (ih : Int → Int → Rows → Int → Int → Int → Int → Int → Int → Int → Int → Int → Int → Int → Int → Int → Int → Int → Int → Int → Bytes → Rows → α) (s k : Int) (c : Sl01Cur) (p : SPacket) (o : Rows) : α :=
  bif decide (0 < k) then
    bif andt true (curOk1 c 5) then
      bif (l01Once c 5).1 then
        bif andt true (l07Packet_ok (l01Once c 5).2 40) then r9 bad ih s k (l07Packet (l01Once c 5).2 40).2 (l07Packet (l01Once c 5).2 40).1 o else bad
      else r9 bad ih s k (l01Once c 5).2 p o
    else bad
  else fin
def ap9 {α : Type} (ih : Int → Int → Rows → Int → Int → Int → Int → Int → Int → Int → Int → Int → Int → Int → Int → Int → Int → Int → Int → Int → Bytes → Rows → α) (S k : Int) (e : SPacket × Sl01Cur) (o : Rows) : α := ih S k e.2.b e.2.i e.2.h e.1.DstMac e.1.SrcMac e.1.Vlan e.1.Tos e.1.Id e.1.Ttl e.1.SrcIp e.1.DstIp e.1.Seg.Kind e.1.Seg.SrcPort e.1.Seg.DstPort e.1.Seg.Seq e.1.Seg.Ack e.1.Seg.Flags e.1.Seg.Window e.1.Seg.Body o
theorem t9_eq {α : Type} (bad : α) (ih : Int → Int → Rows → Int → Int → Int → Int → Int → Int → Int → Int → Int → Int → Int → Int → Int → Int → Int → Int → Int → Bytes → Rows → α) (S k : Int) {D : Sl01Cur} (p : SPacket) {o : Rows} (hD : curOk D = true) (hr : ∀ x : List DC, room2 136 o [x] = true) :
    t9 bad ih S k D p o = ap9 ih S (w64 (k - 1)) (e9 (b9 p S D).1 (b9 p S D).2) (o ++ [SPacket.enc (b9 p S D).1]) := by
  have u1 : pickOk D z9 = true := pick_t hD (by decide)
  have u2 := l01PickInt_cur hD z9
  have u3 := l01Text_cur u2 S
  unfold t9
  cases h6 : p.Seg.Kind == 6
  · have e1 : b9 p S D = (p, D) := by unfold b9; rw [h6]; rfl
    have e2 : e9 p D = (id9 p p.Seg.Seq, D) := by unfold e9; rw [h6]; rfl
    rw [e1, e2]
    simp only [cond_false, hr, okm_ff, andt_true_l, cond_true]
    rfl
  · have e1 : b9 p S D = (bd9 p (l01PickInt D z9).1 (l01Text (l01PickInt D z9).2 S).1, (l01Text (l01PickInt D z9).2 S).2) := by unfold b9; rw [h6]; rfl
    rw [e1]
    have h7 : ((bd9 p (l01PickInt D z9).1 (l01Text (l01PickInt D z9).2 S).1).Seg.Kind == 6) = true := h6
    simp only [cond_true, hr, u1, cur1_t S u2, cur1_t 8 u3, okm_tt, andt_true_l]
    generalize (l01Text (l01PickInt D z9).2 S).2 = E
    generalize hq : bd9 p (l01PickInt D z9).1 (l01Text (l01PickInt D z9).2 S).1 = q at h7
    unfold e9
    rw [h7]
    cases (l01Once E 8).1 <;> rfl
theorem r9_eq {α : Type} (bad : α) (ih : Int → Int → Rows → Int → Int → Int → Int → Int → Int → Int → Int → Int → Int → Int → Int → Int → Int → Int → Int → Int → Bytes → Rows → α) (s k : Int) {C : Sl01Cur} (p : SPacket) {o : Rows} (hC : curOk C = true) (hr : ∀ x : List DC, room2 136 o [x] = true) :
    r9 bad ih s k C p o = ap9 ih (n9 s C).1 (w64 (k - 1)) (e9 (b9 p (n9 s C).1 (n9 s C).2).1 (b9 p (n9 s C).1 (n9 s C).2).2) (o ++ [SPacket.enc (b9 p (n9 s C).1 (n9 s C).2).1]) := by
  have d1 := l01Once_cur hC 6
  unfold r9
  rw [cur1_t 6 hC, andt_true_l, cond_true]
  cases h1 : (l01Once C 6).1
  · have e : n9 s C = (s, (l01Once C 6).2) := by unfold n9; rw [h1]; rfl
    rw [e, cond_false]
    exact t9_eq bad ih s k p d1 hr
  · have e : n9 s C = (w64 (1 + (l01Below (l01Once C 6).2 40).1), (l01Below (l01Once C 6).2 40).2) := by unfold n9; rw [h1]; rfl
    rw [e, cond_true, cur1_t 40 d1, andt_true_l, cond_true]
    exact t9_eq bad ih _ k p (l01Below_cur d1 40) hr
theorem r0_eq {α : Type} (bad fin : α) (ih : Int → Int → Rows → Int → Int → Int → Int → Int → Int → Int → Int → Int → Int → Int → Int → Int → Int → Int → Int → Int → Bytes → Rows → α) (s k : Int) {c : Sl01Cur} (p : SPacket) {o : Rows} (hk : decide (0 < k) = true) (hc : curOk c = true) (hr : ∀ x : List DC, room2 136 o [x] = true) :
    r0 bad fin ih s k c p o = ap9 ih (s9 s c p) (w64 (k - 1)) (e9 (q9 s c p).1 (q9 s c p).2) (o ++ [SPacket.enc (q9 s c p).1]) := by
  have d1 := l01Once_cur hc 5
  unfold r0
  rw [hk, cond_true, cur1_t 5 hc, andt_true_l, cond_true]
  unfold q9 s9
  cases h1 : (l01Once c 5).1
  · have e : f9 c p = (p, (l01Once c 5).2) := by unfold f9; rw [h1]; rfl
    rw [e, cond_false]
    exact r9_eq bad ih s k p d1 hr
  · have e : f9 c p = l07Packet (l01Once c 5).2 40 := by unfold f9; rw [h1]; rfl
    rw [e, cond_true, (l07Packet_k d1 40).1, andt_true_l, cond_true]
    exact r9_eq bad ih s k _ (l07Packet_k d1 40).2 hr
theorem l0_r0 {α : Type} (bad : α) (k_ : Rows → Sl01Cur → α) (ih : Int → Int → Rows → Int → Int → Int → Int → Int → Int → Int → Int → Int → Int → Int → Int → Int → Int → Int → Int → Int → Bytes → Rows → α) (s k : Int) (c : Sl01Cur) (p : SPacket) (o : Rows) :
    spec_l09List_l0 bad k_ ih s k c.b c.i c.h p.DstMac p.SrcMac p.Vlan p.Tos p.Id p.Ttl p.SrcIp p.DstIp p.Seg.Kind p.Seg.SrcPort p.Seg.DstPort p.Seg.Seq p.Seg.Ack p.Seg.Flags p.Seg.Window p.Seg.Body o = r0 bad (k_ o c) ih s k c p o := by
  unfold spec_l09List_l0 r0 r9 t9
  rfl
theorem f9_cur {c : Sl01Cur} (h : curOk c = true) (p : SPacket) : curOk (f9 c p).2 = true := by
  unfold f9
  cases (l01Once c 5).1
  · exact l01Once_cur h 5
  · exact (l07Packet_k (l01Once_cur h 5) 40).2
theorem n9_cur {c : Sl01Cur} (h : curOk c = true) (s : Int) : curOk (n9 s c).2 = true := by
  unfold n9
  cases (l01Once c 6).1
  · exact l01Once_cur h 6
  · exact l01Below_cur (l01Once_cur h 6) 40
theorem b9_cur {c : Sl01Cur} (h : curOk c = true) (p : SPacket) (s : Int) : curOk (b9 p s c).2 = true := by
  unfold b9
  cases p.Seg.Kind == 6
  · exact h
  · exact l01Text_cur (l01PickInt_cur h z9) s
theorem e9_cur {c : Sl01Cur} (h : curOk c = true) (p : SPacket) : curOk (e9 p c).2 = true := by
  unfold e9
  cases p.Seg.Kind == 6
  · exact h
  · exact l01Once_cur h 8
theorem n9_rng {s : Int} (c : Sl01Cur) (h0 : 0 ≤ s) (h1 : s ≤ 40) : 0 ≤ (n9 s c).1 ∧ (n9 s c).1 ≤ 40 := by
  unfold n9
  cases (l01Once c 6).1
  · exact ⟨h0, h1⟩
  · have b := l01Below_range (l01Once c 6).2 40
    have b2 := b.2 (by omega)
    simp only [cond_true]
    rw [w64_in (by omega) (by omega)]
    omega
theorem b9_v {p : SPacket} {s : Int} (c : Sl01Cur) (h : PacketOk p = true) (h0 : 0 ≤ s) (h1 : s ≤ 40) : PacketOk (b9 p s c).1 = true := by
  unfold b9
  by_cases h6 : p.Seg.Kind = 6
  · rw [show (p.Seg.Kind == 6) = true by simpa using h6]
    obtain ⟨a, b, e, d, f, i, j, k, m, n⟩ := PacketOk_iff.1 h
    have hl := l01Text_len (l01PickInt c z9).2 h0 (by omega)
    obtain ⟨u, v, x, y⟩ := SegmentOk_iff.1 m
    rcases y with ⟨_, y1, y2, _, y4⟩ | ⟨y0, _⟩
    · refine PacketOk_iff.2 ⟨a, b, e, d, f, i, j, k, SegmentOk_iff.2 ⟨u, v, ?_, .inl ⟨h6, y1, y2, pick_rng _ (by decide) (by decide), y4⟩⟩, ?_⟩
      · show len (l01Text (l01PickInt c z9).2 s).1 ≤ 320
        omega
      · show len (l01Text (l01PickInt c z9).2 s).1 ≤ 128
        omega
    · rw [h6] at y0
      cases y0
  · rw [show (p.Seg.Kind == 6) = false by simpa using h6]
    exact h
theorem tmod_rng {x m : Int} (h0 : 0 ≤ x) (hm : 0 < m) : 0 ≤ Int.tmod x m ∧ Int.tmod x m < m := ⟨Int.tmod_nonneg _ h0, Int.tmod_lt_of_pos _ hm⟩
theorem id9_v {p : SPacket} {q : Int} (h : PacketOk p = true) (hq : q = p.Seg.Seq ∨ (p.Seg.Kind = 6 ∧ between q 0 4294967295 = true)) : PacketOk (id9 p q) = true := by
  obtain ⟨a, b, e, d, f, i, j, k, m, n⟩ := PacketOk_iff.1 h
  have i1 := between_iff.1 i
  have ew : w64 (p.Id + 1) = p.Id + 1 := w64_in (by omega) (by omega)
  have r := tmod_rng (x := p.Id + 1) (m := 65536) (by omega) (by omega)
  refine PacketOk_iff.2 ⟨a, b, e, d, f, ?_, j, k, ?_, n⟩
  · show between (Int.tmod (w64 (p.Id + 1)) 65536) 0 65535 = true
    rw [ew]
    exact between_iff.2 (by omega)
  · obtain ⟨u, v, x, y⟩ := SegmentOk_iff.1 m
    refine SegmentOk_iff.2 ⟨u, v, x, ?_⟩
    rcases hq with rfl | ⟨h6, hq⟩
    · exact y
    · rcases y with ⟨y0, y1, y2, y3, y4⟩ | ⟨y0, _⟩
      · exact .inl ⟨y0, hq, y2, y3, y4⟩
      · rw [h6] at y0
        cases y0
theorem e9_v {p : SPacket} (c : Sl01Cur) (h : PacketOk p = true) : PacketOk (e9 p c).1 = true := by
  unfold e9
  by_cases h6 : p.Seg.Kind = 6
  · rw [show (p.Seg.Kind == 6) = true by simpa using h6]
    refine id9_v h ?_
    cases (l01Once c 8).1
    · refine .inr ⟨h6, ?_⟩
      obtain ⟨a, b, e, d, f, i, j, k, m, n⟩ := PacketOk_iff.1 h
      obtain ⟨u, v, x, y⟩ := SegmentOk_iff.1 m
      rcases y with ⟨y0, y1, y2, y3, y4⟩ | ⟨y0, _⟩
      · have y1 := between_iff.1 y1
        have hl : 0 ≤ len p.Seg.Body := by simp [len]
        have r := tmod_rng (x := p.Seg.Seq + len p.Seg.Body) (m := 4294967296) (by omega) (by omega)
        simp only [Bool.not_false, cond_true]
        rw [w64_in (by omega) (by omega)]
        exact between_iff.2 (by omega)
      · rw [h6] at y0
        cases y0
    · exact .inl rfl
  · rw [show (p.Seg.Kind == 6) = false by simpa using h6]
    exact id9_v h (.inl rfl)
theorem f9_v {c : Sl01Cur} (h : curOk c = true) {p : SPacket} (hp : PacketOk p = true) : PacketOk (f9 c p).1 = true := by
  unfold f9
  cases (l01Once c 5).1
  · exact hp
  · exact l07Packet_v (l01Once_cur h 5)
def Pks (o : Rows) : Prop := ∀ r ∈ o, ∃ q : SPacket, r = SPacket.enc q ∧ PacketOk q = true
theorem lst9_v : ∀ (m : Nat) (s : Int) (c : Sl01Cur) (p : SPacket) (o : Rows), curOk c = true → 0 ≤ s → s ≤ 40 → PacketOk p = true → Pks o → Pks (lst9 m s c p o).1 ∧ curOk (lst9 m s c p o).2 = true ∧ (lst9 m s c p o).1.length = o.length + m
  | 0, _, _, _, _, h, _, _, _, ho => ⟨ho, h, rfl⟩
  | m + 1, s, c, p, o, h, h0, h1, hp, ho => by
    have c1 := f9_cur h p
    have c2 := n9_cur c1 s
    have r := n9_rng (f9 c p).2 h0 h1
    have c3 := b9_cur c2 (f9 c p).1 (s9 s c p)
    have v1 := f9_v h hp
    have v2 := b9_v (n9 s (f9 c p).2).2 v1 r.1 r.2
    have := lst9_v m (s9 s c p) (e9 (q9 s c p).1 (q9 s c p).2).2 (e9 (q9 s c p).1 (q9 s c p).2).1 (o ++ [SPacket.enc (q9 s c p).1]) (e9_cur c3 _) r.1 r.2 (e9_v _ v2) (fun x hx => by
      rcases List.mem_append.1 hx with hx | hx
      · exact ho x hx
      · rw [List.mem_singleton] at hx
        exact ⟨_, hx, v2⟩)
    refine ⟨this.1, this.2.1, ?_⟩
    show (lst9 m _ _ _ _).1.length = _
    rw [this.2.2, List.length_append]
    simp only [List.length_cons, List.length_nil]
    omega
theorem cur09_of {c : Sl01Cur} {most : Int} (h : cur09 c most = true) : curOk c = true ∧ 1 ≤ most ∧ most ≤ 100 := by
  unfold cur09 at h
  rw [cand, cand, decide_eq_true_eq, decide_eq_true_eq] at h
  exact h
theorem l09_init {c : Sl01Cur} {most : Int} (h : cur09 c most = true) : curOk (l09n c most).2 = true ∧ 0 ≤ (l09n c most).1 ∧ (l09n c most).1 < most ∧ 0 ≤ w64 (8 + (w64 ((l09s c).1 * 8))) ∧ w64 (8 + (w64 ((l09s c).1 * 8))) ≤ 40 := by
  obtain ⟨h1, h2, h3⟩ := cur09_of h
  have a1 := (l07Packet_k h1 40).2
  have a2 := l01Below_cur a1 3
  have b := l01Below_range (l07Packet c 40).2 3
  have b2 := b.2 (by omega)
  have b3 := l01Below_range (l09s c).2 most
  have b4 := b3.2 (by omega)
  have e : w64 (8 + (w64 ((l09s c).1 * 8))) = 8 + (l09s c).1 * 8 := by
    unfold l09s
    rw [w64_in (n := (l01Below (l07Packet c 40).2 3).1 * 8) (by omega) (by omega), w64_in (by omega) (by omega)]
  refine ⟨l01Below_cur a2 most, b3.1, b4, ?_, ?_⟩
  · rw [e]; unfold l09s; omega
  · rw [e]; unfold l09s; omega
theorem l09List_v {c : Sl01Cur} {most : Int} (h : cur09 c most = true) : Pks (l09List c most).1 ∧ curOk (l09List c most).2 = true ∧ 1 ≤ (l09List c most).1.length ∧ len (l09List c most).1 ≤ most := by
  obtain ⟨h1, h2, h3⟩ := cur09_of h
  obtain ⟨i1, i2, i3, i4, i5⟩ := l09_init h
  have := lst9_v (1 + (l09n c most).1).toNat _ (l09n c most).2 (l07Packet c 40).1 [] i1 i4 i5 (l07Packet_v h1) (by intro r hr; simp at hr)
  refine ⟨this.1, this.2.1, ?_, ?_⟩
  · show 1 ≤ (lst9 _ _ _ _ _).1.length
    rw [this.2.2]
    simp only [List.length_nil]
    omega
  · show ((lst9 _ _ _ _ _).1.length : Int) ≤ _
    rw [this.2.2]
    simp only [List.length_nil]
    omega
theorem spec_l09List_c {α : Type} (bad : α) (k_ : Rows → Sl01Cur → α) (c : Sl01Cur) (most : Int) (h_c : WtL Sl01Cur.ct c.enc) (h_most : WtC (.int .i64) (.int most)) (hok : cur09 c most = true) : ∃ N, spec_l09List_f bad k_ N c most = k_ (l09List c most).1 (l09List c most).2 := by
  obtain ⟨h1, h2, h3⟩ := cur09_of hok
  obtain ⟨i1, i2, i3, i4, i5⟩ := l09_init hok
  have k1 := l07Packet_k h1 40
  have k2 := l01Below_cur k1.2 3
  refine ⟨102, ?_⟩
  unfold spec_l09List_f spec_l09List_t l09List
  have g1 := cur1_t 3 k1.2
  have g2 := cur1_t most k2
  simp only [k1.1, g1, g2, andt_true_l, cond_true]
  have key : ∀ (m n : Nat) (s : Int) (c : Sl01Cur) (p : SPacket) (o : Rows), m < n → o.length + m ≤ 1000 → curOk c = true →
      spec_l09List_L0 bad k_ 102 n s (m : Int) c.b c.i c.h p.DstMac p.SrcMac p.Vlan p.Tos p.Id p.Ttl p.SrcIp p.DstIp p.Seg.Kind p.Seg.SrcPort p.Seg.DstPort p.Seg.Seq p.Seg.Ack p.Seg.Flags p.Seg.Window p.Seg.Body o = k_ (lst9 m s c p o).1 (lst9 m s c p o).2 := by
    intro m
    induction m with
    | zero =>
      intro n s c p o q1 q2 q3
      obtain ⟨n, rfl⟩ : ∃ q, n = q + 1 := ⟨n - 1, by omega⟩
      rw [spec_l09List_L0_s]
      have hf : decide ((0 : Int) < ((0 : Nat) : Int)) = false := by decide
      simp only [spec_l09List_l0, hf, cond_false, cur_eta, lst9]
    | succ m ihm =>
      intro n s c p o q1 q2 q3
      obtain ⟨n, rfl⟩ : ∃ q, n = q + 1 := ⟨n - 1, by omega⟩
      rw [spec_l09List_L0_s]
      have hf : decide ((0 : Int) < ((m + 1 : Nat) : Int)) = true := decide_eq_true (by omega)
      have ew : w64 (((m + 1 : Nat) : Int) - 1) = (m : Int) := by rw [w64_in (by omega) (by omega)]; omega
      have hr : ∀ x : List DC, room2 136 o [x] = true := fun x => room2_le (by simp only [List.length_cons, List.length_nil]; omega) (by omega)
      have c1 := f9_cur q3 p
      have c2 := n9_cur c1 s
      have c3 := b9_cur c2 (f9 c p).1 (s9 s c p)
      have this := ihm n (s9 s c p) (e9 (q9 s c p).1 (q9 s c p).2).2 (e9 (q9 s c p).1 (q9 s c p).2).1 (o ++ [SPacket.enc (q9 s c p).1]) (by omega) (by simp only [List.length_append, List.length_cons, List.length_nil]; omega) (e9_cur c3 _)
      rw [lst9]
      refine Eq.trans ?_ this
      rw [l0_r0, r0_eq _ _ _ _ _ _ hf q3 hr, ew]
      rfl
  have := key (1 + (l09n c most).1).toNat 102 (w64 (8 + (w64 ((l09s c).1 * 8)))) (l09n c most).2 (l07Packet c 40).1 [] (by omega) (by simp only [List.length_nil]; omega) i1
  rw [show (((1 + (l09n c most).1).toNat : Nat) : Int) = w64 (1 + (l09n c most).1) by rw [w64_in (by omega) (by omega)]; omega] at this
  exact this

end
end Go.Proofs.Ytfnkhejoihnlnaa.Pl
