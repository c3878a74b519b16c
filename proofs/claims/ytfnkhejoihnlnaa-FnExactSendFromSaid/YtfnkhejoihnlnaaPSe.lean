/- What functions of the program compute, in plain Lean, as the value machine runs them. Conditions: none. -/
import Derived.Test.YtfnkhejoihnlnaaPSf
import Derived.Test.YtfnkhejoihnlnaaPDm
set_option linter.unusedVariables false
set_option linter.unusedSimpArgs false
set_option maxRecDepth 100000
namespace Go.Proofs.Ytfnkhejoihnlnaa.Pl
open Vm
noncomputable section



theorem SendFrom_len (l ports : Rows) (k : Int) (p : SPacket) : (SendFrom l ports k p).1.length = l.length ∧ (SendFrom l ports k p).2.1.length ≤ 8 := by
  unfold SendFrom
  cases (bif !(FunctionsOk l ports) then true else bif !(PacketOk p) then true else !(between k 0 (len l - 1)))
  · cases sfNo ports p (nth l (Int.toNat k))
    · exact ⟨List.length_set, (sw_len _ _ _).1⟩
    · exact ⟨List.length_set, by simp⟩
  · exact ⟨rfl, by simp⟩

def laws_FnExactSendFrom_t {α : Type} (bad : α) (k_ : Bool → α) (aList : Rows) (aPorts : Rows) (aK : Int) (aP : SPacket) : α :=
  let z0 : Bool := SendFrom_ok (idf aList) (idf aPorts) aK (idf aP)
  let z1 : Bool := andt (andt (andt true (sm aList)) (laws_toPortS_ok aPorts)) z0
  let z2 : Rows × Rows × Bool := SendFrom (idf aList) (idf aPorts) aK (idf aP)
  let z3 : Bool := !(yes2 z2.1 z2.1)
  let z4 : Bool := andt true (same z2.1 z2.1)
  let z5 : Bool := !(yes2 z2.2.1 z2.2.1)
  let z6 : Bool := andt z4 (same z2.2.1 z2.2.1)
  let z7 : Bool := okm z3 z4 (okm z5 z6 z6)
  let z8 : Bool := bif z3 then true else bif z5 then true else !(z2.2.2 == z2.2.2)
  let z9 : Bool := decide ((markPortS (idf aPorts) ((markVirtualFunctionS (idf aList) 1).1)).1 < 0)
  let z10 : Int × Rows := markVirtualFunctionS z2.1 1
  let z11 : Int := z10.1
  let z12 : Rows := z10.2
  let z13 : Bool := andt true (hdo fVirtualFunctionS 8 z12 1)
  let z14 : Int := heldVirtualFunctionS z12 1
  let z15 : Bool := decide (z14 < 0)
  let z16 : Int × Rows := markIntS z2.2.1 z11
  let z17 : Rows := z16.2
  let z18 : Bool := andt true (hdo fIntS 1 z17 z14)
  let z19 : Int := heldIntS z17 z14
  let z20 : Bool := decide (z19 < 0)
  let z21 : Bool := z19 != z16.1
  bif decide (szFlat aList 1048576 < 0) then k_ true
  else bif decide (laws_szPortS aPorts (szFlat aList 1048576) < 0) then k_ true
  else bif decide (laws_szPacket aP (laws_szPortS aPorts (szFlat aList 1048576)) < 0) then k_ true
  else bif z1 then
      bif andt true (sm aList) then
        bif andt true (laws_toPortS_ok aPorts) then
          bif andt true z0 then
            bif z7 then
              bif z8 then k_ false
              else bif andt (andt true (sm aList)) (same (idf aList) (idf aList)) then
                  bif !(yes2 (idf aList) (idf aList)) then k_ false
                  else bif andt (andt true (laws_toPortS_ok aPorts)) (same (idf aPorts) (idf aPorts)) then
                      bif !(yes2 (idf aPorts) (idf aPorts)) then k_ false
                      else bif andt true (mko 8 (idf aList) 1) then
                          bif andt true (mkdOk fPort gPort (idf aPorts) ((markVirtualFunctionS (idf aList) 1).1)) then
                            bif okm z9 true z7 then
                              bif bif z9 then true else z8 then k_ false
                              else bif andt true (mko 8 z2.1 1) then
                                  bif andt true (mko 1 z2.2.1 z11) then
                                    bif z13 then
                                      bif z15 then k_ false
                                      else bif z18 then
                                          bif z20 then k_ false
                                          else bif z21 then k_ false
                                          else bif z1 then
                                              bif z7 then
                                                bif z8 then k_ false
                                                else bif z13 then
                                                    bif z15 then k_ false
                                                    else bif z18 then
                                                        bif z20 then k_ false
                                                        else bif z21 then k_ false
                                                        else k_ true
                                                      else bad
                                                  else bad
                                              else bad
                                            else bad
                                        else bad
                                    else bad
                                  else bad
                                else bad
                            else bad
                          else bad
                        else bad
                    else bad
                else bad
            else bad
          else bad
        else bad
      else bad
    else bad
theorem laws_FnExactSendFrom_c {α : Type} (bad : α) (k_ : Bool → α) (aList : Rows) (aPorts : Rows) (aK : Int) (aP : SPacket) (h_aList : WtC (.sl [.int .i64, .int .i64, .int .i64, .int .i64, .int .i64, .bool, .int .i64, .int .i64]) (.sl aList)) (h_aPorts : WtC (.sl [.int .i64, .sl [.int .i64], .int .i64, .bool]) (.sl aPorts)) (h_aK : WtC (.int .i64) (.int aK)) (h_aP : WtL SPacket.ct aP.enc) (hok : fitL ((.sl [.int .i64, .int .i64, .int .i64, .int .i64, .int .i64, .bool, .int .i64, .int .i64]) :: ((.sl [.int .i64, .sl [.int .i64], .int .i64, .bool]) :: ((.int .i64) :: (SPacket.ct ++ ([]))))) (.sl aList :: (.sl aPorts :: (.int aK :: (aP.enc ++ ([]))))) = true) : laws_FnExactSendFrom_t bad k_ aList aPorts aK aP = k_ true := by
  unfold laws_FnExactSendFrom_t
  by_cases c0 : szFlat aList 1048576 < 0
  · simp only [c0, decide_true, decide_false, cond_true, cond_false]
  have k0 := szFlat_ok (by omega) (by omega) (wt_sl h_aList).1 (Int.not_lt.1 c0)
  by_cases c1 : laws_szPortS aPorts (szFlat aList 1048576) < 0
  · simp only [c0, c1, decide_true, decide_false, cond_true, cond_false]
  have k1 := laws_szPortS_ok h_aPorts (Int.not_lt.1 c0) k0.1 (Int.not_lt.1 c1)
  by_cases c2 : laws_szPacket aP (laws_szPortS aPorts (szFlat aList 1048576)) < 0
  · simp only [c0, c1, c2, decide_true, decide_false, cond_true, cond_false]
  have k2 := laws_szPacket_ok h_aP (Int.not_lt.1 c1) k1.1 (Int.not_lt.1 c2)
  have hln := sm_le k0.2
  have ko : SendFrom_ok aList aPorts aK aP = true := k0.2
  have p1 : mko 8 aList 1 = true := mko_mk k0.2 (by omega) (by omega)
  obtain ⟨p2, p3, p4⟩ := markPortS_facts (ports_sm k1.2) (k := 1 + 8 * (aList.length : Int)) (by omega) (by omega)
  have p5 : ¬ (markPortS aPorts (1 + 8 * (aList.length : Int))).1 < 0 := by omega
  obtain ⟨s1, s2⟩ := SendFrom_len aList aPorts aK aP
  have u1 : sm (SendFrom aList aPorts aK aP).1 = true := decide_eq_true (by omega)
  have u2 : sm (SendFrom aList aPorts aK aP).2.1 = true := decide_eq_true (by omega)
  have n1 : mko 8 (SendFrom aList aPorts aK aP).1 1 = true := mko_mk u1 (by omega) (by omega)
  have n2 : mko 1 (SendFrom aList aPorts aK aP).2.1 (1 + 8 * ((SendFrom aList aPorts aK aP).1.length : Int)) = true := mko_mk u2 (by omega) (by omega)
  have n3 : hdo fVirtualFunctionS 8 (mkl fVirtualFunctionS 8 (SendFrom aList aPorts aK aP).1.length 1) 1 = true := hdo_mk u1 (by omega) (by omega)
  have n4 : ¬ 1 + 8 * ((SendFrom aList aPorts aK aP).1.length : Int) < 0 := by omega
  have n5 : hdo fIntS 1 (mkl fIntS 1 (SendFrom aList aPorts aK aP).2.1.length (1 + 8 * ((SendFrom aList aPorts aK aP).1.length : Int))) (1 + 8 * ((SendFrom aList aPorts aK aP).1.length : Int)) = true := hdo_mk u2 (by omega) (by omega)
  have n6 : ¬ 1 + 8 * ((SendFrom aList aPorts aK aP).1.length : Int) + 1 * ((SendFrom aList aPorts aK aP).2.1.length : Int) < 0 := by omega
  simp only [c0, c1, c2, decide_false, cond_false, cond_true, idf, k0.2, k1.2, k2.2, ko, p1, p2, p5, n1, n2, n3, n4, n5, n6, markVirtualFunctionS, heldVirtualFunctionS, markIntS, heldIntS, mkl_length, andt_true_l, andt_true_r, same_refl, yes2, beq_self_eq_true, bne_self_eq_false, Bool.not_true, okm_tt]

end
end Go.Proofs.Ytfnkhejoihnlnaa.Pl
