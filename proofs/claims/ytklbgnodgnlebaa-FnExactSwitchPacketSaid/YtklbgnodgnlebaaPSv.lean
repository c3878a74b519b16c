/- What functions of the program compute, in plain Lean, as the value machine runs them. Conditions: none. -/
import Derived.Test.YtklbgnodgnlebaaPSy
import Derived.Test.YtklbgnodgnlebaaPDm
set_option linter.unusedVariables false
set_option linter.unusedSimpArgs false
set_option maxRecDepth 100000
namespace Go.Proofs.Ytklbgnodgnlebaa.Pl
open Vm
noncomputable section



theorem ports_sm {a : Rows} (h : laws_toPortS_ok a = true) : portsSm a = true := by
  simp only [laws_toPortS_ok, portsSm, Bool.and_eq_true, List.all_eq_true] at h ⊢
  refine ⟨h.1, fun r hr => ?_⟩
  have := h.2 r hr
  simp only [laws_toPort_ok, laws_toPort_t] at this
  cases hs : sm (rR r 1)
  · rw [show (SPort.decAt r 0).Vlans = rR r 1 from rfl, hs] at this
    cases this
  · rfl

def laws_FnExactSwitchPacket_t {α : Type} (bad : α) (k_ : Bool → α) (aList : Rows) (aFrom : Int) (aP : SPacket) : α :=
  let z0 : Rows := SwitchPacket (idf aList) aFrom (idf aP)
  let z1 : Bool := andt true (same z0 z0)
  let z2 : Bool := !(yes2 z0 z0)
  let z3 : Bool := decide ((markPortS (idf aList) 1).1 < 0)
  let z4 : Int × Rows := markIntS z0 1
  let z5 : Bool := andt true (hdo fIntS 1 z4.2 1)
  let z6 : Int := heldIntS z4.2 1
  let z7 : Bool := decide (z6 < 0)
  let z8 : Bool := z6 != z4.1
  bif decide (laws_szPortS aList 1048576 < 0) then k_ true
  else bif decide (laws_szPacket aP (laws_szPortS aList 1048576) < 0) then k_ true
  else bif andt true (laws_toPortS_ok aList) then
      bif andt true (laws_toPortS_ok aList) then
        bif z1 then
          bif z2 then k_ false
          else bif andt (andt true (laws_toPortS_ok aList)) (same (idf aList) (idf aList)) then
              bif !(yes2 (idf aList) (idf aList)) then k_ false
              else bif andt true (mkdOk fPort gPort (idf aList) 1) then
                  bif okm z3 true z1 then
                    bif bif z3 then true else z2 then k_ false
                    else bif andt true (mko 1 z0 1) then
                        bif z5 then
                          bif z7 then k_ false
                          else bif z8 then k_ false
                          else bif andt true (laws_toPortS_ok aList) then
                              bif z1 then
                                bif z2 then k_ false
                                else bif z5 then
                                    bif z7 then k_ false
                                    else bif z8 then k_ false
                                    else k_ true
                                  else bad
                              else bad
                            else bad
                        else bad
                      else bad
                  else bad
                else bad
            else bad
        else bad
      else bad
    else bad
theorem laws_FnExactSwitchPacket_c {α : Type} (bad : α) (k_ : Bool → α) (aList : Rows) (aFrom : Int) (aP : SPacket) (h_aList : WtC (.sl [.int .i64, .sl [.int .i64], .int .i64, .bool]) (.sl aList)) (h_aFrom : WtC (.int .i64) (.int aFrom)) (h_aP : WtL SPacket.ct aP.enc) (hok : fitL ((.sl [.int .i64, .sl [.int .i64], .int .i64, .bool]) :: ((.int .i64) :: (SPacket.ct ++ ([])))) (.sl aList :: (.int aFrom :: (aP.enc ++ ([])))) = true) : laws_FnExactSwitchPacket_t bad k_ aList aFrom aP = k_ true := by
  unfold laws_FnExactSwitchPacket_t
  by_cases c0 : laws_szPortS aList 1048576 < 0
  · simp only [c0, decide_true, decide_false, cond_true, cond_false]
  have k0 := laws_szPortS_ok h_aList (by omega) (by omega) (Int.not_lt.1 c0)
  by_cases c1 : laws_szPacket aP (laws_szPortS aList 1048576) < 0
  · simp only [c0, c1, decide_true, decide_false, cond_true, cond_false]
  have k1 := laws_szPacket_ok h_aP (Int.not_lt.1 c0) k0.1 (Int.not_lt.1 c1)
  obtain ⟨p1, p2, p3⟩ := markPortS_facts (ports_sm k0.2) (k := 1) (by omega) (by omega)
  have p4 : ¬ (markPortS aList 1).1 < 0 := by omega
  have hg := (sw_len aList aFrom aP).1
  have gs : sm (SwitchPacket aList aFrom aP) = true := decide_eq_true (by omega)
  have m1 : mko 1 (SwitchPacket aList aFrom aP) 1 = true := mko_mk gs (by omega) (by omega)
  have m2 : hdo fIntS 1 (mkl fIntS 1 (SwitchPacket aList aFrom aP).length 1) 1 = true := hdo_mk gs (by omega) (by omega)
  have m3 : ¬ 1 + 1 * ((SwitchPacket aList aFrom aP).length : Int) < 0 := by omega
  simp only [c0, c1, decide_false, cond_false, cond_true, idf, k0.2, k1.2, p1, p4, m1, m2, m3, markIntS, heldIntS, mkl_length, andt_true_l, andt_true_r, same_refl, yes2, beq_self_eq_true, bne_self_eq_false, Bool.not_true, okm_tt]

end
end Go.Proofs.Ytklbgnodgnlebaa.Pl
