/- For every input the law FnSpoofStopped returns true, and its arguments read as they did. Conditions: none. -/
import Derived.Test.YtklbgnodgnlebaaBr
import Derived.Test.YtklbgnodgnlebaaBSs
namespace Go.Proofs.Ytklbgnodgnlebaa.LFnSpoofStopped
open Go.ChangeShapes Go.WideShapes Go.ChangeAt Go.RowKit Vm Pl
theorem own : ownKnob Try.prog.godebug = none := by kernel_rfl
set_option maxRecDepth 100000 in
theorem lifted (os : Os) (started : os.Started) (H : Type) (enc : TypeId × Value → H) :
    ReturnsInHanded {} Try.checked os 6 .any (Rows.fnSpoofStoppedSpec.pre6 enc Try.prog Try.f6 Rows.fnSpoofStoppedRow.domain false) (Rows.fnSpoofStoppedSpec.post enc Try.prog Try.f6 false true false false) := by
  refine returnsInHanded_of_change_sized (C := Try.checked) own started (by kernel_rfl) Try.func6
    (ChangeSpec.witness6 (enc := enc) (C := Try.checked) false ⟨#[], #[.slice none 0 0], []⟩ 8 (by kernel_rfl) (by kernel_rfl) (by kernel_rfl) (by kernel_rfl)) ?_
  intro W base args ds gs before hval hW _ hz _
  have hW2 := hW
  obtain ⟨p, q, hA, hV, _, _, _⟩ := hW2
  obtain ⟨rfl, rfl⟩ := trodVars_none hV
  have e0 : Rows.fnSpoofStoppedSpec.plain.varTypes Try.checked.prog = [] := rfl
  rw [e0] at hz
  simp only [List.append_nil] at hz
  have hd : ∃ d0, ds = [d0] := by
    have hA2 : DataW.TrodAll enc Try.prog W 0 (fun _ => true) true Try.f6.params.toList args.toList ds p := hA
    rw [Try.params6] at hA2
    obtain ⟨_, _, d0, _, _, _, _, rfl, _, _, hA2⟩ := trodAll_cons hA2
    obtain ⟨_, rfl, _⟩ := trodAll_nil hA2
    exact ⟨_, rfl⟩
  obtain ⟨d0, rfl⟩ := hd
  refine Br.law_calls (t4 := 4) (sp := Rows.fnSpoofStoppedSpec) (by kernel_rfl) laws_FnSpoofStopped_h (by kernel_rfl) rfl rfl (by kernel_rfl) rfl ?_ (by kernel_rfl) Try.underlying4 hval hW rfl rfl rfl ?_
  · rw [Try.params6]
    intro t ht
    simp only [List.mem_cons, List.not_mem_nil, or_false] at ht
    subst ht
    exact ⟨by kernel_rfl, of_decide_eq_true (by kernel_rfl)⟩
  · intro dcs _ hf
    exact congrArg (fun b => (b, [DC.bool true])) (hf hz)

theorem over : Rows.fnSpoofStoppedRow.holds Try.pinned (OpenSpec.ofChange Rows.fnSpoofStoppedSpec) :=
  OpenClaim.holds_of_wide 6 Try.f6 rfl rfl rfl rfl rfl rfl rfl ⟨rfl, rfl, rfl, rfl, rfl⟩ rfl rfl rfl rfl rfl (by kernel_rfl) Try.func6 (by kernel_rfl)
    (of_decide_eq_true (by kernel_rfl)) (by unfold Func.isWrapper; first | (rw [if_pos (by decide +kernel)]; kernel_rfl) | (rw [if_neg (by decide +kernel)]; exact ⟨rfl, rfl⟩))
    (fun os started H enc _ => lifted os started H enc)

theorem proved : Rows.FnSpoofStoppedSaid := over
#print axioms proved
end Go.Proofs.Ytklbgnodgnlebaa.LFnSpoofStopped
