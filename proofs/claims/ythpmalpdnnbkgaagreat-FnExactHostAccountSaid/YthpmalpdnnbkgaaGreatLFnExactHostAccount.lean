/- For every input the law FnExactHostAccount returns true, and its arguments read as they did. Conditions: none. -/
import Derived.Test.YthpmalpdnnbkgaaGreatBr
import Derived.Test.YthpmalpdnnbkgaaGreatBHm
namespace Go.Proofs.YthpmalpdnnbkgaaGreat.LFnExactHostAccount
open Go.ChangeShapes Go.WideShapes Go.ChangeAt Go.RowKit Vm Pl
theorem own : ownKnob Tryz.prog.godebug = none := by kernel_rfl
set_option maxRecDepth 100000 in
theorem lifted (os : Os) (started : os.Started) (H : Type) (enc : TypeId × Value → H) :
    ReturnsInHanded {} Tryz.checked os 3 .any (Rows.fnExactHostAccountSpec.pre6 enc Tryz.prog Tryz.f3 Rows.fnExactHostAccountRow.domain false) (Rows.fnExactHostAccountSpec.post enc Tryz.prog Tryz.f3 false true false false) := by
  refine returnsInHanded_of_change_sized (C := Tryz.checked) own started (by kernel_rfl) Tryz.func3
    (ChangeSpec.witness6 (enc := enc) (C := Tryz.checked) false ⟨#[], #[.agg #[.slice none 0 0, .slice none 0 0, .int .i64 0, .int .i64 0, .int .i64 0, .int .i64 0, .int .i64 0, .int .i64 0, .int .i64 0, .slice none 0 0, .slice none 0 0, .int .i64 0, .slice none 0 0, .slice none 0 0, .slice none 0 0, .slice none 0 0, .int .i64 0, .bool false, .slice none 0 0, .slice none 0 0, .slice none 0 0, .string ⟨#[]⟩, .slice none 0 0, .slice none 0 0, .bool false, .slice none 0 0, .slice none 0 0, .slice none 0 0, .int .i64 0, .int .i64 0, .int .i64 0, .int .i64 0, .int .i64 0]], []⟩ 8 (by kernel_rfl) (by kernel_rfl) (by kernel_rfl) (by kernel_rfl)) ?_
  intro W base args ds gs before hval hW _ hz _
  have hW2 := hW
  obtain ⟨p, q, hA, hV, _, _, _⟩ := hW2
  obtain ⟨rfl, rfl⟩ := trodVars_none hV
  have e0 : Rows.fnExactHostAccountSpec.plain.varTypes Tryz.checked.prog = [] := rfl
  rw [e0] at hz
  simp only [List.append_nil] at hz
  have hd : ∃ d0, ds = [d0] := by
    have hA2 : DataW.TrodAll enc Tryz.prog W 0 (fun _ => true) true Tryz.f3.params.toList args.toList ds p := hA
    rw [Tryz.params3] at hA2
    obtain ⟨_, _, d0, _, _, _, _, rfl, _, _, hA2⟩ := trodAll_cons hA2
    obtain ⟨_, rfl, _⟩ := trodAll_nil hA2
    exact ⟨_, rfl⟩
  obtain ⟨d0, rfl⟩ := hd
  refine Br.law_calls (t4 := 4) (sp := Rows.fnExactHostAccountSpec) (by kernel_rfl) laws_FnExactHostAccount_h (by kernel_rfl) rfl rfl (by kernel_rfl) rfl ?_ (by kernel_rfl) Tryz.underlying4 hval hW rfl rfl rfl ?_
  · rw [Tryz.params3]
    intro t ht
    simp only [List.mem_cons, List.not_mem_nil, or_false] at ht
    subst ht
    exact ⟨by kernel_rfl, of_decide_eq_true (by kernel_rfl)⟩
  · intro dcs _ hf
    exact congrArg (fun b => (b, [DC.bool true])) (hf hz)

theorem over : Rows.fnExactHostAccountRow.holds Tryz.pinned (OpenSpec.ofChange Rows.fnExactHostAccountSpec) :=
  OpenClaim.holds_of_wide 3 Tryz.f3 rfl rfl rfl rfl rfl rfl rfl ⟨rfl, rfl, rfl, rfl, rfl⟩ rfl rfl rfl rfl rfl (by kernel_rfl) Tryz.func3 (by kernel_rfl)
    (of_decide_eq_true (by kernel_rfl)) (by unfold Func.isWrapper; first | (rw [if_pos (by decide +kernel)]; kernel_rfl) | (rw [if_neg (by decide +kernel)]; exact ⟨rfl, rfl⟩))
    (fun os started H enc _ => lifted os started H enc)

theorem proved : Rows.FnExactHostAccountSaid := over
#print axioms proved
end Go.Proofs.YthpmalpdnnbkgaaGreat.LFnExactHostAccount
