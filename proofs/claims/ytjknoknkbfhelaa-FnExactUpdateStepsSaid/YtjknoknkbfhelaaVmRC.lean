/- The value machine: calls that write through parameters are sound. Conditions: the contracts of the context hold. -/
import Derived.Test.YtjknoknkbfhelaaVmRB
set_option linter.unusedVariables false
set_option linter.unusedSimpArgs false
namespace Go.Proofs.Ytjknoknkbfhelaa.Vm

section
variable {P : Program} {Γ : Ctx} {w0 : World} {S : Own} {st : St} {o : Oper} {e : Eff} {a : Act} {w w' : World}
variable {f : Nat → SV} {h : Nat → Option VObj} {β : Env} {φ : Nat → List Nat} {tm : Array Value}

theorem fo_mu (U : List (Nat × VObj)) (l : List (Nat × Option VObj)) (j : Nat) : fo (U.map (fun x => (x.1, some x.2)) ++ l) h j = match lkU U j with | some o => some o | none => fo l h j := by
  induction U with
  | nil => rfl
  | cons y N ih =>
    obtain ⟨k, ob⟩ := y
    simp only [List.map_cons, List.cons_append, fo, upd, lkU]
    split
    · rfl
    · exact ih

theorem metNot_ne {i : Nat} : ∀ {m : Met}, metNot i m = true → ∀ x ∈ m, x.1 ≠ i
  | [], _, x, hx => by simp at hx
  | (k, y) :: l, hm, x, hx => by
    simp only [metNot, Bool.and_eq_true, Bool.not_eq_true'] at hm
    rcases List.mem_cons.1 hx with rfl | hx
    · exact Nat.ne_of_beq_eq_false hm.1
    · exact metNot_ne hm.2 x hx

theorem fo_unmet {i : Nat} : ∀ {m : Met}, metNot i m = true → fo (metFreeze m) h i = h i
  | [], _ => rfl
  | (k, e', r, u) :: l, hm => by
    simp only [metNot, Bool.and_eq_true, Bool.not_eq_true'] at hm
    simp only [metFreeze, fo, upd]
    rw [if_neg (fun he => Nat.ne_of_beq_eq_false hm.1 he.symm)]
    exact fo_unmet hm.2

theorem frozen_unmet {i : Nat} : ∀ {m : Met}, metNot i m = true → frozenφ φ m i = φ i
  | [], _ => rfl
  | x :: l, hm => by
    obtain ⟨k, e', r, u⟩ := x
    simp only [metNot, Bool.and_eq_true, Bool.not_eq_true'] at hm
    simp only [frozenφ, upd]
    rw [if_neg (fun he => Nat.ne_of_beq_eq_false hm.1 he.symm)]
    exact frozen_unmet hm.2

/-- The blocks of what may be turned belong to objects. -/
theorem mu_top : ∀ {U : List MU}, MuOk h U → ∀ b ∈ U.flatMap (muTops β), ∃ id ∈ muIds U, ∃ ob, h id = some ob ∧ b ∈ tops β id ob
  | [], _, b, hb => by simp at hb
  | .box id t cs :: l, hm, b, hb => by
    simp only [MuOk] at hm
    obtain ⟨⟨cells, hc⟩, hm⟩ := hm
    rw [List.flatMap_cons, List.mem_append] at hb
    rcases hb with hb | hb
    · exact ⟨id, List.mem_cons_self .., _, hc, hb⟩
    · obtain ⟨i, hi, ob, h1, h2⟩ := mu_top hm b hb
      exact ⟨i, List.mem_cons_of_mem _ hi, ob, h1, h2⟩
  | .row id t e u :: l, hm, b, hb => by
    simp only [MuOk] at hm
    obtain ⟨⟨_, rows, hc⟩, hm⟩ := hm
    rw [List.flatMap_cons, List.mem_append] at hb
    rcases hb with hb | hb
    · exact ⟨id, List.mem_cons_self .., _, hc, hb⟩
    · obtain ⟨i, hi, ob, h1, h2⟩ := mu_top hm b hb
      exact ⟨i, List.mem_cons_of_mem _ hi, ob, h1, h2⟩
  | .non :: l, hm, b, hb => by
    rw [List.flatMap_cons] at hb
    exact mu_top (U := l) hm b (by simpa [muTops] using hb)

theorem nodupB_cons {i : Nat} {l : List Nat} (hn : nodupB (i :: l) = true) : i ∉ l ∧ nodupB l = true := by
  simp only [nodupB, Bool.and_eq_true, Bool.not_eq_true', List.any_eq_false] at hn
  refine ⟨fun hi => ?_, hn.2⟩
  exact hn.1 i hi (Nat.beq_refl i)

theorem mu_nodup (hc : Core w0 S f h β φ tm w) : ∀ {U : List MU}, MuOk h U → nodupB (muIds U) = true → (U.flatMap (muTops β)).Nodup
  | [], _, _ => by simp
  | .box id t cs :: l, hm, hn => by
    simp only [MuOk] at hm
    obtain ⟨⟨cells, ho⟩, hm⟩ := hm
    obtain ⟨h1, h2⟩ := nodupB_cons hn
    rw [List.flatMap_cons, List.nodup_append]
    refine ⟨by simp [muTops], mu_nodup hc hm h2, ?_⟩
    intro b hb b' hb' hbb
    subst hbb
    obtain ⟨i, hi, ob, ho', hb2⟩ := mu_top (β := β) hm b hb'
    exact hc.sep id i _ ob (fun he => h1 (he ▸ hi)) ho ho' b (tops_sub (hc.objs _ _ ho) b hb) (tops_sub (hc.objs _ _ ho') b hb2)
  | .row id t e u :: l, hm, hn => by
    simp only [MuOk] at hm
    obtain ⟨⟨_, rows, ho⟩, hm⟩ := hm
    obtain ⟨h1, h2⟩ := nodupB_cons hn
    rw [List.flatMap_cons, List.nodup_append]
    refine ⟨?_, mu_nodup hc hm h2, ?_⟩
    · simp only [muTops]
      cases (β.val id).ownBlock <;> simp
    · intro b hb b' hb' hbb
      subst hbb
      obtain ⟨i, hi, ob, ho', hb2⟩ := mu_top (β := β) hm b hb'
      exact hc.sep id i _ ob (fun he => h1 (he ▸ hi)) ho ho' b (tops_sub (hc.objs _ _ ho) b hb) (tops_sub (hc.objs _ _ ho') b hb2)
  | .non :: l, hm, hn => by
    rw [List.flatMap_cons]
    simpa [muTops] using mu_nodup hc (U := l) hm hn

theorem mu_cover : ∀ (U : List MU) (od : List DC) (b : Nat), b ∈ U.flatMap (muTops β) → ∃ x ∈ muObjs U od, b ∈ tops β x.1 x.2
  | [], _, b, hb => by simp at hb
  | .box id t cs :: l, od, b, hb => by
    rw [List.flatMap_cons, List.mem_append] at hb
    rcases hb with hb | hb
    · exact ⟨_, List.mem_cons_self .., hb⟩
    · obtain ⟨x, hx, h2⟩ := mu_cover l (od.drop cs.length) b hb
      exact ⟨x, List.mem_cons_of_mem _ hx, h2⟩
  | .row id t e u :: l, od, b, hb => by
    rw [List.flatMap_cons, List.mem_append] at hb
    rcases hb with hb | hb
    · exact ⟨_, List.mem_cons_self .., hb⟩
    · obtain ⟨x, hx, h2⟩ := mu_cover l od.tail b hb
      exact ⟨x, List.mem_cons_of_mem _ hx, h2⟩
  | .non :: l, od, b, hb => by
    rw [List.flatMap_cons] at hb
    exact mu_cover l od.tail b (by simpa [muTops] using hb)

theorem mu_sub : ∀ (U : List MU) (od : List DC), ∀ x ∈ muObjs U od, ∀ b ∈ tops β x.1 x.2, b ∈ U.flatMap (muTops β)
  | [], _, x, hx, b, hb => by simp [muObjs] at hx
  | .box id t cs :: l, od, x, hx, b, hb => by
    rw [List.flatMap_cons, List.mem_append]
    simp only [muObjs] at hx
    rcases List.mem_cons.1 hx with rfl | hx
    · exact .inl hb
    · exact .inr (mu_sub l _ x hx b hb)
  | .row id t e u :: l, od, x, hx, b, hb => by
    rw [List.flatMap_cons, List.mem_append]
    simp only [muObjs] at hx
    rcases List.mem_cons.1 hx with rfl | hx
    · exact .inl hb
    · exact .inr (mu_sub l _ x hx b hb)
  | .non :: l, od, x, hx, b, hb => by
    rw [List.flatMap_cons, List.mem_append]
    exact .inr (mu_sub l _ x (by simpa only [muObjs] using hx) b hb)

theorem resCells_app {d : Nat} : ∀ (rcs : List RC) (k : Nat) (r1 r2 : List DC), rcs.length ≤ r1.length → resCells d k rcs (r1 ++ r2) = resCells d k rcs r1
  | [], _, _, _, _ => rfl
  | .imm c :: cs, k, r1, r2, hl => by
    cases r1 with
    | nil => simp at hl
    | cons x r1 =>
      simp only [List.cons_append, resCells, List.headD_cons, List.tail_cons]
      rw [resCells_app cs k r1 r2 (by simpa using hl)]
  | .own t e :: cs, k, r1, r2, hl => by
    cases r1 with
    | nil => simp at hl
    | cons x r1 =>
      simp only [List.cons_append, resCells, List.headD_cons, List.tail_cons]
      rw [resCells_app cs (k + 1) r1 r2 (by simpa using hl)]

theorem resVals_app {d : Nat} : ∀ (rks : List RK) (k : Nat) (r1 r2 : List DC), r1.length = resCount rks → resVals d k rks (r1 ++ r2) = resVals d k rks r1
  | [], _, _, _, _ => rfl
  | r :: rs, k, r1, r2, hl => by
    simp only [resCount] at hl
    simp only [resVals]
    rw [List.take_append_of_le_length (by omega), List.drop_append_of_le_length (by omega), resVals_app rs _ _ r2 (by simp; omega)]

end
end Go.Proofs.Ytjknoknkbfhelaa.Vm
