/- The value machine: what a function hands back, what it is handed; contracts out of runs. Conditions: the contracts of the context hold. -/
import Derived.Test.YtjknoknkbfhelaaVmZ
namespace Go.Proofs.Ytjknoknkbfhelaa.Vm

section
variable {P : Program} {Γ : Ctx} {w0 : World} {S : Own} {A : List (Nat × Ann)} {N : Nat}
variable {f : Nat → SV} {h : Nat → Option VObj} {β : Env} {φ : Nat → List Nat} {tm : Array Value} {w : World}

def resOne (tmps : Array Value) : ResultVar → Sem Value
  | .tmp t => pure (tmps.getD t undef)
  | .cell a t => do loadVar t (← asAddr (tmps.getD a undef))

theorem load_box (hc : Core w0 S f h β φ tm w) {id off : Nat} {t : TypeId} {e : Eff} (he : (loadM P t (.ptr id off)).val f h = some e) {v : Value} (hv : v = .pointer (some ⟨β.blk id, off, none⟩)) :
    ∃ u, (do loadVar t (← asAddr v) : Sem Value).run P w = .ok u w ∧ SVR w (Av h β) β e.sv u := by
  have conv : ∀ u, (Instr.loadAt t v).run P w = .ok u w → (do loadVar t (← asAddr v) : Sem Value).run P w = .ok u w := by
    intro u hu
    subst hv
    exact hu
  unfold loadM at he
  split at he
  case h_2 => simp at he
  rename_i td hu
  simp only [loadM', M.val_obj, Option.bind_eq_some_iff] at he
  obtain ⟨ob, hob, he⟩ := he
  split at he
  · rename_i t' cells
    cases ha : isAggB P t
    · simp only [ha, cond_false] at he
      split at he
      · rename_i s hs
        simp only [M.val_pure, Option.some.injEq] at he
        subst he
        obtain ⟨vs, hh, hr, _, _⟩ := hc.objs id _ hob
        obtain ⟨u, hu', hsv⟩ := SVRL.get _ _ _ _ hr hs
        refine ⟨u, conv u ?_, hsv⟩
        rw [hv]
        exact run_loadAt_one ha hu (by rw [cell_box hh]; exact hu')
      · simp at he
    · simp only [ha, cond_true] at he
      split at he
      · rename_i i hi
        cases hz : Nat.ble (off + i.size) cells.length
        · simp [hz] at he
        · simp only [hz, cond_true, M.val_pure, Option.some.injEq] at he
          subst he
          have hle := Nat.le_of_ble_eq_true hz
          obtain ⟨vs, hh, hr, hone, _⟩ := hc.objs id _ hob
          have hlen := SVRL.length _ _ hr
          refine ⟨.agg ((vs.drop off).take i.size).toArray, conv _ ?_, ?_⟩
          · rw [hv]
            refine run_loadAt_agg (vs := (vs.drop off).take i.size) ha hi (by simp; omega) (fun j v hj => ?_)
            rw [cell_box hh]
            rw [List.getElem?_take] at hj
            split at hj
            · simpa using hj
            · cases hj
          · simp only [SVR]
            exact ⟨_, rfl, SVRL.take _ _ _ (SVRL.drop _ _ _ hr), fun y hy => hone y (List.mem_of_mem_drop (List.mem_of_mem_take hy))⟩
      · simp at he
  · simp at he

theorem resSVs_ok (hc : Core w0 S f h β φ tm w) : ∀ (l : List ResultVar) (ss : List SV), (resSVs P l).val f h = some ss → ∃ vs, (l.mapM (resOne tm)).run P w = .ok vs w ∧ SVRL w (Av h β) β ss vs
  | [], ss, hs => by
    simp only [resSVs, M.val_pure, Option.some.injEq] at hs
    subst hs
    exact ⟨[], by simp, by simp [SVRL]⟩
  | .tmp t :: l, ss, hs => by
    simp only [resSVs, M.val_slot, M.val_bind, Option.bind_eq_some_iff, M.val_pure, Option.some.injEq] at hs
    obtain ⟨r, hr, rfl⟩ := hs
    obtain ⟨vs, h1, h2⟩ := resSVs_ok hc l r hr
    refine ⟨tm.getD t undef :: vs, ?_, ?_⟩
    · simp only [List.mapM_cons, resOne, Sem.run_bind, Sem.run_pure, Result.andThen_ok, h1]
    · simp only [SVRL]
      exact ⟨_, _, rfl, hc.slots t, h2⟩
  | .cell p t :: l, ss, hs => by
    simp only [resSVs, M.val_slot, M.val_bind, Option.bind_eq_some_iff, M.val_pure, Option.some.injEq] at hs
    obtain ⟨e, he, r, hr, rfl⟩ := hs
    obtain ⟨vs, h1, h2⟩ := resSVs_ok hc l r hr
    have hsl := hc.slots p
    split at he
    · rename_i id off hp
      rw [hp] at hsl
      simp only [SVR] at hsl
      obtain ⟨u, g1, g2⟩ := load_box hc he hsl
      refine ⟨u :: vs, ?_, ?_⟩
      · simp only [List.mapM_cons, Sem.run_bind, Sem.run_pure]
        have : (resOne tm (.cell p t)).run P w = .ok u w := g1
        simp only [this, Result.andThen_ok, h1]
      · simp only [SVRL]
        exact ⟨_, _, rfl, g2, h2⟩
    · simp at he

theorem results_eq {fn : Func} : results fn tm = (do let vs ← fn.results.mapM (resOne tm); pure (if h : vs.size = 1 then vs[0] else .tuple vs)) := by
  unfold results
  congr 1

theorem pack_eq (l : List Value) : (if h : l.toArray.size = 1 then l.toArray[0] else .tuple l.toArray) = pack l := by
  cases l with
  | nil => rfl
  | cons x l =>
    cases l with
    | nil => rfl
    | cons y l => simp [pack]

theorem results_run {fn : Func} {vs : List Value} (hr : (fn.results.toList.mapM (resOne tm)).run P w = .ok vs w) : (results fn tm).run P w = .ok (pack vs) w := by
  rw [results_eq, Array.mapM_eq_mapM_toList]
  simp only [Sem.run_bind, map_eq_pure_bind, Sem.run_pure, hr, Result.andThen_ok, bind_assoc, pure_bind]
  rw [pack_eq]

/-! ### What is handed back -/

theorem finCells_ok (hc : Core w0 S f h β φ tm w) : ∀ (rcs : List RC) (ss : List SV) (vs : List Value) (q : List DC × List Nat × List Nat), SVRL w (Av h β) β ss vs → (finCells rcs ss).val f h = some q →
    ∃ φ' im tp, ResL w rcs q.1 vs φ' im tp ∧ (∀ b ∈ φ', ∃ i ∈ q.2.1, (∃ o, h i = some o) ∧ b ∈ φ i) ∧ (∀ b ∈ tp, ∃ i o, i ∈ q.2.1 ∧ h i = some o ∧ b ∈ tops β i o) ∧ (q.2.1.Nodup → φ'.Nodup) ∧
      (∀ b ∈ im, ¬ Av h β b ∨ ∃ i ∈ q.2.2, (∃ o, h i = some o) ∧ b ∈ φ i)
  | [], [], vs, q, hs, hq => by
    simp only [finCells, M.val_pure, Option.some.injEq] at hq
    subst hq
    simp only [SVRL] at hs
    exact ⟨[], [], [], ⟨rfl, hs, rfl, rfl, rfl⟩, by simp, by simp, by simp, by simp⟩
  | [], _ :: _, vs, q, hs, hq => by simp [finCells] at hq
  | _ :: _, [], vs, q, hs, hq => by simp [finCells] at hq
  | rc :: rcs, s :: ss, vs, q, hs, hq => by
    simp only [SVRL] at hs
    obtain ⟨v, l, rfl, h1, h2⟩ := hs
    simp only [finCells, M.val_bind, Option.bind_eq_some_iff, M.val_pure, Option.some.injEq] at hq
    obtain ⟨q1, hq1, q2, hq2, rfl⟩ := hq
    obtain ⟨φ2, im2, tp2, g1, g2, g3, g4, g5⟩ := finCells_ok hc rcs ss l q2 h2 hq2
    cases rc with
    | imm ct =>
      simp only [finCell, M.val_bind, Option.bind_eq_some_iff, M.val_pure, Option.some.injEq] at hq1
      obtain ⟨p, hp, rfl⟩ := hq1
      obtain ⟨fp, r1, r2, _, r4, _⟩ := toDC_ok hc h1 hp
      refine ⟨φ2, fp ++ im2, tp2, ⟨p.1, q2.1, v, l, fp, im2, rfl, rfl, r1, g1, rfl⟩, ?_, ?_, ?_, ?_⟩
      · simpa using g2
      · simpa using g3
      · simpa using g4
      · intro b hb
        rcases List.mem_append.1 hb with hb | hb
        · rcases r4 b hb with h3 | ⟨x, hx, h3⟩
          · exact .inl h3
          · obtain ⟨t', fz', hx'⟩ := r2 x hx
            exact .inr ⟨x.1, List.mem_append_left _ (List.mem_map_of_mem hx), ⟨_, hx'⟩, tops_sub (hc.objs _ _ hx') b (by simpa [tops] using h3)⟩
        · rcases g5 b hb with h3 | ⟨i, hi, h3⟩
          · exact .inl h3
          · exact .inr ⟨i, List.mem_append_right _ hi, h3⟩
    | own t e =>
      cases s with
      | nil =>
        simp only [finCell, M.val_pure, Option.some.injEq] at hq1
        subst hq1
        simp only [SVR] at h1
        subst h1
        refine ⟨φ2, im2, tp2, ⟨[], q2.1, _, l, [], [], φ2, tp2, rfl, rfl, ⟨by simp, .inl ⟨rfl, rfl, rfl⟩⟩, ⟨rfl, by simp⟩, g1, by simp [Value.ownBlock], by simp [Value.ownBlock]⟩, ?_, ?_, ?_, ?_⟩
        · simpa using g2
        · simpa using g3
        · simpa using g4
        · simpa using g5
      | own id =>
        simp only [finCell, M.val_obj, Option.bind_eq_some_iff] at hq1
        obtain ⟨ob, hob, hq1⟩ := hq1
        split at hq1
        · rename_i t' e' r u
          cases hcond : Nat.beq t t' && ctsBeq e e' && u
          · simp [hcond] at hq1
          · simp only [hcond, cond_true, M.val_pure, Option.some.injEq] at hq1
            subst hq1
            simp only [Bool.and_eq_true] at hcond
            obtain ⟨⟨ht, he⟩, hu⟩ := hcond
            have ht' := Nat.eq_of_beq_eq_true ht
            have he' := ctsBeq_eq _ _ he
            subst ht' he' hu
            simp only [SVR] at h1
            obtain ⟨vals, fps, o1, o2, o3, o4⟩ := hc.objs id _ hob
            rw [← h1.1] at o1
            simp only [cond_true] at o4
            rw [← h1.1] at o4
            refine ⟨(v.ownBlock.toList ++ fps.flatten) ++ φ2, im2, v.ownBlock.toList ++ tp2, ⟨r, q2.1, v, l, vals, fps, φ2, tp2, rfl, rfl, o1, o2, g1, rfl, rfl⟩, ?_, ?_, ?_, ?_⟩
            · intro b hb
              rcases List.mem_append.1 hb with hb | hb
              · exact ⟨id, List.mem_append_left _ (List.mem_singleton.2 rfl), ⟨_, hob⟩, by rw [o4]; exact hb⟩
              · obtain ⟨i, hi, h3⟩ := g2 b hb
                exact ⟨i, List.mem_append_right _ hi, h3⟩
            · intro b hb
              rcases List.mem_append.1 hb with hb | hb
              · exact ⟨id, _, List.mem_append_left _ (List.mem_singleton.2 rfl), hob, by rw [h1.1] at hb; simpa [tops] using hb⟩
              · obtain ⟨i, o, hi, h3⟩ := g3 b hb
                exact ⟨i, o, List.mem_append_right _ hi, h3⟩
            · intro hnd
              simp only [List.singleton_append, List.nodup_cons] at hnd
              rw [List.nodup_append]
              refine ⟨o4 ▸ (hc.fresh id _ hob).1, g4 hnd.2, fun b hb b' hb' e => ?_⟩
              subst e
              obtain ⟨i, hi, ⟨o, hio⟩, h3⟩ := g2 b hb'
              have hne : id ≠ i := fun e => hnd.1 (e ▸ hi)
              exact hc.sep id i _ _ hne hob hio b (o4 ▸ hb) h3
            · simpa using g5
        · simp at hq1
      | _ => simp [finCell] at hq1

theorem finVals_ok (hc : Core w0 S f h β φ tm w) : ∀ (rks : List RK) (ss : List SV) (vs : List Value) (q : List DC × List Nat × List Nat), SVRL w (Av h β) β ss vs → (finVals rks ss).val f h = some q →
    ∃ φ' im tp, ResV w rks q.1 vs φ' im tp ∧ (∀ b ∈ φ', ∃ i ∈ q.2.1, (∃ o, h i = some o) ∧ b ∈ φ i) ∧ (∀ b ∈ tp, ∃ i o, i ∈ q.2.1 ∧ h i = some o ∧ b ∈ tops β i o) ∧ (q.2.1.Nodup → φ'.Nodup) ∧
      (∀ b ∈ im, ¬ Av h β b ∨ ∃ i ∈ q.2.2, (∃ o, h i = some o) ∧ b ∈ φ i)
  | [], [], vs, q, hs, hq => by
    simp only [finVals, M.val_pure, Option.some.injEq] at hq
    subst hq
    simp only [SVRL] at hs
    exact ⟨[], [], [], ⟨rfl, hs, rfl, rfl, rfl⟩, by simp, by simp, by simp, by simp⟩
  | [], _ :: _, vs, q, hs, hq => by simp [finVals] at hq
  | _ :: _, [], vs, q, hs, hq => by simp [finVals] at hq
  | k :: ks, s :: ss, vs, q, hs, hq => by
    simp only [SVRL] at hs
    obtain ⟨v, l, rfl, h1, h2⟩ := hs
    simp only [finVals, M.val_bind, Option.bind_eq_some_iff, M.val_pure, Option.some.injEq] at hq
    obtain ⟨q1, hq1, q2, hq2, rfl⟩ := hq
    obtain ⟨φ2, im2, tp2, g1, g2, g3, g4, g5⟩ := finVals_ok hc ks ss l q2 h2 hq2
    have one : ∃ us : List Value, (bif k.agg then v = .agg us.toArray else us = [v]) ∧ (∀ x ∈ us, x.oneCell' = true) ∧ ∃ φ1 im1 tp1, ResL w k.cells q1.1 us φ1 im1 tp1 ∧ (∀ b ∈ φ1, ∃ i ∈ q1.2.1, (∃ o, h i = some o) ∧ b ∈ φ i) ∧
        (∀ b ∈ tp1, ∃ i o, i ∈ q1.2.1 ∧ h i = some o ∧ b ∈ tops β i o) ∧ (q1.2.1.Nodup → φ1.Nodup) ∧ (∀ b ∈ im1, ¬ Av h β b ∨ ∃ i ∈ q1.2.2, (∃ o, h i = some o) ∧ b ∈ φ i) := by
      cases hk : k.agg with
      | true =>
        cases s with
        | agg cs =>
          simp only [hk] at hq1
          simp only [SVR] at h1
          obtain ⟨us, rfl, hus, hone⟩ := h1
          exact ⟨us, rfl, hone, finCells_ok hc k.cells cs us q1 hus hq1⟩
        | _ => simp [hk] at hq1
      | false =>
        have hq1' : (finCells k.cells [s]).val f h = some q1 := by
          cases s <;> simp only [hk] at hq1 <;> first | exact hq1 | (simp at hq1)
        have hsing : SVRL w (Av h β) β [s] [v] := by simp only [SVRL]; exact ⟨v, [], rfl, h1, rfl⟩
        have hres := finCells_ok hc k.cells [s] [v] q1 hsing hq1'
        refine ⟨[v], rfl, ?_, hres⟩
        obtain ⟨_, _, _, hr, _⟩ := hres
        intro x hx
        rw [List.mem_singleton] at hx
        subst hx
        cases hcs : k.cells with
        | nil => rw [hcs] at hr; simp [ResL] at hr
        | cons c cs =>
          rw [hcs] at hr
          cases c with
          | imm ct =>
            obtain ⟨d, ds', v', vs', f1, im', _, hv, h3, _⟩ := hr
            simp only [List.cons.injEq] at hv
            rw [hv.1]
            exact h3.one
          | own t e =>
            obtain ⟨rows, ds', v', vs', vals, fps, φ', tp', _, hv, h3, _⟩ := hr
            simp only [List.cons.injEq] at hv
            rw [hv.1]
            exact h3.one
    obtain ⟨us, hus, hone, φ1, im1, tp1, k1, k2, k3, k4, k5⟩ := one
    refine ⟨φ1 ++ φ2, im1 ++ im2, tp1 ++ tp2, ⟨q1.1, q2.1, v, l, us, φ1, φ2, im1, im2, tp1, tp2, rfl, rfl, hus, hone, k1, g1, rfl, rfl, rfl⟩, ?_, ?_, ?_, ?_⟩
    · intro b hb
      rcases List.mem_append.1 hb with hb | hb
      · obtain ⟨i, hi, h3⟩ := k2 b hb
        exact ⟨i, List.mem_append_left _ hi, h3⟩
      · obtain ⟨i, hi, h3⟩ := g2 b hb
        exact ⟨i, List.mem_append_right _ hi, h3⟩
    · intro b hb
      rcases List.mem_append.1 hb with hb | hb
      · obtain ⟨i, o, hi, h3⟩ := k3 b hb
        exact ⟨i, o, List.mem_append_left _ hi, h3⟩
      · obtain ⟨i, o, hi, h3⟩ := g3 b hb
        exact ⟨i, o, List.mem_append_right _ hi, h3⟩
    · intro hnd
      rw [List.nodup_append] at hnd ⊢
      refine ⟨k4 hnd.1, g4 hnd.2.1, fun b hb b' hb' e => ?_⟩
      subst e
      obtain ⟨i, hi, ⟨o, hio⟩, h3⟩ := k2 b hb
      obtain ⟨j, hj, ⟨o', hjo⟩, h4⟩ := g2 b hb'
      exact hc.sep i j _ _ (hnd.2.2 i hi j hj) hio hjo b h3 h4
    · intro b hb
      rcases List.mem_append.1 hb with hb | hb
      · rcases k5 b hb with h3 | ⟨i, hi, h3⟩
        · exact .inl h3
        · exact .inr ⟨i, List.mem_append_left _ hi, h3⟩
      · rcases g5 b hb with h3 | ⟨i, hi, h3⟩
        · exact .inl h3
        · exact .inr ⟨i, List.mem_append_right _ hi, h3⟩

end
end Go.Proofs.Ytjknoknkbfhelaa.Vm
