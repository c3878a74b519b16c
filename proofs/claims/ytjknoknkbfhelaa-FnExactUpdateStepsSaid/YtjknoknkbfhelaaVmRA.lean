/- The value machine: calls that write through parameters. Conditions: as each lemma says. -/
import Derived.Test.YtjknoknkbfhelaaVmR
set_option linter.unusedVariables false
set_option linter.unusedSimpArgs false
namespace Go.Proofs.Ytjknoknkbfhelaa.Vm

section
variable {P : Program} {Γ : Ctx} {w0 : World} {S : Own} {st : St} {o : Oper} {e : Eff} {a : Act} {w : World}
variable {f : Nat → SV} {h : Nat → Option VObj} {β : Env} {φ : Nat → List Nat} {tm : Array Value}

def muTops (β : Env) : MU → List Nat
  | .box id _ _ => [β.blk id]
  | .row id _ _ _ => (β.val id).ownBlock.toList
  | .non => []

/-- The objects that a call may turn are there. -/
def MuOk (h : Nat → Option VObj) : List MU → Prop
  | [] => True
  | .box id t cs :: l => (∃ cells, h id = some (.box t cells)) ∧ MuOk h l
  | .row id t e u :: l => (flatB e = true ∧ ∃ rows, h id = some (.row t e rows false u)) ∧ MuOk h l
  | .non :: l => MuOk h l

theorem MuOk.append {U V : List MU} (hu : MuOk h U) (hv : MuOk h V) : MuOk h (U ++ V) := by
  induction U with
  | nil => exact hv
  | cons x l ih =>
    cases x <;> simp only [List.cons_append, MuOk] at hu ⊢
    · exact ⟨hu.1, ih hu.2⟩
    · exact ⟨hu.1, ih hu.2⟩
    · exact ih hu

theorem rowCells_ok (hc : Core w0 S f h β φ tm w) : ∀ (cs : List CT) (ts : List TypeId) (ss : List SV) (us : List Value) (q : List DC × List MU), SVRL w (Av h β) β ss us → (rowCellsM cs ts ss).val f h = some q →
    RowsA w cs ts q.1 us (q.2.flatMap (muTops β)) ∧ MuOk h q.2
  | [], ts, ss, us, q, hs, hq => by
    cases ts with
    | nil =>
      cases ss with
      | nil =>
        simp only [rowCellsM, M.val_pure, Option.some.injEq] at hq
        subst hq
        simp only [SVRL] at hs
        exact ⟨⟨rfl, rfl, hs, rfl⟩, trivial⟩
      | cons s ss => simp [rowCellsM] at hq
    | cons t ts => simp [rowCellsM] at hq
  | .int k :: cs, ts, ss, us, q, hs, hq => by
    cases ss with
    | nil => simp [rowCellsM] at hq
    | cons s ss =>
      simp only [SVRL] at hs
      obtain ⟨v, us', rfl, h1, h2⟩ := hs
      simp only [rowCellsM, M.val_bind, Option.bind_eq_some_iff, M.val_pure, Option.some.injEq] at hq
      obtain ⟨q1, hq1, q2, hq2, rfl⟩ := hq
      obtain ⟨fp, hr, _⟩ := toDC_ok hc h1 hq1
      obtain ⟨k1, k2⟩ := rowCells_ok hc cs ts ss us' q2 h2 hq2
      refine ⟨?_, k2⟩
      simp only [RowsA]
      refine ⟨q1.1, q2.1, v, us', rfl, rfl, ?_, k1⟩
      simp only [RdC] at hr ⊢
      obtain ⟨n, a, b, c, _⟩ := hr
      exact ⟨n, a, b, c, trivial⟩
  | .bool :: cs, ts, ss, us, q, hs, hq => by
    cases ss with
    | nil => simp [rowCellsM] at hq
    | cons s ss =>
      simp only [SVRL] at hs
      obtain ⟨v, us', rfl, h1, h2⟩ := hs
      simp only [rowCellsM, M.val_bind, Option.bind_eq_some_iff, M.val_pure, Option.some.injEq] at hq
      obtain ⟨q1, hq1, q2, hq2, rfl⟩ := hq
      obtain ⟨fp, hr, _⟩ := toDC_ok hc h1 hq1
      obtain ⟨k1, k2⟩ := rowCells_ok hc cs ts ss us' q2 h2 hq2
      refine ⟨?_, k2⟩
      simp only [RowsA]
      refine ⟨q1.1, q2.1, v, us', rfl, rfl, ?_, k1⟩
      simp only [RdC] at hr ⊢
      obtain ⟨n, a, b, _⟩ := hr
      exact ⟨n, a, b, trivial⟩
  | .str :: cs, ts, ss, us, q, hs, hq => by
    cases ss with
    | nil => simp [rowCellsM] at hq
    | cons s ss =>
      simp only [SVRL] at hs
      obtain ⟨v, us', rfl, h1, h2⟩ := hs
      simp only [rowCellsM, M.val_bind, Option.bind_eq_some_iff, M.val_pure, Option.some.injEq] at hq
      obtain ⟨q1, hq1, q2, hq2, rfl⟩ := hq
      obtain ⟨fp, hr, _⟩ := toDC_ok hc h1 hq1
      obtain ⟨k1, k2⟩ := rowCells_ok hc cs ts ss us' q2 h2 hq2
      refine ⟨?_, k2⟩
      simp only [RowsA]
      refine ⟨q1.1, q2.1, v, us', rfl, rfl, ?_, k1⟩
      simp only [RdC] at hr ⊢
      obtain ⟨n, a, b, c, _⟩ := hr
      exact ⟨n, a, b, c, trivial⟩
  | .sl el :: cs, ts, ss, us, q, hs, hq => by
    cases ts with
    | nil => simp [rowCellsM] at hq
    | cons t ts =>
      cases ss with
      | nil => simp [rowCellsM] at hq
      | cons s ss =>
        simp only [SVRL] at hs
        obtain ⟨v, us', rfl, h1, h2⟩ := hs
        simp only [rowCellsM, M.val_bind, Option.bind_eq_some_iff, M.val_pure, Option.some.injEq] at hq
        obtain ⟨q1, hq1, q2, hq2, rfl⟩ := hq
        obtain ⟨k1, k2⟩ := rowCells_ok hc cs ts ss us' q2 h2 hq2
        cases s with
        | nil =>
          simp only at hq1
          cases hfl : flatB el
          · simp [hfl] at hq1
          · simp only [hfl, cond_true, M.val_pure, Option.some.injEq] at hq1
            subst hq1
            simp only [SVR] at h1
            subst h1
            refine ⟨?_, k2⟩
            simp only [RowsA]
            exact ⟨t, ts, [], q2.1, _, us', [], [], q2.2.flatMap (muTops β), rfl, rfl, rfl, hfl, ⟨by simp, .inl ⟨rfl, rfl, rfl⟩⟩, ⟨rfl, by simp⟩, k1, by simp [muTops, Value.ownBlock]⟩
        | own id =>
          simp only [M.val_obj, Option.bind_eq_some_iff] at hq1
          obtain ⟨ob, hob, hq1⟩ := hq1
          cases ob with
          | row t' e' r fz u =>
            cases fz with
            | true => simp at hq1
            | false =>
              simp only at hq1
              cases hcond : Nat.beq t' t && ctsBeq e' el && flatB el
              · simp [hcond] at hq1
              · simp only [hcond, cond_true, M.val_pure, Option.some.injEq] at hq1
                subst hq1
                simp only [Bool.and_eq_true] at hcond
                have ht := Nat.eq_of_beq_eq_true hcond.1.1
                have he := ctsBeq_eq _ _ hcond.1.2
                subst ht
                subst he
                simp only [SVR] at h1
                obtain ⟨vals, fps, g1, g2, _, _⟩ := hc.objs id _ hob
                refine ⟨?_, ⟨⟨hcond.2, r, hob⟩, k2⟩⟩
                simp only [RowsA]
                refine ⟨t', ts, r, q2.1, v, us', vals, fps, q2.2.flatMap (muTops β), rfl, rfl, rfl, hcond.2, by rw [h1.1]; exact g1, g2, k1, ?_⟩
                simp only [List.flatMap_cons, muTops, h1.1]
          | box _ _ => simp at hq1
          | imm _ _ => simp at hq1
        | _ => simp at hq1

theorem argsMM_ok (hc : Core w0 S f h β φ tm w) : ∀ (ks : List AK) (ms : List (Option MK)) (ss : List SV) (vs : List Value) (q : List DC × Met × List MU), SVRL w (Av h β) β ss vs → (argsMM ks ms ss).val f h = some q →
    ∃ fp, MArgs w ks ms q.1 vs fp (q.2.2.flatMap (muTops β)) ∧ MetOk h q.2.1 ∧ MuOk h q.2.2 ∧ ∀ b ∈ fp, (¬ Av h β b) ∨ ∃ x ∈ q.2.1, b ∈ (β.val x.1).ownBlock.toList
  | [], ms, ss, vs, q, hs, hq => by
    cases ms with
    | nil =>
      cases ss with
      | nil =>
        simp only [argsMM, M.val_pure, Option.some.injEq] at hq
        subst hq
        simp only [SVRL] at hs
        exact ⟨[], ⟨rfl, rfl, hs, rfl, rfl⟩, by simp [MetOk], trivial, by simp⟩
      | cons s ss => simp [argsMM] at hq
    | cons m ms => simp [argsMM] at hq
  | k :: ks, ms, ss, vs, q, hs, hq => by
    cases ms with
    | nil => simp [argsMM] at hq
    | cons m ms =>
      cases ss with
      | nil => cases m with
        | none => simp [argsMM] at hq
        | some m => cases m <;> simp [argsMM] at hq
      | cons s ss =>
        simp only [SVRL] at hs
        obtain ⟨v, l, rfl, h1, h2⟩ := hs
        cases m with
        | none =>
          simp only [argsMM, M.val_bind, Option.bind_eq_some_iff, M.val_pure, Option.some.injEq] at hq
          obtain ⟨q1, hq1, q2, hq2, rfl⟩ := hq
          obtain ⟨fp2, ha2, hm2, hu2, hav2⟩ := argsMM_ok hc ks ms ss l q2 h2 hq2
          have hq1' : (argsM [k] [s]).val f h = some (q1.1 ++ [], q1.2.1 ++ []) := by
            simp only [argsM, M.val_bind, Option.bind_eq_some_iff, M.val_pure, Option.some.injEq]
            exact ⟨q1, hq1, ([], []), rfl, rfl⟩
          have hsing : SVRL w (Av h β) β [s] [v] := by simp only [SVRL]; exact ⟨v, [], rfl, h1, rfl⟩
          obtain ⟨fp1, ha1, hm1, hav1⟩ := argsM_ok hc [k] [s] [v] _ hsing hq1'
          simp only [List.append_nil] at ha1 hm1 hav1
          obtain ⟨d1, d2, v', vs', f1, f2, e1, e2, ha1, ⟨rfl, rfl, rfl⟩, rfl⟩ := ha1
          simp only [List.append_nil] at e1 hav1
          simp only [List.cons.injEq, and_true] at e2
          subst e2
          subst e1
          refine ⟨f1 ++ fp2, ⟨none, ms, q1.1, q2.1, v, l, f1, fp2, [], q2.2.2.flatMap (muTops β), rfl, rfl, rfl, ⟨ha1, rfl⟩, ha2, rfl, rfl⟩, metOk_append hm1 hm2, hu2, ?_⟩
          intro b hb
          rcases List.mem_append.1 hb with hb | hb
          · rcases hav1 b hb with h3 | ⟨x, hx, h3⟩
            · exact .inl h3
            · exact .inr ⟨x, List.mem_append_left _ hx, h3⟩
          · rcases hav2 b hb with h3 | ⟨x, hx, h3⟩
            · exact .inl h3
            · exact .inr ⟨x, List.mem_append_right _ hx, h3⟩
        | some m =>
          cases m with
          | box t =>
            cases s with
            | ptr id off =>
              cases off with
              | succ off => simp [argsMM] at hq
              | zero =>
                simp only [argsMM, M.val_obj, Option.bind_eq_some_iff] at hq
                obtain ⟨ob, hob, hq⟩ := hq
                cases ob with
                | box t' cells =>
                  simp only at hq
                  cases htt : Nat.beq t' t
                  · simp [htt] at hq
                  · have htt' := Nat.eq_of_beq_eq_true htt
                    subst htt'
                    simp only [htt, cond_true, M.val_bind, Option.bind_eq_some_iff] at hq
                    obtain ⟨q1, hq1, hq⟩ := hq
                    cases hem : q1.2.1.isEmpty
                    · simp [hem] at hq
                    · simp only [hem, cond_true, M.val_bind, Option.bind_eq_some_iff, M.val_pure, Option.some.injEq] at hq
                      obtain ⟨q2, hq2, rfl⟩ := hq
                      obtain ⟨fp2, ha2, hm2, hu2, hav2⟩ := argsMM_ok hc ks ms ss l q2 h2 hq2
                      obtain ⟨us, g1, g2, g3, _⟩ := hc.objs id _ hob
                      obtain ⟨fp1, hr, hm1, hav1, _⟩ := toDCs_ok hc k.cts cells us q1 g2 hq1
                      have hl := SVRL.length _ _ g2
                      have hl2 := toDCs_length _ _ _ hq1
                      simp only [SVR] at h1
                      have hme : q1.2.1 = [] := List.isEmpty_iff.1 hem
                      refine ⟨fp1 ++ fp2, ⟨some (.box t'), ms, q1.1, q2.1, v, l, fp1, fp2, [β.blk id], q2.2.2.flatMap (muTops β), rfl, rfl, rfl, ⟨β.blk id, us, h1, g1, g3, hr, by omega, rfl⟩, ha2, rfl, by simp [muTops]⟩, hm2, ⟨⟨cells, hob⟩, hu2⟩, ?_⟩
                      intro b hb
                      rcases List.mem_append.1 hb with hb | hb
                      · rcases hav1 b hb with h3 | ⟨x, hx, h3⟩
                        · exact .inl h3
                        · rw [hme] at hx
                          simp at hx
                      · exact hav2 b hb
                | row _ _ _ _ _ => simp at hq
                | imm _ _ => simp at hq
            | _ => simp [argsMM] at hq
          | rows ts =>
            simp only [argsMM, M.val_bind, Option.bind_eq_some_iff, M.val_pure, Option.some.injEq] at hq
            obtain ⟨q1, hq1, q2, hq2, rfl⟩ := hq
            obtain ⟨fp2, ha2, hm2, hu2, hav2⟩ := argsMM_ok hc ks ms ss l q2 h2 hq2
            have one : MArg w k (some (.rows ts)) q1.1 v [] (q1.2.flatMap (muTops β)) ∧ MuOk h q1.2 := by
              cases hk : k.agg with
              | true =>
                cases s with
                | agg cs =>
                  simp only [hk] at hq1
                  simp only [SVR] at h1
                  obtain ⟨us, rfl, hus, hone⟩ := h1
                  obtain ⟨r1, r2⟩ := rowCells_ok hc k.cts ts cs us q1 hus hq1
                  exact ⟨⟨us, by rw [hk]; rfl, hone, r1, rfl⟩, r2⟩
                | _ => simp [hk] at hq1
              | false =>
                have hq1' : (rowCellsM k.cts ts [s]).val f h = some q1 := by
                  cases s <;> simp only [hk] at hq1 <;> first | exact hq1 | (simp at hq1)
                have hsing : SVRL w (Av h β) β [s] [v] := by simp only [SVRL]; exact ⟨v, [], rfl, h1, rfl⟩
                obtain ⟨r1, r2⟩ := rowCells_ok hc k.cts ts [s] [v] q1 hsing hq1'
                have hone : v.oneCell' = true := by
                  cases hcts : k.cts with
                  | nil => rw [hcts] at r1; simp only [RowsA] at r1; simp at r1
                  | cons c cs =>
                    rw [hcts] at r1
                    cases c with
                    | sl el =>
                      simp only [RowsA] at r1
                      obtain ⟨t, ts', rows, ds', v', us', vals, fps, mb', _, _, e0, _, h3, _⟩ := r1
                      injection e0 with e0
                      subst e0
                      exact h3.one
                    | int _ => simp only [RowsA] at r1; obtain ⟨d, ds', v', us', _, e0, h3, _⟩ := r1; injection e0 with e0; subst e0; exact h3.one
                    | bool => simp only [RowsA] at r1; obtain ⟨d, ds', v', us', _, e0, h3, _⟩ := r1; injection e0 with e0; subst e0; exact h3.one
                    | str => simp only [RowsA] at r1; obtain ⟨d, ds', v', us', _, e0, h3, _⟩ := r1; injection e0 with e0; subst e0; exact h3.one
                exact ⟨⟨[v], by rw [hk]; exact ⟨rfl, hone⟩, by simpa using hone, r1, rfl⟩, r2⟩
            refine ⟨fp2, ⟨some (.rows ts), ms, q1.1, q2.1, v, l, [], fp2, q1.2.flatMap (muTops β), q2.2.2.flatMap (muTops β), rfl, rfl, rfl, one.1, ha2, rfl, by simp⟩, hm2, one.2.append hu2, hav2⟩

end
end Go.Proofs.Ytjknoknkbfhelaa.Vm
