/- The value machine: what calls leave that write through parameters. Conditions: as each lemma says. -/
import Derived.Test.YtjknoknkbfhelaaVmRA
set_option linter.unusedVariables false
set_option linter.unusedSimpArgs false
namespace Go.Proofs.Ytjknoknkbfhelaa.Vm

section
variable {P : Program} {Γ : Ctx} {w0 : World} {S : Own} {st : St} {o : Oper} {e : Eff} {a : Act} {w w' : World}
variable {f : Nat → SV} {h : Nat → Option VObj} {β : Env} {φ : Nat → List Nat} {tm : Array Value}

def muObjs : List MU → List DC → List (Nat × VObj)
  | [], _ => []
  | .box id t cs :: l, ds => (id, .box t (ofDCs cs ds 0)) :: muObjs l (ds.drop cs.length)
  | .row id t e u :: l, ds => (id, .row t e (ds.headD default).asRows false u) :: muObjs l ds.tail
  | .non :: l, ds => muObjs l ds.tail

theorem muOw_eq : ∀ (U : List MU) (ds : List DC), muOw U ds = (muObjs U ds).map fun x => (x.1, some x.2)
  | [], _ => rfl
  | .box id t cs :: l, ds => by simp only [muOw, muObjs, List.map_cons, muOw_eq l]
  | .row id t e u :: l, ds => by simp only [muOw, muObjs, List.map_cons, muOw_eq l]
  | .non :: l, ds => by simp only [muOw, muObjs, muOw_eq l]

theorem muObjs_ids : ∀ (U : List MU) (ds : List DC), (muObjs U ds).map (·.1) = muIds U
  | [], _ => rfl
  | .box id t cs :: l, ds => by simp only [muObjs, muIds, List.map_cons, muObjs_ids l]
  | .row id t e u :: l, ds => by simp only [muObjs, muIds, List.map_cons, muObjs_ids l]
  | .non :: l, ds => by simp only [muObjs, muIds, muObjs_ids l]

def muLen : List MU → Nat
  | [] => 0
  | .box _ _ cs :: l => cs.length + muLen l
  | .row _ _ _ _ :: l => 1 + muLen l
  | .non :: l => 1 + muLen l

theorem ofDCs_app : ∀ (cs : List CT) (d1 d2 : List DC) (k : Nat), k + cs.length ≤ d1.length → ofDCs cs (d1 ++ d2) k = ofDCs cs d1 k
  | [], _, _, _, _ => rfl
  | c :: cs, d1, d2, k, h => by
    simp only [ofDCs]
    simp only [List.length_cons] at h
    rw [ofDCs_app cs d1 d2 (k + 1) (by omega)]
    congr 2
    simp only [List.getD_eq_getElem?_getD]
    rw [List.getElem?_append_left (by omega)]

theorem muObjs_append : ∀ (U V : List MU) (d1 d2 : List DC), muLen U = d1.length → muObjs (U ++ V) (d1 ++ d2) = muObjs U d1 ++ muObjs V d2
  | [], V, d1, d2, hl => by
    have : d1 = [] := List.length_eq_zero_iff.1 hl.symm
    subst this
    rfl
  | .box id t cs :: l, V, d1, d2, hl => by
    simp only [muLen] at hl
    simp only [List.cons_append, muObjs]
    rw [ofDCs_app _ _ _ _ (by omega), List.drop_append_of_le_length (by omega), muObjs_append l V _ d2 (by simp; omega)]
  | .row id t e u :: l, V, d1, d2, hl => by
    simp only [muLen] at hl
    cases d1 with
    | nil => simp at hl
    | cons d d1 =>
      simp only [List.cons_append, muObjs, List.headD_cons, List.tail_cons]
      rw [muObjs_append l V d1 d2 (by simp at hl; omega)]
  | .non :: l, V, d1, d2, hl => by
    simp only [muLen] at hl
    cases d1 with
    | nil => simp at hl
    | cons d d1 =>
      simp only [List.cons_append, muObjs, List.tail_cons]
      rw [muObjs_append l V d1 d2 (by simp at hl; omega)]

theorem RdL_flat : ∀ (cs : List CT) (r : List DC) (g : Nat → Option Value) (fp : List Nat), flatB cs = true → RdL w cs r g fp → fp = []
  | [], r, g, fp, _, h => by simp only [RdL] at h; exact h.2
  | c :: cs, r, g, fp, hf, h => by
    simp only [RdL] at h
    obtain ⟨d, r', v, f1, f2, rfl, _, h1, h2, rfl⟩ := h
    cases c with
    | sl e => simp [flatB] at hf
    | int k =>
      simp only [RdC] at h1
      obtain ⟨_, _, _, _, rfl⟩ := h1
      rw [RdL_flat cs r' _ f2 (by simpa [flatB] using hf) h2]
      rfl
    | bool =>
      simp only [RdC] at h1
      obtain ⟨_, _, _, rfl⟩ := h1
      rw [RdL_flat cs r' _ f2 (by simpa [flatB] using hf) h2]
      rfl
    | str =>
      simp only [RdC] at h1
      obtain ⟨_, _, _, _, rfl⟩ := h1
      rw [RdL_flat cs r' _ f2 (by simpa [flatB] using hf) h2]
      rfl

theorem InR_flat {e : List CT} {rows : List (List DC)} {vals : List Value} {fps : List (List Nat)} (hf : flatB e = true) (h : InR w e rows vals fps) : fps.flatten = [] := by
  rw [List.flatten_eq_nil_iff]
  intro l hl
  obtain ⟨i, hi, rfl⟩ := List.getElem_of_mem hl
  have hi' : i < rows.length := by have := h.1; omega
  exact RdL_flat e _ _ _ hf (h.2 i rows[i] fps[i] (by simp) (by simp))

theorem svIds_ofDCs : ∀ (cs : List CT) (ds : List DC) (k : Nat), svIdsL (ofDCs cs ds k) = []
  | [], _, _ => rfl
  | c :: cs, ds, k => by
    simp only [ofDCs, svIdsL, svIds_ofDCs cs ds (k + 1), List.append_nil]
    cases c <;> rfl

def MuGood (h : Nat → Option VObj) (β : Env) (φ : Nat → List Nat) (w' : World) (im : List Nat) (x : Nat × VObj) : Prop :=
  ∃ o, h x.1 = some o ∧ tops β x.1 x.2 = tops β x.1 o ∧ objIds x.2 = [] ∧ ∀ (av : Nat → Prop) (β' : Env), β'.val x.1 = β.val x.1 → β'.blk x.1 = β.blk x.1 → (∀ b ∈ im, ¬ av b) → ObjR w' av β' x.1 x.2 (φ x.1)

theorem row_outs (hc : Core w0 S f h β φ tm w) {im : List Nat} : ∀ (cs : List CT) (ts : List TypeId) (ss : List SV) (us : List Value) (q : List DC × List MU) (od : List DC), SVRL w (Av h β) β ss us → (rowCellsM cs ts ss).val f h = some q → RowsO w' cs ts od us →
    muLen q.2 = od.length ∧ ∀ x ∈ muObjs q.2 od, MuGood h β φ w' im x
  | [], ts, ss, us, q, od, hs, hq, ho => by
    cases ts with
    | nil =>
      cases ss with
      | nil =>
        simp only [rowCellsM, M.val_pure, Option.some.injEq] at hq
        subst hq
        simp only [RowsO] at ho
        rw [ho.1]
        exact ⟨rfl, by simp [muObjs]⟩
      | cons s ss => simp [rowCellsM] at hq
    | cons t ts => simp [rowCellsM] at hq
  | .int k :: cs, ts, ss, us, q, od, hs, hq, ho => by
    cases ss with
    | nil => simp [rowCellsM] at hq
    | cons s ss =>
      simp only [SVRL] at hs
      obtain ⟨v, us', rfl, h1, h2⟩ := hs
      simp only [rowCellsM, M.val_bind, Option.bind_eq_some_iff, M.val_pure, Option.some.injEq] at hq
      obtain ⟨q1, hq1, q2, hq2, rfl⟩ := hq
      simp only [RowsO] at ho
      obtain ⟨v', us1, e0, ho⟩ := ho
      simp only [List.cons.injEq] at e0
      obtain ⟨rfl, rfl⟩ := e0
      exact row_outs hc cs ts ss us' q2 od h2 hq2 ho
  | .bool :: cs, ts, ss, us, q, od, hs, hq, ho => by
    cases ss with
    | nil => simp [rowCellsM] at hq
    | cons s ss =>
      simp only [SVRL] at hs
      obtain ⟨v, us', rfl, h1, h2⟩ := hs
      simp only [rowCellsM, M.val_bind, Option.bind_eq_some_iff, M.val_pure, Option.some.injEq] at hq
      obtain ⟨q1, hq1, q2, hq2, rfl⟩ := hq
      simp only [RowsO] at ho
      obtain ⟨v', us1, e0, ho⟩ := ho
      simp only [List.cons.injEq] at e0
      obtain ⟨rfl, rfl⟩ := e0
      exact row_outs hc cs ts ss us' q2 od h2 hq2 ho
  | .str :: cs, ts, ss, us, q, od, hs, hq, ho => by
    cases ss with
    | nil => simp [rowCellsM] at hq
    | cons s ss =>
      simp only [SVRL] at hs
      obtain ⟨v, us', rfl, h1, h2⟩ := hs
      simp only [rowCellsM, M.val_bind, Option.bind_eq_some_iff, M.val_pure, Option.some.injEq] at hq
      obtain ⟨q1, hq1, q2, hq2, rfl⟩ := hq
      simp only [RowsO] at ho
      obtain ⟨v', us1, e0, ho⟩ := ho
      simp only [List.cons.injEq] at e0
      obtain ⟨rfl, rfl⟩ := e0
      exact row_outs hc cs ts ss us' q2 od h2 hq2 ho
  | .sl el :: cs, ts, ss, us, q, od, hs, hq, ho => by
    cases ts with
    | nil => simp [rowCellsM] at hq
    | cons t ts =>
      cases ss with
      | nil => simp [rowCellsM] at hq
      | cons s ss =>
        simp only [SVRL] at hs
        obtain ⟨v, us', rfl, h1, h2⟩ := hs
        simp only [rowCellsM, M.val_bind, Option.bind_eq_some_iff, M.val_pure, Option.some.injEq] at hq
        obtain ⟨q1, hq1, q2, hq2, rfl⟩ := hq
        simp only [RowsO] at ho
        obtain ⟨t1, ts1, rows, od', v1, us1, vals, fps, e1, rfl, e2, o1, o2, o3⟩ := ho
        simp only [List.cons.injEq] at e1 e2
        obtain ⟨rfl, rfl⟩ := e1
        obtain ⟨rfl, rfl⟩ := e2
        obtain ⟨k1, k2⟩ := row_outs hc cs ts ss us' q2 od' h2 hq2 o3
        cases s with
        | nil =>
          simp only at hq1
          cases hfl : flatB el
          · simp [hfl] at hq1
          · simp only [hfl, cond_true, M.val_pure, Option.some.injEq] at hq1
            subst hq1
            exact ⟨by simp only [muLen, List.length_cons, k1]; omega, by simpa only [muObjs, List.tail_cons] using k2⟩
        | own id =>
          simp only [M.val_obj, Option.bind_eq_some_iff] at hq1
          obtain ⟨ob, hob, hq1⟩ := hq1
          cases ob with
          | row t' e' r fz u =>
            cases fz with
            | true => simp at hq1
            | false =>
              simp only at hq1
              cases hcond : Nat.beq t' t && ctsBeq e' el && flatB el
              · simp [hcond] at hq1
              · simp only [hcond, cond_true, M.val_pure, Option.some.injEq] at hq1
                subst hq1
                simp only [Bool.and_eq_true] at hcond
                have ht := Nat.eq_of_beq_eq_true hcond.1.1
                have he := ctsBeq_eq _ _ hcond.1.2
                subst ht
                subst he
                simp only [SVR] at h1
                obtain ⟨vals0, fps0, g1, g2, g3, g4⟩ := hc.objs id _ hob
                refine ⟨by simp only [muLen, List.length_cons, k1]; omega, ?_⟩
                intro x hx
                simp only [muObjs, List.headD_cons, List.tail_cons] at hx
                rcases List.mem_cons.1 hx with rfl | hx
                · refine ⟨_, hob, rfl, rfl, fun av β' hv hb him => ?_⟩
                  refine ⟨vals, fps, by rw [hv, ← h1.1]; exact o1, o2, by rw [InR_flat hcond.2 o2]; simp, ?_⟩
                  rw [g4, hv, InR_flat hcond.2 g2, InR_flat hcond.2 o2]
                · exact k2 x hx
          | box _ _ => simp at hq1
          | imm _ _ => simp at hq1
        | _ => simp at hq1

theorem mu_outs (hc : Core w0 S f h β φ tm w) {im0 : List Nat} : ∀ (ks : List AK) (ms : List (Option MK)) (ss : List SV) (vs : List Value) (q : List DC × Met × List MU) (od : List DC) (im : List Nat), SVRL w (Av h β) β ss vs → (argsMM ks ms ss).val f h = some q → MOuts w' ks ms od vs im → (∀ b ∈ im, b ∈ im0) →
    muLen q.2.2 = od.length ∧ ∀ x ∈ muObjs q.2.2 od, MuGood h β φ w' im0 x
  | [], ms, ss, vs, q, od, im, hs, hq, ho, _ => by
    cases ms with
    | nil =>
      cases ss with
      | nil =>
        simp only [argsMM, M.val_pure, Option.some.injEq] at hq
        subst hq
        simp only [MOuts] at ho
        rw [ho.1]
        exact ⟨rfl, by simp [muObjs]⟩
      | cons s ss => simp [argsMM] at hq
    | cons m ms => simp [argsMM] at hq
  | k :: ks, ms, ss, vs, q, od, im, hs, hq, ho, him => by
    simp only [MOuts] at ho
    obtain ⟨m, ms, d1, d2, v, l, i1, i2, rfl, rfl, rfl, o1, o2, rfl⟩ := ho
    cases ss with
    | nil => cases m with
      | none => simp [argsMM] at hq
      | some m => cases m <;> simp [argsMM] at hq
    | cons s ss =>
      simp only [SVRL] at hs
      obtain ⟨v0, l0, e0, h1, h2⟩ := hs
      simp only [List.cons.injEq] at e0
      obtain ⟨rfl, rfl⟩ := e0
      have him2 : ∀ b ∈ i2, b ∈ im0 := fun b hb => him b (List.mem_append_right _ hb)
      cases m with
      | none =>
        simp only [argsMM, M.val_bind, Option.bind_eq_some_iff, M.val_pure, Option.some.injEq] at hq
        obtain ⟨q1, hq1, q2, hq2, rfl⟩ := hq
        simp only [MOut] at o1
        obtain ⟨rfl, rfl⟩ := o1
        exact mu_outs hc ks ms ss l q2 d2 i2 h2 hq2 o2 him2
      | some m =>
        cases m with
        | box t =>
          cases s with
          | ptr id off =>
            cases off with
            | succ off => simp [argsMM] at hq
            | zero =>
              simp only [argsMM, M.val_obj, Option.bind_eq_some_iff] at hq
              obtain ⟨ob, hob, hq⟩ := hq
              cases ob with
              | box t' cells =>
                simp only at hq
                cases htt : Nat.beq t' t
                · simp [htt] at hq
                · have htt' := Nat.eq_of_beq_eq_true htt
                  subst htt'
                  simp only [htt, cond_true, M.val_bind, Option.bind_eq_some_iff] at hq
                  obtain ⟨q1, hq1, hq⟩ := hq
                  cases hem : q1.2.1.isEmpty
                  · simp [hem] at hq
                  · simp only [hem, cond_true, M.val_bind, Option.bind_eq_some_iff, M.val_pure, Option.some.injEq] at hq
                    obtain ⟨q2, hq2, rfl⟩ := hq
                    obtain ⟨k1, k2⟩ := mu_outs hc ks ms ss l q2 d2 i2 h2 hq2 o2 him2
                    obtain ⟨us0, g1, g2, g3, g4⟩ := hc.objs id _ hob
                    simp only [MOut] at o1
                    obtain ⟨g, us, ev, ow1, ow2, ow3, ow4⟩ := o1
                    simp only [SVR] at h1
                    have eg : g = β.blk id := by
                      rw [h1] at ev
                      simp only [Value.pointer.injEq, Option.some.injEq, Addr.mk.injEq, and_true] at ev
                      exact ev.symm
                    subst eg
                    have hd1 : d1.length = k.cts.length := RdL.length _ _ _ _ ow3
                    refine ⟨by simp only [muLen, List.length_append, k1, hd1], ?_⟩
                    intro x hx
                    simp only [muObjs] at hx
                    rw [ofDCs_app _ _ _ _ (by omega), ← hd1, List.drop_left] at hx
                    rcases List.mem_cons.1 hx with rfl | hx
                    · refine ⟨_, hob, rfl, svIds_ofDCs _ _ _, fun av β' hv hb him' => ?_⟩
                      obtain ⟨vs', l1, l2, l3, l4⟩ := RdL.svs (β := β') (av := av) ow3 (fun b hb => him' b (him b (List.mem_append_left _ hb))) k.cts.length 0 (by omega)
                      have ee : vs' = us := by
                        apply List.ext_getElem?
                        intro j
                        by_cases hj : j < vs'.length
                        · have := l2 j vs'[j] (by simp)
                          simp only [Nat.zero_add] at this
                          rw [this]
                          simp
                        · rw [List.getElem?_eq_none (by omega), List.getElem?_eq_none (by omega)]
                      subst ee
                      simp only [List.drop_zero, List.take_length] at l3
                      exact ⟨vs', by rw [hb]; exact ow1, l3, ow2, by rw [hb]; exact g4⟩
                    · exact k2 x hx
              | row _ _ _ _ _ => simp at hq
              | imm _ _ => simp at hq
          | _ => simp [argsMM] at hq
        | rows ts =>
          simp only [argsMM, M.val_bind, Option.bind_eq_some_iff, M.val_pure, Option.some.injEq] at hq
          obtain ⟨q1, hq1, q2, hq2, rfl⟩ := hq
          obtain ⟨k1, k2⟩ := mu_outs hc ks ms ss l q2 d2 i2 h2 hq2 o2 him2
          simp only [MOut] at o1
          obtain ⟨us, ev, o1, rfl⟩ := o1
          have one : muLen q1.2 = d1.length ∧ ∀ x ∈ muObjs q1.2 d1, MuGood h β φ w' im0 x := by
            cases hk : k.agg with
            | true =>
              cases s with
              | agg cs =>
                simp only [hk] at hq1
                simp only [SVR] at h1
                obtain ⟨us', rfl, hus, hone⟩ := h1
                rw [hk] at ev
                simp only [cond_true, Value.agg.injEq] at ev
                have : us' = us := by simpa using congrArg Array.toList ev
                subst this
                exact row_outs hc k.cts ts cs us' q1 d1 hus hq1 o1
              | _ => simp [hk] at hq1
            | false =>
              have hq1' : (rowCellsM k.cts ts [s]).val f h = some q1 := by
                cases s <;> simp only [hk] at hq1 <;> first | exact hq1 | (simp at hq1)
              rw [hk] at ev
              simp only [cond_false] at ev
              subst ev
              have hsing : SVRL w (Av h β) β [s] [v] := by simp only [SVRL]; exact ⟨v, [], rfl, h1, rfl⟩
              exact row_outs hc k.cts ts [s] [v] q1 d1 hsing hq1' o1
          refine ⟨?_, ?_⟩
          · have : ∀ (U V : List MU), muLen (U ++ V) = muLen U + muLen V := by
              intro U V
              induction U with
              | nil => simp [muLen]
              | cons x l ih => cases x <;> simp only [List.cons_append, muLen, ih] <;> omega
            simp only [this, List.length_append, k1, one.1]
          · intro x hx
            simp only at hx
            rw [muObjs_append _ _ _ _ one.1] at hx
            rcases List.mem_append.1 hx with hx | hx
            · exact one.2 x hx
            · exact k2 x hx

end
end Go.Proofs.Ytjknoknkbfhelaa.Vm
