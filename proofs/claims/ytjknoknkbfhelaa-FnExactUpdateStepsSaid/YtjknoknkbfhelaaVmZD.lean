/- The value machine: functions that write through parameters: what they are handed, what they leave. Conditions: the contracts of the context hold. -/
import Derived.Test.YtjknoknkbfhelaaVmZC
set_option linter.unusedVariables false
set_option linter.unusedSimpArgs false
namespace Go.Proofs.Ytjknoknkbfhelaa.Vm

def pid (i j : Nat) : Nat := newId (5000000 + i) j

/-- The cells of a parameter whose rows are written: each row an object. -/
def initCells (i : Nat) : Nat → List CT → List TypeId → List DC → List SV × List (Nat × VObj)
  | _, [], _, _ => ([], [])
  | j, .sl e :: cs, ts, ds =>
    let q := initCells i (j + 1) cs ts.tail ds.tail
    (.own (pid i j) :: q.1, (pid i j, .row (ts.headD 0) e (ds.headD default).asRows false true) :: q.2)
  | j, .int k :: cs, ts, ds => let q := initCells i (j + 1) cs ts ds.tail; (ofDC (.int k) (ds.headD default) :: q.1, q.2)
  | j, .bool :: cs, ts, ds => let q := initCells i (j + 1) cs ts ds.tail; (ofDC .bool (ds.headD default) :: q.1, q.2)
  | j, .str :: cs, ts, ds => let q := initCells i (j + 1) cs ts ds.tail; (ofDC .str (ds.headD default) :: q.1, q.2)

/-- Slots and objects at the beginning. -/
def initM : Nat → List AK → List (Option MK) → List DC → List (Nat × SV) × List (Nat × VObj)
  | _, [], _, _ => ([], [])
  | i, k :: ks, ms, ds =>
    let q := initM (i + 1) ks ms.tail (ds.drop k.cts.length)
    match ms.headD none with
    | none => ((i, bif k.agg then .agg (ofDCs k.cts ds 0) else (ofDCs k.cts ds 0).headD .unk) :: q.1, q.2)
    | some (.box t) => ((i, .ptr (pid i 0) 0) :: q.1, (pid i 0, .box t (ofDCs k.cts ds 0)) :: q.2)
    | some (.rows ts) =>
      let c := initCells i 0 k.cts ts ds
      ((i, bif k.agg then .agg c.1 else c.1.headD .unk) :: q.1, c.2 ++ q.2)

/-- What rows hold at the end; the objects. -/
def outCells : List CT → List TypeId → List SV → M (List DC × List Nat)
  | [], _, [] => .pure ([], [])
  | .sl e :: cs, t :: ts, s :: ss =>
    (match s with
      | .own id => .obj id fun
        | .row t' e' r false _ => bif Nat.beq t' t && ctsBeq e' e then .pure (.sl r, id) else .fail
        | _ => .fail
      | _ => .fail : M (DC × Nat)).bind fun q => (outCells cs ts ss).bind fun r => .pure (q.1 :: r.1, q.2 :: r.2)
  | .int _ :: cs, ts, _ :: ss => outCells cs ts ss
  | .bool :: cs, ts, _ :: ss => outCells cs ts ss
  | .str :: cs, ts, _ :: ss => outCells cs ts ss
  | _, _, _ => .fail

def outsM : Nat → List AK → List (Option MK) → M (List DC × List Nat)
  | _, [], [] => .pure ([], [])
  | i, _ :: ks, none :: ms => outsM (i + 1) ks ms
  | i, k :: ks, some (.box t) :: ms => .slot i fun
    | .ptr id 0 => .obj id fun
      | .box t' cells => bif Nat.beq t' t then
          (toDCs k.cts cells).bind fun r => bif r.2.1.isEmpty then (outsM (i + 1) ks ms).bind fun q => .pure (r.1 ++ q.1, id :: q.2) else .fail
        else .fail
      | _ => .fail
    | _ => .fail
  | i, k :: ks, some (.rows ts) :: ms => .slot i fun s =>
    (match k.agg, s with
      | true, .agg cs => outCells k.cts ts cs
      | true, _ => .fail
      | false, .agg _ => .fail
      | false, s => outCells k.cts ts [s]).bind fun r => (outsM (i + 1) ks ms).bind fun q => .pure (r.1 ++ q.1, r.2 ++ q.2)
  | _, _, _ => .fail

def finM (P : Program) (fn : Func) (s : Sum) (st : St) : Res :=
  match ((resSVs P fn.results.toList).bind fun l => (finVals s.rs l).bind fun q => (outsM 0 s.ps s.ms).bind fun r => .pure (q, r)).run st.get st.obj with
  | some (((ds, own, im), (od, ids)), _) => (st.ok && nodupN (own ++ ids), ds ++ od)
  | none => bad

/-- How many slots at the beginning are never written: up to the last parameter that is written through. -/
def loOf : List (Option MK) → Nat
  | [] => 0
  | m :: l => bif Nat.blt 0 (loOf l) then loOf l + 1 else bif m.isSome then 1 else 0

theorem loOf_lt : ∀ {l : List (Option MK)} {j : Nat} {m : MK}, l[j]? = some (some m) → j < loOf l
  | [], j, m, h => by simp at h
  | x :: l, 0, m, h => by
    simp only [List.getElem?_cons_zero, Option.some.injEq] at h
    subst h
    simp only [loOf]
    cases Nat.blt 0 (loOf l) <;> simp
  | x :: l, j + 1, m, h => by
    have := loOf_lt (l := l) (j := j) (m := m) (by simpa using h)
    simp only [loOf]
    have h0 : Nat.blt 0 (loOf l) = true := Nat.ble_eq_true_of_le (by omega)
    rw [h0]
    simp only [cond_true]
    omega

def runFM (P : Program) (Γ : Ctx) (A : List (Nat × Ann)) (N : Nat) (fn : Func) (s : Sum) (ds : List DC) : Res :=
  match fn.body with
  | some c => run P Γ A N c { n := fn.ntmps + loOf s.ms * 1099511627776, sl := (initM 0 s.ps s.ms ds).1, hp := (initM 0 s.ps s.ms ds).2, ok := true, ls := [], lm := [] } { nrm := finM P fn s, ext := fun _ _ => bad, ret := finM P fn s }
  | none => bad

section
variable {P : Program} {Γ : Ctx} {w0 : World} {S : Own} {A : List (Nat × Ann)} {N : Nat}
variable {f : Nat → SV} {h : Nat → Option VObj} {β : Env} {φ : Nat → List Nat} {tm : Array Value} {w : World}

theorem outCells_ok (hc : Core w0 S f h β φ tm w) : ∀ (cs : List CT) (ts : List TypeId) (ss : List SV) (us : List Value) (q : List DC × List Nat), SVRL w (Av h β) β ss us → (outCells cs ts ss).val f h = some q →
    RowsO w cs ts q.1 us ∧ ∀ (w1 : World) (ds : List DC) (mb : List Nat), RowsA w1 cs ts ds us mb → ∀ b ∈ mb, ∃ id ∈ q.2, ∃ o, h id = some o ∧ b ∈ tops β id o
  | [], ts, ss, us, q, hs, hq => by
    cases ss with
    | nil =>
      simp only [outCells, M.val_pure, Option.some.injEq] at hq
      subst hq
      simp only [SVRL] at hs
      refine ⟨⟨rfl, hs⟩, fun w1 ds mb hm b hb => ?_⟩
      simp only [RowsA] at hm
      rw [hm.2.2.2] at hb
      simp at hb
    | cons s ss => simp [outCells] at hq
  | .int k :: cs, ts, ss, us, q, hs, hq => by
    cases ss with
    | nil => simp [outCells] at hq
    | cons s ss =>
      simp only [SVRL] at hs
      obtain ⟨v, us', rfl, h1, h2⟩ := hs
      simp only [outCells] at hq
      obtain ⟨k1, k2⟩ := outCells_ok hc cs ts ss us' q h2 hq
      refine ⟨?_, fun w1 ds mb hm b hb => ?_⟩
      · simp only [RowsO]
        exact ⟨v, us', rfl, k1⟩
      · simp only [RowsA] at hm
        obtain ⟨d, ds', v', us1, rfl, e0, _, hm⟩ := hm
        simp only [List.cons.injEq] at e0
        obtain ⟨rfl, rfl⟩ := e0
        exact k2 w1 ds' mb hm b hb
  | .bool :: cs, ts, ss, us, q, hs, hq => by
    cases ss with
    | nil => simp [outCells] at hq
    | cons s ss =>
      simp only [SVRL] at hs
      obtain ⟨v, us', rfl, h1, h2⟩ := hs
      simp only [outCells] at hq
      obtain ⟨k1, k2⟩ := outCells_ok hc cs ts ss us' q h2 hq
      refine ⟨?_, fun w1 ds mb hm b hb => ?_⟩
      · simp only [RowsO]
        exact ⟨v, us', rfl, k1⟩
      · simp only [RowsA] at hm
        obtain ⟨d, ds', v', us1, rfl, e0, _, hm⟩ := hm
        simp only [List.cons.injEq] at e0
        obtain ⟨rfl, rfl⟩ := e0
        exact k2 w1 ds' mb hm b hb
  | .str :: cs, ts, ss, us, q, hs, hq => by
    cases ss with
    | nil => simp [outCells] at hq
    | cons s ss =>
      simp only [SVRL] at hs
      obtain ⟨v, us', rfl, h1, h2⟩ := hs
      simp only [outCells] at hq
      obtain ⟨k1, k2⟩ := outCells_ok hc cs ts ss us' q h2 hq
      refine ⟨?_, fun w1 ds mb hm b hb => ?_⟩
      · simp only [RowsO]
        exact ⟨v, us', rfl, k1⟩
      · simp only [RowsA] at hm
        obtain ⟨d, ds', v', us1, rfl, e0, _, hm⟩ := hm
        simp only [List.cons.injEq] at e0
        obtain ⟨rfl, rfl⟩ := e0
        exact k2 w1 ds' mb hm b hb
  | .sl el :: cs, ts, ss, us, q, hs, hq => by
    cases ts with
    | nil => cases ss <;> simp [outCells] at hq
    | cons t ts =>
      cases ss with
      | nil => simp [outCells] at hq
      | cons s ss =>
        simp only [SVRL] at hs
        obtain ⟨v, us', rfl, h1, h2⟩ := hs
        simp only [outCells, M.val_bind, Option.bind_eq_some_iff, M.val_pure, Option.some.injEq] at hq
        obtain ⟨q1, hq1, q2, hq2, rfl⟩ := hq
        obtain ⟨k1, k2⟩ := outCells_ok hc cs ts ss us' q2 h2 hq2
        cases s with
        | own id =>
          simp only [M.val_obj, Option.bind_eq_some_iff] at hq1
          obtain ⟨ob, hob, hq1⟩ := hq1
          cases ob with
          | row t' e' r fz u =>
            cases fz with
            | true => simp at hq1
            | false =>
              simp only at hq1
              cases hcond : Nat.beq t' t && ctsBeq e' el
              · simp [hcond] at hq1
              · simp only [hcond, cond_true, M.val_pure, Option.some.injEq] at hq1
                subst hq1
                simp only [Bool.and_eq_true] at hcond
                have ht := Nat.eq_of_beq_eq_true hcond.1
                have he := ctsBeq_eq _ _ hcond.2
                subst ht
                subst he
                simp only [SVR] at h1
                obtain ⟨vals, fps, g1, g2, _, _⟩ := hc.objs id _ hob
                refine ⟨?_, fun w1 ds mb hm b hb => ?_⟩
                · simp only [RowsO]
                  exact ⟨t', ts, r, q2.1, v, us', vals, fps, rfl, rfl, rfl, by rw [h1.1]; exact g1, g2, k1⟩
                · simp only [RowsA] at hm
                  obtain ⟨t1, ts1, rows, ds', v1, us1, vals1, fps1, mb', e1, rfl, e2, _, _, _, hm, rfl⟩ := hm
                  simp only [List.cons.injEq] at e1 e2
                  obtain ⟨rfl, rfl⟩ := e1
                  obtain ⟨rfl, rfl⟩ := e2
                  rcases List.mem_append.1 hb with hb | hb
                  · refine ⟨id, List.mem_cons_self .., _, hob, ?_⟩
                    simp only [tops]
                    rw [← h1.1]
                    exact hb
                  · obtain ⟨i, hi, o, ho⟩ := k2 w1 ds' mb' hm b hb
                    exact ⟨i, List.mem_cons_of_mem _ hi, o, ho⟩
          | box _ _ => simp at hq1
          | imm _ _ => simp at hq1
        | _ => simp at hq1

theorem outs_ok (hc : Core w0 S f h β φ tm w) : ∀ (i : Nat) (ks : List AK) (ms : List (Option MK)) (vs : List Value) (q : List DC × List Nat), (∀ (j : Nat) v m, vs[j]? = some v → ms[j]? = some (some m) → tm.getD (i + j) undef = v) → vs.length = ks.length → (outsM i ks ms).val f h = some q →
    ∃ im, MOuts w ks ms q.1 vs im ∧ (∀ b ∈ im, ¬ Av h β b) ∧ ∀ (w1 : World) (ds : List DC) (fp mb : List Nat), MArgs w1 ks ms ds vs fp mb → ∀ b ∈ mb, ∃ id ∈ q.2, ∃ o, h id = some o ∧ b ∈ tops β id o
  | i, [], ms, vs, q, hv, hl, hq => by
    cases ms with
    | nil =>
      simp only [outsM, M.val_pure, Option.some.injEq] at hq
      subst hq
      have hl : vs = [] := List.length_eq_zero_iff.1 hl
      subst hl
      refine ⟨[], ⟨rfl, rfl, rfl⟩, by simp, fun w1 ds fp mb hm b hb => ?_⟩
      simp only [MArgs] at hm
      rw [hm.2.2.2.2] at hb
      simp at hb
    | cons m ms => simp [outsM] at hq
  | i, k :: ks, ms, vs, q, hv, hl, hq => by
    cases ms with
    | nil => simp [outsM] at hq
    | cons m ms =>
      cases vs with
      | nil => simp at hl
      | cons v vs =>
        have hv' : ∀ (j : Nat) u m, vs[j]? = some u → ms[j]? = some (some m) → tm.getD (i + 1 + j) undef = u := fun j u m' hu hm => by
          have := hv (j + 1) u m' (by simpa using hu) (by simpa using hm)
          rw [show i + 1 + j = i + (j + 1) by omega]
          exact this
        have hl' : vs.length = ks.length := by simpa using hl
        have hslot := hc.slots i
        cases m with
        | none =>
          simp only [outsM] at hq
          obtain ⟨im, k1, k2, k3⟩ := outs_ok hc (i + 1) ks ms vs q hv' hl' hq
          refine ⟨im, ⟨none, ms, [], q.1, v, vs, [], im, rfl, rfl, rfl, ⟨rfl, rfl⟩, k1, rfl⟩, k2, fun w1 ds fp mb hm b hb => ?_⟩
          simp only [MArgs] at hm
          obtain ⟨m', ms', d1, d2, v', vs', f1, f2, b1, b2, e1, rfl, e2, ha, hm, rfl, rfl⟩ := hm
          simp only [List.cons.injEq] at e1 e2
          obtain ⟨rfl, rfl⟩ := e1
          obtain ⟨rfl, rfl⟩ := e2
          simp only [MArg] at ha
          rw [ha.2] at hb
          exact k3 w1 d2 f2 b2 hm b (by simpa using hb)
        | some m =>
          have hv0 : tm.getD i undef = v := hv 0 v m rfl rfl
          rw [hv0] at hslot
          cases m with
          | box t =>
            simp only [outsM, M.val_slot] at hq
            cases hsv : f i with
            | ptr id off =>
              rw [hsv] at hq hslot
              cases off with
              | succ off => simp at hq
              | zero =>
                simp only [M.val_obj, Option.bind_eq_some_iff] at hq
                obtain ⟨ob, hob, hq⟩ := hq
                cases ob with
                | box t' cells =>
                  simp only at hq
                  cases htt : Nat.beq t' t
                  · simp [htt] at hq
                  · have htt' := Nat.eq_of_beq_eq_true htt
                    subst htt'
                    simp only [htt, cond_true, M.val_bind, Option.bind_eq_some_iff] at hq
                    obtain ⟨q1, hq1, hq⟩ := hq
                    cases hem : q1.2.1.isEmpty
                    · simp [hem] at hq
                    · simp only [hem, cond_true, M.val_bind, Option.bind_eq_some_iff, M.val_pure, Option.some.injEq] at hq
                      obtain ⟨q2, hq2, rfl⟩ := hq
                      obtain ⟨im, k1, k2, k3⟩ := outs_ok hc (i + 1) ks ms vs q2 hv' hl' hq2
                      obtain ⟨us, g1, g2, g3, _⟩ := hc.objs id _ hob
                      obtain ⟨fp1, hr, hm1, hav1, _⟩ := toDCs_ok hc k.cts cells us q1 g2 hq1
                      have hlc := SVRL.length _ _ g2
                      have hl2 := toDCs_length _ _ _ hq1
                      simp only [SVR] at hslot
                      have hme : q1.2.1 = [] := List.isEmpty_iff.1 hem
                      refine ⟨fp1 ++ im, ⟨some (.box t'), ms, q1.1, q2.1, v, vs, fp1, im, rfl, rfl, rfl, ⟨β.blk id, us, hslot, g1, g3, hr, by omega⟩, k1, rfl⟩, ?_, fun w1 ds fp mb hm b hb => ?_⟩
                      · intro b hb
                        rcases List.mem_append.1 hb with hb | hb
                        · rcases hav1 b hb with h3 | ⟨x, hx, h3⟩
                          · exact h3
                          · rw [hme] at hx
                            simp at hx
                        · exact k2 b hb
                      · simp only [MArgs] at hm
                        obtain ⟨m', ms', d1, d2, v', vs', f1, f2, b1, b2, e1, rfl, e2, ha, hm, rfl, rfl⟩ := hm
                        simp only [List.cons.injEq] at e1 e2
                        obtain ⟨rfl, rfl⟩ := e1
                        obtain ⟨rfl, rfl⟩ := e2
                        simp only [MArg] at ha
                        obtain ⟨g, us1, ev, _, _, _, _, rfl⟩ := ha
                        rcases List.mem_append.1 hb with hb | hb
                        · refine ⟨id, List.mem_cons_self .., _, hob, ?_⟩
                          rw [hslot] at ev
                          simp only [Value.pointer.injEq, Option.some.injEq, Addr.mk.injEq, and_true] at ev
                          simp only [tops]
                          rw [ev]
                          exact hb
                        · obtain ⟨j, hj, o, ho⟩ := k3 w1 d2 f2 b2 hm b hb
                          exact ⟨j, List.mem_cons_of_mem _ hj, o, ho⟩
                | row _ _ _ _ _ => simp at hq
                | imm _ _ => simp at hq
            | _ => rw [hsv] at hq; simp at hq
          | rows ts =>
            simp only [outsM, M.val_slot, M.val_bind, Option.bind_eq_some_iff, M.val_pure, Option.some.injEq] at hq
            obtain ⟨q1, hq1, q2, hq2, rfl⟩ := hq
            obtain ⟨im, k1, k2, k3⟩ := outs_ok hc (i + 1) ks ms vs q2 hv' hl' hq2
            have one : ∃ us : List Value, (bif k.agg then v = .agg us.toArray else us = [v]) ∧ RowsO w k.cts ts q1.1 us ∧ ∀ (w1 : World) (ds : List DC) (mb : List Nat), RowsA w1 k.cts ts ds us mb → ∀ b ∈ mb, ∃ id ∈ q1.2, ∃ o, h id = some o ∧ b ∈ tops β id o := by
              cases hk : k.agg with
              | true =>
                generalize f i = s at hq1 hslot
                cases s with
                | agg cs =>
                  simp only [hk] at hq1
                  simp only [SVR] at hslot
                  obtain ⟨us, rfl, hus, hone⟩ := hslot
                  obtain ⟨r1, r2⟩ := outCells_ok hc k.cts ts cs us q1 hus hq1
                  exact ⟨us, rfl, r1, r2⟩
                | _ => simp [hk] at hq1
              | false =>
                generalize f i = s at hq1 hslot
                have hq1' : (outCells k.cts ts [s]).val f h = some q1 := by
                  cases s <;> simp only [hk] at hq1 <;> first | exact hq1 | (simp at hq1)
                have hsing : SVRL w (Av h β) β [s] [v] := by simp only [SVRL]; exact ⟨v, [], rfl, hslot, rfl⟩
                obtain ⟨r1, r2⟩ := outCells_ok hc k.cts ts [s] [v] q1 hsing hq1'
                exact ⟨[v], rfl, r1, r2⟩
            obtain ⟨us, hus, r1, r2⟩ := one
            refine ⟨im, ⟨some (.rows ts), ms, q1.1, q2.1, v, vs, [], im, rfl, rfl, rfl, ⟨us, hus, r1, rfl⟩, k1, rfl⟩, k2, fun w1 ds fp mb hm b hb => ?_⟩
            simp only [MArgs] at hm
            obtain ⟨m', ms', d1, d2, v', vs', f1, f2, b1, b2, e1, rfl, e2, ha, hm, rfl, rfl⟩ := hm
            simp only [List.cons.injEq] at e1 e2
            obtain ⟨rfl, rfl⟩ := e1
            obtain ⟨rfl, rfl⟩ := e2
            simp only [MArg] at ha
            obtain ⟨us1, hus1, _, ha, _⟩ := ha
            have hue : us1 = us := by
              cases hk : k.agg with
              | true =>
                rw [hk] at hus hus1
                simp only [cond_true] at hus hus1
                rw [hus] at hus1
                simp only [Value.agg.injEq] at hus1
                simpa using (congrArg Array.toList hus1).symm
              | false =>
                rw [hk] at hus hus1
                simp only [cond_false] at hus hus1
                rw [hus, hus1.1]
            subst hue
            rcases List.mem_append.1 hb with hb | hb
            · obtain ⟨j, hj, o, ho⟩ := r2 w1 d1 b1 ha b hb
              exact ⟨j, List.mem_append_left _ hj, o, ho⟩
            · obtain ⟨j, hj, o, ho⟩ := k3 w1 d2 f2 b2 hm b hb
              exact ⟨j, List.mem_append_right _ hj, o, ho⟩

end
end Go.Proofs.Ytjknoknkbfhelaa.Vm
