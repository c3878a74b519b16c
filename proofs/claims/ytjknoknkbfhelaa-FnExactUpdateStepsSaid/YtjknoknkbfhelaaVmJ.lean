/- The value machine: struct literals and conversions that make nothing. Conditions: as each lemma says. -/
import Derived.Test.YtjknoknkbfhelaaVmI
import Derived.Laws.Tables
namespace Go.Proofs.Ytjknoknkbfhelaa.Vm

theorem set_run (off : Nat) : ∀ (vs : List Value) (k : Nat) (cs : Array Value), off + k + vs.length ≤ cs.size →
    ((vs.zipIdx k).foldl (fun cs (x : Value × Nat) => cs.setIfInBounds (off + x.2) x.1) cs).toList = cs.toList.take (off + k) ++ (vs ++ cs.toList.drop (off + k + vs.length))
  | [], k, cs, h => by simp
  | v :: vs, k, cs, h => by
    simp only [List.zipIdx_cons, List.foldl_cons]
    simp only [List.length_cons] at h
    rw [set_run off vs (k + 1) _ (by simp; omega)]
    have e1 : (cs.setIfInBounds (off + k) v).toList = cs.toList.set (off + k) v := by simp
    have hl : off + k < cs.toList.length := by simp; omega
    rw [e1]
    have e2 : (cs.toList.set (off + k) v).take (off + (k + 1)) = cs.toList.take (off + k) ++ [v] := by
      rw [← Nat.add_assoc, List.take_succ_eq_append_getElem (by simpa using hl), List.take_set_of_le (Nat.le_refl _)]
      simp
    have e3 : (cs.toList.set (off + k) v).drop (off + (k + 1) + vs.length) = cs.toList.drop (off + k + (vs.length + 1)) := by
      rw [List.drop_set_of_lt (by omega)]
      congr 1
      omega
    rw [e2, e3]
    simp

theorem fill_cons {place : Nat → Option (Nat × Nat)} {cells : Array Value} {i off : Nat} {v : Value} {rest : List (Nat × Value)} (hp : place i = some (off, v.cells.size)) (hl : off + v.cells.size ≤ cells.size) :
    Instr.fill place cells ((i, v) :: rest) = Instr.fill place (cells.toList.take off ++ (v.cells.toList ++ cells.toList.drop (off + v.cells.size))).toArray rest := by
  have h1 : (v.cells.zipIdx.foldl (fun cs (x : Value × Nat) => cs.setIfInBounds (off + x.2) x.1) cells) = (cells.toList.take off ++ (v.cells.toList ++ cells.toList.drop (off + v.cells.size))).toArray := by
    apply Array.toList_inj.1
    rw [← Array.foldl_toList, Array.toList_zipIdx]
    have := set_run off v.cells.toList 0 cells (by simpa using hl)
    simpa using this
  simp only [Instr.fill, hp]
  rw [if_neg (by simp; omega)]
  exact congrArg (fun x => Instr.fill place x rest) h1

section
variable {P : Program} {Γ : Ctx} {w0 : World} {S : Own} {st : St} {o : Oper} {e : Eff} {a : Act} {w : World}

/-- The cells of a value, as the machine and as the model have them. -/
theorem cells_ok {av : Nat → Prop} {β : Env} {f : Nat → SV} {h : Nat → Option VObj} {s : SV} {v : Value} {cs : List SV} (hs : SVR w av β s v) (hc : (cellsOfSV s).val f h = some cs) :
    SVRL w av β cs v.cells.toList ∧ ∀ x ∈ v.cells.toList, x.oneCell' = true := by
  have single : v.oneCell' = true → cs = [s] → SVRL w av β cs v.cells.toList ∧ ∀ x ∈ v.cells.toList, x.oneCell' = true := by
    intro hone hcs
    have hcells : v.cells = #[v] := by cases v <;> first | rfl | (simp [Value.oneCell'] at hone)
    rw [hcells, hcs]
    simp only [List.mem_singleton, forall_eq, SVRL]
    exact ⟨⟨v, [], rfl, hs, rfl⟩, hone⟩
  cases s with
  | unk => simp [cellsOfSV] at hc
  | undef => simp [cellsOfSV] at hc
  | tup l => simp [cellsOfSV] at hc
  | agg l =>
    simp only [cellsOfSV, M.val_pure, Option.some.injEq] at hc
    subst hc
    simp only [SVR] at hs
    obtain ⟨vs, rfl, h1, h2⟩ := hs
    simpa [Value.cells] using ⟨h1, h2⟩
  | kb b => simp only [cellsOfSV, M.val_pure, Option.some.injEq] at hc; exact single (by simp only [SVR] at hs; subst hs; rfl) hc.symm
  | int k n => simp only [cellsOfSV, M.val_pure, Option.some.injEq] at hc; exact single (by simp only [SVR] at hs; rw [hs.1]; rfl) hc.symm
  | bool b => simp only [cellsOfSV, M.val_pure, Option.some.injEq] at hc; exact single (by simp only [SVR] at hs; subst hs; rfl) hc.symm
  | str b => simp only [cellsOfSV, M.val_pure, Option.some.injEq] at hc; exact single (by simp only [SVR] at hs; rw [hs.1]; rfl) hc.symm
  | sl e r => simp only [cellsOfSV, M.val_pure, Option.some.injEq] at hc; exact single (by simp only [SVR] at hs; obtain ⟨fp, hr, _⟩ := hs; exact hr.one) hc.symm
  | nil => simp only [cellsOfSV, M.val_pure, Option.some.injEq] at hc; exact single (by simp only [SVR] at hs; subst hs; rfl) hc.symm
  | own id => simp only [cellsOfSV, M.val_pure, Option.some.injEq] at hc; exact single (by simp only [SVR] at hs; exact hs.2) hc.symm
  | ptr id off => simp only [cellsOfSV, M.val_pure, Option.some.injEq] at hc; exact single (by simp only [SVR] at hs; subst hs; rfl) hc.symm
  | eimm e r off => simp only [cellsOfSV, M.val_pure, Option.some.injEq] at hc; exact single (by simp only [SVR] at hs; obtain ⟨b, o, fp, hv, _⟩ := hs; subst hv; rfl) hc.symm
  | eown id i z off => simp only [cellsOfSV, M.val_pure, Option.some.injEq] at hc; exact single (by simp only [SVR] at hs; obtain ⟨g, _, hv⟩ := hs; subst hv; rfl) hc.symm

theorem ofConsts_ok {av : Nat → Prop} {β : Env} : ∀ (l : List Value), SVRL w av β (l.map ofConst) l
  | [] => by simp [SVRL]
  | v :: l => by
    simp only [List.map_cons, SVRL]
    exact ⟨v, l, rfl, ofConst_ok v, ofConsts_ok l⟩

theorem places_at {fs : Array Field} {places : List (Nat × Nat)} (h : fs.toList.mapM (fun f => (P.info? f.type).map fun i => (f.offset, i.size)) = some places) {i : Nat} {f : Field} (hf : fs[i]? = some f) :
    ∃ ti, P.info? f.type = some ti ∧ places.toArray[i]? = some (f.offset, ti.size) := by
  have hf' : fs.toList[i]? = some f := by simpa using hf
  clear hf
  generalize fs.toList = l at h hf'
  induction l generalizing places i with
  | nil => simp at hf'
  | cons g l ih =>
    simp only [List.mapM_cons, Option.bind_eq_bind, Option.pure_def] at h
    cases hi : P.info? g.type with
    | none => simp [hi] at h
    | some ti =>
      cases hr : l.mapM (fun f => (P.info? f.type).map fun i => (f.offset, i.size)) with
      | none => simp [hi, hr] at h
      | some rest =>
        simp [hi, hr] at h
        subst h
        cases i with
        | zero =>
          simp at hf'
          subst hf'
          exact ⟨ti, hi, by simp⟩
        | succ i =>
          obtain ⟨tj, h1, h2⟩ := ih hr (by simpa using hf')
          exact ⟨tj, h1, by simpa using h2⟩

theorem buildM_ok {β : Env} {φ : Nat → List Nat} (hc : Core w0 S st.get st.obj β φ a.tmps w) {fs : Array Field} {places : List (Nat × Nat)}
    (hp : fs.toList.mapM (fun f => (P.info? f.type).map fun i => (f.offset, i.size)) = some places) :
    ∀ (parts : List (Nat × Operand)) (cells : List SV) (cs : List SV) (vs : List Value), (buildM P fs parts cells).val st.get st.obj = some cs → SVRL w (Av st.obj β) β cells vs → (∀ x ∈ vs, x.oneCell' = true) →
    ∃ us : List Value, Instr.fill (places.toArray[·]?) vs.toArray (parts.map fun x => (x.1, a.eval x.2)) = some us.toArray ∧ SVRL w (Av st.obj β) β cs us ∧ ∀ x ∈ us, x.oneCell' = true
  | [], cells, cs, vs, hb, hr, h1 => by
    simp only [buildM, M.val_pure, Option.some.injEq] at hb
    subst hb
    exact ⟨vs, by simp [Instr.fill], hr, h1⟩
  | (i, x) :: rest, cells, cs, vs, hb, hr, h1 => by
    simp only [buildM] at hb
    split at hb
    · rename_i f hf
      simp only [M.val_bind, Option.bind_eq_some_iff] at hb
      obtain ⟨s, hs, ccs, hcc, hb⟩ := hb
      cases hz : sizeB P f.type ccs.length && Nat.ble (f.offset + ccs.length) cells.length
      · simp [hz] at hb
      simp only [hz, cond_true] at hb
      simp only [Bool.and_eq_true] at hz
      obtain ⟨ti, hti, hpl⟩ := places_at hp hf
      obtain ⟨ti', hti', hsz⟩ := sizeB_size hz.1
      rw [hti] at hti'
      injection hti' with hti'
      subst hti'
      have hle := Nat.le_of_ble_eq_true hz.2
      obtain ⟨hcs, hone⟩ := cells_ok (hc.ev hs) hcc
      have hlen := SVRL.length _ _ hr
      have hlen2 := SVRL.length _ _ hcs
      have hsize : (a.eval x).cells.size = ti.size := by simpa [hsz] using hlen2
      have hfit : f.offset + (a.eval x).cells.size ≤ vs.toArray.size := by simp; omega
      have hnew : SVRL w (Av st.obj β) β (cells.take f.offset ++ (ccs ++ cells.drop (f.offset + ccs.length))) (vs.take f.offset ++ ((a.eval x).cells.toList ++ vs.drop (f.offset + (a.eval x).cells.size))) := by
        refine SVRL.append _ _ _ _ (SVRL.take _ _ _ hr) (SVRL.append _ _ _ _ hcs ?_)
        have : ccs.length = (a.eval x).cells.size := by simpa using hlen2.symm
        rw [this]
        exact SVRL.drop _ _ _ hr
      obtain ⟨us, hfill, hus, hone'⟩ := buildM_ok hc hp rest _ cs _ hb hnew (by
        intro y hy
        simp only [List.mem_append] at hy
        rcases hy with hy | hy | hy
        · exact h1 y (List.mem_of_mem_take hy)
        · exact hone y hy
        · exact h1 y (List.mem_of_mem_drop hy))
      refine ⟨us, ?_, hus, hone'⟩
      simp only [List.map_cons]
      rw [fill_cons (off := f.offset) (by rw [hsize]; exact hpl) hfit]
      simpa using hfill
    · simp at hb

theorem zeroM_ok {f : Nat → SV} {h : Nat → Option VObj} {t : TypeId} {z : List SV} (hz : (zeroM P t).val f h = some z) :
    ∃ i zv, P.info? t = some i ∧ i.zero = some zv ∧ z = zv.cells.toList.map ofConst ∧ ∀ x ∈ zv.cells.toList, x.oneCell' = true := by
  unfold zeroM at hz
  split at hz
  · rename_i i hi
    split at hz
    · rename_i zv hzv
      cases ha : zv.cells.toList.all (·.oneCell')
      · simp [ha] at hz
      · simp only [ha, cond_true, M.val_pure, Option.some.injEq] at hz
        exact ⟨i, zv, hi, hzv, hz.symm, fun x hx => List.all_eq_true.1 ha x hx⟩
    · simp at hz
  · simp at hz

theorem sound_build (hR : Rel w0 S st a w) (hd : ∀ d, o.dst = some d → DstOk st.n d) {t : TypeId} {parts : Array (Nat × Operand)} (ho : o.op = .build t parts) {fs : Array Field} {places : List (Nat × Nat)} {z cs : List SV}
    (hu : P.underlying t = some (.struct fs)) (hp : fs.toList.mapM (fun f => (P.info? f.type).map fun i => (f.offset, i.size)) = some places)
    (hz : (zeroM P t).val st.get st.obj = some z) (hb : (buildM P fs parts.toList z).val st.get st.obj = some cs) (he : e = { sv := .agg cs }) : Good P w0 S st o e a w := by
  subst he
  refine good_pure hR hd rfl rfl fun β φ hc => ?_
  obtain ⟨i, zv, hi, hzv, rfl, hone⟩ := zeroM_ok hz
  obtain ⟨us, hfill, hus, hone'⟩ := buildM_ok hc hp parts.toList _ cs _ hb (ofConsts_ok zv.cells.toList) hone
  refine ⟨.agg us.toArray, ?_, by unfold SVR; exact ⟨us, rfl, hus, hone'⟩⟩
  have hbuilt : P.built t (parts.map fun x => (x.1, a.eval x.2)).toList = some us.toArray := by
    simp only [Program.built, hi, hu, hzv, hp]
    simpa using hfill
  have := run_build (P := P) w t (parts.map fun x => (x.1, a.eval x.2)) us.toArray hbuilt
  simp [execOp, ho, this]

end

end Go.Proofs.Ytjknoknkbfhelaa.Vm
