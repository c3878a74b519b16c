/- The value machine: calls, every operation, regions in every order. Conditions: as each lemma says. -/
import Derived.Test.YtklbgnodgnlebaaVb
import Derived.ArgAppend

/- The value machine: calls by contract; every operation. Conditions: as each lemma says. -/
namespace Go.Proofs.Ytklbgnodgnlebaa.Vm

section
variable {P : Program} {Γ : Ctx} {w0 : World} {S : Own} {st : St} {o : Oper} {e : Eff} {a : Act} {w : World}
variable {f : Nat → SV} {h : Nat → Option VObj} {β : Env} {φ : Nat → List Nat} {tm : Array Value}

theorem ResL.length {w : World} : ∀ (rcs : List RC) (ds : List DC) (vs : List Value) (φ im tp : List Nat), ResL w rcs ds vs φ im tp → ds.length = rcs.length
  | [], ds, vs, φ, im, tp, h => by simp only [ResL] at h; simp [h.1]
  | .imm c :: cs, ds, vs, φ, im, tp, h => by
    simp only [ResL] at h
    obtain ⟨d, ds', v, vs', f1, im', rfl, _, _, h1, _⟩ := h
    simp [ResL.length cs ds' vs' _ _ _ h1]
  | .own t e :: cs, ds, vs, φ, im, tp, h => by
    simp only [ResL] at h
    obtain ⟨rows, ds', v, vs', vals, fps, φ', tp', rfl, _, _, _, h1, _⟩ := h
    simp [ResL.length cs ds' vs' _ _ _ h1]
  | .deep t e ts :: cs, ds, vs, φ, im, tp, h => by
    simp only [ResL] at h
    obtain ⟨rows, ds', v, vs', vals, mbs, φ', tp', rfl, _, _, _, h1, _⟩ := h
    simp [ResL.length cs ds' vs' _ _ _ h1]

theorem resCells_ok {w' : World} {d : Nat} : ∀ (rcs : List RC) (k : Nat) (ds : List DC) (vs : List Value) (φ im tp : List Nat), ResL w' rcs ds vs φ im tp →
    ∃ N : List NewRow, (resCells d k rcs ds).2 = rowsOw N ∧ N.map (·.id) = (List.range' k (ownCount rcs)).map (newId d) ∧ (∀ x ∈ N, x.ok w') ∧ N.flatMap NewRow.blks = φ ∧ N.flatMap NewRow.tops = tp ∧
      ∀ (av : Nat → Prop) (β' : Env), (∀ x ∈ N, β'.val x.id = x.v) → (∀ b ∈ im, ¬ av b) → SVRL w' av β' (resCells d k rcs ds).1 vs
  | [], k, ds, vs, φ, im, tp, h => by
    simp only [ResL] at h
    obtain ⟨rfl, rfl, rfl, rfl, rfl⟩ := h
    exact ⟨[], rfl, rfl, by simp, rfl, rfl, by simp [resCells, SVRL]⟩
  | .imm c :: cs, k, ds, vs, φ, im, tp, h => by
    simp only [ResL] at h
    obtain ⟨x, ds', v, vs', f1, im', rfl, rfl, h1, h2, rfl⟩ := h
    obtain ⟨N, e1, e2, e3, e4, e5, e6⟩ := resCells_ok cs k ds' vs' φ im' tp h2
    refine ⟨N, by simpa [resCells] using e1, by simpa [ownCount] using e2, e3, e4, e5, fun av β' hβ hav => ?_⟩
    simp only [resCells, List.headD_cons, List.tail_cons, SVRL]
    exact ⟨v, vs', rfl, ofDC_ok h1 (fun b hb => hav b (List.mem_append_left _ hb)), e6 av β' hβ (fun b hb => hav b (List.mem_append_right _ hb))⟩
  | .own t e :: cs, k, ds, vs, φ, im, tp, h => by
    simp only [ResL] at h
    obtain ⟨rows, ds', v, vs', vals, fps, φ', tp', rfl, rfl, h1, h2, h3, rfl, rfl⟩ := h
    obtain ⟨N, e1, e2, e3, e4, e5, e6⟩ := resCells_ok cs (k + 1) ds' vs' φ' im tp' h3
    refine ⟨⟨newId d k, t, e, rows, v, fps, none⟩ :: N, ?_, ?_, ?_, ?_, ?_, fun av β' hβ hav => ?_⟩
    · simp [resCells, rowsOw, NewRow.obj, DC.asRows] at e1 ⊢
      exact e1
    · simp only [List.map_cons, ownCount, List.range'_succ, e2]
    · intro x hx
      rcases List.mem_cons.1 hx with rfl | hx
      · exact ⟨vals, h1, h2⟩
      · exact e3 x hx
    · simp [List.flatMap_cons, e4, NewRow.blks]
    · simp [List.flatMap_cons, e5, NewRow.tops]
    · simp only [resCells, List.headD_cons, List.tail_cons, SVRL]
      refine ⟨v, vs', rfl, ?_, e6 av β' (fun x hx => hβ x (List.mem_cons_of_mem _ hx)) hav⟩
      simp only [SVR]
      exact ⟨(hβ _ (List.mem_cons_self ..)).symm, h1.one⟩
  | .deep t e ts :: cs, k, ds, vs, φ, im, tp, h => by
    simp only [ResL] at h
    obtain ⟨rows, ds', v, vs', vals, mbs, φ', tp', rfl, rfl, h1, h2, h3, rfl, rfl⟩ := h
    obtain ⟨N, e1, e2, e3, e4, e5, e6⟩ := resCells_ok cs (k + 1) ds' vs' φ' im tp' h3
    refine ⟨⟨newId d k, t, e, rows, v, mbs, some ts⟩ :: N, ?_, ?_, ?_, ?_, ?_, fun av β' hβ hav => ?_⟩
    · simp [resCells, rowsOw, NewRow.obj, DC.asRows] at e1 ⊢
      exact e1
    · simp only [List.map_cons, ownCount, List.range'_succ, e2]
    · intro x hx
      rcases List.mem_cons.1 hx with rfl | hx
      · exact ⟨vals, h1, h2⟩
      · exact e3 x hx
    · simp [List.flatMap_cons, e4, NewRow.blks]
    · simp [List.flatMap_cons, e5, NewRow.tops, NewRow.blks]
    · simp only [resCells, List.headD_cons, List.tail_cons, SVRL]
      refine ⟨v, vs', rfl, ?_, e6 av β' (fun x hx => hβ x (List.mem_cons_of_mem _ hx)) hav⟩
      simp only [SVR]
      exact ⟨(hβ _ (List.mem_cons_self ..)).symm, h1.one⟩

theorem resVals_ok {w' : World} {d : Nat} : ∀ (rks : List RK) (k : Nat) (ds : List DC) (vs : List Value) (φ im tp : List Nat), ResV w' rks ds vs φ im tp →
    ∃ N : List NewRow, (resVals d k rks ds).2 = rowsOw N ∧ N.map (·.id) = (List.range' k (ownTotal rks)).map (newId d) ∧ (∀ x ∈ N, x.ok w') ∧ N.flatMap NewRow.blks = φ ∧ N.flatMap NewRow.tops = tp ∧
      ∀ (av : Nat → Prop) (β' : Env), (∀ x ∈ N, β'.val x.id = x.v) → (∀ b ∈ im, ¬ av b) → SVRL w' av β' (resVals d k rks ds).1 vs
  | [], k, ds, vs, φ, im, tp, h => by
    simp only [ResV] at h
    obtain ⟨rfl, rfl, rfl, rfl, rfl⟩ := h
    exact ⟨[], rfl, rfl, by simp, rfl, rfl, by simp [resVals, SVRL]⟩
  | r :: rs, k, ds, vs, φ, im, tp, h => by
    simp only [ResV] at h
    obtain ⟨d1, d2, v, vs', us, φ1, φ2, i1, i2, t1, t2, rfl, rfl, hv, hone, h1, h2, rfl, rfl, rfl⟩ := h
    have hl := ResL.length _ _ _ _ _ _ h1
    obtain ⟨N1, a1, a2, a3, a4, a5, a6⟩ := resCells_ok (d := d) r.cells k d1 us φ1 i1 t1 h1
    obtain ⟨N2, b1, b2, b3, b4, b5, b6⟩ := resVals_ok (d := d) rs (k + ownCount r.cells) d2 vs' φ2 i2 t2 h2
    have ht : (d1 ++ d2).take r.cells.length = d1 := by rw [← hl]; simp
    have hdr : (d1 ++ d2).drop r.cells.length = d2 := by rw [← hl]; simp
    refine ⟨N1 ++ N2, ?_, ?_, ?_, by simp [a4, b4], by simp [a5, b5], fun av β' hβ hav => ?_⟩
    · simp only [resVals, ht, hdr, a1, b1, rowsOw, List.map_append]
    · rw [List.map_append, a2, b2, ← List.map_append, List.range'_append_1]
      rfl
    · intro x hx
      rcases List.mem_append.1 hx with hx | hx
      · exact a3 x hx
      · exact b3 x hx
    · have s1 := a6 av β' (fun x hx => hβ x (List.mem_append_left _ hx)) (fun b hb => hav b (List.mem_append_left _ hb))
      have s2 := b6 av β' (fun x hx => hβ x (List.mem_append_right _ hx)) (fun b hb => hav b (List.mem_append_right _ hb))
      simp only [resVals, ht, hdr, SVRL]
      refine ⟨v, vs', rfl, ?_, s2⟩
      cases hagg : r.agg with
      | true =>
        rw [hagg, cond_true] at hv
        subst hv
        simp only [cond_true, SVR]
        exact ⟨us, rfl, s1, hone⟩
      | false =>
        rw [hagg, cond_false] at hv
        subst hv
        simp only [cond_false]
        generalize (resCells d k r.cells d1).1 = q at s1
        cases q with
        | nil => simp [SVRL] at s1
        | cons y l =>
          simp only [SVRL] at s1
          obtain ⟨v', l', e1, e2, _⟩ := s1
          injection e1 with e1
          subst e1
          simpa using e2

theorem ArgsR.lt {w : World} : ∀ (ks : List AK) (ds : List DC) (vs : List Value) (fp : List Nat), ArgsR w ks ds vs fp → ∀ b ∈ fp, b < w.heap.size
  | [], ds, vs, fp, h => by simp only [ArgsR] at h; simp [h.2.2]
  | k :: ks, ds, vs, fp, h => by
    simp only [ArgsR] at h
    obtain ⟨d1, d2, v, vs', f1, f2, rfl, rfl, ⟨us, _, _, hr, _⟩, h2, rfl⟩ := h
    intro b hb
    rcases List.mem_append.1 hb with hb | hb
    · exact RdL.lt _ _ _ _ hr b hb
    · exact ArgsR.lt ks d2 vs' f2 h2 b hb

theorem ResL.noimm {w : World} : ∀ (rcs : List RC) (ds : List DC) (vs : List Value) (φ im tp : List Nat), immSl rcs = false → ResL w rcs ds vs φ im tp → im = []
  | [], ds, vs, φ, im, tp, _, h => by simp only [ResL] at h; exact h.2.2.2.1
  | .imm c :: cs, ds, vs, φ, im, tp, hn, h => by
    simp only [ResL] at h
    obtain ⟨d, ds', v, vs', f1, im', rfl, _, h1, h2, rfl⟩ := h
    have : f1 = [] ∧ immSl cs = false := by
      cases c with
      | int k => simp only [RdC] at h1; obtain ⟨n, _, _, _, e⟩ := h1; exact ⟨e, by simpa [immSl] using hn⟩
      | bool => simp only [RdC] at h1; obtain ⟨n, _, _, e⟩ := h1; exact ⟨e, by simpa [immSl] using hn⟩
      | str => simp only [RdC] at h1; obtain ⟨n, _, _, _, e⟩ := h1; exact ⟨e, by simpa [immSl] using hn⟩
      | sl e => simp [immSl] at hn
    rw [this.1, ResL.noimm cs ds' vs' _ _ _ this.2 h2]
    rfl
  | .own t e :: cs, ds, vs, φ, im, tp, hn, h => by
    simp only [ResL] at h
    obtain ⟨rows, ds', v, vs', vals, fps, φ', tp', rfl, _, _, _, h1, _⟩ := h
    exact ResL.noimm cs ds' vs' _ _ _ (by simpa [immSl] using hn) h1
  | .deep t e ts :: cs, ds, vs, φ, im, tp, hn, h => by
    simp only [ResL] at h
    obtain ⟨rows, ds', v, vs', vals, mbs, φ', tp', rfl, _, _, _, h1, _⟩ := h
    exact ResL.noimm cs ds' vs' _ _ _ (by simpa [immSl] using hn) h1

theorem ResV.noimm {w : World} : ∀ (rks : List RK) (ds : List DC) (vs : List Value) (φ im tp : List Nat), (rks.any fun r => immSl r.cells) = false → ResV w rks ds vs φ im tp → im = []
  | [], ds, vs, φ, im, tp, _, h => by simp only [ResV] at h; exact h.2.2.2.1
  | r :: rs, ds, vs, φ, im, tp, hn, h => by
    simp only [ResV] at h
    obtain ⟨d1, d2, v, vs', us, φ1, φ2, i1, i2, t1, t2, rfl, rfl, _, _, h1, h2, _, rfl, _⟩ := h
    simp only [List.any_cons, Bool.or_eq_false_iff] at hn
    rw [ResL.noimm _ _ _ _ _ _ hn.1 h1, ResV.noimm rs d2 vs' _ _ _ hn.2 h2]
    rfl

theorem evMs_ok (hc : Core w0 S st.get st.obj β φ a.tmps w) : ∀ (xs : List Operand) (ss : List SV), (evMs xs).val st.get st.obj = some ss → SVRL w (Av st.obj β) β ss (xs.map a.eval)
  | [], ss, h => by simp [evMs] at h; subst h; simp [SVRL]
  | x :: xs, ss, h => by
    simp only [evMs, M.val_bind, Option.bind_eq_some_iff, M.val_pure, Option.some.injEq] at h
    obtain ⟨s, h1, r, h2, rfl⟩ := h
    simp only [List.map_cons, SVRL]
    exact ⟨_, _, rfl, hc.ev h1, evMs_ok hc xs r h2⟩

theorem run_call {c : Call} {g : Nat} {fn : Func} (ho : o.op = .call c) (hg : c.callee = .value (.func g)) (hf : P.funcs[g]? = some fn) (hb : fn.body.isSome = true) (hn : (fn.name == "runtime.NumGoroutine") = false) :
    (execOp a.eval o).run P w = .ok (.enter g (c.args.map a.eval)) w := by
  have hb' : fn.body.isNone = false := by cases h : fn.body <;> simp_all
  simp only [execOp, ho, resolve, hg, Act.eval, Deferred.ofValue, Sem.run_bind, Sem.run_pure, Result.andThen_ok, invoke, callFunc, run_program, hf, hn, hb', Bool.false_eq_true, if_false]
  simp

theorem sound_call (hΓ : CtxHolds P Γ) {s : Sum} {g : Nat} (hs : lkS Γ g = some s) (hann : s.ann = false) (hpt : s.pt = none) (hms : s.ms = []) (hR : Rel w0 S st a w) {d : Nat} (hdst : o.dst = some d) (hd : DstOk st.n d) (hfr : e.ow ≠ [] → FreshAt st d) {c : Call} (ho : o.op = .call c) (hg : c.callee = .value (.func g)) {l : List SV}
    (hl : (evMs c.args.toList).val st.get st.obj = some l) (he : (callM Γ (some d) g l).val st.get st.obj = some e) (hok : e.ok = true) : Good P w0 S st o e a w := by
  unfold callM at he
  rw [hs] at he
  simp only [hann, cond_false, hpt, hms] at he
  cases h64 : Nat.blt (ownTotal s.rs) 64
  · simp [h64] at he
  simp only [h64, cond_true, M.val_bind, Option.bind_eq_some_iff] at he
  obtain ⟨r, hr, he⟩ := he
  cases hsm : (!(shares s) || metNodup r.2)
  · simp [hsm] at he
  simp only [hsm, cond_true, M.val_pure, Option.some.injEq] at he
  subst he
  have h64 : ownTotal s.rs < 64 := Nat.le_of_ble_eq_true h64
  have hH : Holds P g s := by have h0 := hΓ g s hs; unfold HoldsAny at h0; rw [hann, cond_false, hpt] at h0; simp only [hms] at h0; exact h0
  obtain ⟨⟨fn, hf, hb, hn⟩, hcalls⟩ := hH
  obtain ⟨β, φ, hc⟩ := hR.core
  obtain ⟨fp, hargs, hmet, hfav⟩ := argsM_ok hc s.ps l _ r (evMs_ok hc _ l hl) hr
  have hfplt := ArgsR.lt _ _ _ _ hargs
  intro Q
  unfold Oper.wp
  rw [run_call ho hg hf hb hn, Oper.upon_enter]
  have hvals : c.args.map a.eval = (c.args.toList.map a.eval).toArray := by rw [← Array.toList_map, Array.toArray_toList]
  rw [hvals]
  refine (hcalls w r.1 _ fp hargs hok).mono ?_
  rintro _ w' ⟨vs, φs, im, tp, rfl, hk, hres, hnd, hal, him⟩
  obtain ⟨N, n1, n2, n3, n4, n5, n6⟩ := resVals_ok (d := d) s.rs 0 _ vs φs im tp hres
  -- the rows that are met are written no more where the results may lie in them
  let M' : Met := bif shares s then r.2 else []
  have hM : MetOk st.obj M' ∧ metNodup M' = true := by
    cases hsh : shares s with
    | true =>
      have : M' = r.2 := by simp [M', hsh]
      rw [this]
      exact ⟨hmet, by simpa [hsh] using hsm⟩
    | false =>
      have : M' = [] := by simp [M', hsh]
      rw [this]
      exact ⟨by simp [MetOk], rfl⟩
  have hfz : (bif shares s then metFreeze r.2 else []) = metFreeze M' := by cases hsh : shares s <;> simp [M', hsh, metFreeze]
  have hc1 := hc.freezes M' hM.1 hM.2
  have hids : ∀ x ∈ N, x.id / 64 = d ∧ x.id ∈ N.map (·.id) := by
    intro x hx
    have hm : x.id ∈ N.map (·.id) := List.mem_map_of_mem hx
    refine ⟨?_, hm⟩
    rw [n2] at hm
    obtain ⟨j, hj, hj'⟩ := List.mem_map.1 hm
    rw [← hj']
    have := List.mem_range'_1.1 hj
    exact newId_div d j (by omega)
  have hidn : (N.map (·.id)).Nodup := by
    rw [n2]
    refine List.Pairwise.map _ ?_ (List.nodup_range' ..)
    intro x y hxy e
    unfold newId at e
    omega
  have hle := hR.kept.size
  have hw : ∀ b, b < w.heap.size → w'.heap[b]? = w.heap[b]? := fun b hb => hk.block b hb (fun h => h)
  have hcN := hc1.creates (N := N) hk.size hw hle ?_ n3 hidn (by rw [n4]; exact hnd) (by rw [n4]; exact hal)
  · have hval : ∀ x ∈ N, (β.setN N).val x.id = x.v := by
      intro x hx
      simp [Env.setN, lkN_some hx hidn]
    have himav : ∀ b ∈ im, ¬ Av (fun j => match lkN N j with | some x => some x.obj | none => fo (metFreeze M') st.obj j) (β.setN N) b := by
      rintro b hb (⟨j, oj, hj, hbj⟩ | hbar)
      case inr =>
        have hib := him b hb
        have hbw := (hc1.bar b hbar).1
        rcases hib.1 with hfpb | hbig
        · cases hsh : shares s with
          | false =>
            have : im = [] := ResV.noimm _ _ _ _ _ _ (by simpa [shares] using hsh) hres
            rw [this] at hb
            simp at hb
          | true =>
            have hM' : M' = r.2 := by simp [M', hsh]
            rcases hfav b hfpb with h3 | ⟨x, hx, hbx⟩
            · exact h3 (.inr hbar)
            · exact not_av_met hc hM.1 (by rw [hM']; exact hx) hbx (.inr hbar)
        · omega
      have hib := him b hb
      cases hlk : lkN N j with
      | some x =>
        simp only [hlk, Option.some.injEq] at hj
        subst hj
        have hx := (lkN_mem hlk).1
        refine hib.2 ?_
        rw [← n5]
        refine List.mem_flatMap.2 ⟨x, hx, ?_⟩
        obtain ⟨_, rfl⟩ := lkN_mem hlk
        rwa [x.tops_eq (by simp [Env.setN, hlk]) (by simp [Env.setN, hlk])] at hbj
      | none =>
        simp only [hlk] at hj
        have hbj' : b ∈ tops β j oj := by
          cases oj <;> simp only [tops, Env.setN, hlk] at hbj ⊢ <;> exact hbj
        have hblt := ((hc1.fresh j oj hj).2 b (tops_sub (hc1.objs j oj hj) b hbj')).2
        rcases hib.1 with hfpb | hbig
        · cases hsh : shares s with
          | false =>
            have : im = [] := ResV.noimm _ _ _ _ _ _ (by simpa [shares] using hsh) hres
            rw [this] at hb
            simp at hb
          | true =>
            have hM' : M' = r.2 := by simp [M', hsh]
            rcases hfav b hfpb with h3 | ⟨x, hx, hbx⟩
            · exact h3 (av_frozen (.inl ⟨j, oj, hj, hbj'⟩))
            · exact not_av_met hc hM.1 (by rw [hM']; exact hx) hbx (.inl ⟨j, oj, hj, hbj'⟩)
        · omega
    have hsvl := n6 _ (β.setN N) hval himav
    have hk' : Kept S w0 w' := ⟨hk.os.trans hR.kept.os, hk.tape.trans hR.kept.tape, hk.output.trans hR.kept.output, by have := hk.size; omega, fun k h1 h2 => (hw k (by omega)).trans (hR.kept.block k h1 h2)⟩
    refine ⟨pack vs, rfl, rel_put hR (fun d' h' => by rw [hdst] at h'; injection h' with h'; exact h' ▸ hd) hk' ⟨β.setN N, fun j => match lkN N j with | some x => x.blks | none => frozenφ φ M' j, ?_, ?_⟩⟩
    · have : fo ((resVals d 0 s.rs (s.fn r.1).2).2 ++ (bif shares s then metFreeze r.2 else [])) (fc none st.obj) = fun j => match lkN N j with | some x => some x.obj | none => fo (metFreeze M') st.obj j := by
        funext j
        rw [n1, hfz, fo_rows]
        rfl
      show Core w0 S st.get (fo ((resVals d 0 s.rs (s.fn r.1).2).2 ++ (bif shares s then metFreeze r.2 else [])) (fc none st.obj)) _ _ _ _
      rw [this]
      exact hcN
    · have : fo ((resVals d 0 s.rs (s.fn r.1).2).2 ++ (bif shares s then metFreeze r.2 else [])) (fc none st.obj) = fun j => match lkN N j with | some x => some x.obj | none => fo (metFreeze M') st.obj j := by
        funext j
        rw [n1, hfz, fo_rows]
        rfl
      show SVR w' (Av (fo ((resVals d 0 s.rs (s.fn r.1).2).2 ++ (bif shares s then metFreeze r.2 else [])) (fc none st.obj)) (β.setN N)) (β.setN N) (packSV (resVals d 0 s.rs (s.fn r.1).2).1) (pack vs)
      rw [this]
      generalize (resVals d 0 s.rs (s.fn r.1).2).1 = q at hsvl
      match q, vs, hsvl with
      | [], vs, hsvl =>
        simp only [SVRL] at hsvl
        subst hsvl
        simp only [packSV, pack, SVR]
        exact ⟨[], rfl, by simp [SVRL]⟩
      | [x], vs, hsvl =>
        simp only [SVRL] at hsvl
        obtain ⟨v, l', rfl, h1, rfl⟩ := hsvl
        exact h1
      | x :: y :: q, vs, hsvl =>
        have hsvl' := hsvl
        simp only [SVRL] at hsvl
        obtain ⟨v, l', rfl, h1, v2, l2, rfl, h2, h3⟩ := hsvl
        simp only [packSV, pack]
        unfold SVR
        exact ⟨v :: v2 :: l2, rfl, hsvl'⟩
  · intro x hx
    have h1 := (hids x hx).1
    have hfr := hfr (by
      show (resVals d 0 s.rs (s.fn r.1).2).2 ++ _ ≠ []
      rw [n1]
      intro h0
      rw [List.append_eq_nil_iff] at h0
      have : N = [] := by simpa [rowsOw] using h0.1
      rw [this] at hx
      simp at hx)
    refine ⟨?_, fun i hi => hfr.slot i _ hi h1, fun k ok hk' hi => ?_⟩
    · cases hn : fo (metFreeze M') st.obj x.id with
      | none => rfl
      | some ob =>
        rcases frozen_obj hn with h2 | ⟨e', r', rfl, y, hy, h2⟩
        · exact absurd h1 (hfr.obj _ ob h2).1
        · obtain ⟨_, h3, _⟩ := hM.1 y hy
          rw [h2] at h3
          exact absurd h1 (hfr.obj _ _ h3).1
    · rcases frozen_obj hk' with h2 | ⟨e', r', rfl, _⟩
      · exact (hfr.obj k ok h2).2 _ hi h1
      · simp [objIds] at hi

end

end Go.Proofs.Ytklbgnodgnlebaa.Vm

/- The value machine: calls that write through parameters. Conditions: as each lemma says. -/
set_option linter.unusedVariables false
set_option linter.unusedSimpArgs false
namespace Go.Proofs.Ytklbgnodgnlebaa.Vm

section
variable {P : Program} {Γ : Ctx} {w0 : World} {S : Own} {st : St} {o : Oper} {e : Eff} {a : Act} {w : World}
variable {f : Nat → SV} {h : Nat → Option VObj} {β : Env} {φ : Nat → List Nat} {tm : Array Value}

def muTops (β : Env) : MU → List Nat
  | .box id _ _ => [β.blk id]
  | .row id _ _ _ => (β.val id).ownBlock.toList
  | .deep id _ _ _ => (β.val id).ownBlock.toList ++ β.nb id
  | .non => []

/-- The objects that a call may turn are there. -/
def MuOk (h : Nat → Option VObj) : List MU → Prop
  | [] => True
  | .box id t cs :: l => (∃ cells, h id = some (.box t cells)) ∧ MuOk h l
  | .row id t e u :: l => (flatB e = true ∧ ∃ rows, h id = some (.row t e rows false u)) ∧ MuOk h l
  | .deep id t e ts :: l => (∃ rows, h id = some (.deep t e ts rows none)) ∧ MuOk h l
  | .non :: l => MuOk h l

theorem MuOk.append {U V : List MU} (hu : MuOk h U) (hv : MuOk h V) : MuOk h (U ++ V) := by
  induction U with
  | nil => exact hv
  | cons x l ih =>
    cases x <;> simp only [List.cons_append, MuOk] at hu ⊢
    · exact ⟨hu.1, ih hu.2⟩
    · exact ⟨hu.1, ih hu.2⟩
    · exact ⟨hu.1, ih hu.2⟩
    · exact ih hu

theorem rowCells_ok (hc : Core w0 S f h β φ tm w) : ∀ (cs : List CT) (ts : List TypeId) (ss : List SV) (us : List Value) (q : List DC × List MU), SVRL w (Av h β) β ss us → (rowCellsM cs ts ss).val f h = some q →
    RowsA w cs ts q.1 us (q.2.flatMap (muTops β)) ∧ MuOk h q.2
  | [], ts, ss, us, q, hs, hq => by
    cases ts with
    | nil =>
      cases ss with
      | nil =>
        simp only [rowCellsM, M.val_pure, Option.some.injEq] at hq
        subst hq
        simp only [SVRL] at hs
        exact ⟨⟨rfl, rfl, hs, rfl⟩, trivial⟩
      | cons s ss => simp [rowCellsM] at hq
    | cons t ts => simp [rowCellsM] at hq
  | .int k :: cs, ts, ss, us, q, hs, hq => by
    cases ss with
    | nil => simp [rowCellsM] at hq
    | cons s ss =>
      simp only [SVRL] at hs
      obtain ⟨v, us', rfl, h1, h2⟩ := hs
      simp only [rowCellsM, M.val_bind, Option.bind_eq_some_iff, M.val_pure, Option.some.injEq] at hq
      obtain ⟨q1, hq1, q2, hq2, rfl⟩ := hq
      obtain ⟨fp, hr, _⟩ := toDC_ok hc h1 hq1
      obtain ⟨k1, k2⟩ := rowCells_ok hc cs ts ss us' q2 h2 hq2
      refine ⟨?_, k2⟩
      simp only [RowsA]
      refine ⟨q1.1, q2.1, v, us', rfl, rfl, ?_, k1⟩
      simp only [RdC] at hr ⊢
      obtain ⟨n, a, b, c, _⟩ := hr
      exact ⟨n, a, b, c, trivial⟩
  | .bool :: cs, ts, ss, us, q, hs, hq => by
    cases ss with
    | nil => simp [rowCellsM] at hq
    | cons s ss =>
      simp only [SVRL] at hs
      obtain ⟨v, us', rfl, h1, h2⟩ := hs
      simp only [rowCellsM, M.val_bind, Option.bind_eq_some_iff, M.val_pure, Option.some.injEq] at hq
      obtain ⟨q1, hq1, q2, hq2, rfl⟩ := hq
      obtain ⟨fp, hr, _⟩ := toDC_ok hc h1 hq1
      obtain ⟨k1, k2⟩ := rowCells_ok hc cs ts ss us' q2 h2 hq2
      refine ⟨?_, k2⟩
      simp only [RowsA]
      refine ⟨q1.1, q2.1, v, us', rfl, rfl, ?_, k1⟩
      simp only [RdC] at hr ⊢
      obtain ⟨n, a, b, _⟩ := hr
      exact ⟨n, a, b, trivial⟩
  | .str :: cs, ts, ss, us, q, hs, hq => by
    cases ss with
    | nil => simp [rowCellsM] at hq
    | cons s ss =>
      simp only [SVRL] at hs
      obtain ⟨v, us', rfl, h1, h2⟩ := hs
      simp only [rowCellsM, M.val_bind, Option.bind_eq_some_iff, M.val_pure, Option.some.injEq] at hq
      obtain ⟨q1, hq1, q2, hq2, rfl⟩ := hq
      obtain ⟨fp, hr, _⟩ := toDC_ok hc h1 hq1
      obtain ⟨k1, k2⟩ := rowCells_ok hc cs ts ss us' q2 h2 hq2
      refine ⟨?_, k2⟩
      simp only [RowsA]
      refine ⟨q1.1, q2.1, v, us', rfl, rfl, ?_, k1⟩
      simp only [RdC] at hr ⊢
      obtain ⟨n, a, b, c, _⟩ := hr
      exact ⟨n, a, b, c, trivial⟩
  | .sl el :: cs, ts, ss, us, q, hs, hq => by
    cases ts with
    | nil => simp [rowCellsM] at hq
    | cons t ts =>
      cases ss with
      | nil => simp [rowCellsM] at hq
      | cons s ss =>
        simp only [SVRL] at hs
        obtain ⟨v, us', rfl, h1, h2⟩ := hs
        simp only [rowCellsM, M.val_bind, Option.bind_eq_some_iff, M.val_pure, Option.some.injEq] at hq
        obtain ⟨q1, hq1, q2, hq2, rfl⟩ := hq
        obtain ⟨k1, k2⟩ := rowCells_ok hc cs ts ss us' q2 h2 hq2
        cases s with
        | nil =>
          simp only at hq1
          cases hfl : flatB el
          · simp [hfl] at hq1
          · simp only [hfl, cond_true, M.val_pure, Option.some.injEq] at hq1
            subst hq1
            simp only [SVR] at h1
            subst h1
            refine ⟨?_, k2⟩
            simp only [RowsA]
            exact ⟨t, ts, [], q2.1, _, us', [], [], q2.2.flatMap (muTops β), rfl, rfl, rfl, hfl, ⟨by simp, .inl ⟨rfl, rfl, rfl⟩⟩, ⟨rfl, by simp⟩, k1, by simp [muTops, Value.ownBlock]⟩
        | own id =>
          simp only [M.val_obj, Option.bind_eq_some_iff] at hq1
          obtain ⟨ob, hob, hq1⟩ := hq1
          cases ob with
          | row t' e' r fz u =>
            cases fz with
            | true => simp at hq1
            | false =>
              simp only at hq1
              cases hcond : Nat.beq t' t && ctsBeq e' el && flatB el
              · simp [hcond] at hq1
              · simp only [hcond, cond_true, M.val_pure, Option.some.injEq] at hq1
                subst hq1
                simp only [Bool.and_eq_true] at hcond
                have ht := Nat.eq_of_beq_eq_true hcond.1.1
                have he := ctsBeq_eq _ _ hcond.1.2
                subst ht
                subst he
                simp only [SVR] at h1
                obtain ⟨vals, fps, g1, g2, _, _⟩ := hc.objs id _ hob
                refine ⟨?_, ⟨⟨hcond.2, r, hob⟩, k2⟩⟩
                simp only [RowsA]
                refine ⟨t', ts, r, q2.1, v, us', vals, fps, q2.2.flatMap (muTops β), rfl, rfl, rfl, hcond.2, by rw [h1.1]; exact g1, g2, k1, ?_⟩
                simp only [List.flatMap_cons, muTops, h1.1]
          | box _ _ => simp at hq1
          | imm _ _ => simp at hq1
          | deep _ _ _ _ _ => simp at hq1
        | _ => simp at hq1

theorem CellA.one {t : TT} {e : List CT} {rows : List (List DC)} {v : Value} {mb : List Nat} (h : CellA w t e rows v mb) : v.oneCell' = true := by
  cases t with
  | flat t =>
    obtain ⟨_, _, _, h1, _⟩ := h
    exact h1.one
  | deep t its =>
    obtain ⟨_, _, h1, _⟩ := h
    exact h1.one

theorem argCells_ok (hc : Core w0 S f h β φ tm w) : ∀ (cs : List CT) (ts : List TT) (ss : List SV) (us : List Value) (q : List DC × List MU), SVRL w (Av h β) β ss us → (argCellsM cs ts ss).val f h = some q →
    ArgA w cs ts q.1 us (q.2.flatMap (muTops β)) ∧ MuOk h q.2
  | [], ts, ss, us, q, hs, hq => by
    cases ts with
    | nil =>
      cases ss with
      | nil =>
        simp only [argCellsM, M.val_pure, Option.some.injEq] at hq
        subst hq
        simp only [SVRL] at hs
        exact ⟨⟨rfl, rfl, hs, rfl⟩, trivial⟩
      | cons s ss => simp [argCellsM] at hq
    | cons t ts => simp [argCellsM] at hq
  | .int k :: cs, ts, ss, us, q, hs, hq => by
    cases ss with
    | nil => simp [argCellsM] at hq
    | cons s ss =>
      simp only [SVRL] at hs
      obtain ⟨v, us', rfl, h1, h2⟩ := hs
      simp only [argCellsM, M.val_bind, Option.bind_eq_some_iff, M.val_pure, Option.some.injEq] at hq
      obtain ⟨q1, hq1, q2, hq2, rfl⟩ := hq
      obtain ⟨fp, hr, _⟩ := toDC_ok hc h1 hq1
      obtain ⟨k1, k2⟩ := argCells_ok hc cs ts ss us' q2 h2 hq2
      refine ⟨?_, k2⟩
      simp only [ArgA]
      refine ⟨q1.1, q2.1, v, us', rfl, rfl, ?_, k1⟩
      simp only [RdC] at hr ⊢
      obtain ⟨n, a, b, c, _⟩ := hr
      exact ⟨n, a, b, c, trivial⟩
  | .bool :: cs, ts, ss, us, q, hs, hq => by
    cases ss with
    | nil => simp [argCellsM] at hq
    | cons s ss =>
      simp only [SVRL] at hs
      obtain ⟨v, us', rfl, h1, h2⟩ := hs
      simp only [argCellsM, M.val_bind, Option.bind_eq_some_iff, M.val_pure, Option.some.injEq] at hq
      obtain ⟨q1, hq1, q2, hq2, rfl⟩ := hq
      obtain ⟨fp, hr, _⟩ := toDC_ok hc h1 hq1
      obtain ⟨k1, k2⟩ := argCells_ok hc cs ts ss us' q2 h2 hq2
      refine ⟨?_, k2⟩
      simp only [ArgA]
      refine ⟨q1.1, q2.1, v, us', rfl, rfl, ?_, k1⟩
      simp only [RdC] at hr ⊢
      obtain ⟨n, a, b, _⟩ := hr
      exact ⟨n, a, b, trivial⟩
  | .str :: cs, ts, ss, us, q, hs, hq => by
    cases ss with
    | nil => simp [argCellsM] at hq
    | cons s ss =>
      simp only [SVRL] at hs
      obtain ⟨v, us', rfl, h1, h2⟩ := hs
      simp only [argCellsM, M.val_bind, Option.bind_eq_some_iff, M.val_pure, Option.some.injEq] at hq
      obtain ⟨q1, hq1, q2, hq2, rfl⟩ := hq
      obtain ⟨fp, hr, _⟩ := toDC_ok hc h1 hq1
      obtain ⟨k1, k2⟩ := argCells_ok hc cs ts ss us' q2 h2 hq2
      refine ⟨?_, k2⟩
      simp only [ArgA]
      refine ⟨q1.1, q2.1, v, us', rfl, rfl, ?_, k1⟩
      simp only [RdC] at hr ⊢
      obtain ⟨n, a, b, c, _⟩ := hr
      exact ⟨n, a, b, c, trivial⟩
  | .sl el :: cs, ts, ss, us, q, hs, hq => by
    cases ts with
    | nil => simp [argCellsM] at hq
    | cons t ts =>
      cases ss with
      | nil => cases t <;> simp [argCellsM] at hq
      | cons s ss =>
        simp only [SVRL] at hs
        obtain ⟨v, us', rfl, h1, h2⟩ := hs
        cases t with
        | flat t =>
          simp only [argCellsM, M.val_bind, Option.bind_eq_some_iff, M.val_pure, Option.some.injEq] at hq
          obtain ⟨q1, hq1, q2, hq2, rfl⟩ := hq
          obtain ⟨k1, k2⟩ := argCells_ok hc cs ts ss us' q2 h2 hq2
          cases s with
          | nil =>
            simp only at hq1
            cases hfl : flatB el
            · simp [hfl] at hq1
            · simp only [hfl, cond_true, M.val_pure, Option.some.injEq] at hq1
              subst hq1
              simp only [SVR] at h1
              subst h1
              refine ⟨?_, k2⟩
              simp only [ArgA]
              exact ⟨.flat t, ts, [], q2.1, _, us', [], q2.2.flatMap (muTops β), rfl, rfl, rfl, ⟨hfl, [], [], ⟨by simp, .inl ⟨rfl, rfl, rfl⟩⟩, ⟨rfl, by simp⟩, by simp [Value.ownBlock]⟩, k1, by simp [muTops]⟩
          | own id =>
            simp only [M.val_obj, Option.bind_eq_some_iff] at hq1
            obtain ⟨ob, hob, hq1⟩ := hq1
            cases ob with
            | row t' e' r fz u =>
              cases fz with
              | true => simp at hq1
              | false =>
                simp only at hq1
                cases hcond : Nat.beq t' t && ctsBeq e' el && flatB el
                · simp [hcond] at hq1
                · simp only [hcond, cond_true, M.val_pure, Option.some.injEq] at hq1
                  subst hq1
                  simp only [Bool.and_eq_true] at hcond
                  have ht := Nat.eq_of_beq_eq_true hcond.1.1
                  have he := ctsBeq_eq _ _ hcond.1.2
                  subst ht
                  subst he
                  simp only [SVR] at h1
                  obtain ⟨vals, fps, g1, g2, _, _⟩ := hc.objs id _ hob
                  refine ⟨?_, ⟨⟨hcond.2, r, hob⟩, k2⟩⟩
                  simp only [ArgA]
                  refine ⟨.flat t', ts, r, q2.1, v, us', v.ownBlock.toList, q2.2.flatMap (muTops β), rfl, rfl, rfl, ⟨hcond.2, vals, fps, by rw [h1.1]; exact g1, g2, rfl⟩, k1, ?_⟩
                  simp only [List.flatMap_cons, muTops, h1.1]
            | box _ _ => simp at hq1
            | imm _ _ => simp at hq1
            | deep _ _ _ _ _ => simp at hq1
          | _ => simp at hq1
        | deep t its =>
          simp only [argCellsM, M.val_bind, Option.bind_eq_some_iff, M.val_pure, Option.some.injEq] at hq
          obtain ⟨q1, hq1, q2, hq2, rfl⟩ := hq
          obtain ⟨k1, k2⟩ := argCells_ok hc cs ts ss us' q2 h2 hq2
          cases s with
          | nil =>
            simp only [M.val_pure, Option.some.injEq] at hq1
            subst hq1
            simp only [SVR] at h1
            subst h1
            refine ⟨?_, k2⟩
            simp only [ArgA]
            exact ⟨.deep t its, ts, [], q2.1, _, us', [], q2.2.flatMap (muTops β), rfl, rfl, rfl, ⟨[], [], ⟨by simp, .inl ⟨rfl, rfl, rfl⟩⟩, ⟨rfl, by simp⟩, by simp [Value.ownBlock]⟩, k1, by simp [muTops]⟩
          | own id =>
            simp only [M.val_obj, Option.bind_eq_some_iff] at hq1
            obtain ⟨ob, hob, hq1⟩ := hq1
            cases ob with
            | deep t' e' ts' r hl =>
              cases hl with
              | some _ => simp at hq1
              | none =>
                simp only at hq1
                cases hcond : Nat.beq t' t && ctsBeq e' el && tsBeq ts' its
                · simp [hcond] at hq1
                · simp only [hcond, cond_true, M.val_pure, Option.some.injEq] at hq1
                  subst hq1
                  simp only [Bool.and_eq_true] at hcond
                  have ht := Nat.eq_of_beq_eq_true hcond.1.1
                  have he := ctsBeq_eq _ _ hcond.1.2
                  have hts := tsBeq_eq _ _ hcond.2
                  subst ht
                  subst he
                  subst hts
                  simp only [SVR] at h1
                  obtain ⟨vals, mbs, g1, g2, g3, _⟩ := hc.objs id _ hob
                  refine ⟨?_, ⟨⟨r, hob⟩, k2⟩⟩
                  simp only [ArgA]
                  refine ⟨.deep t' ts', ts, r, q2.1, v, us', v.ownBlock.toList ++ mbs.flatten, q2.2.flatMap (muTops β), rfl, rfl, rfl, ⟨vals, mbs, by rw [h1.1]; exact g1, g2, rfl⟩, k1, ?_⟩
                  simp only [List.flatMap_cons, muTops, h1.1, g3]
            | box _ _ => simp at hq1
            | imm _ _ => simp at hq1
            | row _ _ _ _ _ => simp at hq1
          | _ => simp at hq1

theorem argsMM_ok (hc : Core w0 S f h β φ tm w) : ∀ (ks : List AK) (ms : List (Option MK)) (ss : List SV) (vs : List Value) (q : List DC × Met × List MU), SVRL w (Av h β) β ss vs → (argsMM ks ms ss).val f h = some q →
    ∃ fp, MArgs w ks ms q.1 vs fp (q.2.2.flatMap (muTops β)) ∧ MetOk h q.2.1 ∧ MuOk h q.2.2 ∧ ∀ b ∈ fp, (¬ Av h β b) ∨ ∃ x ∈ q.2.1, b ∈ topsAt h β x.1
  | [], ms, ss, vs, q, hs, hq => by
    cases ms with
    | nil =>
      cases ss with
      | nil =>
        simp only [argsMM, M.val_pure, Option.some.injEq] at hq
        subst hq
        simp only [SVRL] at hs
        exact ⟨[], ⟨rfl, rfl, hs, rfl, rfl⟩, by simp [MetOk], trivial, by simp⟩
      | cons s ss => simp [argsMM] at hq
    | cons m ms => simp [argsMM] at hq
  | k :: ks, ms, ss, vs, q, hs, hq => by
    cases ms with
    | nil => simp [argsMM] at hq
    | cons m ms =>
      cases ss with
      | nil => cases m with
        | none => simp [argsMM] at hq
        | some m => cases m <;> simp [argsMM] at hq
      | cons s ss =>
        simp only [SVRL] at hs
        obtain ⟨v, l, rfl, h1, h2⟩ := hs
        cases m with
        | none =>
          simp only [argsMM, M.val_bind, Option.bind_eq_some_iff, M.val_pure, Option.some.injEq] at hq
          obtain ⟨q1, hq1, q2, hq2, rfl⟩ := hq
          obtain ⟨fp2, ha2, hm2, hu2, hav2⟩ := argsMM_ok hc ks ms ss l q2 h2 hq2
          have hq1' : (argsM [k] [s]).val f h = some (q1.1 ++ [], q1.2.1 ++ []) := by
            simp only [argsM, M.val_bind, Option.bind_eq_some_iff, M.val_pure, Option.some.injEq]
            exact ⟨q1, hq1, ([], []), rfl, rfl⟩
          have hsing : SVRL w (Av h β) β [s] [v] := by simp only [SVRL]; exact ⟨v, [], rfl, h1, rfl⟩
          obtain ⟨fp1, ha1, hm1, hav1⟩ := argsM_ok hc [k] [s] [v] _ hsing hq1'
          simp only [List.append_nil] at ha1 hm1 hav1
          obtain ⟨d1, d2, v', vs', f1, f2, e1, e2, ha1, ⟨rfl, rfl, rfl⟩, rfl⟩ := ha1
          simp only [List.append_nil] at e1 hav1
          simp only [List.cons.injEq, and_true] at e2
          subst e2
          subst e1
          refine ⟨f1 ++ fp2, ⟨none, ms, q1.1, q2.1, v, l, f1, fp2, [], q2.2.2.flatMap (muTops β), rfl, rfl, rfl, ⟨ha1, rfl⟩, ha2, rfl, rfl⟩, metOk_append hm1 hm2, hu2, ?_⟩
          intro b hb
          rcases List.mem_append.1 hb with hb | hb
          · rcases hav1 b hb with h3 | ⟨x, hx, h3⟩
            · exact .inl h3
            · exact .inr ⟨x, List.mem_append_left _ hx, h3⟩
          · rcases hav2 b hb with h3 | ⟨x, hx, h3⟩
            · exact .inl h3
            · exact .inr ⟨x, List.mem_append_right _ hx, h3⟩
        | some m =>
          cases m with
          | box t =>
            cases s with
            | ptr id off =>
              cases off with
              | succ off => simp [argsMM] at hq
              | zero =>
                simp only [argsMM, M.val_obj, Option.bind_eq_some_iff] at hq
                obtain ⟨ob, hob, hq⟩ := hq
                cases ob with
                | box t' cells =>
                  simp only at hq
                  cases htt : Nat.beq t' t
                  · simp [htt] at hq
                  · have htt' := Nat.eq_of_beq_eq_true htt
                    subst htt'
                    simp only [htt, cond_true, M.val_bind, Option.bind_eq_some_iff] at hq
                    obtain ⟨q1, hq1, hq⟩ := hq
                    cases hem : q1.2.1.isEmpty
                    · simp [hem] at hq
                    · simp only [hem, cond_true, M.val_bind, Option.bind_eq_some_iff, M.val_pure, Option.some.injEq] at hq
                      obtain ⟨q2, hq2, rfl⟩ := hq
                      obtain ⟨fp2, ha2, hm2, hu2, hav2⟩ := argsMM_ok hc ks ms ss l q2 h2 hq2
                      obtain ⟨us, g1, g2, g3, _⟩ := hc.objs id _ hob
                      obtain ⟨fp1, hr, hm1, hav1, _⟩ := toDCs_ok hc k.cts cells us q1 g2 hq1
                      have hl := SVRL.length _ _ g2
                      have hl2 := toDCs_length _ _ _ hq1
                      simp only [SVR] at h1
                      have hme : q1.2.1 = [] := List.isEmpty_iff.1 hem
                      refine ⟨fp1 ++ fp2, ⟨some (.box t'), ms, q1.1, q2.1, v, l, fp1, fp2, [β.blk id], q2.2.2.flatMap (muTops β), rfl, rfl, rfl, ⟨β.blk id, us, h1, g1, g3, hr, by omega, rfl⟩, ha2, rfl, by simp [muTops]⟩, hm2, ⟨⟨cells, hob⟩, hu2⟩, ?_⟩
                      intro b hb
                      rcases List.mem_append.1 hb with hb | hb
                      · rcases hav1 b hb with h3 | ⟨x, hx, h3⟩
                        · exact .inl h3
                        · rw [hme] at hx
                          simp at hx
                      · exact hav2 b hb
                | row _ _ _ _ _ => simp at hq
                | imm _ _ => simp at hq
                | deep _ _ _ _ _ => simp at hq
            | _ => simp [argsMM] at hq
          | rows ts =>
            simp only [argsMM, M.val_bind, Option.bind_eq_some_iff, M.val_pure, Option.some.injEq] at hq
            obtain ⟨q1, hq1, q2, hq2, rfl⟩ := hq
            obtain ⟨fp2, ha2, hm2, hu2, hav2⟩ := argsMM_ok hc ks ms ss l q2 h2 hq2
            have one : MArg w k (some (.rows ts)) q1.1 v [] (q1.2.flatMap (muTops β)) ∧ MuOk h q1.2 := by
              cases hk : k.agg with
              | true =>
                cases s with
                | agg cs =>
                  simp only [hk] at hq1
                  simp only [SVR] at h1
                  obtain ⟨us, rfl, hus, hone⟩ := h1
                  obtain ⟨r1, r2⟩ := argCells_ok hc k.cts ts cs us q1 hus hq1
                  exact ⟨⟨us, by rw [hk]; rfl, hone, r1, rfl⟩, r2⟩
                | _ => simp [hk] at hq1
              | false =>
                have hq1' : (argCellsM k.cts ts [s]).val f h = some q1 := by
                  cases s <;> simp only [hk] at hq1 <;> first | exact hq1 | (simp at hq1)
                have hsing : SVRL w (Av h β) β [s] [v] := by simp only [SVRL]; exact ⟨v, [], rfl, h1, rfl⟩
                obtain ⟨r1, r2⟩ := argCells_ok hc k.cts ts [s] [v] q1 hsing hq1'
                have hone : v.oneCell' = true := by
                  cases hcts : k.cts with
                  | nil => rw [hcts] at r1; simp only [ArgA] at r1; simp at r1
                  | cons c cs =>
                    rw [hcts] at r1
                    cases c with
                    | sl el =>
                      simp only [ArgA] at r1
                      obtain ⟨t, ts', rows, ds', v', us', m1, mb', _, _, e0, h3, _⟩ := r1
                      injection e0 with e0
                      subst e0
                      exact h3.one
                    | int _ => simp only [ArgA] at r1; obtain ⟨d, ds', v', us', _, e0, h3, _⟩ := r1; injection e0 with e0; subst e0; exact h3.one
                    | bool => simp only [ArgA] at r1; obtain ⟨d, ds', v', us', _, e0, h3, _⟩ := r1; injection e0 with e0; subst e0; exact h3.one
                    | str => simp only [ArgA] at r1; obtain ⟨d, ds', v', us', _, e0, h3, _⟩ := r1; injection e0 with e0; subst e0; exact h3.one
                exact ⟨⟨[v], by rw [hk]; exact ⟨rfl, hone⟩, by simpa using hone, r1, rfl⟩, r2⟩
            refine ⟨fp2, ⟨some (.rows ts), ms, q1.1, q2.1, v, l, [], fp2, q1.2.flatMap (muTops β), q2.2.2.flatMap (muTops β), rfl, rfl, rfl, one.1, ha2, rfl, by simp⟩, hm2, one.2.append hu2, hav2⟩

end
end Go.Proofs.Ytklbgnodgnlebaa.Vm

/- The value machine: what calls leave that write through parameters. Conditions: as each lemma says. -/
set_option linter.unusedVariables false
set_option linter.unusedSimpArgs false
namespace Go.Proofs.Ytklbgnodgnlebaa.Vm

section
variable {P : Program} {Γ : Ctx} {w0 : World} {S : Own} {st : St} {o : Oper} {e : Eff} {a : Act} {w w' : World}
variable {f : Nat → SV} {h : Nat → Option VObj} {β : Env} {φ : Nat → List Nat} {tm : Array Value}

def muObjs : List MU → List DC → List (Nat × VObj)
  | [], _ => []
  | .box id t cs :: l, ds => (id, .box t (ofDCs cs ds 0)) :: muObjs l (ds.drop cs.length)
  | .row id t e u :: l, ds => (id, .row t e (ds.headD default).asRows false u) :: muObjs l ds.tail
  | .deep id t e ts :: l, ds => (id, .deep t e ts (ds.headD default).asRows none) :: muObjs l ds.tail
  | .non :: l, ds => muObjs l ds.tail

theorem muOw_eq : ∀ (U : List MU) (ds : List DC), muOw U ds = (muObjs U ds).map fun x => (x.1, some x.2)
  | [], _ => rfl
  | .box id t cs :: l, ds => by simp only [muOw, muObjs, List.map_cons, muOw_eq l]
  | .row id t e u :: l, ds => by simp only [muOw, muObjs, List.map_cons, muOw_eq l]
  | .deep id t e ts :: l, ds => by simp only [muOw, muObjs, List.map_cons, muOw_eq l]
  | .non :: l, ds => by simp only [muOw, muObjs, muOw_eq l]

theorem muObjs_ids : ∀ (U : List MU) (ds : List DC), (muObjs U ds).map (·.1) = muIds U
  | [], _ => rfl
  | .box id t cs :: l, ds => by simp only [muObjs, muIds, List.map_cons, muObjs_ids l]
  | .row id t e u :: l, ds => by simp only [muObjs, muIds, List.map_cons, muObjs_ids l]
  | .deep id t e ts :: l, ds => by simp only [muObjs, muIds, List.map_cons, muObjs_ids l]
  | .non :: l, ds => by simp only [muObjs, muIds, muObjs_ids l]

def muLen : List MU → Nat
  | [] => 0
  | .box _ _ cs :: l => cs.length + muLen l
  | .row _ _ _ _ :: l => 1 + muLen l
  | .deep _ _ _ _ :: l => 1 + muLen l
  | .non :: l => 1 + muLen l

theorem ofDCs_app : ∀ (cs : List CT) (d1 d2 : List DC) (k : Nat), k + cs.length ≤ d1.length → ofDCs cs (d1 ++ d2) k = ofDCs cs d1 k
  | [], _, _, _, _ => rfl
  | c :: cs, d1, d2, k, h => by
    simp only [ofDCs]
    simp only [List.length_cons] at h
    rw [ofDCs_app cs d1 d2 (k + 1) (by omega)]
    congr 2
    simp only [List.getD_eq_getElem?_getD]
    rw [List.getElem?_append_left (by omega)]

theorem muObjs_append : ∀ (U V : List MU) (d1 d2 : List DC), muLen U = d1.length → muObjs (U ++ V) (d1 ++ d2) = muObjs U d1 ++ muObjs V d2
  | [], V, d1, d2, hl => by
    have : d1 = [] := List.length_eq_zero_iff.1 hl.symm
    subst this
    rfl
  | .box id t cs :: l, V, d1, d2, hl => by
    simp only [muLen] at hl
    simp only [List.cons_append, muObjs]
    rw [ofDCs_app _ _ _ _ (by omega), List.drop_append_of_le_length (by omega), muObjs_append l V _ d2 (by simp; omega)]
  | .row id t e u :: l, V, d1, d2, hl => by
    simp only [muLen] at hl
    cases d1 with
    | nil => simp at hl
    | cons d d1 =>
      simp only [List.cons_append, muObjs, List.headD_cons, List.tail_cons]
      rw [muObjs_append l V d1 d2 (by simp at hl; omega)]
  | .deep id t e ts :: l, V, d1, d2, hl => by
    simp only [muLen] at hl
    cases d1 with
    | nil => simp at hl
    | cons d d1 =>
      simp only [List.cons_append, muObjs, List.headD_cons, List.tail_cons]
      rw [muObjs_append l V d1 d2 (by simp at hl; omega)]
  | .non :: l, V, d1, d2, hl => by
    simp only [muLen] at hl
    cases d1 with
    | nil => simp at hl
    | cons d d1 =>
      simp only [List.cons_append, muObjs, List.tail_cons]
      rw [muObjs_append l V d1 d2 (by simp at hl; omega)]

theorem RdL_flat : ∀ (cs : List CT) (r : List DC) (g : Nat → Option Value) (fp : List Nat), flatB cs = true → RdL w cs r g fp → fp = []
  | [], r, g, fp, _, h => by simp only [RdL] at h; exact h.2
  | c :: cs, r, g, fp, hf, h => by
    simp only [RdL] at h
    obtain ⟨d, r', v, f1, f2, rfl, _, h1, h2, rfl⟩ := h
    cases c with
    | sl e => simp [flatB] at hf
    | int k =>
      simp only [RdC] at h1
      obtain ⟨_, _, _, _, rfl⟩ := h1
      rw [RdL_flat cs r' _ f2 (by simpa [flatB] using hf) h2]
      rfl
    | bool =>
      simp only [RdC] at h1
      obtain ⟨_, _, _, rfl⟩ := h1
      rw [RdL_flat cs r' _ f2 (by simpa [flatB] using hf) h2]
      rfl
    | str =>
      simp only [RdC] at h1
      obtain ⟨_, _, _, _, rfl⟩ := h1
      rw [RdL_flat cs r' _ f2 (by simpa [flatB] using hf) h2]
      rfl

theorem InR_flat {e : List CT} {rows : List (List DC)} {vals : List Value} {fps : List (List Nat)} (hf : flatB e = true) (h : InR w e rows vals fps) : fps.flatten = [] := by
  rw [List.flatten_eq_nil_iff]
  intro l hl
  obtain ⟨i, hi, rfl⟩ := List.getElem_of_mem hl
  have hi' : i < rows.length := by have := h.1; omega
  exact RdL_flat e _ _ _ hf (h.2 i rows[i] fps[i] (by simp) (by simp))

theorem svIds_ofDCs : ∀ (cs : List CT) (ds : List DC) (k : Nat), svIdsL (ofDCs cs ds k) = []
  | [], _, _ => rfl
  | c :: cs, ds, k => by
    simp only [ofDCs, svIdsL, svIds_ofDCs cs ds (k + 1), List.append_nil]
    cases c <;> rfl

def TurnGood (h : Nat → Option VObj) (β : Env) (w' : World) (im : List Nat) (x : Turn) : Prop :=
  (∃ o, h x.id = some o) ∧ objIds x.obj = [] ∧ ∀ (av : Nat → Prop) (β' : Env), β'.val x.id = β.val x.id → β'.blk x.id = β.blk x.id → β'.nb x.id = x.nb → (∀ b ∈ im, ¬ av b) → ObjR w' av β' x.id x.obj x.blks

/-- What a call leaves of what it may turn. -/
def Outs (h : Nat → Option VObj) (β : Env) (w' : World) (im : List Nat) (U : List MU) (od : List DC) (mb : List Nat) : Prop :=
  muLen U = od.length ∧ ∃ T : List Turn, T.map (fun x => (x.id, x.obj)) = muObjs U od ∧ T.flatMap Turn.blks = mb ∧ ∀ x ∈ T, TurnGood h β w' im x

theorem Outs.append {im : List Nat} {U V : List MU} {d1 d2 : List DC} {m1 m2 : List Nat} (h1 : Outs h β w' im U d1 m1) (h2 : Outs h β w' im V d2 m2) : Outs h β w' im (U ++ V) (d1 ++ d2) (m1 ++ m2) := by
  obtain ⟨l1, T1, e1, b1, g1⟩ := h1
  obtain ⟨l2, T2, e2, b2, g2⟩ := h2
  have : ∀ (U V : List MU), muLen (U ++ V) = muLen U + muLen V := by
    intro U V
    induction U with
    | nil => simp [muLen]
    | cons x l ih => cases x <;> simp only [List.cons_append, muLen, ih] <;> omega
  refine ⟨by simp only [this, List.length_append, l1, l2], T1 ++ T2, by rw [List.map_append, e1, e2, muObjs_append _ _ _ _ l1], by simp [b1, b2], fun x hx => ?_⟩
  rcases List.mem_append.1 hx with hx | hx
  · exact g1 x hx
  · exact g2 x hx

theorem CellA.nil_blks {t : TT} {e : List CT} {rows : List (List DC)} {mb : List Nat} (h : CellA w t e rows (.slice none 0 0) mb) : mb = [] := by
  cases t with
  | flat t =>
    obtain ⟨_, _, _, _, _, rfl⟩ := h
    rfl
  | deep t its =>
    obtain ⟨vals, mbs, h1, h2, rfl⟩ := h
    rcases h1.2 with ⟨_, h0, _⟩ | ⟨g, cap, cur, hv, _⟩
    · have : mbs = [] := List.length_eq_zero_iff.1 (by rw [h2.1, h0])
      subst this
      rfl
    · cases hv

theorem row_outs (hc : Core w0 S f h β φ tm w) {im : List Nat} : ∀ (cs : List CT) (ts : List TT) (ss : List SV) (us : List Value) (q : List DC × List MU) (od : List DC) (mb : List Nat), SVRL w (Av h β) β ss us → (argCellsM cs ts ss).val f h = some q → OutA w' cs ts od us mb →
    Outs h β w' im q.2 od mb
  | [], ts, ss, us, q, od, mb, hs, hq, ho => by
    cases ts with
    | nil =>
      cases ss with
      | nil =>
        simp only [argCellsM, M.val_pure, Option.some.injEq] at hq
        subst hq
        simp only [OutA] at ho
        rw [ho.1, ho.2.2]
        exact ⟨rfl, [], rfl, rfl, by simp⟩
      | cons s ss => simp [argCellsM] at hq
    | cons t ts => simp [argCellsM] at hq
  | .int k :: cs, ts, ss, us, q, od, mb, hs, hq, ho => by
    cases ss with
    | nil => simp [argCellsM] at hq
    | cons s ss =>
      simp only [SVRL] at hs
      obtain ⟨v, us', rfl, h1, h2⟩ := hs
      simp only [argCellsM, M.val_bind, Option.bind_eq_some_iff, M.val_pure, Option.some.injEq] at hq
      obtain ⟨q1, hq1, q2, hq2, rfl⟩ := hq
      simp only [OutA] at ho
      obtain ⟨v', us1, e0, ho⟩ := ho
      simp only [List.cons.injEq] at e0
      obtain ⟨rfl, rfl⟩ := e0
      exact row_outs hc cs ts ss us' q2 od mb h2 hq2 ho
  | .bool :: cs, ts, ss, us, q, od, mb, hs, hq, ho => by
    cases ss with
    | nil => simp [argCellsM] at hq
    | cons s ss =>
      simp only [SVRL] at hs
      obtain ⟨v, us', rfl, h1, h2⟩ := hs
      simp only [argCellsM, M.val_bind, Option.bind_eq_some_iff, M.val_pure, Option.some.injEq] at hq
      obtain ⟨q1, hq1, q2, hq2, rfl⟩ := hq
      simp only [OutA] at ho
      obtain ⟨v', us1, e0, ho⟩ := ho
      simp only [List.cons.injEq] at e0
      obtain ⟨rfl, rfl⟩ := e0
      exact row_outs hc cs ts ss us' q2 od mb h2 hq2 ho
  | .str :: cs, ts, ss, us, q, od, mb, hs, hq, ho => by
    cases ss with
    | nil => simp [argCellsM] at hq
    | cons s ss =>
      simp only [SVRL] at hs
      obtain ⟨v, us', rfl, h1, h2⟩ := hs
      simp only [argCellsM, M.val_bind, Option.bind_eq_some_iff, M.val_pure, Option.some.injEq] at hq
      obtain ⟨q1, hq1, q2, hq2, rfl⟩ := hq
      simp only [OutA] at ho
      obtain ⟨v', us1, e0, ho⟩ := ho
      simp only [List.cons.injEq] at e0
      obtain ⟨rfl, rfl⟩ := e0
      exact row_outs hc cs ts ss us' q2 od mb h2 hq2 ho
  | .sl el :: cs, ts, ss, us, q, od, mb, hs, hq, ho => by
    cases ts with
    | nil => simp [argCellsM] at hq
    | cons t ts =>
      cases ss with
      | nil => cases t <;> simp [argCellsM] at hq
      | cons s ss =>
        simp only [SVRL] at hs
        obtain ⟨v, us', rfl, h1, h2⟩ := hs
        simp only [OutA] at ho
        obtain ⟨t1, ts1, rows, od', v1, us1, m1, mb', e1, rfl, e2, o1, o3, rfl⟩ := ho
        simp only [List.cons.injEq] at e1 e2
        obtain ⟨rfl, rfl⟩ := e1
        obtain ⟨rfl, rfl⟩ := e2
        have pack : ∀ (q1 : DC × MU) (q2 : List DC × List MU), Outs h β w' im [q1.2] [.sl rows] m1 → (argCellsM cs ts ss).val f h = some q2 → Outs h β w' im (q1.2 :: q2.2) (.sl rows :: od') (m1 ++ mb') := by
          intro q1 q2 k1 hq2
          exact k1.append (row_outs hc cs ts ss us' q2 od' mb' h2 hq2 o3)
        have none_ : v = .slice none 0 0 → Outs h β w' im [.non] [.sl rows] m1 := by
          rintro rfl
          exact ⟨rfl, [], rfl, by rw [o1.nil_blks]; rfl, by simp⟩
        cases t with
        | flat t =>
          simp only [argCellsM, M.val_bind, Option.bind_eq_some_iff, M.val_pure, Option.some.injEq] at hq
          obtain ⟨q1, hq1, q2, hq2, rfl⟩ := hq
          refine pack q1 q2 ?_ hq2
          cases s with
          | nil =>
            simp only at hq1
            cases hfl : flatB el
            · simp [hfl] at hq1
            · simp only [hfl, cond_true, M.val_pure, Option.some.injEq] at hq1
              subst hq1
              simp only [SVR] at h1
              exact none_ h1
          | own id =>
            simp only [M.val_obj, Option.bind_eq_some_iff] at hq1
            obtain ⟨ob, hob, hq1⟩ := hq1
            cases ob with
            | row t' e' r fz u =>
              cases fz with
              | true => simp at hq1
              | false =>
                simp only at hq1
                cases hcond : Nat.beq t' t && ctsBeq e' el && flatB el
                · simp [hcond] at hq1
                · simp only [hcond, cond_true, M.val_pure, Option.some.injEq] at hq1
                  subst hq1
                  simp only [Bool.and_eq_true] at hcond
                  have ht := Nat.eq_of_beq_eq_true hcond.1.1
                  have he := ctsBeq_eq _ _ hcond.1.2
                  subst ht
                  subst he
                  simp only [SVR] at h1
                  obtain ⟨hfl, vals, fps, p1, p2, rfl⟩ := o1
                  refine ⟨rfl, [⟨id, .row t' e' rows false u, [], v.ownBlock.toList⟩], rfl, by simp, fun x hx => ?_⟩
                  rw [List.mem_singleton] at hx
                  subst hx
                  refine ⟨⟨_, hob⟩, rfl, fun av β' hv hb hn him => ?_⟩
                  simp only at hv hb hn ⊢
                  refine ⟨vals, fps, by rw [hv, ← h1.1]; exact p1, p2, by rw [InR_flat hfl p2]; simp, ?_⟩
                  rw [hv, ← h1.1, InR_flat hfl p2]
                  cases u <;> simp
            | box _ _ => simp at hq1
            | imm _ _ => simp at hq1
            | deep _ _ _ _ _ => simp at hq1
          | _ => simp at hq1
        | deep t its =>
          simp only [argCellsM, M.val_bind, Option.bind_eq_some_iff, M.val_pure, Option.some.injEq] at hq
          obtain ⟨q1, hq1, q2, hq2, rfl⟩ := hq
          refine pack q1 q2 ?_ hq2
          cases s with
          | nil =>
            simp only [M.val_pure, Option.some.injEq] at hq1
            subst hq1
            simp only [SVR] at h1
            exact none_ h1
          | own id =>
            simp only [M.val_obj, Option.bind_eq_some_iff] at hq1
            obtain ⟨ob, hob, hq1⟩ := hq1
            cases ob with
            | deep t' e' ts' r hl =>
              cases hl with
              | some _ => simp at hq1
              | none =>
                simp only at hq1
                cases hcond : Nat.beq t' t && ctsBeq e' el && tsBeq ts' its
                · simp [hcond] at hq1
                · simp only [hcond, cond_true, M.val_pure, Option.some.injEq] at hq1
                  subst hq1
                  simp only [Bool.and_eq_true] at hcond
                  have ht := Nat.eq_of_beq_eq_true hcond.1.1
                  have he := ctsBeq_eq _ _ hcond.1.2
                  have hts := tsBeq_eq _ _ hcond.2
                  subst ht
                  subst he
                  subst hts
                  simp only [SVR] at h1
                  obtain ⟨vals, mbs, p1, p2, rfl⟩ := o1
                  refine ⟨rfl, [⟨id, .deep t' e' ts' rows none, mbs.flatten, v.ownBlock.toList ++ mbs.flatten⟩], rfl, by simp, fun x hx => ?_⟩
                  rw [List.mem_singleton] at hx
                  subst hx
                  refine ⟨⟨_, hob⟩, rfl, fun av β' hv hb hn him => ?_⟩
                  simp only at hv hb hn ⊢
                  exact ⟨vals, mbs, by rw [hv, ← h1.1]; exact p1, p2, hn, by rw [hv, ← h1.1]⟩
            | box _ _ => simp at hq1
            | imm _ _ => simp at hq1
            | row _ _ _ _ _ => simp at hq1
          | _ => simp at hq1

theorem mu_outs (hc : Core w0 S f h β φ tm w) {im0 : List Nat} : ∀ (ks : List AK) (ms : List (Option MK)) (ss : List SV) (vs : List Value) (q : List DC × Met × List MU) (od : List DC) (im mb : List Nat), SVRL w (Av h β) β ss vs → (argsMM ks ms ss).val f h = some q → MOuts w' ks ms od vs im mb → (∀ b ∈ im, b ∈ im0) →
    Outs h β w' im0 q.2.2 od mb
  | [], ms, ss, vs, q, od, im, mb, hs, hq, ho, _ => by
    cases ms with
    | nil =>
      cases ss with
      | nil =>
        simp only [argsMM, M.val_pure, Option.some.injEq] at hq
        subst hq
        simp only [MOuts] at ho
        rw [ho.1, ho.2.2.2]
        exact ⟨rfl, [], rfl, rfl, by simp⟩
      | cons s ss => simp [argsMM] at hq
    | cons m ms => simp [argsMM] at hq
  | k :: ks, ms, ss, vs, q, od, im, mb, hs, hq, ho, him => by
    simp only [MOuts] at ho
    obtain ⟨m, ms, d1, d2, v, l, i1, i2, b1, b2, rfl, rfl, rfl, o1, o2, rfl, rfl⟩ := ho
    cases ss with
    | nil => cases m with
      | none => simp [argsMM] at hq
      | some m => cases m <;> simp [argsMM] at hq
    | cons s ss =>
      simp only [SVRL] at hs
      obtain ⟨v0, l0, e0, h1, h2⟩ := hs
      simp only [List.cons.injEq] at e0
      obtain ⟨rfl, rfl⟩ := e0
      have him2 : ∀ b ∈ i2, b ∈ im0 := fun b hb => him b (List.mem_append_right _ hb)
      cases m with
      | none =>
        simp only [argsMM, M.val_bind, Option.bind_eq_some_iff, M.val_pure, Option.some.injEq] at hq
        obtain ⟨q1, hq1, q2, hq2, rfl⟩ := hq
        simp only [MOut] at o1
        obtain ⟨rfl, rfl, rfl⟩ := o1
        exact mu_outs hc ks ms ss l q2 d2 i2 b2 h2 hq2 o2 him2
      | some m =>
        cases m with
        | box t =>
          cases s with
          | ptr id off =>
            cases off with
            | succ off => simp [argsMM] at hq
            | zero =>
              simp only [argsMM, M.val_obj, Option.bind_eq_some_iff] at hq
              obtain ⟨ob, hob, hq⟩ := hq
              cases ob with
              | box t' cells =>
                simp only at hq
                cases htt : Nat.beq t' t
                · simp [htt] at hq
                · have htt' := Nat.eq_of_beq_eq_true htt
                  subst htt'
                  simp only [htt, cond_true, M.val_bind, Option.bind_eq_some_iff] at hq
                  obtain ⟨q1, hq1, hq⟩ := hq
                  cases hem : q1.2.1.isEmpty
                  · simp [hem] at hq
                  · simp only [hem, cond_true, M.val_bind, Option.bind_eq_some_iff, M.val_pure, Option.some.injEq] at hq
                    obtain ⟨q2, hq2, rfl⟩ := hq
                    have k2 := mu_outs hc ks ms ss l q2 d2 i2 b2 h2 hq2 o2 him2
                    obtain ⟨us0, g1, g2, g3, g4⟩ := hc.objs id _ hob
                    simp only [MOut] at o1
                    obtain ⟨g, us, ev, ow1, ow2, ow3, ow4, rfl⟩ := o1
                    simp only [SVR] at h1
                    have eg : g = β.blk id := by
                      rw [h1] at ev
                      simp only [Value.pointer.injEq, Option.some.injEq, Addr.mk.injEq, and_true] at ev
                      exact ev.symm
                    subst eg
                    have hd1 : d1.length = k.cts.length := RdL.length _ _ _ _ ow3
                    refine Outs.append (U := [.box id t' k.cts]) ⟨by simp only [muLen, hd1]; omega, [⟨id, .box t' (ofDCs k.cts d1 0), [], [β.blk id]⟩], rfl, by simp, fun x hx => ?_⟩ k2
                    rw [List.mem_singleton] at hx
                    subst hx
                    refine ⟨⟨_, hob⟩, svIds_ofDCs _ _ _, fun av β' hv hb hn him' => ?_⟩
                    simp only at hv hb hn ⊢
                    obtain ⟨vs', l1, l2, l3, l4⟩ := RdL.svs (β := β') (av := av) ow3 (fun b hb => him' b (him b (List.mem_append_left _ hb))) k.cts.length 0 (by omega)
                    have ee : vs' = us := by
                      apply List.ext_getElem?
                      intro j
                      by_cases hj : j < vs'.length
                      · have := l2 j vs'[j] (by simp)
                        simp only [Nat.zero_add] at this
                        rw [this]
                        simp
                      · rw [List.getElem?_eq_none (by omega), List.getElem?_eq_none (by omega)]
                    subst ee
                    simp only [List.drop_zero, List.take_length] at l3
                    exact ⟨vs', by rw [hb]; exact ow1, l3, ow2, by rw [hb]⟩
              | row _ _ _ _ _ => simp at hq
              | imm _ _ => simp at hq
              | deep _ _ _ _ _ => simp at hq
          | _ => simp [argsMM] at hq
        | rows ts =>
          simp only [argsMM, M.val_bind, Option.bind_eq_some_iff, M.val_pure, Option.some.injEq] at hq
          obtain ⟨q1, hq1, q2, hq2, rfl⟩ := hq
          have k2 := mu_outs hc ks ms ss l q2 d2 i2 b2 h2 hq2 o2 him2
          simp only [MOut] at o1
          obtain ⟨us, ev, o1, rfl⟩ := o1
          have one : Outs h β w' im0 q1.2 d1 b1 := by
            cases hk : k.agg with
            | true =>
              cases s with
              | agg cs =>
                simp only [hk] at hq1
                simp only [SVR] at h1
                obtain ⟨us', rfl, hus, hone⟩ := h1
                rw [hk] at ev
                simp only [cond_true, Value.agg.injEq] at ev
                have : us' = us := by simpa using congrArg Array.toList ev
                subst this
                exact row_outs hc k.cts ts cs us' q1 d1 b1 hus hq1 o1
              | _ => simp [hk] at hq1
            | false =>
              have hq1' : (argCellsM k.cts ts [s]).val f h = some q1 := by
                cases s <;> simp only [hk] at hq1 <;> first | exact hq1 | (simp at hq1)
              rw [hk] at ev
              simp only [cond_false] at ev
              subst ev
              have hsing : SVRL w (Av h β) β [s] [v] := by simp only [SVRL]; exact ⟨v, [], rfl, h1, rfl⟩
              exact row_outs hc k.cts ts [s] [v] q1 d1 b1 hsing hq1' o1
          exact one.append k2

end
end Go.Proofs.Ytklbgnodgnlebaa.Vm

/- The value machine: calls that write through parameters are sound. Conditions: the contracts of the context hold. -/
set_option linter.unusedVariables false
set_option linter.unusedSimpArgs false
namespace Go.Proofs.Ytklbgnodgnlebaa.Vm

section
variable {P : Program} {Γ : Ctx} {w0 : World} {S : Own} {st : St} {o : Oper} {e : Eff} {a : Act} {w w' : World}
variable {f : Nat → SV} {h : Nat → Option VObj} {β : Env} {φ : Nat → List Nat} {tm : Array Value}

theorem fo_turns (T : List Turn) (l : List (Nat × Option VObj)) (j : Nat) : fo (T.map (fun x => (x.id, some x.obj)) ++ l) h j = match lkT T j with | some x => some x.obj | none => fo l h j := by
  induction T with
  | nil => rfl
  | cons y N ih =>
    simp only [List.map_cons, List.cons_append, fo, upd, lkT]
    split
    · rfl
    · exact ih

theorem metNot_ne {i : Nat} : ∀ {m : Met}, metNot i m = true → ∀ x ∈ m, x.1 ≠ i
  | [], _, x, hx => by simp at hx
  | (k, y) :: l, hm, x, hx => by
    simp only [metNot, Bool.and_eq_true, Bool.not_eq_true'] at hm
    rcases List.mem_cons.1 hx with rfl | hx
    · exact Nat.ne_of_beq_eq_false hm.1
    · exact metNot_ne hm.2 x hx

theorem fo_unmet {i : Nat} : ∀ {m : Met}, metNot i m = true → fo (metFreeze m) h i = h i
  | [], _ => rfl
  | (k, e', r, u) :: l, hm => by
    simp only [metNot, Bool.and_eq_true, Bool.not_eq_true'] at hm
    simp only [metFreeze, fo, upd]
    rw [if_neg (fun he => Nat.ne_of_beq_eq_false hm.1 he.symm)]
    exact fo_unmet hm.2

theorem frozen_unmet {i : Nat} : ∀ {m : Met}, metNot i m = true → frozenφ φ m i = φ i
  | [], _ => rfl
  | x :: l, hm => by
    obtain ⟨k, e', r, u⟩ := x
    simp only [metNot, Bool.and_eq_true, Bool.not_eq_true'] at hm
    simp only [frozenφ, upd]
    rw [if_neg (fun he => Nat.ne_of_beq_eq_false hm.1 he.symm)]
    exact frozen_unmet hm.2

/-- The blocks of what may be turned belong to objects. -/
theorem mu_top : ∀ {U : List MU}, MuOk h U → ∀ b ∈ U.flatMap (muTops β), ∃ id ∈ muIds U, ∃ ob, h id = some ob ∧ b ∈ tops β id ob
  | [], _, b, hb => by simp at hb
  | .box id t cs :: l, hm, b, hb => by
    simp only [MuOk] at hm
    obtain ⟨⟨cells, hc⟩, hm⟩ := hm
    rw [List.flatMap_cons, List.mem_append] at hb
    rcases hb with hb | hb
    · exact ⟨id, List.mem_cons_self .., _, hc, hb⟩
    · obtain ⟨i, hi, ob, h1, h2⟩ := mu_top hm b hb
      exact ⟨i, List.mem_cons_of_mem _ hi, ob, h1, h2⟩
  | .row id t e u :: l, hm, b, hb => by
    simp only [MuOk] at hm
    obtain ⟨⟨_, rows, hc⟩, hm⟩ := hm
    rw [List.flatMap_cons, List.mem_append] at hb
    rcases hb with hb | hb
    · exact ⟨id, List.mem_cons_self .., _, hc, hb⟩
    · obtain ⟨i, hi, ob, h1, h2⟩ := mu_top hm b hb
      exact ⟨i, List.mem_cons_of_mem _ hi, ob, h1, h2⟩
  | .deep id t e ts :: l, hm, b, hb => by
    simp only [MuOk] at hm
    obtain ⟨⟨rows, hc⟩, hm⟩ := hm
    rw [List.flatMap_cons, List.mem_append] at hb
    rcases hb with hb | hb
    · exact ⟨id, List.mem_cons_self .., _, hc, hb⟩
    · obtain ⟨i, hi, ob, h1, h2⟩ := mu_top hm b hb
      exact ⟨i, List.mem_cons_of_mem _ hi, ob, h1, h2⟩
  | .non :: l, hm, b, hb => by
    rw [List.flatMap_cons] at hb
    exact mu_top (U := l) hm b (by simpa [muTops] using hb)

theorem nodupB_cons {i : Nat} {l : List Nat} (hn : nodupB (i :: l) = true) : i ∉ l ∧ nodupB l = true := by
  simp only [nodupB, Bool.and_eq_true, Bool.not_eq_true', List.any_eq_false] at hn
  refine ⟨fun hi => ?_, hn.2⟩
  exact hn.1 i hi (Nat.beq_refl i)

theorem mu_nodup (hc : Core w0 S f h β φ tm w) : ∀ {U : List MU}, MuOk h U → nodupB (muIds U) = true → (U.flatMap (muTops β)).Nodup
  | [], _, _ => by simp
  | .box id t cs :: l, hm, hn => by
    simp only [MuOk] at hm
    obtain ⟨⟨cells, ho⟩, hm⟩ := hm
    obtain ⟨h1, h2⟩ := nodupB_cons hn
    rw [List.flatMap_cons, List.nodup_append]
    refine ⟨by simp [muTops], mu_nodup hc hm h2, ?_⟩
    intro b hb b' hb' hbb
    subst hbb
    obtain ⟨i, hi, ob, ho', hb2⟩ := mu_top (β := β) hm b hb'
    exact hc.sep id i _ ob (fun he => h1 (he ▸ hi)) ho ho' b (tops_sub (hc.objs _ _ ho) b hb) (tops_sub (hc.objs _ _ ho') b hb2)
  | .row id t e u :: l, hm, hn => by
    simp only [MuOk] at hm
    obtain ⟨⟨_, rows, ho⟩, hm⟩ := hm
    obtain ⟨h1, h2⟩ := nodupB_cons hn
    rw [List.flatMap_cons, List.nodup_append]
    refine ⟨?_, mu_nodup hc hm h2, ?_⟩
    · simp only [muTops]
      cases (β.val id).ownBlock <;> simp
    · intro b hb b' hb' hbb
      subst hbb
      obtain ⟨i, hi, ob, ho', hb2⟩ := mu_top (β := β) hm b hb'
      exact hc.sep id i _ ob (fun he => h1 (he ▸ hi)) ho ho' b (tops_sub (hc.objs _ _ ho) b hb) (tops_sub (hc.objs _ _ ho') b hb2)
  | .deep id t e ts :: l, hm, hn => by
    simp only [MuOk] at hm
    obtain ⟨⟨rows, ho⟩, hm⟩ := hm
    obtain ⟨h1, h2⟩ := nodupB_cons hn
    rw [List.flatMap_cons, List.nodup_append]
    refine ⟨?_, mu_nodup hc hm h2, ?_⟩
    · obtain ⟨vals, mbs, _, _, g3, g4⟩ := hc.objs _ _ ho
      have := (hc.fresh _ _ ho).1
      rw [g4] at this
      simpa only [muTops, g3] using this
    · intro b hb b' hb' hbb
      subst hbb
      obtain ⟨i, hi, ob, ho', hb2⟩ := mu_top (β := β) hm b hb'
      exact hc.sep id i _ ob (fun he => h1 (he ▸ hi)) ho ho' b (tops_sub (hc.objs _ _ ho) b hb) (tops_sub (hc.objs _ _ ho') b hb2)
  | .non :: l, hm, hn => by
    rw [List.flatMap_cons]
    simpa [muTops] using mu_nodup hc (U := l) hm hn

theorem resCells_app {d : Nat} : ∀ (rcs : List RC) (k : Nat) (r1 r2 : List DC), rcs.length ≤ r1.length → resCells d k rcs (r1 ++ r2) = resCells d k rcs r1
  | [], _, _, _, _ => rfl
  | .imm c :: cs, k, r1, r2, hl => by
    cases r1 with
    | nil => simp at hl
    | cons x r1 =>
      simp only [List.cons_append, resCells, List.headD_cons, List.tail_cons]
      rw [resCells_app cs k r1 r2 (by simpa using hl)]
  | .own t e :: cs, k, r1, r2, hl => by
    cases r1 with
    | nil => simp at hl
    | cons x r1 =>
      simp only [List.cons_append, resCells, List.headD_cons, List.tail_cons]
      rw [resCells_app cs (k + 1) r1 r2 (by simpa using hl)]
  | .deep t e ts :: cs, k, r1, r2, hl => by
    cases r1 with
    | nil => simp at hl
    | cons x r1 =>
      simp only [List.cons_append, resCells, List.headD_cons, List.tail_cons]
      rw [resCells_app cs (k + 1) r1 r2 (by simpa using hl)]

theorem resVals_app {d : Nat} : ∀ (rks : List RK) (k : Nat) (r1 r2 : List DC), r1.length = resCount rks → resVals d k rks (r1 ++ r2) = resVals d k rks r1
  | [], _, _, _, _ => rfl
  | r :: rs, k, r1, r2, hl => by
    simp only [resCount] at hl
    simp only [resVals]
    rw [List.take_append_of_le_length (by omega), List.drop_append_of_le_length (by omega), resVals_app rs _ _ r2 (by simp; omega)]

end
end Go.Proofs.Ytklbgnodgnlebaa.Vm

/- The value machine: calls that write through parameters are sound. Conditions: the contracts of the context hold. -/
set_option linter.unusedVariables false
set_option linter.unusedSimpArgs false
namespace Go.Proofs.Ytklbgnodgnlebaa.Vm

section
variable {P : Program} {Γ : Ctx} {w0 : World} {S : Own} {st : St} {o : Oper} {e : Eff} {a : Act} {w w' : World}
variable {f : Nat → SV} {h : Nat → Option VObj} {β : Env} {φ : Nat → List Nat} {tm : Array Value}

theorem sound_callM (hΓ : CtxHolds P Γ) {s : Sum} {g : Nat} (hs : lkS Γ g = some s) (hann : s.ann = false) (hpt : s.pt = none) (hms : s.ms ≠ []) (hR : Rel w0 S st a w) (hd : ∀ d, o.dst = some d → DstOk st.n d) (hfr : ∀ d, o.dst = some d → e.ow ≠ [] → FreshAt st d)
    {l : List SV} {us : List Value} (hent : ∀ fn, P.funcs[g]? = some fn → fn.body.isSome = true → (fn.name == "runtime.NumGoroutine") = false → (execOp a.eval o).run P w = .ok (.enter g us.toArray) w)
    (hl : ∀ β φ, Core w0 S st.get st.obj β φ a.tmps w → SVRL w (Av st.obj β) β l us) (he : (callMM s o.dst l).val st.get st.obj = some e) (hok : e.ok = true) : Good P w0 S st o e a w := by
  have hH : HoldsM P g s := by
    have h0 := hΓ g s hs
    unfold HoldsAny at h0
    rw [hann, cond_false, hpt] at h0
    simp only at h0
    split at h0
    · rename_i hm
      exact absurd hm hms
    · exact h0
  unfold callMM at he
  cases hcond : Nat.blt (ownTotal s.rs) 64 && !(shares s) && (o.dst.isSome || s.rs.isEmpty)
  · simp [hcond] at he
  simp only [hcond, cond_true, M.val_bind, Option.bind_eq_some_iff] at he
  obtain ⟨r, hr, he⟩ := he
  cases hc2 : metNodup r.2.1 && nodupB (muIds r.2.2) && (muIds r.2.2).all (fun i => metNot i r.2.1)
  · simp [hc2] at he
  simp only [hc2, cond_true, M.val_pure, Option.some.injEq] at he
  subst he
  simp only [Bool.and_eq_true, Bool.not_eq_true', List.all_eq_true] at hcond hc2
  obtain ⟨⟨h64, hsh⟩, hdr⟩ := hcond
  obtain ⟨⟨hmn, hun⟩, hum⟩ := hc2
  have h64 : ownTotal s.rs < 64 := Nat.le_of_ble_eq_true h64
  obtain ⟨⟨fn, hf, hb, hn⟩, hcalls⟩ := hH
  obtain ⟨β, φ, hc⟩ := hR.core
  obtain ⟨fp, hargs, hmet, hmu, hfav⟩ := argsMM_ok hc s.ps s.ms l _ r (hl β φ hc) hr
  have hmbN := mu_nodup hc hmu hun
  have hmbF : ∀ b ∈ r.2.2.flatMap (muTops β), b ∉ fp := by
    intro b hb hbf
    obtain ⟨id, hid, ob, hob, hbt⟩ := mu_top (β := β) hmu b hb
    rcases hfav b hbf with h3 | ⟨x, hx, hbx⟩
    · exact h3 (.inl ⟨id, ob, hob, hbt⟩)
    · obtain ⟨_, hx', _⟩ := hmet x hx
      rw [topsAt_eq hx'] at hbx
      have hne : x.1 ≠ id := metNot_ne (hum id hid) x hx
      exact hc.sep x.1 id _ ob hne hx' hob b (tops_sub (hc.objs _ _ hx') b hbx) (tops_sub (hc.objs _ _ hob) b hbt)
  intro Q
  unfold Oper.wp
  rw [hent fn hf hb hn, Oper.upon_enter]
  refine (hcalls w r.1 _ fp _ hargs hmbN hmbF hok).mono ?_
  rintro _ w' ⟨vs, φs, im, tp, im2, rd, od, ψ, rfl, hfn, hrd, hk, hres, hnd, hal, houts, hψn, hψ, him2⟩
  have him0 : im = [] := ResV.noimm _ _ _ _ _ _ (by simpa [shares] using hsh) hres
  have hdrop : (s.fn r.1).2.drop (resCount s.rs) = od := by rw [hfn, ← hrd, List.drop_left]
  have hrv : resVals (o.dst.getD 0) 0 s.rs (s.fn r.1).2 = resVals (o.dst.getD 0) 0 s.rs rd := by rw [hfn, resVals_app _ _ _ _ hrd]
  obtain ⟨N, n1, n2, n3, n4, n5, n6⟩ := resVals_ok (d := o.dst.getD 0) s.rs 0 _ vs φs im tp hres
  obtain ⟨_, T, hT, hTb, hgood⟩ := mu_outs (w' := w') hc s.ps s.ms l _ r od im2 ψ (hl β φ hc) hr houts (fun b hb => hb)
  have hTi : T.map Turn.id = muIds r.2.2 := by
    rw [← muObjs_ids r.2.2 od, ← hT, List.map_map]
    rfl
  have hc1 := hc.freezes r.2.1 hmet hmn
  have hNdst : N ≠ [] → ∃ d, o.dst = some d := by
    intro hne
    cases hdst : o.dst with
    | some d => exact ⟨d, rfl⟩
    | none =>
      rw [hdst] at hdr
      simp only [Option.isSome_none, Bool.false_or] at hdr
      have hrs : s.rs = [] := List.isEmpty_iff.1 hdr
      rw [hrs] at n2
      simp only [ownTotal, List.range'_zero, List.map_nil, List.map_eq_nil_iff] at n2
      exact absurd n2 hne
  have hids : ∀ x ∈ N, x.id / 64 = o.dst.getD 0 ∧ x.id ∈ N.map (·.id) := by
    intro x hx
    have hm : x.id ∈ N.map (·.id) := List.mem_map_of_mem hx
    refine ⟨?_, hm⟩
    rw [n2] at hm
    obtain ⟨j, hj, hj'⟩ := List.mem_map.1 hm
    rw [← hj']
    have := List.mem_range'_1.1 hj
    exact newId_div _ j (by omega)
  have hidn : (N.map (·.id)).Nodup := by
    rw [n2]
    refine List.Pairwise.map _ ?_ (List.nodup_range' ..)
    intro x y hxy e
    unfold newId at e
    omega
  have hle := hR.kept.size
  have hUids : ∀ x ∈ T, x.id ∈ muIds r.2.2 := by
    intro x hx
    rw [← hTi]
    exact List.mem_map_of_mem hx
  have hmbav : ∀ b ∈ r.2.2.flatMap (muTops β), Av st.obj β b := by
    intro b hb
    obtain ⟨id, hid, ob, hob, hbt⟩ := mu_top (β := β) hmu b hb
    exact .inl ⟨id, ob, hob, hbt⟩
  have hval : ∀ x ∈ N, (β.setNT N T).val x.id = x.v := by
    intro x hx
    simp [Env.setNT, lkN_some hx hidn]
  let h' : Nat → Option VObj := actH N T (fo (metFreeze r.2.1) st.obj)
  have himav : ∀ b ∈ im2, ¬ Av h' (β.setNT N T) b := by
    rintro b hb (⟨j, oj, hj, hbj⟩ | hbar)
    case inr =>
      have hib := him2 b hb
      have hbw := (hc1.bar b hbar).1
      rcases hib.1 with hfpb | hbig
      · rcases hfav b hfpb with h3 | ⟨x, hx, hbx⟩
        · exact h3 (.inr hbar)
        · exact not_av_met hc hmet hx hbx (.inr hbar)
      · omega
    have hib := him2 b hb
    cases hlk : lkN N j with
    | some x =>
      simp only [h', actH, hlk, Option.some.injEq] at hj
      subst hj
      have hx := (lkN_mem hlk).1
      refine hib.2.1 ?_
      rw [← n5]
      refine List.mem_flatMap.2 ⟨x, hx, ?_⟩
      obtain ⟨_, rfl⟩ := lkN_mem hlk
      rwa [x.tops_eq (by simp [Env.setNT, hlk]) (by simp [Env.setNT, hlk])] at hbj
    | none =>
      simp only [h', actH, hlk] at hj
      cases hu : lkT T j with
      | some x =>
        simp only [hu, Option.some.injEq] at hj
        subst hj
        obtain ⟨hxT, rfl⟩ := lkT_mem hu
        have h1 : b ∈ x.blks := by
          have hobj := (hgood x hxT).2.2 (fun _ => False) (β.setNT N T) (by simp [Env.setNT, hlk]) rfl (by simp [Env.setNT, hlk, hu]) (fun _ _ h => h)
          exact tops_sub hobj b hbj
        exact hib.2.2 (by rw [← hTb]; exact List.mem_flatMap.2 ⟨x, hxT, h1⟩)
      | none =>
        simp only [hu] at hj
        have hbj' : b ∈ tops β j oj := by
          cases oj <;> simp only [tops, Env.setNT, hlk, hu] at hbj ⊢ <;> exact hbj
        have hblt := ((hc1.fresh j oj hj).2 b (tops_sub (hc1.objs j oj hj) b hbj')).2
        rcases hib.1 with hfpb | hbig
        · rcases hfav b hfpb with h3 | ⟨x, hx, hbx⟩
          · exact h3 (av_frozen (.inl ⟨j, oj, hj, hbj'⟩))
          · exact not_av_met hc hmet hx hbx (.inl ⟨j, oj, hj, hbj'⟩)
        · omega
  have hcN := hc1.acts (N := N) (U := T) (im := im2) (mb := r.2.2.flatMap (muTops β)) hk.size hle ?_ ?_ ?_ ?_ (by rw [hTb]; exact hψn) (by rw [hTb, n4]; exact hψ) himav ?_ n3 (by rw [n4]; exact hnd) (by rw [n4]; exact hal)
  · have hsvl := n6 (Av h' (β.setNT N T)) (β.setNT N T) hval (by rw [him0]; simp)
    have hk' : Kept S w0 w' := by
      refine ⟨hk.os.trans hR.kept.os, hk.tape.trans hR.kept.tape, hk.output.trans hR.kept.output, by have := hk.size; omega, fun k h1 h2 => ?_⟩
      refine (hk.block k (by omega) (fun hkm => ?_)).trans (hR.kept.block k h1 h2)
      obtain ⟨id, hid, ob, hob, hbt⟩ := mu_top (β := β) hmu k hkm
      rcases ((hc.fresh id ob hob).2 k (tops_sub (hc.objs _ _ hob) k hbt)).1 with h3 | h3
      · omega
      · exact h2 h3
    have hfo : fo ((resVals (o.dst.getD 0) 0 s.rs (s.fn r.1).2).2 ++ (muOw r.2.2 ((s.fn r.1).2.drop (resCount s.rs)) ++ metFreeze r.2.1)) (fc none st.obj) = h' := by
      funext j
      have : ((muObjs r.2.2 od).map fun x => (x.1, some x.2)) = T.map fun x => (x.id, some x.obj) := by
        rw [← hT, List.map_map]
        rfl
      rw [hrv, hdrop, n1, muOw_eq, this, fo_rows, fo_turns]
      rfl
    refine ⟨pack vs, rfl, rel_put hR hd hk' ⟨β.setNT N T, actφ N T (frozenφ φ r.2.1), ?_, ?_⟩⟩
    · show Core w0 S st.get (fo ((resVals (o.dst.getD 0) 0 s.rs (s.fn r.1).2).2 ++ (muOw r.2.2 ((s.fn r.1).2.drop (resCount s.rs)) ++ metFreeze r.2.1)) (fc none st.obj)) _ _ _ _
      rw [hfo]
      exact hcN
    · show SVR w' (Av (fo ((resVals (o.dst.getD 0) 0 s.rs (s.fn r.1).2).2 ++ (muOw r.2.2 ((s.fn r.1).2.drop (resCount s.rs)) ++ metFreeze r.2.1)) (fc none st.obj)) (β.setNT N T)) (β.setNT N T) (packSV (resVals (o.dst.getD 0) 0 s.rs (s.fn r.1).2).1) (pack vs)
      rw [hfo, hrv]
      generalize (resVals (o.dst.getD 0) 0 s.rs rd).1 = q at hsvl
      match q, vs, hsvl with
      | [], vs, hsvl =>
        simp only [SVRL] at hsvl
        subst hsvl
        simp only [packSV, pack, SVR]
        exact ⟨[], rfl, by simp [SVRL]⟩
      | [x], vs, hsvl =>
        simp only [SVRL] at hsvl
        obtain ⟨v, l', rfl, h1, rfl⟩ := hsvl
        exact h1
      | x :: y :: q, vs, hsvl =>
        have hsvl' := hsvl
        simp only [SVRL] at hsvl
        obtain ⟨v, l', rfl, h1, v2, l2, rfl, h2, h3⟩ := hsvl
        simp only [packSV, pack]
        unfold SVR
        exact ⟨v :: v2 :: l2, rfl, hsvl'⟩
  · intro b hb
    obtain ⟨id, hid, ob, hob, hbt⟩ := mu_top (β := β) hmu b hb
    rw [← hTi] at hid
    obtain ⟨x, hx, rfl⟩ := List.mem_map.1 hid
    exact ⟨x, hx, ob, by rw [fo_unmet (hum _ (hUids x hx))]; exact hob, hbt⟩
  · exact fun b hb hnb => hk.block b hb hnb
  · intro x hx
    obtain ⟨⟨ob, h1⟩, h2, _⟩ := hgood x hx
    exact ⟨⟨ob, by rw [fo_unmet (hum _ (hUids x hx))]; exact h1⟩, h2⟩
  · exact fun x hx => (hgood x hx).2.2
  · intro x hx
    have h1 := (hids x hx).1
    obtain ⟨d, hdst⟩ := hNdst (fun h0 => by rw [h0] at hx; simp at hx)
    have hfr := hfr d hdst (by
      show (resVals (o.dst.getD 0) 0 s.rs (s.fn r.1).2).2 ++ _ ≠ []
      rw [hrv, n1]
      intro h0
      rw [List.append_eq_nil_iff] at h0
      have : N = [] := by simpa [rowsOw] using h0.1
      rw [this] at hx
      simp at hx)
    rw [hdst] at h1
    simp only [Option.getD_some] at h1
    refine ⟨?_, fun i hi => hfr.slot i _ hi h1, fun k ok hk' hi => ?_⟩
    · cases hn : fo (metFreeze r.2.1) st.obj x.id with
      | none => rfl
      | some ob =>
        rcases frozen_obj hn with h2 | ⟨e', r', rfl, y, hy, h2⟩
        · exact absurd h1 (hfr.obj _ ob h2).1
        · obtain ⟨_, h3, _⟩ := hmet y hy
          rw [h2] at h3
          exact absurd h1 (hfr.obj _ _ h3).1
    · rcases frozen_obj hk' with h2 | ⟨e', r', rfl, _⟩
      · exact (hfr.obj k ok h2).2 _ hi h1
      · simp [objIds] at hi

end
end Go.Proofs.Ytklbgnodgnlebaa.Vm

/- The value machine: calls that hand back a pointer to a new variable are sound. Conditions: the contracts of the context hold. -/
set_option linter.unusedVariables false
set_option linter.unusedSimpArgs false
namespace Go.Proofs.Ytklbgnodgnlebaa.Vm

section
variable {P : Program} {Γ : Ctx} {w0 : World} {S : Own} {st : St} {o : Oper} {e : Eff} {a : Act} {w w' : World}
variable {f : Nat → SV} {h : Nat → Option VObj} {β : Env} {φ : Nat → List Nat} {tm : Array Value}

theorem RdL.all {av : Nat → Prop} {cs : List CT} {r : List DC} {us : List Value} {fp : List Nat} (hr : RdL w cs r (fun j => us[j]?) fp) (hl : us.length = cs.length) (ha : ∀ b ∈ fp, ¬ av b) : SVRL w av β (ofDCs cs r 0) us := by
  obtain ⟨vs, l1, l2, l3, l4⟩ := RdL.svs (β := β) hr ha cs.length 0 (by omega)
  have e : vs = us := by
    apply List.ext_getElem?
    intro j
    by_cases hj : j < vs.length
    · have := l2 j vs[j] (by simp)
      simp only [Nat.zero_add] at this
      rw [this]
      simp
    · rw [List.getElem?_eq_none (by omega), List.getElem?_eq_none (by omega)]
  subst e
  simpa only [List.drop_zero, List.take_length] using l3

theorem ofDC_ids (c : CT) (d : DC) : svIds (ofDC c d) = [] := by cases c <;> rfl
theorem ofDCs_ids : ∀ (cs : List CT) (ds : List DC) (k : Nat), svIdsL (ofDCs cs ds k) = []
  | [], _, _ => rfl
  | c :: cs, ds, k => by simp [ofDCs, svIdsL, ofDC_ids, ofDCs_ids cs ds (k + 1)]

theorem sound_callP (hΓ : CtxHolds P Γ) {s : Sum} {g : Nat} (hs : lkS Γ g = some s) (hann : s.ann = false) {t : TypeId} {cts : List CT} (hpt : s.pt = some (t, cts)) (hR : Rel w0 S st a w) {d : Nat} (hdst : o.dst = some d) (hd : DstOk st.n d) (hfr : e.ow ≠ [] → FreshAt st d)
    {c : Call} (ho : o.op = .call c) (hg : c.callee = .value (.func g)) {l : List SV}
    (hl : (evMs c.args.toList).val st.get st.obj = some l) (he : (callM Γ (some d) g l).val st.get st.obj = some e) (hok : e.ok = true) : Good P w0 S st o e a w := by
  unfold callM at he
  rw [hs] at he
  simp only [hann, cond_false, hpt, M.val_bind, Option.bind_eq_some_iff] at he
  obtain ⟨r, hr, he⟩ := he
  cases hmn : metNodup r.2
  · simp [hmn] at he
  simp only [hmn, cond_true, M.val_pure, Option.some.injEq] at he
  subst he
  have hH : HoldsP P g s t cts := by
    have h0 := hΓ g s hs
    unfold HoldsAny at h0
    rw [hann, cond_false, hpt] at h0
    exact h0
  obtain ⟨⟨fn, hf, hb, hn⟩, hcalls⟩ := hH
  obtain ⟨β, φ, hc⟩ := hR.core
  obtain ⟨fp, hargs, hmet, hfav⟩ := argsM_ok hc s.ps l _ r (evMs_ok hc _ l hl) hr
  intro Q
  unfold Oper.wp
  rw [run_call ho hg hf hb hn, Oper.upon_enter]
  have hvals : c.args.map a.eval = (c.args.toList.map a.eval).toArray := by rw [← Array.toList_map, Array.toArray_toList]
  rw [hvals]
  refine (hcalls w r.1 _ fp hargs hok).mono ?_
  rintro _ w' ⟨b, us, im, rfl, hk, hb0, hb1, hcell, hone, hrd, hlen, him⟩
  have hc1 := hc.freezes r.2 hmet hmn
  have hnew : newId d 0 / 64 = d := newId_div d 0 (by omega)
  have hfr := hfr (by simp)
  have hβ : ∀ j, j ≠ newId d 0 → (β.setB (newId d 0) b).val j = β.val j ∧ (β.setB (newId d 0) b).blk j = β.blk j := by
    intro j hj
    exact ⟨rfl, by simp [Env.setB, upd, hj]⟩
  have hblk : (β.setB (newId d 0) b).blk (newId d 0) = b := by simp [Env.setB, upd]
  have htop : ∀ x ∈ tops (β.setB (newId d 0) b) (newId d 0) (.box t (ofDCs cts (s.fn r.1).2 0)), w.heap.size ≤ x := by
    intro x hx
    simp only [tops, hblk, List.mem_singleton] at hx
    omega
  have hle := hR.kept.size
  have hw : ∀ x, x < w.heap.size → w'.heap[x]? = w.heap[x]? := fun x hx => hk.block x hx (fun h => h)
  have hk' : Kept S w0 w' := ⟨hk.os.trans hR.kept.os, hk.tape.trans hR.kept.tape, hk.output.trans hR.kept.output, by have := hk.size; omega, fun k h1 h2 => (hw k (by omega)).trans (hR.kept.block k h1 h2)⟩
  have himav : ∀ x ∈ im, ¬ Av (upd (fo (metFreeze r.2) st.obj) (newId d 0) (some (.box t (ofDCs cts (s.fn r.1).2 0)))) (β.setB (newId d 0) b) x := by
    rintro x hx (⟨j, oj, hj, hbj⟩ | hbar)
    · have hix := him x hx
      by_cases hjj : j = newId d 0
      · subst hjj
        simp only [upd, if_true, Option.some.injEq] at hj
        subst hj
        simp only [tops, hblk, List.mem_singleton] at hbj
        exact hix.2 hbj
      · simp only [upd, hjj, if_false] at hj
        have hbj' : x ∈ tops β j oj := by
          cases oj <;> simp only [tops, hβ j hjj] at hbj ⊢ <;> exact hbj
        have hlt := ((hc1.fresh j oj hj).2 x (tops_sub (hc1.objs j oj hj) x hbj')).2
        rcases hix.1 with h3 | h3
        · rcases hfav x h3 with h4 | ⟨y, hy, h4⟩
          · exact h4 (av_frozen (.inl ⟨j, oj, hj, hbj'⟩))
          · exact not_av_met hc hmet hy h4 (.inl ⟨j, oj, hj, hbj'⟩)
        · omega
    · have hix := him x hx
      have hbw := (hc1.bar x hbar).1
      rcases hix.1 with h3 | h3
      · rcases hfav x h3 with h4 | ⟨y, hy, h4⟩
        · exact h4 (.inr hbar)
        · exact not_av_met hc hmet hy h4 (.inr hbar)
      · omega
  refine ⟨_, rfl, rel_put hR (fun d' h' => by rw [hdst] at h'; injection h' with h'; exact h' ▸ hd) hk' ⟨β.setB (newId d 0) b, upd (frozenφ φ r.2) (newId d 0) [b], ?_, ?_⟩⟩
  · refine hc1.create hk.size hw (fun i hi => hfr.slot i _ hi hnew) (fun j ob hj hi => ?_) ?_ hβ htop ?_ (by simp) ?_
    · rcases frozen_obj hj with h1 | ⟨e', r, rfl, _⟩
      · exact (hfr.obj j ob h1).2 _ hi hnew
      · simp [objIds] at hi
    · cases hn : fo (metFreeze r.2) st.obj (newId d 0) with
      | none => rfl
      | some ob =>
        rcases frozen_obj hn with h1 | ⟨e', r, rfl, y, hy, h2⟩
        · exact absurd hnew (hfr.obj _ ob h1).1
        · obtain ⟨_, h3, _⟩ := hmet y hy
          rw [h2] at h3
          exact absurd hnew (hfr.obj _ _ h3).1
    · exact ⟨us, by rw [hblk]; exact hcell, RdL.all hrd hlen himav, hone, by rw [hblk]⟩
    · intro x hx
      rw [List.mem_singleton] at hx
      subst hx
      refine ⟨⟨.inl (by omega), hb1⟩, fun j ob hj hbj => ?_⟩
      have := ((hc1.fresh j ob hj).2 _ hbj).2
      omega
  · simp only [SVR, hblk]

end

end Go.Proofs.Ytklbgnodgnlebaa.Vm

/- The value machine: function values; parts of a row that is still written. Conditions: as each lemma says. -/
set_option linter.unusedVariables false
set_option linter.unusedSimpArgs false
namespace Go.Proofs.Ytklbgnodgnlebaa.Vm

section
variable {P : Program} {Γ : Ctx} {w0 : World} {S : Own} {st : St} {o : Oper} {e : Eff} {a : Act} {w w' : World}
variable {f : Nat → SV} {h : Nat → Option VObj} {β : Env} {φ : Nat → List Nat} {tm : Array Value}

theorem sound_makeFunc (hR : Rel w0 S st a w) (hd : ∀ d, o.dst = some d → DstOk st.n d) {g : Nat} {first cap : Array Operand} (ho : o.op = .makeFunc (.func g) first cap) (hf : first.toList = []) {cs : List SV}
    (hcs : (evMs cap.toList).val st.get st.obj = some cs) (he : e = { sv := .clo g cs }) : Good P w0 S st o e a w := by
  subst he
  have hf' : first = #[] := by cases first; simp at hf; subst hf; rfl
  subst hf'
  refine good_pure hR hd rfl rfl fun β φ hc => ?_
  refine ⟨.func (.func g) #[] (cap.map a.eval), ?_, ?_⟩
  · simp [execOp, ho, Instr.makeFunc]
  · simp only [SVR]
    refine ⟨cap.toList.map a.eval, ?_, evMs_ok hc _ _ hcs⟩
    rw [← Array.toList_map, Array.toArray_toList]

theorem run_clo {c : Call} {k g : Nat} {fn : Func} {vs : List Value} (ho : o.op = .call c) (hg : c.callee = .value (.tmp k)) (hv : a.eval (.tmp k) = .func (.func g) #[] vs.toArray) (hf : P.funcs[g]? = some fn) (hb : fn.body.isSome = true)
    (hn : (fn.name == "runtime.NumGoroutine") = false) : (execOp a.eval o).run P w = .ok (.enter g ((c.args.toList.map a.eval) ++ vs).toArray) w := by
  have hb' : fn.body.isNone = false := by cases h : fn.body <;> simp_all
  have e1 : ((c.args.toList.map a.eval) ++ vs).toArray = c.args.map a.eval ++ vs.toArray := by
    rw [← List.append_toArray, ← Array.toList_map, Array.toArray_toList]
  rw [e1]
  simp only [execOp, ho, resolve, hg, hv, Deferred.ofValue, Sem.run_bind, Sem.run_pure, Result.andThen_ok, invoke, callFunc, run_program, hf, hn, hb', Bool.false_eq_true, if_false]
  simp

theorem sound_clo (hΓ : CtxHolds P Γ) {s : Sum} {g k : Nat} {cs : List SV} (hs : lkS Γ g = some s) (hann : s.ann = false) (hpt : s.pt = none) (hms : s.ms ≠ []) (hR : Rel w0 S st a w) (hd : ∀ d, o.dst = some d → DstOk st.n d) (hfr : ∀ d, o.dst = some d → e.ow ≠ [] → FreshAt st d)
    {c : Call} (ho : o.op = .call c) (hg : c.callee = .value (.tmp k)) (hk : (evM (.tmp k)).val st.get st.obj = some (.clo g cs)) {l : List SV}
    (hl : (evMs c.args.toList).val st.get st.obj = some l) (he : (callMM s o.dst (l ++ cs)).val st.get st.obj = some e) (hok : e.ok = true) : Good P w0 S st o e a w := by
  obtain ⟨β, φ, hc⟩ := hR.core
  have hx := hc.ev hk
  simp only [SVR] at hx
  obtain ⟨vs, hv, _⟩ := hx
  refine sound_callM hΓ hs hann hpt hms hR hd hfr (us := (c.args.toList.map a.eval) ++ vs) (fun fn hf hb hn => run_clo ho hg hv hf hb hn) (fun β φ hc => ?_) he hok
  have hx := hc.ev hk
  simp only [SVR] at hx
  obtain ⟨vs', hv', h'⟩ := hx
  rw [hv] at hv'
  injection hv' with _ _ h3
  have : vs = vs' := by simpa using h3
  subst this
  exact SVRL.append _ _ _ _ (evMs_ok hc _ l hl) h'

theorem sound_sliceO (hR : Rel w0 S st a w) (hd : ∀ d, o.dst = some d → DstOk st.n d) {t : TypeId} {x : Operand} {lo hi : Option Operand} (ho : o.op = .slice t x lo hi none) {sx : SV} {slo shi : Option SV}
    (h1 : (evM x).val st.get st.obj = some sx) (h2 : (evMo lo).val st.get st.obj = some slo) (h3 : (evMo hi).val st.get st.obj = some shi)
    (he : (sliceO P t sx slo shi).val st.get st.obj = some e) (hok : e.ok = true) : Good P w0 S st o e a w := by
  unfold sliceO at he
  split at he
  · rename_i et id k l hu
    simp only [M.val_obj, Option.bind_eq_some_iff] at he
    obtain ⟨ob, hob, he⟩ := he
    split at he
    · rename_i t' ct r fz u
      cases hz : Nat.beq t' et && sizeB P et ct.length
      · simp [hz] at he
      simp only [hz, cond_true, M.val_pure, Option.some.injEq] at he
      subst he
      simp only [Bool.and_eq_true] at hz
      simp only [Bool.and_eq_true, decide_eq_true_eq] at hok
      obtain ⟨i, hi', hsz⟩ := sizeB_size hz.2
      refine good_pure hR hd rfl rfl fun β φ hc => ?_
      have hx := hc.ev h1
      simp only [SVR] at hx
      obtain ⟨vals, fps, hown, _⟩ := hc.objs id _ hob
      rcases hown.2 with ⟨_, h0, _⟩ | ⟨g, cap, cur, hv, hg, hnc, hcm, hcs, htk⟩
      · omega
      have hb := run_bounds (P := P) (isS := true) (n := r.length) (cap := cap) (l := l.toNat) (m := r.length) (c := decide (0 ≤ l) && decide (l ≤ (r.length : Int))) hnc hc h2 h3 rfl (by simp only [Bool.and_eq_true, decide_eq_true_eq]; exact hok.1)
      refine ⟨.slice (some ⟨g, if l.toNat < cap then l.toNat * ct.length else 0, none⟩) (r.length - l.toNat) (cap - l.toNat), ?_, ?_⟩
      · have hrun : (execOp a.eval o).run P w = .ok (.value (.slice (if cap = l.toNat then some ⟨g, 0, none⟩ else (some (⟨g, 0, none⟩ : Addr)).map (·.add (l.toNat * i.size))) (r.length - l.toNat) (cap - l.toNat))) w := by
          simp [execOp, ho, hx.1, hv, Instr.sliceAt, Instr.slice, run_underlying hu, hb, sizeOf, typeInfo, hi']
        rw [hrun]
        by_cases hlt : l.toNat < cap
        · rw [if_neg (by omega), if_pos hlt, hsz]
          simp [addr_add]
        · rw [if_pos (by omega), if_neg hlt]
      · simp only [SVR]
        exact ⟨g, r.length, cap, hv, by omega, rfl⟩
    · simp at he
  · simp at he

theorem InR.take {ct : List CT} {rows : List (List DC)} {vals : List Value} {fps : List (List Nat)} (hin : InR w ct rows vals fps) (k : Nat) : InR w ct (rows.take k) (vals.take (k * ct.length)) (fps.take k) := by
  refine ⟨by simp [hin.1], fun i r f hi hf => ?_⟩
  rw [List.getElem?_take] at hi hf
  split at hi
  · rename_i hik
    rw [if_pos hik] at hf
    refine row_reads.RdL.ofSub' (fun j u hj hu => ?_) (hin.2 i r f hi hf)
    rw [List.getElem?_take, if_pos]
    · exact hu
    · have : (i + 1) * ct.length ≤ k * ct.length := Nat.mul_le_mul_right _ hik
      rw [Nat.succ_mul] at this
      omega
  · cases hi

theorem InR.drop {ct : List CT} {rows : List (List DC)} {vals : List Value} {fps : List (List Nat)} (hin : InR w ct rows vals fps) (k : Nat) : InR w ct (rows.drop k) (vals.drop (k * ct.length)) (fps.drop k) := by
  refine ⟨by simp [hin.1], fun i r f hi hf => ?_⟩
  rw [List.getElem?_drop] at hi hf
  refine row_reads.RdL.ofSub' (fun j u hj hu => ?_) (hin.2 (k + i) r f hi hf)
  rw [List.getElem?_drop, ← hu]
  congr 1
  rw [Nat.add_mul]
  omega

theorem append_room_at {t ty et : TypeId} {i : TypeInfo} (ht : P.underlying t = some (.slice et)) (hi : P.info? et = some i) {g off sLen sCap : Nat} {cur : Array Value} {t' : TypeId} (hg : w.heap[g]? = some (.cells cur t' (0, 0)))
    {ad : Addr} {m c : Nat} {news : List Value} (hl : news.length = m * i.size) (hnews : ∀ j u, news[j]? = some u → w.cell? (ad.add j) = some u) (h1 : ∀ u ∈ news, u.oneCell' = true) (hroom : sLen + m ≤ sCap) (hfit : off + sLen * i.size + news.length ≤ cur.size) :
    (Builtin.append_ #[t, t] ty #[.slice (some ⟨g, off, none⟩) sLen sCap, .slice (some ad) m c]).run P w = .ok (.slice (some ⟨g, off, none⟩) (sLen + m) sCap) (w.setRow g (cur.toList.take (off + sLen * i.size) ++ (news ++ cur.toList.drop (off + sLen * i.size + news.length))).toArray) := by
  have hfc := run_firstCells_some (P := P) w i.size m ad m c news hl hnews
  have hst := run_storeCells_free P g (off + sLen * i.size) t' (0, 0) news 0 cur w hg (fun j _ h => by simp at h) (by omega) h1
  simp only [Nat.add_zero] at hst
  simp [Builtin.append_, run_underlying ht, sizeOf, typeInfo, hi, Builtin.lenOf, hroom, hfc, Addr.add_lit, hst]

/-- An object that is gone; its block was written. -/
theorem Core.ended (hc : Core w0 S f h β φ tm w) {id : Nat} {ob : VObj} (hob : h id = some ob) (hs : w.heap.size ≤ w'.heap.size) (hw : ∀ b, b < w.heap.size → b ∉ tops β id ob → w'.heap[b]? = w.heap[b]?) : Core w0 S f (upd h id none) β φ tm w' := by
  have hsub : ∀ j o, upd h id none j = some o → j ≠ id ∧ h j = some o := by
    intro j o hj
    by_cases hji : j = id
    · subst hji; simp [upd] at hj
    · simp only [upd, hji, if_false] at hj
      exact ⟨hji, hj⟩
  have hav : ∀ b, Av (upd h id none) β b → Av h β b := by
    rintro b (⟨j, o, hj, hb⟩ | hb)
    · exact .inl ⟨j, o, (hsub j o hj).2, hb⟩
    · exact .inr hb
  refine hc.step (fun _ => False) hs (fun b hb hn => hw b hb (fun hx => hn (.inl ⟨id, ob, hob, hx⟩))) (fun b hb => .inl (hav b hb)) (fun _ _ _ h => h) (fun _ _ => ⟨rfl, rfl⟩) ?_ ?_
  · intro j o hj
    obtain ⟨hji, hj⟩ := hsub j o hj
    refine .inl ⟨fun h => h, hj, rfl, fun _ _ h => h, fun b hb => ?_⟩
    have hbφ := tops_sub (hc.objs j o hj) b hb
    exact hw b ((hc.fresh j o hj).2 b hbφ).2 (fun hx => hc.sep id j ob o (Ne.symm hji) hob hj b (tops_sub (hc.objs id ob hob) b hx) hbφ)
  · intro i j oi oj hne hi hj b hb
    exact hc.sep i j oi oj hne (hsub i oi hi).2 (hsub j oj hj).2 b hb

theorem not_av_ended (hc : Core w0 S f h β φ tm w) {id : Nat} {ob : VObj} (hob : h id = some ob) {b : Nat} (hb : b ∈ tops β id ob) : ¬ Av (upd h id none) β b := by
  rintro (⟨j, o, hj, hx⟩ | hx)
  · by_cases hji : j = id
    · subst hji; simp [upd] at hj
    · simp only [upd, hji, if_false] at hj
      exact hc.sep id j ob o (Ne.symm hji) hob hj b (tops_sub (hc.objs id ob hob) b hb) (tops_sub (hc.objs j o hj) b hx)
  · exact hc.not_bar hob (tops_sub (hc.objs id ob hob) b hb) hx

theorem read_own {t : TypeId} {ct : List CT} {rows : List (List DC)} {v : Value} {vals : List Value} {fps : List (List Nat)} (hown : OwnR w t ct.length false v rows.length vals) (hin : InR w ct rows vals fps) (hfl : flatB ct = true) :
    ∃ fp, RdC w (.sl ct) (.sl rows) v fp ∧ ∀ b ∈ fp, b ∈ v.ownBlock.toList := by
  have hf := hin.flat hfl
  obtain ⟨fp, h1, h2, _⟩ := row_reads (w := w) (av := fun b => b ∉ v.ownBlock.toList) (β := ⟨fun _ => 0, fun _ => v, fun _ => False, fun _ => []⟩) (id := 0) (t := t) (e := ct) (rows := rows) (fz := false) (u := false) (φ := v.ownBlock.toList)
    ⟨vals, fps, hown, hin, by rw [hf]; simp, by simp⟩
  refine ⟨fp, h1, fun b hb => ?_⟩
  rcases h2 b hb with h3 | h3
  · simpa [tops] using h3
  · exact Classical.not_not.1 h3

theorem sound_appendO (hR : Rel w0 S st a w) (hd : ∀ d, o.dst = some d → DstOk st.n d) {t et : TypeId} {s x : Operand} {c : Call} (ho : o.op = .call c) (hb : c.callee = .builtin .append) (hargs : c.args = #[s, x])
    (hat : c.argTypes = #[t, t]) {id lo : Nat} {u : Bool} {r : List (List DC)} {sx : SV} {ct : List CT} {q : List (List DC) × Met × Bool} {z : List SV} (h1 : (evM s).val st.get st.obj = some (.osl id lo ct.length)) (h2 : (evM x).val st.get st.obj = some sx)
    (hob : st.obj id = some (.row et ct r false u)) (hu : P.underlying t = some (.slice et)) (hfl : flatB ct = true)
    (hsz : sizeB P et ct.length = true) (hp : 0 < ct.length) (hz : (zeroM P et).val st.get st.obj = some z) (hzl : z.length = ct.length) (hq : (rowsM ct sx).val st.get st.obj = some q) (hnot : metNot id q.2.1 = true) (hlo : lo ≤ r.length)
    (hroom : roomB P et ((r.drop lo).length + q.1.length) = true) (hsv : e.sv = .sl ct (r.drop lo ++ q.1)) (hcw : e.cw = none) (how : e.ow = [(id, none)]) : Good P w0 S st o e a w := by
  obtain ⟨i, hi, hsize⟩ := sizeB_size hsz
  obtain ⟨i', zv, hi', hzv, rfl, _⟩ := zeroM_ok hz
  rw [hi] at hi'
  injection hi' with hi'
  subst hi'
  obtain ⟨hbytes, hmax⟩ := roomB_ok hi hroom
  obtain ⟨β, φ, hc⟩ := hR.core
  obtain ⟨fp, hrd, hmet0, hmn0, hfav, hfu⟩ := rowsM_ok hc (hc.ev h2) hq
  obtain ⟨Q, m, cc, hxv, hml, -, -, -⟩ := sl_form hrd
  rw [hxv] at hrd
  obtain ⟨hmr, news, fps2, hnl, hqn, hcell, hone, hin2, hsub, hnod⟩ := src_cells hrd hp
  have hs0 := hc.ev h1
  simp only [SVR] at hs0
  obtain ⟨g, n, cap, hval, hln, hsv0⟩ := hs0
  obtain ⟨vals, fps, hown, hin, hiav, hφ⟩ := hc.objs id _ hob
  have hft : ∀ b ∈ tops β id (.row et ct r false u), b = g := by
    intro b hb'
    simp only [tops, hval, Value.ownBlock] at hb'
    simpa using hb'
  have hgt : g ∈ tops β id (.row et ct r false u) := by simp [tops, hval, Value.ownBlock]
  rcases hown.2 with ⟨hv0, _, _⟩ | ⟨g', cap', cur, hv', hg, hnc, hcm, hcs, htk⟩
  · rw [hval] at hv0; cases hv0
  rw [hval] at hv'
  injection hv' with e1 e2 e3
  injection e1 with e1
  injection e1 with e1
  subst e1 e2 e3
  have hgφ := tops_sub (hc.objs id _ hob) g hgt
  have hgS := (hc.fresh id _ hob).2 g hgφ
  have hvl := hown.1
  have hfps2 := hin2.flat hfl
  have hdl : (r.drop lo).length = r.length - lo := by simp
  have hfin : ∀ (v' : Value) (w' : World), (Builtin.append_ #[t, t] o.type #[a.eval s, .slice Q m cc]).run P w = .ok v' w' → Kept S w0 w' → w.heap.size ≤ w'.heap.size → (∀ b, b < w.heap.size → b ≠ g → w'.heap[b]? = w.heap[b]?) →
      (∃ fp', RdC w' (.sl ct) (.sl (r.drop lo ++ q.1)) v' fp' ∧ ∀ b ∈ fp', b = g ∨ w.heap.size ≤ b) → Good P w0 S st o e a w := by
    intro v' w' hrun hk hs hw hr'
    refine good_value hR hd (v := v') (w' := w') ?_ hk ⟨β, φ, ?_, ?_⟩
    · simp [execOp, ho, resolve, hb, hargs, hat, invoke, builtin, hxv, hrun]
    · rw [how, hcw]
      exact hc.ended hob hs (fun b hb' hx => hw b hb' (fun e => hx (e ▸ hgt)))
    · rw [hsv, how, hcw]
      unfold SVR
      obtain ⟨fp', hr', hb'⟩ := hr'
      refine ⟨fp', hr', fun b hx => ?_⟩
      rcases hb' b hx with rfl | hge
      · exact not_av_ended hc hob hgt
      · intro hav
        have hav' : Av st.obj β b := by
          rcases hav with ⟨j, oj, hj, hbj⟩ | hx'
          · by_cases hji : j = id
            · subst hji; simp [fo, fc, upd] at hj
            · simp only [fo, fc, upd, hji, if_false] at hj
              exact .inl ⟨j, oj, hj, hbj⟩
          · exact .inr hx'
        have := hc.av_lt hR.kept.size hav'
        omega
  cases Q with
  | none =>
    have hm0 := hqn rfl
    subst hm0
    have hn0 : news = [] := by simpa using hnl
    have hq0 : q.1 = [] := by simpa using hmr.symm
    refine hfin (a.eval s) w ?_ hR.kept (Nat.le_refl _) (fun _ _ _ => rfl) ?_
    · rw [hsv0]
      simp [Builtin.append_, run_underlying hu, sizeOf, typeInfo, hi, Builtin.lenOf, Builtin.firstCells, show r.length - lo ≤ cap - lo by omega, storeCells]
    · rw [hq0, List.append_nil]
      obtain ⟨fp1, hr1, hf1⟩ := read_own hown hin hfl
      rw [hval] at hr1 hf1
      obtain ⟨fp2, hr2, hf2⟩ := sl_sub hr1 hlo (Nat.le_refl _)
      rw [List.take_length] at hr2
      rcases Nat.eq_zero_or_pos (r.length - lo) with h0 | h0
      · refine ⟨[], ?_, by simp⟩
        rw [hsv0]
        exact sl_mk (by simp) (by omega) (by omega) (.inl ⟨h0, rfl⟩)
      · rw [if_neg (by omega)] at hr2
        rw [hsv0, if_pos (by omega)]
        refine ⟨fp2, by simpa [addr_add] using hr2, fun b hb' => .inl ?_⟩
        simpa [Value.ownBlock] using hf1 b (hf2 b hb')
  | some ad =>
    by_cases hrm : r.length + m ≤ cap
    · have hfit : (if lo < cap then lo * ct.length else 0) + (r.length - lo) * i.size + news.length ≤ cur.size := by
        rw [hsize, hnl, hcs]
        have h3 : (r.length + m) * ct.length ≤ cap * ct.length := Nat.mul_le_mul_right _ hrm
        rw [Nat.add_mul] at h3
        have h4 : lo * ct.length + (r.length - lo) * ct.length = r.length * ct.length := by rw [← Nat.add_mul]; congr 1; omega
        split <;> omega
      have hrun := append_room_at (P := P) (ty := o.type) (c := cc) (w := w) (off := if lo < cap then lo * ct.length else 0) (sLen := r.length - lo) (sCap := cap - lo) hu hi hg (by rw [hsize]; exact hnl) (hcell ad rfl) hone (by omega) hfit
      by_cases hlt : lo < cap
      · rw [if_pos hlt] at hrun hfit
        have hoff : lo * ct.length + (r.length - lo) * i.size = r.length * ct.length := by rw [hsize, ← Nat.add_mul]; congr 1; omega
        rw [hoff] at hrun hfit
        refine hfin _ _ (by rw [hsv0, if_pos hlt]; exact hrun) (hR.kept.setRow hgS.1 _) (by simp) (fun b hb' hne => setRow_other w g b _ hne) ?_
        have hcurl : (cur.toList.take (r.length * ct.length) ++ (news ++ cur.toList.drop (r.length * ct.length + news.length))).length = cur.size := by
          simp only [List.length_append, List.length_take, List.length_drop, Array.length_toList]
          omega
        have hown' : OwnR (w.setRow g (cur.toList.take (r.length * ct.length) ++ (news ++ cur.toList.drop (r.length * ct.length + news.length))).toArray) et ct.length false (.slice (some ⟨g, 0, none⟩) (r ++ q.1).length cap) (r ++ q.1).length (vals ++ news) := by
          refine ⟨by rw [List.length_append, hvl, hnl, List.length_append, ← hmr, Nat.add_mul], .inr ⟨g, cap, _, rfl, by rw [setRow_heap w _ _ _ _ _ hg]; rfl, by rw [List.length_append, ← hmr]; exact hrm, hcm, by simp only [List.size_toArray, hcurl]; exact hcs, ?_⟩⟩
          have hlen : (r ++ q.1).length * ct.length = (vals ++ news).length := by rw [List.length_append, List.length_append, hvl, hnl, ← hmr, Nat.add_mul]
          rw [hlen, htk]
          show (vals ++ (news ++ _)).take (vals ++ news).length = vals ++ news
          rw [← List.append_assoc, List.take_left]
        have hin' : InR (w.setRow g (cur.toList.take (r.length * ct.length) ++ (news ++ cur.toList.drop (r.length * ct.length + news.length))).toArray) ct (r ++ q.1) (vals ++ news) (fps ++ fps2) :=
          (hin.append hvl hin2).mono (by simp) (fun b hb' => by
            rw [List.flatten_append, hin.flat hfl, hfps2] at hb'
            simp at hb')
        obtain ⟨fp1, hr1, hf1⟩ := read_own hown' hin' hfl
        obtain ⟨fp3, hr3, hf3⟩ := sl_sub hr1 (show lo ≤ (r ++ q.1).length by rw [List.length_append]; omega) (Nat.le_refl _)
        rw [if_neg (by omega), List.take_length, List.drop_append_of_le_length hlo] at hr3
        refine ⟨fp3, ?_, fun b hb' => .inl ?_⟩
        · have e4 : (r ++ q.1).length - lo = r.length - lo + m := by rw [List.length_append, ← hmr]; omega
          rw [e4] at hr3
          simpa [addr_add] using hr3
        · simpa [Value.ownBlock] using hf1 b (hf3 b hb')
      · have hm0 : m = 0 := by omega
        subst hm0
        have hn0 : news = [] := by simpa using hnl
        have hq0 : q.1 = [] := by simpa using hmr.symm
        refine hfin _ _ (by rw [hsv0]; exact hrun) (hR.kept.setRow hgS.1 _) (by simp) (fun b hb' hne => setRow_other w g b _ hne) ?_
        refine ⟨[], ?_, by simp⟩
        rw [hq0, List.append_nil]
        exact sl_mk (by simp) (by omega) (by omega) (.inl ⟨by omega, rfl⟩)
    · have holds : ∀ j uu, (vals.drop (lo * ct.length))[j]? = some uu → w.cell? ((⟨g, if lo < cap then lo * ct.length else 0, none⟩ : Addr).add j) = some uu := by
        intro j uu hj
        rw [List.getElem?_drop] at hj
        have hlt : lo < cap := by
          have h3 := (List.getElem?_eq_some_iff.1 hj).1
          rw [hvl] at h3
          have h4 : lo < r.length := by
            rcases Nat.lt_or_ge lo r.length with h5 | h5
            · exact h5
            · have := Nat.mul_le_mul_right ct.length h5
              omega
          omega
        rw [if_pos hlt, addr_add]
        rw [← htk, List.getElem?_take] at hj
        split at hj
        · simp only [World.cell?, hg]
          simpa using hj
        · cases hj
      obtain ⟨v', w', hrun, hown', hgrow⟩ := run_append_arg_grows (P := P) w t o.type et i zv ct.length i.bytes hu hi hzv hsize rfl (by simpa using hzl) hp ⟨g, if lo < cap then lo * ct.length else 0, none⟩ (r.length - lo) (cap - lo) (vals.drop (lo * ct.length))
        (by rw [List.length_drop, hvl, Nat.sub_mul]) holds ad m cc news hnl (hcell ad rfl) (by omega) (by rw [hmr]; rw [hdl] at hmax; exact hmax) (by rw [hmr]; rw [hdl] at hbytes; exact hbytes)
      refine hfin v' w' (by rw [hsv0]; exact hrun) (hR.kept.grown hgrow (by simp)) hgrow.size (fun b hb' _ => hgrow.block b hb' (by simp)) ?_
      have hrl : r.length - lo + m = (r.drop lo ++ q.1).length := by rw [List.length_append, hdl, hmr]
      have hin' : InR w' ct (r.drop lo ++ q.1) (vals.drop (lo * ct.length) ++ news) (fps.drop lo ++ fps2) :=
        ((hin.drop lo).append (by rw [List.length_drop, hvl, hdl, Nat.sub_mul]) hin2).mono hgrow.size (fun b hb' => by
          rw [List.flatten_append, (hin.drop lo).flat hfl, hfps2] at hb'
          simp at hb')
      have hown2 : OwnR w' et ct.length false v' (r.drop lo ++ q.1).length (vals.drop (lo * ct.length) ++ news) := by rw [← hrl]; exact OwnR.ofOwns hown'
      obtain ⟨fp1, hr1, hf1⟩ := read_own hown2 hin' hfl
      refine ⟨fp1, hr1, fun b hb' => .inr ?_⟩
      have hx := hf1 b hb'
      rcases hown'.2 with ⟨rfl, _⟩ | ⟨g2, cap2, cur2, rfl, hge, _⟩
      · simp [Value.ownBlock] at hx
      · simp [Value.ownBlock] at hx
        omega

theorem sound_copy (hR : Rel w0 S st a w) (hd : ∀ d, o.dst = some d → DstOk st.n d) {t t2 : TypeId} {x y : Operand} {c : Call} (ho : o.op = .call c) (hb : c.callee = .builtin .copy) (hargs : c.args = #[x, y]) (hat : c.argTypes = #[t, t2]) {sx sy : SV}
    (h1 : (evM x).val st.get st.obj = some sx) (h2 : (evM y).val st.get st.obj = some sy) (he : (copyM P t sx sy).val st.get st.obj = some e) (hok : e.ok = true) : Good P w0 S st o e a w := by
  unfold copyM at he
  split at he
  · rename_i et id lo z s hu
    simp only [M.val_obj, Option.bind_eq_some_iff] at he
    obtain ⟨ob, hob, he⟩ := he
    split at he
    · rename_i t' ct r fz u
      cases hz : Nat.beq t' et && sizeB P et 1 && Nat.beq z 1 && ctsBeq ct [.int .u8]
      · simp [hz] at he
      simp only [hz, cond_true, M.val_pure, Option.some.injEq] at he
      subst he
      simp only [Bool.and_eq_true] at hz
      have hct := ctsBeq_eq _ _ hz.2
      subst hct
      have hz1 := Nat.eq_of_beq_eq_true hz.1.2
      subst hz1
      obtain ⟨i, hi, hsize⟩ := sizeB_size hz.1.1.2
      have hlo : lo ≤ r.length := by simpa using hok
      obtain ⟨β, φ, hc⟩ := hR.core
      have hs0 := hc.ev h1
      simp only [SVR] at hs0
      obtain ⟨g, n, cap, hval, hln, hsv0⟩ := hs0
      have hy := hc.ev h2
      simp only [SVR] at hy
      obtain ⟨vals, fps, hown, hin, hiav, hφ⟩ := hc.objs id _ hob
      have hgt : g ∈ tops β id (.row t' [.int .u8] r fz u) := by simp [tops, hval, Value.ownBlock]
      rcases hown.2 with ⟨hv0, _, _⟩ | ⟨g', cap', cur, hv', hg, hnc, hcm, hcs, htk⟩
      · rw [hval] at hv0; cases hv0
      rw [hval] at hv'
      injection hv' with e1 e2 e3
      injection e1 with e1
      injection e1 with e1
      subst e1 e2 e3
      have hgφ := tops_sub (hc.objs id _ hob) g hgt
      have hgS := (hc.fresh id _ hob).2 g hgφ
      have hvl := hown.1
      simp only [List.length_cons, List.length_nil, Nat.zero_add, Nat.mul_one] at hvl hcs htk hsv0
      have hflat : flatB [CT.int .u8] = true := rfl
      let us : List Value := (s.take (r.length - lo)).map fun b => Value.int .u8 b.toNat
      have hul : us.length = min s.length (r.length - lo) := by simp [us, Nat.min_comm]
      have hone : ∀ v ∈ us, v.oneCell' = true := by
        intro v hv
        simp only [us, List.mem_map] at hv
        obtain ⟨b, _, rfl⟩ := hv
        rfl
      have hfree : ∀ j, j < cur.size → ¬ ((bif fz then (cur.size, cur.size + 1) else ((0, 0) : Nat × Nat)).1 ≤ j ∧ j < (bif fz then (cur.size, cur.size + 1) else ((0, 0) : Nat × Nat)).2) := by
        intro j hj
        cases fz <;> simp <;> omega
      -- where nothing goes over the place does not matter
      have hplace : us = [] ∨ (if lo < cap then lo else 0) = lo := by
        rcases Nat.lt_or_ge lo cap with h3 | h3
        · exact .inr (if_pos h3)
        · refine .inl ?_
          have : us.length = 0 := by rw [hul]; omega
          exact List.eq_nil_of_length_eq_zero this
      have hstore : (storeCells ⟨g, if lo < cap then lo else 0, none⟩ us 0).run P w = .ok () (w.setRow g (cur.toList.take lo ++ (us ++ cur.toList.drop (lo + us.length))).toArray) := by
        rcases hplace with h3 | h3
        · rw [h3]
          simp only [storeCells, List.nil_append, List.length_nil, Nat.add_zero, List.take_append_drop, Array.toArray_toList]
          rw [setRow_self w g cur t' _ hg]
          rfl
        · rw [h3]
          have := run_storeCells_free P g lo t' _ us 0 cur w hg hfree (by rw [hul, hcs]; omega) hone
          simpa only [Nat.add_zero] using this
      have hcells : (Builtin.firstCells i.size (Nat.min s.length (r.length - lo)) (.string ⟨s.toArray⟩)).run P w = .ok us.toArray w := by
        have : ((⟨s.toArray⟩ : ByteArray).extract 0 (Nat.min s.length (r.length - lo))).data.map (fun b => Value.int .u8 b.toNat) = us.toArray := by
          rw [str_extract]
          have e5 : s.take (Nat.min s.length (r.length - lo)) = s.take (r.length - lo) := by
            rcases Nat.le_total s.length (r.length - lo) with h3 | h3
            · rw [show Nat.min s.length (r.length - lo) = s.length from Nat.min_eq_left h3, List.take_length, List.take_of_length_le h3]
            · rw [show Nat.min s.length (r.length - lo) = r.length - lo from Nat.min_eq_right h3]
          simp [us, e5]
        simp only [Builtin.firstCells, Sem.run_pure, this]
      have hcurl : (cur.toList.take lo ++ (us ++ cur.toList.drop (lo + us.length))).length = cur.size := by
        simp only [List.length_append, List.length_take, List.length_drop, Array.length_toList]
        omega
      have hrow : (r.take lo ++ (((s.take (r.length - lo)).map ofByte) ++ r.drop (lo + min s.length (r.length - lo)))).length = r.length := by
        simp only [List.length_append, List.length_take, List.length_drop, List.length_map]
        omega
      have hinS : InR w [.int .u8] ((s.take (r.length - lo)).map ofByte) us (List.replicate us.length []) := by
        refine ⟨by simp [us], fun k r' f' hk hf => ?_⟩
        have hkl : k < (s.take (r.length - lo)).length := by
          have := (List.getElem?_eq_some_iff.1 hk).1
          simpa using this
        have hr' : r' = ofByte (s.take (r.length - lo))[k] := by
          rw [List.getElem?_map, List.getElem?_eq_getElem hkl] at hk
          simpa using hk.symm
        have hf' : f' = [] := by
          have := List.mem_of_getElem? hf
          exact (List.mem_replicate.1 this).2
        subst hr' hf'
        unfold ofByte
        simp only [RdL, RdC]
        refine ⟨.int (s.take (r.length - lo))[k].toNat, [], .int .u8 (s.take (r.length - lo))[k].toNat, [], [], rfl, ?_, ⟨_, rfl, rfl, ?_, rfl⟩, ⟨rfl, rfl⟩, rfl⟩
        · simp only [us, List.length_cons, List.length_nil, Nat.zero_add, Nat.mul_one, Nat.add_zero]
          rw [List.getElem?_map, List.getElem?_eq_getElem hkl]
          rfl
        · rw [inR_iff]
          have h1 : IntKind.u8.min = 0 := by decide
          have h2 : IntKind.u8.max = 255 := by decide
          have := (s.take (r.length - lo))[k].toNat_lt
          omega
      have hin' : InR w [.int .u8] (r.take lo ++ (((s.take (r.length - lo)).map ofByte) ++ r.drop (lo + min s.length (r.length - lo)))) (vals.take lo ++ (us ++ vals.drop (lo + us.length))) (fps.take lo ++ (List.replicate us.length [] ++ fps.drop (lo + us.length))) := by
        have a1 := hin.take lo
        have a2 := hin.drop (lo + us.length)
        simp only [List.length_cons, List.length_nil, Nat.zero_add, Nat.mul_one] at a1 a2
        rw [← hul]
        refine a1.append ?_ (hinS.append ?_ a2)
        · simp only [List.length_cons, List.length_nil, Nat.zero_add, Nat.mul_one, List.length_take, hvl]
        · simp [us]
      have hfl' := hin'.flat hflat
      have hφ' : φ id = [g] := by
        rw [hφ, hin.flat hflat, hval]
        cases u <;> simp [Value.ownBlock]
      refine good_value hR hd (v := .int .i64 (min s.length (r.length - lo) : Nat)) (w' := w.setRow g (cur.toList.take lo ++ (us ++ cur.toList.drop (lo + us.length))).toArray) ?_ (hR.kept.setRow hgS.1 _)
        ⟨β, upd φ id [g], ?_, ?_⟩
      · have hmn : Nat.min s.length (r.length - lo) = min s.length (r.length - lo) := rfl
        simp [execOp, ho, resolve, hb, hargs, hat, invoke, builtin, Builtin.copy_, run_underlying hu, hsv0, hy.1, Builtin.lenOf, sizeOf, typeInfo, hi, str_size, hcells, hstore, goInt]
      · show Core w0 S st.get (upd st.obj id (some (.row t' [.int .u8] (r.take lo ++ (((s.take (r.length - lo)).map ofByte) ++ r.drop (lo + min s.length (r.length - lo)))) fz u))) _ _ _ _
        refine hc.rewrite hob hgt (fun b hb' => hb') ?_ (by simp) ?_
        · refine ⟨vals.take lo ++ (us ++ vals.drop (lo + us.length)), fps.take lo ++ (List.replicate us.length [] ++ fps.drop (lo + us.length)), ⟨?_, .inr ⟨g, cap, (cur.toList.take lo ++ (us ++ cur.toList.drop (lo + us.length))).toArray, by rw [hrow]; exact hval, ?_, by rw [hrow]; exact hnc, hcm, ?_, ?_⟩⟩, ?_, ?_, ?_⟩
          · rw [hrow]
            simp only [List.length_cons, List.length_nil, Nat.zero_add, Nat.mul_one, List.length_append, List.length_take, List.length_drop, hvl]
            omega
          · rw [setRow_heap w _ _ _ _ _ hg]
            simp only [List.size_toArray, hcurl]
          · simp only [List.size_toArray, hcurl, List.length_cons, List.length_nil, Nat.zero_add, Nat.mul_one]
            exact hcs
          · rw [hrow]
            simp only [List.length_cons, List.length_nil, Nat.zero_add, Nat.mul_one]
            rw [take_splice _ _ _ _ (by omega) (by simp only [Array.length_toList]; omega), htk]
          · exact hin'.mono (by simp) (fun b hb' => by rw [hfl'] at hb'; simp at hb')
          · rw [hfl']; simp
          · rw [hfl', hval]
            cases u <;> simp [Value.ownBlock]
        · intro b hb'
          have hbg : b = g := by simpa using hb'
          subst hbg
          exact ⟨hgS, fun j oj hj hjo => hc.sep id j _ _ (Ne.symm hj) hob hjo b hgφ⟩
      · unfold SVR
        refine ⟨rfl, ?_⟩
        rw [inR_iff]
        have h1 : IntKind.i64.min = -9223372036854775808 := by decide
        have h2 : IntKind.i64.max = 9223372036854775807 := by decide
        have := hy.2
        simp only [maxLen] at this
        omega
    · simp at he
  · simp at he

end

end Go.Proofs.Ytklbgnodgnlebaa.Vm

/- The value machine: rows whose slices are rows of the call's own: what they hold, cut and put together. Conditions: as each lemma says. -/
set_option linter.unusedVariables false
set_option linter.unusedSimpArgs false
namespace Go.Proofs.Ytklbgnodgnlebaa.Vm

theorem ct_cases (c : CT) : (∃ e, c = .sl e) ∨ flatB [c] = true := by
  cases c with
  | sl e => exact .inl ⟨e, rfl⟩
  | _ => exact .inr rfl

theorem flatB_cons {c : CT} {cs : List CT} : flatB (c :: cs) = (flatB [c] && flatB cs) := by
  cases c <;> rfl

theorem slCount_flat {c : CT} {cs : List CT} (hc : flatB [c] = true) : slCount (c :: cs) = slCount cs := by
  cases c with
  | sl e => simp [flatB] at hc
  | _ => rfl

theorem slCount_zero : ∀ {cs : List CT}, slCount cs = 0 → flatB cs = true
  | [], _ => rfl
  | c :: cs, h => by
    rcases ct_cases c with ⟨e, rfl⟩ | hc
    · simp [slCount] at h
    · rw [slCount_flat hc] at h
      rw [flatB_cons, hc, slCount_zero h]
      rfl

theorem slCount_append : ∀ (a b : List CT), slCount (a ++ b) = slCount a + slCount b
  | [], b => by simp [slCount]
  | c :: cs, b => by
    rcases ct_cases c with ⟨e, rfl⟩ | hc
    · simp only [List.cons_append, slCount, slCount_append cs b]; omega
    · rw [List.cons_append, slCount_flat hc, slCount_flat hc, slCount_append cs b]

theorem flat_get : ∀ {cs : List CT} {k : Nat} {e : List CT}, flatB cs = true → cs[k]? = some (.sl e) → False
  | [], k, e, _, h => by simp at h
  | c :: cs, k, e, hf, h => by
    rw [flatB_cons, Bool.and_eq_true] at hf
    cases k with
    | zero =>
      simp only [List.getElem?_cons_zero, Option.some.injEq] at h
      subst h
      simp [flatB] at hf
    | succ k => exact flat_get hf.2 (by simpa using h)

section
variable {w : World}

theorem CellsH.length {hv : Option Value} : ∀ (cs : List CT) (ts : List TypeId) (ds : List DC) (us : List Value) (mb : List Nat), CellsH w hv cs ts ds us mb → us.length = cs.length ∧ ds.length = cs.length
  | [], _, _, _, _, h => by
    simp only [CellsH] at h
    obtain ⟨_, rfl, rfl, _⟩ := h
    exact ⟨rfl, rfl⟩
  | c :: cs, _, _, _, _, h => by
    rcases ct_cases c with ⟨e, rfl⟩ | hc
    · simp only [CellsH] at h
      obtain ⟨t, ts', rows, ds', v, us', m1, mb', rfl, rfl, rfl, _, _, h6, rfl⟩ := h
      have := CellsH.length cs _ _ _ _ h6
      simp [this.1, this.2]
    · rw [CellsH.flat hc] at h
      obtain ⟨d, ds', v, us', rfl, rfl, _, h4⟩ := h
      have := CellsH.length cs _ _ _ _ h4
      simp [this.1, this.2]

theorem CellsH.split {hv : Option Value} : ∀ (cs1 cs2 : List CT) (ts : List TypeId) (ds : List DC) (us : List Value) (mb : List Nat), CellsH w hv (cs1 ++ cs2) ts ds us mb →
    ∃ ts1 ts2 m1 m2, ts = ts1 ++ ts2 ∧ mb = m1 ++ m2 ∧ CellsH w hv cs1 ts1 (ds.take cs1.length) (us.take cs1.length) m1 ∧ CellsH w hv cs2 ts2 (ds.drop cs1.length) (us.drop cs1.length) m2
  | [], cs2, ts, ds, us, mb, h => ⟨[], ts, [], mb, rfl, rfl, by simp [CellsH], by simpa using h⟩
  | c :: cs, cs2, _, _, _, _, h => by
    rw [List.cons_append] at h
    rcases ct_cases c with ⟨e, rfl⟩ | hc
    · simp only [CellsH] at h
      obtain ⟨t, ts', rows, ds', v, us', m1, mb', rfl, rfl, rfl, h4, h5, h6, rfl⟩ := h
      obtain ⟨a1, a2, b1, b2, rfl, rfl, k1, k2⟩ := CellsH.split cs cs2 _ _ _ _ h6
      refine ⟨t :: a1, a2, m1 ++ b1, b2, rfl, by simp, ?_, by simpa using k2⟩
      simp only [CellsH, List.length_cons, List.take_succ_cons]
      exact ⟨t, a1, rows, _, v, _, m1, b1, rfl, rfl, rfl, h4, h5, k1, rfl⟩
    · rw [CellsH.flat hc] at h
      obtain ⟨d, ds', v, us', rfl, rfl, h3, h4⟩ := h
      obtain ⟨a1, a2, b1, b2, rfl, rfl, k1, k2⟩ := CellsH.split cs cs2 _ _ _ _ h4
      refine ⟨a1, a2, b1, b2, rfl, rfl, ?_, by simpa using k2⟩
      rw [CellsH.flat hc]
      simp only [List.length_cons, List.take_succ_cons]
      exact ⟨d, _, v, _, rfl, rfl, h3, k1⟩

theorem CellsH.join {hv : Option Value} : ∀ (cs1 cs2 : List CT) (ts1 ts2 : List TypeId) (d1 d2 : List DC) (u1 u2 : List Value) (m1 m2 : List Nat), CellsH w hv cs1 ts1 d1 u1 m1 → CellsH w hv cs2 ts2 d2 u2 m2 →
    CellsH w hv (cs1 ++ cs2) (ts1 ++ ts2) (d1 ++ d2) (u1 ++ u2) (m1 ++ m2)
  | [], cs2, _, _, _, _, _, _, _, _, h, h2 => by
    simp only [CellsH] at h
    obtain ⟨rfl, rfl, rfl, rfl⟩ := h
    simpa using h2
  | c :: cs, cs2, _, _, _, _, _, _, _, _, h, h2 => by
    rcases ct_cases c with ⟨e, rfl⟩ | hc
    · simp only [CellsH] at h
      obtain ⟨t, ts', rows, ds', v, us', m1, mb', rfl, rfl, rfl, h4, h5, h6, rfl⟩ := h
      simp only [List.cons_append, CellsH]
      exact ⟨t, _, rows, _, v, _, m1, _, rfl, rfl, rfl, h4, h5, CellsH.join cs cs2 _ _ _ _ _ _ _ _ h6 h2, by simp⟩
    · rw [CellsH.flat hc] at h
      obtain ⟨d, ds', v, us', rfl, rfl, h3, h4⟩ := h
      simp only [List.cons_append]
      rw [CellsH.flat hc]
      exact ⟨d, _, v, _, rfl, rfl, h3, CellsH.join cs cs2 _ _ _ _ _ _ _ _ h4 h2⟩

theorem CellsH.ofFlat {hv : Option Value} : ∀ (cs : List CT) (ds : List DC) (us : List Value) (fp : List Nat), flatB cs = true → RdL w cs ds (fun j => us[j]?) fp → us.length = cs.length → CellsH w hv cs [] ds us []
  | [], ds, us, fp, _, h, hl => by
    simp only [RdL] at h
    simp only [CellsH]
    exact ⟨trivial, h.1, by simpa using hl, trivial⟩
  | c :: cs, ds, us, fp, hf, h, hl => by
    rw [flatB_cons, Bool.and_eq_true] at hf
    simp only [RdL] at h
    obtain ⟨d, r', v, f1, f2, rfl, h0, h1, h2, rfl⟩ := h
    cases us with
    | nil => simp at hl
    | cons u us =>
      simp only [List.getElem?_cons_zero, Option.some.injEq] at h0
      subst h0
      rw [CellsH.flat hf.1]
      refine ⟨d, r', u, us, rfl, rfl, ?_, CellsH.ofFlat cs r' us f2 hf.2 (by simpa using h2) (by simpa using hl)⟩
      have hz : f1 = [] := InR.flatOf [c] [d] (fun _ => some u) f1 hf.1 (by simp only [RdL]; exact ⟨d, [], u, f1, [], rfl, rfl, h1, by simp, by simp⟩)
      subst hz
      exact h1

theorem CellsH.toFlat {hv : Option Value} : ∀ (cs : List CT) (ts : List TypeId) (ds : List DC) (us : List Value) (mb : List Nat), flatB cs = true → CellsH w hv cs ts ds us mb → ts = [] ∧ mb = [] ∧ RdL w cs ds (fun j => us[j]?) []
  | [], _, _, _, _, _, h => by
    simp only [CellsH] at h
    obtain ⟨rfl, rfl, rfl, rfl⟩ := h
    exact ⟨rfl, rfl, by simp [RdL]⟩
  | c :: cs, _, _, _, _, hf, h => by
    rw [flatB_cons, Bool.and_eq_true] at hf
    rw [CellsH.flat hf.1] at h
    obtain ⟨d, ds', v, us', rfl, rfl, h3, h4⟩ := h
    obtain ⟨k1, k2, k3⟩ := CellsH.toFlat cs _ _ _ _ hf.2 h4
    refine ⟨k1, k2, ?_⟩
    simp only [RdL]
    exact ⟨d, ds', v, [], [], rfl, rfl, h3, by simpa using k3, rfl⟩

theorem CellsH.reflat {hv hv' : Option Value} {cs : List CT} {ts : List TypeId} {ds : List DC} {us : List Value} {mb : List Nat} (hf : flatB cs = true) (h : CellsH w hv cs ts ds us mb) : CellsH w hv' cs ts ds us mb := by
  obtain ⟨rfl, rfl, k3⟩ := CellsH.toFlat _ _ _ _ _ hf h
  exact CellsH.ofFlat _ _ _ _ hf k3 (CellsH.length _ _ _ _ _ h).1

/-- The one slice of an element is taken out. -/
theorem CellsH.out : ∀ (e : List CT) (off : Nat) (e' : List CT) (ts : List TypeId) (r : List DC) (us : List Value) (m : List Nat), e[off]? = some (.sl e') → slCount e = 1 → CellsH w none e ts r us m →
    ∃ t1 v rws, ts = [t1] ∧ us[off]? = some v ∧ r[off]? = some (.sl rws) ∧ flatB e' = true ∧ SlH w none t1 e' rws v m ∧ CellsH w (some v) e [t1] r us []
  | [], _, _, _, _, _, _, h, _, _ => by simp at h
  | c :: cs, off, e', _, _, _, _, h, hn, hc => by
    rcases ct_cases c with ⟨e, rfl⟩ | hf
    · simp only [slCount] at hn
      have hfl : flatB cs = true := slCount_zero (by omega)
      cases off with
      | zero =>
        simp only [List.getElem?_cons_zero, Option.some.injEq, CT.sl.injEq] at h
        subst h
        simp only [CellsH] at hc
        obtain ⟨t, ts', rows, ds', v, us', m1, mb', rfl, rfl, rfl, h4, h5, h6, rfl⟩ := hc
        obtain ⟨rfl, rfl, _⟩ := CellsH.toFlat _ _ _ _ _ hfl h6
        have hone : v.oneCell' = true := by
          obtain ⟨vals, fps, g1, _⟩ := h5
          exact g1.one
        refine ⟨t, v, rows, rfl, rfl, rfl, h4, by simpa using h5, ?_⟩
        simp only [CellsH]
        exact ⟨t, [], rows, ds', v, us', [], [], rfl, rfl, rfl, h4, ⟨rfl, hone, rfl⟩, CellsH.reflat hfl h6, rfl⟩
      | succ k => exact (flat_get hfl (by simpa using h)).elim
    · cases off with
      | zero =>
        simp only [List.getElem?_cons_zero, Option.some.injEq] at h
        subst h
        simp [flatB] at hf
      | succ k =>
        rw [CellsH.flat hf] at hc
        obtain ⟨d, ds', v, us', rfl, rfl, h3, h4⟩ := hc
        rw [slCount_flat hf] at hn
        obtain ⟨t1, v1, rws, rfl, k1, k2, k3, k4, k5⟩ := CellsH.out cs k e' _ _ _ _ (by simpa using h) hn h4
        refine ⟨t1, v1, rws, rfl, by simpa using k1, by simpa using k2, k3, k4, ?_⟩
        rw [CellsH.flat hf]
        exact ⟨d, ds', v, us', rfl, rfl, h3, k5⟩

theorem slPos_flat {c : CT} {cs : List CT} (hc : flatB [c] = true) : slPos (c :: cs) = slPos cs + 1 := by
  cases c with
  | sl e => simp [flatB] at hc
  | _ => rfl

/-- The one slice of an element is put back. -/
theorem CellsH.back {v : Value} {rws : List (List DC)} {m1 : List Nat} : ∀ (e : List CT) (e' : List CT) (t1 : TypeId) (r : List DC) (us : List Value) (m : List Nat), e[slPos e]? = some (.sl e') → slCount e = 1 → CellsH w (some v) e [t1] r us m →
    SlH w none t1 e' rws v m1 → CellsH w none e [t1] (splice r (slPos e) [.sl rws]) us m1
  | [], _, _, _, _, _, h, _, _, _ => by simp [slPos] at h
  | c :: cs, e', t1, _, _, _, h, hn, hc, hs => by
    rcases ct_cases c with ⟨e, rfl⟩ | hf
    · simp only [slCount] at hn
      have hfl : flatB cs = true := slCount_zero (by omega)
      simp only [slPos, List.getElem?_cons_zero, Option.some.injEq, CT.sl.injEq] at h
      subst h
      simp only [CellsH] at hc
      obtain ⟨t, ts', rows, ds', v', us', m1', mb', h1, rfl, rfl, h4, ⟨rfl, hone, rfl⟩, h6, rfl⟩ := hc
      simp only [List.cons.injEq] at h1
      obtain ⟨rfl, rfl⟩ := h1
      obtain ⟨_, rfl, _⟩ := CellsH.toFlat _ _ _ _ _ hfl h6
      simp only [slPos, splice, CellsH]
      exact ⟨t1, [], rws, ds', v', us', m1, [], rfl, by simp, rfl, h4, hs, CellsH.reflat hfl h6, by simp⟩
    · rw [slPos_flat hf] at h ⊢
      rw [CellsH.flat hf] at hc ⊢
      obtain ⟨d, ds', v', us', rfl, rfl, h3, h4⟩ := hc
      rw [slCount_flat hf] at hn
      refine ⟨d, splice ds' (slPos cs) [.sl rws], v', us', ?_, rfl, h3, CellsH.back cs e' t1 _ _ _ (by simpa using h) hn h4 hs⟩
      have e1 : slPos cs + 1 + ([DC.sl rws] : List DC).length = (slPos cs + ([DC.sl rws] : List DC).length) + 1 := by omega
      simp only [splice, e1, List.take_succ_cons, List.drop_succ_cons, List.cons_append]

theorem get_spl {α : Type} (l nu : List α) (p j : Nat) (h : p + nu.length ≤ l.length) : (l.take p ++ (nu ++ l.drop (p + nu.length)))[j]? = if j < p then l[j]? else if j < p + nu.length then nu[j - p]? else l[j]? := by
  have ht : (l.take p).length = p := by simp; omega
  split
  · rename_i hj
    rw [List.getElem?_append_left (by omega), List.getElem?_take, if_pos hj]
  · rename_i hj
    rw [List.getElem?_append_right (by omega), ht]
    split
    · rw [List.getElem?_append_left (by omega)]
    · rw [List.getElem?_append_right (by omega), List.getElem?_drop]
      congr 1
      omega

theorem seg_same {α : Type} (vals nu : List α) (i off el : Nat) (hoff : off + nu.length ≤ el) (hl : i * el + el ≤ vals.length) :
    ((vals.take (i * el + off) ++ (nu ++ vals.drop (i * el + off + nu.length))).drop (i * el)).take el = ((vals.drop (i * el)).take el).take off ++ (nu ++ ((vals.drop (i * el)).take el).drop (off + nu.length)) := by
  apply List.ext_getElem?
  intro j
  rw [get_spl _ _ _ _ (by simp; omega), List.getElem?_take, List.getElem?_drop, get_spl _ _ _ _ (by omega)]
  simp only [List.getElem?_take, List.getElem?_drop]
  by_cases hj : j < el
  · rw [if_pos hj, if_pos hj]
    by_cases h1 : j < off
    · rw [if_pos (by omega), if_pos h1]
    · rw [if_neg (by omega), if_neg h1]
      by_cases h2 : j < off + nu.length
      · rw [if_pos (by omega), if_pos h2]
        congr 1
        omega
      · rw [if_neg (by omega), if_neg h2]
  · rw [if_neg hj, if_neg hj, if_neg (by omega), if_neg (by omega)]

theorem seg_other {α : Type} (vals nu : List α) (i off el k : Nat) (hoff : off + nu.length ≤ el) (hl : i * el + el ≤ vals.length) (hk : k ≠ i) :
    ((vals.take (i * el + off) ++ (nu ++ vals.drop (i * el + off + nu.length))).drop (k * el)).take el = (vals.drop (k * el)).take el := by
  apply List.ext_getElem?
  intro j
  rw [List.getElem?_take, List.getElem?_drop, get_spl _ _ _ _ (by omega), List.getElem?_take, List.getElem?_drop]
  by_cases hj : j < el
  · rw [if_pos hj, if_pos hj]
    rcases Nat.lt_or_ge k i with hlt | hge
    · have : k * el + el ≤ i * el := by rw [← Nat.succ_mul]; exact Nat.mul_le_mul_right _ hlt
      rw [if_pos (by omega)]
    · have : i * el + el ≤ k * el := by rw [← Nat.succ_mul]; exact Nat.mul_le_mul_right _ (by omega)
      rw [if_neg (by omega), if_neg (by omega)]
  · rw [if_neg hj, if_neg hj]

/-- One element is written. -/
theorem DeepR.set {w w' : World} {e : List CT} {ts : List TypeId} {rows : List (List DC)} {vals : List Value} {hv hv' : Nat → Option Value} {mbs : List (List Nat)} (h : DeepR w e ts rows vals hv mbs) (hs : w.heap.size ≤ w'.heap.size) (hl : vals.length = rows.length * e.length)
    {i off : Nat} (hi : i < rows.length) {nu : List Value} (hoff : off + nu.length ≤ e.length) {r : List DC} {m : List Nat} (hm : ∀ j, j ≠ i → ∀ m', mbs[j]? = some m' → ∀ b ∈ m', w'.heap[b]? = w.heap[b]?)
    (hh : ∀ j, j ≠ i → hv' j = hv j) (hr : CellsH w' (hv' i) e ts r (((vals.drop (i * e.length)).take e.length).take off ++ (nu ++ ((vals.drop (i * e.length)).take e.length).drop (off + nu.length))) m) :
    DeepR w' e ts (rows.set i r) (vals.take (i * e.length + off) ++ (nu ++ vals.drop (i * e.length + off + nu.length))) hv' (mbs.set i m) := by
  have hil : i * e.length + e.length ≤ vals.length := by rw [hl, ← Nat.succ_mul]; exact Nat.mul_le_mul_right _ hi
  refine ⟨by simp [h.1], fun k r' m' hk hkm => ?_⟩
  by_cases hki : k = i
  · subst hki
    rw [List.getElem?_set_self hi, Option.some.injEq] at hk
    rw [List.getElem?_set_self (by rw [h.1]; exact hi), Option.some.injEq] at hkm
    subst hk hkm
    rw [seg_same _ _ _ _ _ hoff hil]
    exact hr
  · rw [List.getElem?_set_ne (Ne.symm hki)] at hk hkm
    rw [seg_other _ _ _ _ _ _ hoff hil hki, hh k hki]
    exact CellsH.mono hs _ _ _ _ _ (h.2 k r' m' hk hkm) (hm k hki m' hkm)

end

end Go.Proofs.Ytklbgnodgnlebaa.Vm

/- The value machine: operations at rows whose slices are rows of the call's own. Conditions: as each lemma says. -/
set_option linter.unusedVariables false
set_option linter.unusedSimpArgs false
namespace Go.Proofs.Ytklbgnodgnlebaa.Vm

def Env.setNb (β : Env) (id : Nat) (l : List Nat) : Env := ⟨β.blk, β.val, β.bar, upd β.nb id l⟩
def Env.setD (β : Env) (id : Nat) (v : Value) (l : List Nat) : Env := ⟨β.blk, upd β.val id v, β.bar, upd β.nb id l⟩

section
variable {P : Program} {Γ : Ctx} {w0 : World} {S : Own} {st : St} {o : Oper} {e : Eff} {a : Act} {w w' : World}
variable {f : Nat → SV} {h : Nat → Option VObj} {β : Env} {φ : Nat → List Nat} {tm : Array Value}

/-- An object takes over the blocks of others. -/
theorem Core.regroup (hc : Core w0 S f h β φ tm w) {id : Nat} {ob : VObj} {t : TypeId} {ct : List CT} {ts : List TypeId} {rows : List (List DC)} {hl : Option (Nat × Nat)} {nb' : List Nat} {G : Nat → Prop} {h' : Nat → Option VObj}
    (hid : h id = some ob) (hG : ∀ k, G k → k ≠ id) (hh : h' id = some (.deep t ct ts rows hl)) (hh2 : ∀ j, j ≠ id → ∀ x, h' j = some x → h j = some x ∧ ¬ G j)
    (hs : w.heap.size ≤ w'.heap.size) (hw : ∀ b, b < w.heap.size → b ∉ (β.val id).ownBlock.toList → w'.heap[b]? = w.heap[b]?)
    (hown : ∀ b ∈ (β.val id).ownBlock.toList, b ∈ tops β id ob)
    (hnb : ∀ b ∈ nb', b ∈ tops β id ob ∨ ∃ k x, G k ∧ h k = some x ∧ b ∈ tops β k x)
    (hobj : ObjR w' (Av h' (β.setNb id nb')) (β.setNb id nb') id (.deep t ct ts rows hl) ((β.val id).ownBlock.toList ++ nb')) (hnd : ((β.val id).ownBlock.toList ++ nb').Nodup) :
    Core w0 S f h' (β.setNb id nb') (upd φ id ((β.val id).ownBlock.toList ++ nb')) tm w' := by
  have htop : ∀ j oj, j ≠ id → tops (β.setNb id nb') j oj = tops β j oj := by
    intro j oj hj
    cases oj <;> simp [tops, Env.setNb, upd, hj]
  have hkind : ∀ b ∈ (β.val id).ownBlock.toList ++ nb', b ∈ tops β id ob ∨ ∃ k x, G k ∧ h k = some x ∧ b ∈ tops β k x := by
    intro b hb
    rcases List.mem_append.1 hb with hb | hb
    · exact .inl (hown b hb)
    · exact hnb b hb
  have hnew : ∀ b ∈ (β.val id).ownBlock.toList ++ nb', ((w0.heap.size ≤ b ∨ S b) ∧ b < w.heap.size) ∧ Av h β b ∧ ∀ j oj, j ≠ id → h j = some oj → ¬ G j → b ∉ φ j := by
    intro b hb
    rcases hkind b hb with h1 | ⟨k, x, hk, hx, h1⟩
    · have h2 := tops_sub (hc.objs id ob hid) b h1
      exact ⟨(hc.fresh id ob hid).2 b h2, .inl ⟨id, ob, hid, h1⟩, fun j oj hj hjo _ => hc.sep id j ob oj (Ne.symm hj) hid hjo b h2⟩
    · have h2 := tops_sub (hc.objs k x hx) b h1
      exact ⟨(hc.fresh k x hx).2 b h2, .inl ⟨k, x, hx, h1⟩, fun j oj hj hjo hg => hc.sep k j x oj (fun e => hg (e ▸ hk)) hx hjo b h2⟩
  refine hc.step' (fun _ => False) hs (fun b hb hn => hw b hb (fun hx => hn (.inl ⟨id, ob, hid, hown b hx⟩))) ?_ (fun _ _ _ h => h) (fun _ _ => ⟨rfl, rfl⟩) ?_ ?_
  · rintro b (⟨j, oj, hj, hbj⟩ | hb)
    case inr => exact .inl (.inr hb)
    by_cases hjj : j = id
    · subst hjj
      rw [hh, Option.some.injEq] at hj
      subst hj
      refine .inl (hnew b ?_).2.1
      simpa [tops, Env.setNb, upd] using hbj
    · rw [htop j oj hjj] at hbj
      exact .inl (.inl ⟨j, oj, (hh2 j hjj oj hj).1, hbj⟩)
  · intro j oj hj
    by_cases hjj : j = id
    · subst hjj
      rw [hh, Option.some.injEq] at hj
      subst hj
      refine .inr ⟨by simpa [upd] using hobj, by simpa [upd] using hnd, fun b hb => ?_⟩
      have := (hnew b (by simpa [upd] using hb)).1
      exact ⟨this.1, by omega⟩
    · have h1 := (hh2 j hjj oj hj).1
      refine .inl ⟨fun h => h, h1, by simp [Env.setNb, upd, hjj], by simp [upd, hjj], fun _ _ h => h, fun b hb => ?_⟩
      have hbφ := tops_sub (hc.objs j oj h1) b hb
      exact hw b ((hc.fresh j oj h1).2 b hbφ).2 (fun hx => hc.sep id j ob oj (Ne.symm hjj) hid h1 b (tops_sub (hc.objs id ob hid) b (hown b hx)) hbφ)
  · intro i j oi oj hne hi hj b hb
    by_cases hii : i = id
    · subst hii
      have hji : j ≠ i := Ne.symm hne
      simp only [upd, if_true] at hb
      simp only [upd, hji, if_false]
      obtain ⟨h1, h2⟩ := hh2 j hji oj hj
      exact (hnew b hb).2.2 j oj hji h1 h2
    · simp only [upd, hii, if_false] at hb
      obtain ⟨h1, h2⟩ := hh2 i hii oi hi
      by_cases hjj : j = id
      · subst hjj
        simp only [upd, if_true]
        exact fun hb' => (hnew b hb').2.2 i oi hii h1 h2 hb
      · simp only [upd, hjj, if_false]
        exact hc.sep i j oi oj hne h1 (hh2 j hjj oj hj).1 b hb

/-! ### Reading -/

theorem sound_lenX (hR : Rel w0 S st a w) (hd : ∀ d, o.dst = some d → DstOk st.n d) {c : Call} {x : Operand} {t : TypeId} (ho : o.op = .call c) (hb : c.callee = .builtin .len)
    (hx : c.args = #[x]) (ht : c.argTypes = #[t]) {sx : SV} (h1 : (evM x).val st.get st.obj = some sx) (he : (lenX P t sx).val st.get st.obj = some e) : Good P w0 S st o e a w := by
  unfold lenX at he
  split at he
  · rename_i id
    simp only [M.val_obj, Option.bind_eq_some_iff] at he
    obtain ⟨ob, hob, he⟩ := he
    split at he
    · rename_i t' ct ts r hl
      split at he
      · rename_i et hu
        simp only [M.val_pure, Option.some.injEq] at he
        subst he
        refine good_pure hR hd rfl rfl fun β φ hc => ?_
        have hv := hc.ev h1
        simp only [SVR] at hv
        obtain ⟨vals, mbs, hown, _⟩ := hc.objs id _ hob
        have key : ∃ q cap, β.val id = .slice q r.length cap ∧ r.length ≤ maxLen := by
          rcases hown.2 with ⟨hv', h0, _⟩ | ⟨g, cap, cur, hv', _, hcc, hm, _⟩
          · exact ⟨none, 0, by rw [hv', h0], by omega⟩
          · exact ⟨_, cap, hv', by omega⟩
        obtain ⟨q, cap, hq, hm⟩ := key
        refine ⟨.int .i64 r.length, ?_, by unfold SVR; exact ⟨rfl, inR_len hm⟩⟩
        simp [execOp, ho, resolve, hb, hx, ht, invoke, builtin, hv.1, hq, Builtin.len_, run_underlying hu, goInt]
      · simp at he
    · refine sound_len hR hd ho hb hx ht h1 ?_
      exact he
  · exact sound_len hR hd ho hb hx ht h1 he

theorem sound_indexAddrX (hR : Rel w0 S st a w) (hd : ∀ d, o.dst = some d → DstOk st.n d) {t : TypeId} {x i : Operand} (ho : o.op = .indexAddr t x i) {sx si : SV}
    (h1 : (evM x).val st.get st.obj = some sx) (h2 : (evM i).val st.get st.obj = some si) (he : (indexAddrX P t sx si).val st.get st.obj = some e) (hok : e.ok = true) : Good P w0 S st o e a w := by
  unfold indexAddrX at he
  split at he
  · rename_i id
    simp only [M.val_obj, Option.bind_eq_some_iff] at he
    obtain ⟨ob, hob, he⟩ := he
    split at he
    · rename_i t' ct ts r hl
      split at he
      · rename_i et k n hu
        cases hz : sizeB P et ct.length
        · simp [hz] at he
        simp only [hz, cond_true, M.val_pure, Option.some.injEq] at he
        subst he
        simp only [Bool.and_eq_true, decide_eq_true_eq] at hok
        obtain ⟨i', hi, hsz⟩ := sizeB_size hz
        refine good_pure hR hd rfl rfl fun β φ hc => ?_
        have hv := hc.ev h1
        have hi2 := hc.ev h2
        simp only [SVR] at hv hi2
        obtain ⟨vals, mbs, hown, _⟩ := hc.objs id _ hob
        rcases hown.2 with ⟨_, h0, _⟩ | ⟨g, cap, cur, hv', _⟩
        · omega
        · refine ⟨.pointer (some ⟨g, 0 + n.toNat * i'.size, none⟩), ?_, ?_⟩
          · simp [execOp, ho, hv.1, hv', hi2.1, Instr.indexAt, asIntOf, run_underlying hu, hok.1, hok.2, sizeOf, typeInfo, hi, addr_add]
          · simp only [SVR]
            exact ⟨g, by rw [hv']; rfl, by rw [hsz]; simp⟩
      · simp at he
    · exact sound_indexAddr hR hd ho h1 h2 he hok
  · exact sound_indexAddr hR hd ho h1 h2 he hok

/-- The element of a row whose slices are rows of the call's own, as it lies in memory. -/
theorem deep_row (hc : Core w0 S f h β φ tm w) {id : Nat} {t : TypeId} {ct : List CT} {ts : List TypeId} {rows : List (List DC)} {hl : Option (Nat × Nat)} (hob : h id = some (.deep t ct ts rows hl)) {i : Nat} (hi : i < rows.length) {g : Nat} (hg : (β.val id).ownBlock = some g) :
    ∃ (us : List Value) (m : List Nat), CellsH w (holeV β hl i) ct ts (rows.getD i []) us m ∧ us.length = ct.length ∧ ∀ j u, us[j]? = some u → w.cell? ⟨g, i * ct.length + j, none⟩ = some u := by
  obtain ⟨vals, mbs, hown, hin, _, _⟩ := hc.objs id _ hob
  have hf : i < mbs.length := by rw [hin.1]; exact hi
  have hrow := hin.2 i (rows.getD i []) mbs[i] (getD_of_lt hi) (by simp)
  exact ⟨_, _, hrow, (CellsH.length _ _ _ _ _ hrow).1, fun j u hj => hown.cell hg (take_drop_get hj)⟩

theorem CellsH.get {hv : Option Value} : ∀ (cs : List CT) (ts : List TypeId) (r : List DC) (us : List Value) (m : List Nat) (k : Nat) (c : CT), CellsH w hv cs ts r us m → cs[k]? = some c → flatB [c] = true →
    ∃ v, us[k]? = some v ∧ RdC w c (r.getD k default) v []
  | [], _, _, _, _, _, _, _, hk, _ => by simp at hk
  | c0 :: cs, _, _, _, _, k, c, h, hk, hf => by
    rcases ct_cases c0 with ⟨e, rfl⟩ | hc
    · simp only [CellsH] at h
      obtain ⟨t, ts', rows, ds', v, us', m1, mb', rfl, rfl, rfl, _, _, h6, rfl⟩ := h
      cases k with
      | zero =>
        simp only [List.getElem?_cons_zero, Option.some.injEq] at hk
        subst hk
        simp [flatB] at hf
      | succ k =>
        obtain ⟨v', h1, h2⟩ := CellsH.get cs _ _ _ _ k c h6 (by simpa using hk) hf
        exact ⟨v', by simpa using h1, by simpa using h2⟩
    · rw [CellsH.flat hc] at h
      obtain ⟨d, ds', v, us', rfl, rfl, h3, h4⟩ := h
      cases k with
      | zero =>
        simp only [List.getElem?_cons_zero, Option.some.injEq] at hk
        subst hk
        exact ⟨v, by simp, by simpa using h3⟩
      | succ k =>
        obtain ⟨v', h1, h2⟩ := CellsH.get cs _ _ _ _ k c h4 (by simpa using hk) hf
        exact ⟨v', by simpa using h1, by simpa using h2⟩

theorem CellsH.svs {hv : Option Value} {av : Nat → Prop} {cs : List CT} {ts : List TypeId} {r : List DC} {us : List Value} {m : List Nat} (h : CellsH w hv cs ts r us m) :
    ∀ (n k : Nat), k + n ≤ cs.length → flatB ((cs.drop k).take n) = true → ∃ vs : List Value, vs.length = n ∧ (∀ j v, vs[j]? = some v → us[k + j]? = some v) ∧ SVRL w av β (ofDCs ((cs.drop k).take n) r k) vs ∧ ∀ x ∈ vs, x.oneCell' = true
  | 0, k, _, _ => ⟨[], rfl, by simp, by simp [ofDCs, SVRL], by simp⟩
  | n + 1, k, hk, hf => by
    have hlt : k < cs.length := by omega
    have hcut : (cs.drop k).take (n + 1) = cs[k] :: (cs.drop (k + 1)).take n := by
      rw [List.drop_eq_getElem_cons hlt, List.take_succ_cons]
    rw [hcut, flatB_cons, Bool.and_eq_true] at hf
    obtain ⟨v, e1, e2⟩ := CellsH.get cs ts r us m k cs[k] h (by simp) hf.1
    obtain ⟨vs, l1, l2, l3, l4⟩ := CellsH.svs h n (k + 1) (by omega) hf.2
    refine ⟨v :: vs, by simp [l1], ?_, ?_, ?_⟩
    · intro j u hj
      cases j with
      | zero => simp at hj; subst hj; simpa using e1
      | succ j => have := l2 j u (by simpa using hj); rw [← this]; congr 1; omega
    · rw [hcut]
      simp only [ofDCs, SVRL]
      exact ⟨v, vs, rfl, ofDC_ok e2 (by simp), l3⟩
    · intro x hx
      rcases List.mem_cons.1 hx with rfl | hx
      · exact e2.one
      · exact l4 x hx

theorem sound_loadD (hR : Rel w0 S st a w) (hd : ∀ d, o.dst = some d → DstOk st.n d) {t : TypeId} {x : Operand} (ho : o.op = .load t x) {id i z off : Nat} {t' : TypeId} {ct : List CT} {ts : List TypeId} {rows : List (List DC)} {hl : Option (Nat × Nat)}
    (h1 : (evM x).val st.get st.obj = some (.eown id i z off)) (hob : st.obj id = some (.deep t' ct ts rows hl)) (he : (loadD P t i z off ct rows).val st.get st.obj = some e) (hok : e.ok = true) : Good P w0 S st o e a w := by
  unfold loadD at he
  cases hz : Nat.beq z ct.length
  · simp [hz] at he
  have hz' := Nat.eq_of_beq_eq_true hz
  simp only [hz, Bool.not_true, cond_false] at he
  split at he
  · simp at he
  rename_i td hu
  have reads : ∀ β φ, Core w0 S st.get st.obj β φ a.tmps w → i < rows.length → ∃ g us m, a.eval x = .pointer (some ⟨g, i * ct.length + off, none⟩) ∧ CellsH w (holeV β hl i) ct ts (rows.getD i []) us m ∧
      ∀ j u, us[j]? = some u → w.cell? ⟨g, i * ct.length + j, none⟩ = some u := by
    intro β φ hc hi
    have hx := hc.ev h1
    simp only [SVR] at hx
    obtain ⟨g, hg, hv⟩ := hx
    obtain ⟨us, m, k1, _, k3⟩ := deep_row hc hob hi hg
    exact ⟨g, us, m, by rw [hv, hz'], k1, k3⟩
  cases ha : isAggB P t
  · simp only [ha, cond_false] at he
    split at he
    · rename_i c hcc
      cases hf : flatB [c]
      · simp [hf] at he
      simp only [hf, cond_true, M.val_pure, Option.some.injEq] at he
      subst he
      have hi : i < rows.length := by simpa using hok
      refine good_pure hR hd rfl rfl fun β φ hc => ?_
      obtain ⟨g, us, m, hv, hr, hcell⟩ := reads β φ hc hi
      obtain ⟨v, e1, e2⟩ := CellsH.get _ _ _ _ _ _ _ hr hcc hf
      refine ⟨v, ?_, ofDC_ok e2 (by simp)⟩
      simp [execOp, ho, hv, run_loadAt_one ha hu (hcell _ _ e1)]
    · simp at he
  · simp only [ha, cond_true] at he
    split at he
    · rename_i j hj
      cases hz2 : Nat.ble (off + j.size) ct.length && flatB ((ct.drop off).take j.size)
      · simp [hz2] at he
      simp only [hz2, cond_true, M.val_pure, Option.some.injEq] at he
      subst he
      simp only [Bool.and_eq_true] at hz2
      have hi : i < rows.length := by simpa using hok
      have hle := Nat.le_of_ble_eq_true hz2.1
      refine good_pure hR hd rfl rfl fun β φ hc => ?_
      obtain ⟨g, us, m, hv, hr, hcell⟩ := reads β φ hc hi
      obtain ⟨vs, l1, l2, l3, l4⟩ := CellsH.svs (β := β) (av := Av st.obj β) hr j.size off hle hz2.2
      refine ⟨.agg vs.toArray, ?_, ?_⟩
      · have : ∀ k v, vs[k]? = some v → w.cell? ⟨g, (i * ct.length + off) + k, none⟩ = some v := fun k v hk => by
          rw [Nat.add_assoc]
          exact hcell _ _ (l2 k v hk)
        simp [execOp, ho, hv, run_loadAt_agg ha hj l1 this]
      · simp only [SVR]
        exact ⟨vs, rfl, l3, l4⟩
    · simp at he

theorem flatten_less {mbs : List (List Nat)} {i : Nat} (hi : i < mbs.length) : ∀ b ∈ (mbs.set i []).flatten, b ∈ mbs.flatten := by
  intro b hb
  rw [flatten_set hi] at hb
  rw [flatten_at hi]
  simp only [List.nil_append, List.mem_append] at hb ⊢
  rcases hb with hb | hb <;> simp [hb]

theorem sound_take (hR : Rel w0 S st a w) {d : Nat} (hdst : o.dst = some d) (hd : DstOk st.n d) (hfr : FreshAt st d) {t : TypeId} {x : Operand} (ho : o.op = .load t x) {id i off : Nat} {t' t1 : TypeId} {ct e' : List CT} {rows : List (List DC)} {td : TypeDesc}
    (h1 : (evM x).val st.get st.obj = some (.eown id i ct.length off)) (hob : st.obj id = some (.deep t' ct [t1] rows none)) (hoff : ct[off]? = some (.sl e')) (hcnt : slCount ct = 1) (ha : isAggB P t = false) (hu : P.underlying t = some td) (hi : i < rows.length)
    (hsv : e.sv = .own (newId d 0)) (hcw : e.cw = none) (how : e.ow = [(newId d 0, some (.row t1 e' ((rows.getD i []).getD off default).asRows false true)), (id, some (.deep t' ct [t1] rows (some (i, newId d 0))))]) : Good P w0 S st o e a w := by
  obtain ⟨β, φ, hc⟩ := hR.core
  have hnew : newId d 0 / 64 = d := newId_div d 0 (by omega)
  generalize hnid : newId d 0 = nid at *
  have hne : id ≠ nid := fun e => (hfr.obj id _ hob).1 (e ▸ hnew)
  have hx := hc.ev h1
  simp only [SVR] at hx
  obtain ⟨g, hg, hx⟩ := hx
  obtain ⟨vals, mbs, hown, hin, hnb, hφ⟩ := hc.objs id _ hob
  have him : i < mbs.length := by rw [hin.1]; exact hi
  have hrow := hin.2 i (rows.getD i []) mbs[i] (getD_of_lt hi) (by simp)
  obtain ⟨t1', v, rws, ht1, hv, hrv, hfl, hsl, hout⟩ := CellsH.out ct off e' _ _ _ _ hoff hcnt hrow
  simp only [List.cons.injEq, and_true] at ht1
  subst ht1
  obtain ⟨vals', fps', ho1, ho2, hmb⟩ := hsl
  have hrws : ((rows.getD i []).getD off default).asRows = rws := by
    rw [List.getD_eq_getElem?_getD, hrv]
    rfl
  rw [hrws] at how
  have hcell : w.cell? ⟨g, i * ct.length + off, none⟩ = some v := hown.cell hg (take_drop_get hv)
  have hφn := (hc.fresh id _ hob).1
  rw [hφ] at hφn
  have hsub1 : ∀ b ∈ v.ownBlock.toList, b ∈ mbs.flatten := by
    intro b hb
    rw [flatten_at him, hmb]
    simp [hb]
  have hav0 : ∀ b ∈ (β.val id).ownBlock.toList ++ mbs.flatten, Av st.obj β b := fun b hb => .inl ⟨id, _, hob, by simpa [tops, hnb] using hb⟩
  have hφid : ∀ b ∈ (β.val id).ownBlock.toList ++ mbs.flatten, b ∈ φ id := fun b hb => by rw [hφ]; exact hb
  have hsub2 : ∀ b ∈ (β.val id).ownBlock.toList ++ (mbs.set i []).flatten, b ∈ (β.val id).ownBlock.toList ++ mbs.flatten := by
    intro b hb
    rcases List.mem_append.1 hb with hb | hb
    · exact List.mem_append_left _ hb
    · exact List.mem_append_right _ (flatten_less him b hb)
  have happart : ∀ b ∈ v.ownBlock.toList, b ∉ (β.val id).ownBlock.toList ++ (mbs.set i []).flatten := by
    intro b hb hb2
    rw [flatten_at him, List.nodup_append] at hφn
    obtain ⟨_, n2, n3⟩ := hφn
    rw [List.nodup_append] at n2
    obtain ⟨_, n4, n5⟩ := n2
    rw [List.nodup_append] at n4
    obtain ⟨_, _, n6⟩ := n4
    rw [← hmb] at hb
    rcases List.mem_append.1 hb2 with hb2 | hb2
    · exact n3 b hb2 b (by simp [hb]) rfl
    · rw [flatten_set him] at hb2
      simp only [List.nil_append, List.mem_append] at hb2
      rcases hb2 with hb2 | hb2
      · exact n5 b hb2 b (by simp [hb]) rfl
      · exact n6 b hb b hb2 rfl
  have hnd2 : ((β.val id).ownBlock.toList ++ (mbs.set i []).flatten).Nodup := by
    refine List.Sublist.nodup ?_ hφn
    refine (List.Sublist.refl _).append ?_
    rw [flatten_set him, flatten_at him]
    exact (List.Sublist.refl _).append ((List.nil_sublist _).append (List.Sublist.refl _))
  have hvn : v.ownBlock.toList.Nodup := by cases v.ownBlock <;> simp
  let β' : Env := ⟨β.blk, upd β.val nid v, β.bar, upd β.nb id (mbs.set i []).flatten⟩
  have hval' : β'.val id = β.val id := by simp [β', upd, hne]
  have hvaln : β'.val nid = v := by simp [β', upd]
  have hnb' : β'.nb id = (mbs.set i []).flatten := by simp [β', upd]
  let h' : Nat → Option VObj := upd (upd st.obj id (some (.deep t' ct [t1] rows (some (i, nid))))) nid (some (.row t1 e' rws false true))
  let φ' : Nat → List Nat := upd (upd φ id ((β.val id).ownBlock.toList ++ (mbs.set i []).flatten)) nid v.ownBlock.toList
  have hcore : Core w0 S st.get h' β' φ' a.tmps w := by
    have e1 : h' nid = some (.row t1 e' rws false true) := by simp [h', upd]
    have e2 : h' id = some (.deep t' ct [t1] rows (some (i, nid))) := by simp [h', upd, hne]
    have e3 : ∀ j, j ≠ nid → j ≠ id → h' j = st.obj j := fun j h1 h2 => by simp [h', upd, h1, h2]
    have p1 : φ' nid = v.ownBlock.toList := by simp [φ', upd]
    have p2 : φ' id = (β.val id).ownBlock.toList ++ (mbs.set i []).flatten := by simp [φ', upd, hne]
    have p3 : ∀ j, j ≠ nid → j ≠ id → φ' j = φ j := fun j h1 h2 => by simp [φ', upd, h1, h2]
    have htop : ∀ j oj, j ≠ nid → j ≠ id → tops β' j oj = tops β j oj := by
      intro j oj h1 h2
      cases oj <;> simp [tops, β', upd, h1, h2]
    have havs : ∀ b, Av h' β' b → Av st.obj β b := by
      rintro b (⟨j, oj, hj, hbj⟩ | hb)
      case inr => exact .inr hb
      by_cases hjn : j = nid
      · subst hjn
        rw [e1, Option.some.injEq] at hj
        subst hj
        exact hav0 b (List.mem_append_right _ (hsub1 b (by simpa [tops, hvaln] using hbj)))
      · by_cases hji : j = id
        · subst hji
          rw [e2, Option.some.injEq] at hj
          subst hj
          exact hav0 b (hsub2 b (by simpa only [tops, hval', hnb'] using hbj))
        · rw [e3 j hjn hji] at hj
          rw [htop j oj hjn hji] at hbj
          exact .inl ⟨j, oj, hj, hbj⟩
    have hfresh := (hc.fresh id _ hob).2
    refine hc.step' (fun j => j = nid) (Nat.le_refl _) (fun _ _ _ => rfl) (fun b hb => .inl (havs b hb)) (fun k j hj e => hfr.slot k j hj (e ▸ hnew)) (fun j hj => ⟨by simp [β', upd, hj], rfl⟩) ?_ ?_
    · intro j oj hj
      by_cases hjn : j = nid
      · subst hjn
        rw [e1, Option.some.injEq] at hj
        subst hj
        refine .inr ⟨?_, by rw [p1]; exact hvn, fun b hb => ?_⟩
        · refine ⟨vals', fps', by rw [hvaln]; exact ho1, ho2, ?_, ?_⟩
          · rw [ho2.noblk hfl]
            simp
          · rw [p1, hvaln, ho2.noblk hfl]
            simp
        · rw [p1] at hb
          exact hfresh b (hφid b (List.mem_append_right _ (hsub1 b hb)))
      · by_cases hji : j = id
        · subst hji
          rw [e2, Option.some.injEq] at hj
          subst hj
          refine .inr ⟨?_, by rw [p2]; exact hnd2, fun b hb => ?_⟩
          · refine ⟨vals, mbs.set i [], by rw [hval']; exact hown, ⟨by simp [hin.1], fun k r m hk hm => ?_⟩, hnb', by rw [p2, hval']⟩
            by_cases hki : k = i
            · subst hki
              rw [List.getElem?_set_self him, Option.some.injEq] at hm
              subst hm
              have hr' : r = rows.getD k [] := by
                rw [getD_of_lt (d := []) hi, Option.some.injEq] at hk
                exact hk.symm
              subst hr'
              simp only [holeV, if_true]
              rw [hvaln]
              exact hout
            · rw [List.getElem?_set_ne (Ne.symm hki)] at hm
              simp only [holeV, hki, if_false]
              exact hin.2 k r m hk hm
          · rw [p2] at hb
            exact hfresh b (hφid b (hsub2 b hb))
        · rw [e3 j hjn hji] at hj
          refine .inl ⟨hjn, hj, by simp [β', upd, hji], p3 j hjn hji, fun k hk e => (hfr.obj j oj hj).2 k hk (e ▸ hnew), fun _ _ => rfl⟩
    · have kinds : ∀ j oj, h' j = some oj → ∀ b ∈ φ' j, (j = nid ∧ b ∈ v.ownBlock.toList) ∨ (j = id ∧ b ∈ (β.val id).ownBlock.toList ++ (mbs.set i []).flatten) ∨ (j ≠ nid ∧ j ≠ id ∧ st.obj j = some oj ∧ b ∈ φ j) := by
        intro j oj hj b hb
        by_cases hjn : j = nid
        · subst hjn
          rw [p1] at hb
          exact .inl ⟨rfl, hb⟩
        · by_cases hji : j = id
          · subst hji
            rw [p2] at hb
            exact .inr (.inl ⟨rfl, hb⟩)
          · rw [p3 j hjn hji] at hb
            rw [e3 j hjn hji] at hj
            exact .inr (.inr ⟨hjn, hji, hj, hb⟩)
      intro j k oj ok hjk hj hk b hb hb'
      rcases kinds j oj hj b hb with ⟨rfl, x1⟩ | ⟨rfl, x1⟩ | ⟨x0, x00, x1, x2⟩ <;> rcases kinds k ok hk b hb' with ⟨rfl, y1⟩ | ⟨rfl, y1⟩ | ⟨y0, y00, y1, y2⟩
      · exact hjk rfl
      · exact happart b x1 y1
      · exact hc.sep id k _ ok (Ne.symm y00) hob y1 b (hφid b (List.mem_append_right _ (hsub1 b x1))) y2
      · exact happart b y1 x1
      · exact hjk rfl
      · exact hc.sep _ k _ ok (Ne.symm y00) hob y1 b (hφid b (hsub2 b x1)) y2
      · exact hc.sep id j _ oj (Ne.symm x00) hob x1 b (hφid b (List.mem_append_right _ (hsub1 b y1))) x2
      · exact hc.sep _ j _ oj (Ne.symm x00) hob x1 b (hφid b (hsub2 b y1)) x2
      · exact hc.sep j k oj ok hjk x1 y1 b x2 y2
  refine good_value hR (fun d' h' => by rw [hdst] at h'; injection h' with h'; exact h' ▸ hd) (v := v) (w' := w) ?_ hR.kept ⟨β', φ', ?_, ?_⟩
  · simp [execOp, ho, hx, run_loadAt_one ha hu hcell]
  · rw [how, hcw]
    exact hcore
  · rw [hsv]
    unfold SVR
    exact ⟨hvaln.symm, ho1.one⟩

end

end Go.Proofs.Ytklbgnodgnlebaa.Vm

/- The value machine: writes into rows whose slices are rows of the call's own; such rows made anew; a slice put back. Conditions: as each lemma says. -/
set_option linter.unusedVariables false
set_option linter.unusedSimpArgs false
namespace Go.Proofs.Ytklbgnodgnlebaa.Vm

section
variable {P : Program} {Γ : Ctx} {w0 : World} {S : Own} {st : St} {o : Oper} {e : Eff} {a : Act} {w w' : World}
variable {f : Nat → SV} {h : Nat → Option VObj} {β : Env} {φ : Nat → List Nat} {tm : Array Value}

/-- Cells without slices are written. -/
theorem CellsH.spliceF {hv : Option Value} {pre part suf : List CT} {ts : List TypeId} {r ds : List DC} {us nu : List Value} {m : List Nat} (h : CellsH w hv (pre ++ (part ++ suf)) ts r us m) (hf : flatB part = true) (hn : CellsH w hv part [] ds nu []) :
    CellsH w hv (pre ++ (part ++ suf)) ts (splice r pre.length ds) (us.take pre.length ++ (nu ++ us.drop (pre.length + nu.length))) m := by
  obtain ⟨ts1, ts2, m1, m2, rfl, rfl, k1, k2⟩ := CellsH.split _ _ _ _ _ _ h
  obtain ⟨ts3, ts4, m3, m4, rfl, rfl, k3, k4⟩ := CellsH.split _ _ _ _ _ _ k2
  obtain ⟨rfl, rfl, _⟩ := CellsH.toFlat _ _ _ _ _ hf k3
  obtain ⟨l1, l2⟩ := CellsH.length _ _ _ _ _ hn
  rw [List.drop_drop, List.drop_drop] at k4
  have := CellsH.join _ _ _ _ _ _ _ _ _ _ k1 (CellsH.join _ _ _ _ _ _ _ _ _ _ hn k4)
  simpa only [splice, l1, l2] using this

/-- All slices of an element are written anew. -/
theorem CellsH.spliceA {hv : Option Value} {pre part suf : List CT} {ts ts' : List TypeId} {r ds : List DC} {us nu : List Value} {m m' : List Nat} (h : CellsH w hv (pre ++ (part ++ suf)) ts r us m) (hf : slCount part = slCount (pre ++ (part ++ suf))) (hn : CellsH w none part ts' ds nu m') :
    CellsH w none (pre ++ (part ++ suf)) ts' (splice r pre.length ds) (us.take pre.length ++ (nu ++ us.drop (pre.length + nu.length))) m' := by
  rw [slCount_append, slCount_append] at hf
  have f1 : flatB pre = true := slCount_zero (by omega)
  have f2 : flatB suf = true := slCount_zero (by omega)
  obtain ⟨ts1, ts2, m1, m2, rfl, rfl, k1, k2⟩ := CellsH.split _ _ _ _ _ _ h
  obtain ⟨ts3, ts4, m3, m4, rfl, rfl, k3, k4⟩ := CellsH.split _ _ _ _ _ _ k2
  obtain ⟨rfl, rfl, _⟩ := CellsH.toFlat _ _ _ _ _ f1 k1
  obtain ⟨rfl, rfl, _⟩ := CellsH.toFlat _ _ _ _ _ f2 k4
  obtain ⟨l1, l2⟩ := CellsH.length _ _ _ _ _ hn
  rw [List.drop_drop, List.drop_drop] at k4
  have := CellsH.join _ _ _ _ _ _ _ _ _ _ (CellsH.reflat (hv' := none) f1 k1) (CellsH.join _ _ _ _ _ _ _ _ _ _ hn (CellsH.reflat (hv' := none) f2 k4))
  simpa only [splice, l1, l2, List.nil_append, List.append_nil] using this

theorem RowsA.cells : ∀ (cs : List CT) (ts : List TypeId) (ds : List DC) (us : List Value) (mb : List Nat), RowsA w cs ts ds us mb → CellsH w none cs ts ds us mb
  | [], _, _, _, _, h => by simpa only [RowsA, CellsH] using h
  | .sl e :: cs, _, _, _, _, h => by
    simp only [RowsA] at h
    obtain ⟨t, ts', rows, ds', v, us', vals, fps, mb', rfl, rfl, rfl, h4, h5, h6, h7, rfl⟩ := h
    simp only [CellsH]
    exact ⟨t, ts', rows, ds', v, us', _, mb', rfl, rfl, rfl, h4, ⟨vals, fps, h5, h6, rfl⟩, RowsA.cells cs _ _ _ _ h7, rfl⟩
  | .int k :: cs, _, _, _, _, h => by
    simp only [RowsA] at h
    obtain ⟨d, ds', v, us', rfl, rfl, h3, h4⟩ := h
    simp only [CellsH]
    exact ⟨d, ds', v, us', rfl, rfl, h3, RowsA.cells cs _ _ _ _ h4⟩
  | .bool :: cs, _, _, _, _, h => by
    simp only [RowsA] at h
    obtain ⟨d, ds', v, us', rfl, rfl, h3, h4⟩ := h
    simp only [CellsH]
    exact ⟨d, ds', v, us', rfl, rfl, h3, RowsA.cells cs _ _ _ _ h4⟩
  | .str :: cs, _, _, _, _, h => by
    simp only [RowsA] at h
    obtain ⟨d, ds', v, us', rfl, rfl, h3, h4⟩ := h
    simp only [CellsH]
    exact ⟨d, ds', v, us', rfl, rfl, h3, RowsA.cells cs _ _ _ _ h4⟩

theorem three (ct : List CT) (off n : Nat) : ct.take off ++ ((ct.drop off).take n ++ ct.drop (off + n)) = ct := by
  rw [← List.drop_drop, List.take_append_drop, List.take_append_drop]

/-- What a write into an element does in memory. -/
theorem store_run {t t' : TypeId} {x y : Operand} (ho : o.op = .store t x y) {g i off : Nat} {ct : List CT} {n cap : Nat} {cur : Array Value} (hx : a.eval x = .pointer (some ⟨g, i * ct.length + off, none⟩)) {ti : TypeInfo} (hti : P.info? t = some ti) (hsize : ti.size = (a.eval y).cells.size)
    (hone : ∀ v ∈ (a.eval y).cells.toList, v.oneCell' = true) (hh : w.heap[g]? = some (.cells cur t' (0, 0))) (hi : i < n) (hnc : n ≤ cap) (hcs : cur.size = cap * ct.length) (hfit : off + (a.eval y).cells.toList.length ≤ ct.length) :
    (execOp a.eval o).run P w = .ok .skip (w.setRow g (cur.toList.take (i * ct.length + off) ++ ((a.eval y).cells.toList ++ cur.toList.drop (i * ct.length + off + (a.eval y).cells.toList.length))).toArray) := by
  have hlen : i * ct.length + ct.length ≤ n * ct.length := by rw [← Nat.succ_mul]; exact Nat.mul_le_mul_right _ hi
  have hlen2 : n * ct.length ≤ cap * ct.length := Nat.mul_le_mul_right _ hnc
  have hrun := run_storeCells_free P g (i * ct.length + off) t' (0, 0) (a.eval y).cells.toList 0 cur w hh (fun j _ h => by simp at h) (by omega) hone
  simp only [Nat.add_zero] at hrun
  have := run_storeAt (P := P) (t := t) (b := g) (off := i * ct.length + off) (x := a.eval y) hti hsize hrun
  simp [execOp, ho, hx, this]

/-- The row behind the write. -/
theorem OwnR.written {t : TypeId} {el i off n : Nat} {v : Value} {vals nu : List Value} (hown : OwnR w t el false v n vals) {g : Nat} (hg : v.ownBlock = some g) (hi : i < n) (hfit : off + nu.length ≤ el) {cap : Nat} {cur : Array Value} (hh : w.heap[g]? = some (.cells cur t (0, 0))) (hcs : cur.size = cap * el) (hnc : n ≤ cap) :
    OwnR (w.setRow g (cur.toList.take (i * el + off) ++ (nu ++ cur.toList.drop (i * el + off + nu.length))).toArray) t el false v n (vals.take (i * el + off) ++ (nu ++ vals.drop (i * el + off + nu.length))) := by
  have hlen : i * el + el ≤ n * el := by rw [← Nat.succ_mul]; exact Nat.mul_le_mul_right _ hi
  have hlen2 : n * el ≤ cap * el := Nat.mul_le_mul_right _ hnc
  have hcurl : (cur.toList.take (i * el + off) ++ (nu ++ cur.toList.drop (i * el + off + nu.length))).length = cur.size := by
    simp only [List.length_append, List.length_take, List.length_drop, Array.length_toList]
    omega
  rcases hown.2 with ⟨hv, h0, _⟩ | ⟨g', cap', cur', hv, hh', hnc', hcm, hcs', htk⟩
  · omega
  have hgg : g' = g := by simpa [hv, Value.ownBlock] using hg
  subst hgg
  rw [hh] at hh'
  simp only [cond_false, Option.some.injEq, Obj.cells.injEq] at hh'
  obtain ⟨rfl, _⟩ := hh'
  refine ⟨?_, .inr ⟨g', cap', (cur.toList.take (i * el + off) ++ (nu ++ cur.toList.drop (i * el + off + nu.length))).toArray, hv, ?_, hnc', hcm, by simpa [hcurl] using hcs', ?_⟩⟩
  · have := hown.1
    simp only [List.length_append, List.length_take, List.length_drop]
    omega
  · rw [setRow_heap w _ _ _ _ _ hh]
    simp
  · simp only
    rw [take_splice _ _ _ _ (by omega) (by simp only [Array.length_toList]; omega), htk]

theorem sound_storeF (hR : Rel w0 S st a w) (hd : ∀ d, o.dst = some d → DstOk st.n d) {t t' : TypeId} {x y : Operand} (ho : o.op = .store t x y) {id i off : Nat} {sy : SV} {svs : List SV} {ct : List CT} {ts : List TypeId} {rows : List (List DC)} {hl : Option (Nat × Nat)} {r : List DC × Met × Bool}
    (h1 : (evM x).val st.get st.obj = some (.eown id i ct.length off)) (h2 : (evM y).val st.get st.obj = some sy) (hcs : (cellsOfSV sy).val st.get st.obj = some svs) (hsz : sizeB P t svs.length = true)
    (hob : st.obj id = some (.deep t' ct ts rows hl)) (hfit : off + svs.length ≤ ct.length) (hf : flatB ((ct.drop off).take svs.length) = true) (hr : (toDCs ((ct.drop off).take svs.length) svs).val st.get st.obj = some r)
    (hi : i < rows.length) (hcw : e.cw = none) (hsv0 : e.sv = .undef) (how : e.ow = [(id, some (.deep t' ct ts (rows.set i (splice (rows.getD i []) off r.1)) hl))]) : Good P w0 S st o e a w := by
  obtain ⟨ti, hti, hsize⟩ := sizeB_size hsz
  obtain ⟨β, φ, hc⟩ := hR.core
  have hx := hc.ev h1
  simp only [SVR] at hx
  obtain ⟨g, hg, hx⟩ := hx
  obtain ⟨hsv, hone⟩ := cells_ok (hc.ev h2) hcs
  have hl2 := SVRL.length _ _ hsv
  have hcsz : (a.eval y).cells.size = svs.length := by simpa using hl2
  obtain ⟨fp, hrd, _, _, _⟩ := toDCs_ok hc _ _ _ r hsv hr
  obtain ⟨vals, mbs, hown, hin, hnb, hφ⟩ := hc.objs id _ hob
  have hgtop : g ∈ tops β id (.deep t' ct ts rows hl) := by simp [tops, hg]
  rcases hown.2 with ⟨hv, h0, _⟩ | ⟨g', cap, cur, hv, hh, hnc, hcm, hcs', htk⟩
  · omega
  have hgg : g' = g := by simpa [hv, Value.ownBlock] using hg
  subst hgg
  simp only [cond_false] at hh
  have hul : (a.eval y).cells.toList.length = svs.length := by simpa using hcsz
  have hrun := store_run (P := P) ho hx hti (hsize.trans hcsz.symm) hone hh hi hnc hcs' (by rw [hul]; exact hfit)
  have hw' := hown.written (off := off) (nu := (a.eval y).cells.toList) hg hi (by rw [hul]; exact hfit) hh hcs' hnc
  generalize (a.eval y).cells.toList = nu at *
  rw [← hul] at hfit hf hrd hr
  have him : i < mbs.length := by rw [hin.1]; exact hi
  have hrow := hin.2 i (rows.getD i []) mbs[i] (getD_of_lt hi) (by simp)
  have hl1 : (ct.take off).length = off := by simp; omega
  have hl3 : ((ct.drop off).take nu.length).length = nu.length := by simp; omega
  have hnew := CellsH.spliceF (pre := ct.take off) (part := (ct.drop off).take nu.length) (suf := ct.drop (off + nu.length)) (by rw [three]; exact hrow) hf (CellsH.ofFlat _ _ _ _ hf hrd hl3.symm)
  rw [three, hl1] at hnew
  have hfresh := hc.fresh id _ hob
  have hnd := hfresh.1
  rw [hφ] at hnd
  have hng : ∀ b ∈ mbs.flatten, b ≠ g' := by
    intro b hb e
    subst e
    rw [List.nodup_append] at hnd
    exact hnd.2.2 b (by simp [hg]) b hb rfl
  have hmem : ∀ j m', mbs[j]? = some m' → ∀ b ∈ m', b ∈ mbs.flatten := fun j m' hj b hb => List.mem_flatten.2 ⟨m', List.mem_of_getElem? hj, hb⟩
  have hmi : mbs.set i mbs[i] = mbs := List.set_getElem_self ..
  have hin' := hin.set (w' := w.setRow g' (cur.toList.take (i * ct.length + off) ++ (nu ++ cur.toList.drop (i * ct.length + off + nu.length))).toArray) (hv' := holeV β hl) (by simp) hown.1 hi hfit
    (fun j _ m' hj b hb => setRow_other w g' b _ (hng b (hmem j m' hj b hb))) (fun _ _ => rfl)
    (CellsH.mono (by simp) _ _ _ _ _ hnew (fun b hb => setRow_other w g' b _ (hng b (hmem i mbs[i] (by simp) b hb))))
  rw [hmi] at hin'
  have htops : ∀ b ∈ tops β id (.deep t' ct ts (rows.set i (splice (rows.getD i []) off r.1)) hl), b ∈ tops β id (.deep t' ct ts rows hl) := fun b hb => hb
  refine good_skip hR hd hrun (hR.kept.setRow (hfresh.2 g' (tops_sub (hc.objs id _ hob) g' hgtop)).1 _) ⟨β, upd φ id ((β.val id).ownBlock.toList ++ mbs.flatten), ?_, by rw [hsv0]; simp [SVR]⟩
  rw [how, hcw]
  show Core w0 S st.get (upd st.obj id (some (.deep t' ct ts (rows.set i (splice (rows.getD i []) off r.1)) hl))) _ _ _ _
  refine hc.rewrite hob hgtop htops ?_ hnd ?_
  · exact ⟨_, mbs, by simpa using hw', hin', hnb, rfl⟩
  · intro b hb
    have hb' : b ∈ φ id := by rw [hφ]; exact hb
    exact ⟨hfresh.2 b hb', fun j oj hj hjo => hc.sep id j _ _ (Ne.symm hj) hob hjo b hb'⟩

theorem fo_gone : ∀ (U : List MU) (h : Nat → Option VObj) (j : Nat), fo (muGone U) h j = if j ∈ muIds U then none else h j
  | [], h, j => by simp [muGone, muIds, fo]
  | x :: l, h, j => by
    have ih := fo_gone l h j
    cases x <;> simp only [muGone, muIds, fo, upd] <;> first | exact ih | (by_cases hj : j = _ <;> simp [hj, ih] <;> done) | skip
    all_goals
      simp only [List.mem_cons, ih]
      split <;> rename_i hj
      · simp [hj]
      · simp [hj]

theorem sound_storeA (hR : Rel w0 S st a w) (hd : ∀ d, o.dst = some d → DstOk st.n d) {t t' : TypeId} {x y : Operand} (ho : o.op = .store t x y) {id i off : Nat} {sy : SV} {svs : List SV} {ct : List CT} {ts : List TypeId} {rows : List (List DC)} {hl : Option (Nat × Nat)} {r : List DC × List MU}
    (h1 : (evM x).val st.get st.obj = some (.eown id i ct.length off)) (h2 : (evM y).val st.get st.obj = some sy) (hcs : (cellsOfSV sy).val st.get st.obj = some svs) (hsz : sizeB P t svs.length = true)
    (hob : st.obj id = some (.deep t' ct ts rows hl)) (hfit : off + svs.length ≤ ct.length) (hf : slCount ((ct.drop off).take svs.length) = slCount ct) (hr : (rowCellsM ((ct.drop off).take svs.length) ts svs).val st.get st.obj = some r)
    (hun : nodupB (id :: muIds r.2) = true) (hi : i < rows.length) (hhole : holeOk hl i = true) (hcw : e.cw = none) (hsv0 : e.sv = .undef) (how : e.ow = (id, some (.deep t' ct ts (rows.set i (splice (rows.getD i []) off r.1)) none)) :: muGone r.2) : Good P w0 S st o e a w := by
  obtain ⟨ti, hti, hsize⟩ := sizeB_size hsz
  obtain ⟨β, φ, hc⟩ := hR.core
  have hx := hc.ev h1
  simp only [SVR] at hx
  obtain ⟨g, hg, hx⟩ := hx
  obtain ⟨hsv, hone⟩ := cells_ok (hc.ev h2) hcs
  have hl2 := SVRL.length _ _ hsv
  have hcsz : (a.eval y).cells.size = svs.length := by simpa using hl2
  obtain ⟨hra, hmu⟩ := rowCells_ok hc _ _ _ _ r hsv hr
  have hnc0 := RowsA.cells _ _ _ _ _ hra
  obtain ⟨hidn, hun2⟩ := nodupB_cons hun
  have hmn := mu_nodup hc hmu hun2
  have hmt : ∀ b ∈ r.2.flatMap (muTops β), ∃ k ∈ muIds r.2, ∃ ob, st.obj k = some ob ∧ b ∈ tops β k ob := mu_top hmu
  obtain ⟨vals, mbs, hown, hin, hnb, hφ⟩ := hc.objs id _ hob
  have hgtop : g ∈ tops β id (.deep t' ct ts rows hl) := by simp [tops, hg]
  rcases hown.2 with ⟨hv, h0, _⟩ | ⟨g', cap, cur, hv, hh, hnc, hcm, hcs', htk⟩
  · omega
  have hgg : g' = g := by simpa [hv, Value.ownBlock] using hg
  subst hgg
  simp only [cond_false] at hh
  have hul : (a.eval y).cells.toList.length = svs.length := by simpa using hcsz
  have hrun := store_run (P := P) ho hx hti (hsize.trans hcsz.symm) hone hh hi hnc hcs' (by rw [hul]; exact hfit)
  have hw' := hown.written (off := off) (nu := (a.eval y).cells.toList) hg hi (by rw [hul]; exact hfit) hh hcs' hnc
  generalize (a.eval y).cells.toList = nu at *
  rw [← hul] at hfit hf hnc0 hr
  have him : i < mbs.length := by rw [hin.1]; exact hi
  have hrow := hin.2 i (rows.getD i []) mbs[i] (getD_of_lt hi) (by simp)
  have hl1 : (ct.take off).length = off := by simp; omega
  have hnew := CellsH.spliceA (pre := ct.take off) (part := (ct.drop off).take nu.length) (suf := ct.drop (off + nu.length)) (by rw [three]; exact hrow) (by rw [three]; exact hf) hnc0
  rw [three, hl1] at hnew
  have hfresh := hc.fresh id _ hob
  have hnd := hfresh.1
  rw [hφ] at hnd
  have hgφ : g' ∈ φ id := tops_sub (hc.objs id _ hob) g' hgtop
  have hng : ∀ b ∈ mbs.flatten, b ≠ g' := by
    intro b hb e
    subst e
    rw [List.nodup_append] at hnd
    exact hnd.2.2 b (by simp [hg]) b hb rfl
  have hmid : ∀ b ∈ r.2.flatMap (muTops β), b ∉ φ id := by
    intro b hb hb2
    obtain ⟨k, hk, ob, hkob, hbk⟩ := hmt b hb
    exact hc.sep k id ob _ (fun e => hidn (e ▸ hk)) hkob hob b (tops_sub (hc.objs k ob hkob) b hbk) hb2
  have hng2 : ∀ b ∈ r.2.flatMap (muTops β), b ≠ g' := fun b hb e => hmid b hb (e ▸ hgφ)
  have hmem : ∀ j m', mbs[j]? = some m' → ∀ b ∈ m', b ∈ mbs.flatten := fun j m' hj b hb => List.mem_flatten.2 ⟨m', List.mem_of_getElem? hj, hb⟩
  have hhol : ∀ j, j ≠ i → (none : Option Value) = holeV β hl j := by
    intro j hj
    cases hl with
    | none => rfl
    | some q =>
      obtain ⟨k, nid⟩ := q
      have := Nat.eq_of_beq_eq_true hhole
      subst this
      simp [holeV, hj]
  have hin' := hin.set (w' := w.setRow g' (cur.toList.take (i * ct.length + off) ++ (nu ++ cur.toList.drop (i * ct.length + off + nu.length))).toArray) (hv' := fun _ => none) (by simp) hown.1 hi hfit
    (fun j _ m' hj b hb => setRow_other w g' b _ (hng b (hmem j m' hj b hb))) hhol
    (CellsH.mono (by simp) _ _ _ _ _ hnew (fun b hb => setRow_other w g' b _ (hng2 b hb)))
  have hnd2 : ((β.val id).ownBlock.toList ++ (mbs.set i (r.2.flatMap (muTops β))).flatten).Nodup := by
    rw [flatten_set him]
    have h3 := hnd
    rw [flatten_at him] at h3
    have h4 := nodup_insert (A := (β.val id).ownBlock.toList ++ (mbs.take i).flatten) (p1 := []) (p2 := mbs[i]) (p3 := []) (B := (mbs.drop (i + 1)).flatten) (n := r.2.flatMap (muTops β)) (by simpa using h3) hmn
      (fun b hb hb2 => hmid b hb (by rw [hφ, flatten_at him]; simpa using hb2))
    simpa using h4
  refine good_skip hR hd hrun (hR.kept.setRow (hfresh.2 g' hgφ).1 _) ⟨β.setNb id (mbs.set i (r.2.flatMap (muTops β))).flatten, upd φ id ((β.val id).ownBlock.toList ++ (mbs.set i (r.2.flatMap (muTops β))).flatten), ?_, by rw [hsv0]; simp [SVR]⟩
  rw [how, hcw]
  refine hc.regroup (t := t') (ct := ct) (ts := ts) (rows := rows.set i (splice (rows.getD i []) off r.1)) (hl := none) (G := fun k => k ∈ muIds r.2) hob (fun k hk e => hidn (e ▸ hk)) (by simp [fo, upd, fc]) (fun j hj x hx => ?_) (by simp) (fun b hb hb2 => setRow_other w g' b _ (fun e => hb2 (by rw [e, hg]; simp))) (fun b hb => by simp only [tops]; exact List.mem_append_left _ hb) (fun b hb => ?_) ?_ hnd2
  · simp only [fo, upd, hj, if_false, fc] at hx
    rw [fo_gone] at hx
    split at hx
    · cases hx
    · rename_i hk
      exact ⟨hx, hk⟩
  · rw [flatten_set him] at hb
    simp only [List.mem_append] at hb
    rcases hb with hb | hb | hb
    · left
      simp only [tops, hnb]
      rw [flatten_at him]
      simp [hb]
    · right
      obtain ⟨k, hk, ob, h3, h4⟩ := hmt b hb
      exact ⟨k, ob, hk, h3, h4⟩
    · left
      simp only [tops, hnb]
      rw [flatten_at him]
      simp [hb]
  · exact ⟨_, _, by simpa [Env.setNb] using hw', hin', by simp [Env.setNb, upd], by simp [Env.setNb]⟩

/-! ### New rows -/

theorem sound_newdeep (hR : Rel w0 S st a w) {d : Nat} (hdst : o.dst = some d) (hd : DstOk st.n d) (hfr : FreshAt st d) {t : TypeId} {ct : List CT} {ts : List TypeId} {rows : List (List DC)} {w' : World} {v : Value}
    (hrun : (execOp a.eval o).run P w = .ok (.value v) w') (hk : Kept S w0 w') (hs : w.heap.size ≤ w'.heap.size) (hw : ∀ b, b < w.heap.size → w'.heap[b]? = w.heap[b]?)
    (hB : ∀ b ∈ v.ownBlock.toList, b = w.heap.size) {vals : List Value} (hown : OwnR w' t ct.length false v rows.length vals)
    (hin : DeepR w' ct ts rows vals (fun _ => none) (List.replicate rows.length []))
    (hsv : e.sv = .own (newId d 0)) (hcw : e.cw = none) (how : e.ow = [(newId d 0, some (.deep t ct ts rows none))]) : Good P w0 S st o e a w := by
  obtain ⟨β, φ, hc⟩ := hR.core
  have hnew : newId d 0 / 64 = d := newId_div d 0 (by omega)
  have hle := hR.kept.size
  have hflat : (List.replicate rows.length ([] : List Nat)).flatten = [] := by simp
  have hval : (β.setD (newId d 0) v []).val (newId d 0) = v := by simp [Env.setD, upd]
  have hnbv : (β.setD (newId d 0) v []).nb (newId d 0) = [] := by simp [Env.setD, upd]
  have hvn : v.ownBlock.toList.Nodup := by cases v.ownBlock <;> simp
  refine good_value hR (fun d' h' => by rw [hdst] at h'; injection h' with h'; exact h' ▸ hd) hrun hk
    ⟨β.setD (newId d 0) v [], upd φ (newId d 0) v.ownBlock.toList, ?_, ?_⟩
  · rw [how, hcw]
    refine hc.create hs hw (fun i hi => hfr.slot i _ hi hnew) (fun j ob hj hi => (hfr.obj j ob hj).2 _ hi hnew) ?_ (fun j hj => ⟨by simp [Env.setD, upd, hj], rfl⟩) ?_ ?_ hvn ?_ rfl (fun j hj => by simp [Env.setD, upd, hj])
    · cases hn : st.obj (newId d 0) with
      | none => rfl
      | some ob => exact absurd hnew (hfr.obj _ ob hn).1
    · intro b hb
      simp only [tops, hval, hnbv, List.append_nil] at hb
      rw [hB b hb]
      exact Nat.le_refl _
    · exact ⟨vals, List.replicate rows.length [], by rw [hval]; exact hown, hin, by rw [hnbv, hflat], by rw [hval, hflat, List.append_nil]⟩
    · intro b hb
      have h1 := hB b hb
      subst h1
      refine ⟨⟨.inl hle, hown.lt _ hb⟩, fun j ob hj hbj => ?_⟩
      have := ((hc.fresh j ob hj).2 _ hbj).2
      omega
  · rw [hsv]
    unfold SVR
    exact ⟨hval.symm, hown.one⟩

theorem seg_replicate {α : Type} (z : List α) : ∀ (n k : Nat), k < n → (((List.replicate n z).flatten).drop (k * z.length)).take z.length = z
  | 0, k, h => by omega
  | n + 1, 0, _ => by simp [List.replicate_succ]
  | n + 1, k + 1, h => by
    rw [List.replicate_succ, List.flatten_cons, Nat.succ_mul, Nat.add_comm, List.drop_append, List.drop_of_length_le (by omega), List.nil_append]
    rw [show z.length + k * z.length - z.length = k * z.length by omega]
    exact seg_replicate z n k (by omega)

theorem DeepR.replicate {ct : List CT} {ts : List TypeId} {r : List DC} {z : List Value} (h : CellsH w none ct ts r z []) (hl : z.length = ct.length) (n : Nat) : DeepR w ct ts (List.replicate n r) (List.replicate n z).flatten (fun _ => none) (List.replicate n []) := by
  refine ⟨by simp, fun i r' m hi hm => ?_⟩
  have hin : i < n := by have := (List.getElem?_eq_some_iff.1 hi).1; simpa using this
  rw [List.getElem?_replicate_of_lt hin, Option.some.injEq] at hi hm
  subst hi hm
  rw [← hl, seg_replicate z n i hin]
  exact h

theorem mu_none : ∀ {U : List MU}, muIds U = [] → U.flatMap (muTops β) = []
  | [], _ => rfl
  | x :: l, h => by
    cases x <;> simp [muIds] at h
    simp [muTops, mu_none h]

theorem sound_makeD (hR : Rel w0 S st a w) {d : Nat} (hdst : o.dst = some d) (hd : DstOk st.n d) (hfr : FreshAt st d) {t et : TypeId} {l c : Operand} (ho : o.op = .makeSlice t l c) {n m : Int} {ct : List CT} {ts : List TypeId} {i : TypeInfo} {z : List SV} {r : List DC × List MU}
    (hl : (evM l).val st.get st.obj = some (.int .i64 n)) (hm : (evM c).val st.get st.obj = some (.int .i64 m)) (hu : P.underlying t = some (.slice et)) (hi : P.info? et = some i) (hsz : i.size = ct.length)
    (hz : (zeroM P et).val st.get st.obj = some z) (hr : (rowCellsM ct ts z).val st.get st.obj = some r) (hmu : muIds r.2 = [])
    (he : e = { sv := .own (newId d 0), ow := [(newId d 0, some (.deep et ct ts (List.replicate n.toNat r.1) none))], ok := decide (0 ≤ n) && decide (n ≤ m) && decide (m.toNat * i.bytes ≤ 140737488355328) && decide (m ≤ 9223372036854775807) })
    (hok : e.ok = true) : Good P w0 S st o e a w := by
  subst he
  simp only [Bool.and_eq_true, decide_eq_true_eq] at hok
  obtain ⟨⟨⟨h0, hnm⟩, hby⟩, hmx⟩ := hok
  obtain ⟨i', zv, hi', hzv, rfl, hone⟩ := zeroM_ok hz
  rw [hi] at hi'
  injection hi' with hi'
  subst hi'
  obtain ⟨β0, φ0, hc0⟩ := hR.core
  obtain ⟨hra, _⟩ := rowCells_ok hc0 ct ts _ _ r (ofConsts_ok zv.cells.toList) hr
  have hcl := RowsA.cells _ _ _ _ _ hra
  rw [mu_none hmu] at hcl
  have hzl : zv.cells.toList.length = ct.length := (CellsH.length _ _ _ _ _ hcl).1
  have hmade : (madeCells zv.cells (m.toNat * i.size)).toList = (List.replicate m.toNat zv.cells.toList).flatten := by
    have := made_eq zv.cells m.toNat
    rw [hsz, ← hzl]
    simpa using this
  have hx := hc0.ev hl
  have hy := hc0.ev hm
  simp only [SVR] at hx hy
  have hb : (i.bytes : Int) * m ≤ 281474976710656 := by
    have h1 : ((m.toNat * i.bytes : Nat) : Int) ≤ 140737488355328 := by omega
    rw [Int.natCast_mul, Int.toNat_of_nonneg (by omega), Int.mul_comm] at h1
    omega
  have hrun := run_make (P := P) w t et i zv hu hi hzv .i64 .i64 n m h0 hnm hb hmx
  refine sound_newdeep hR hdst hd hfr (vals := (List.replicate n.toNat zv.cells.toList).flatten) (v := .slice (some ⟨w.heap.size, 0, none⟩) n.toNat m.toNat)
    (w' := w.alloc (.cells (madeCells zv.cells (m.toNat * i.size)) et)) ?_ (hR.kept.alloc _) (by rw [alloc_size]; omega) (fun b hb => alloc_old _ b hb) (by simp [Value.ownBlock]) ?_ ?_ rfl rfl rfl
  · simp [execOp, ho, hx.1, hy.1, hrun]
  · refine ⟨by simp [hzl], .inr ⟨w.heap.size, m.toNat, _, by simp, by simpa using alloc_new _, by simp; omega, by simp only [maxLen]; omega, by rw [size_madeCells, hsz], ?_⟩⟩
    rw [hmade]
    have : List.replicate m.toNat zv.cells.toList = List.replicate n.toNat zv.cells.toList ++ List.replicate (m.toNat - n.toNat) zv.cells.toList := by
      rw [List.replicate_append_replicate]
      congr 1
      omega
    rw [this, List.flatten_append, List.take_append_of_le_length (by simp [hzl]), List.take_of_length_le (by simp [hzl])]
  · rw [List.length_replicate]
    exact DeepR.replicate (CellsH.mono (by rw [alloc_size]; omega) _ _ _ _ _ hcl (by simp)) hzl _

theorem sound_emptyD (hR : Rel w0 S st a w) {d : Nat} (hdst : o.dst = some d) (hd : DstOk st.n d) (hfr : FreshAt st d) {t et : TypeId} {parts : Array (Nat × Operand)} (ho : o.op = .buildSlice t 0 parts) {ct : List CT} {ts : List TypeId}
    (hp : parts.toList = []) (hu : P.underlying t = some (.slice et)) (hsz : sizeB P et ct.length = true) (hz : ∃ z, (zeroM P et).val st.get st.obj = some z)
    (he : e = { sv := .own (newId d 0), ow := [(newId d 0, some (.deep et ct ts [] none))] }) : Good P w0 S st o e a w := by
  subst he
  obtain ⟨i, hi, hsize⟩ := sizeB_size hsz
  have hp' : parts = #[] := by simpa using hp
  subst hp'
  have hrun : (Instr.buildSlice t 0 ((#[] : Array (Nat × Operand)).map fun x => (x.1, a.eval x.2))).run P w = .ok (.slice (some ⟨w.heap.size, 0, none⟩) 0 0) (w.alloc (.cells #[] et)) := by
    simp [Instr.buildSlice, run_underlying hu, sizeOf, typeInfo, hi, Instr.fill, newRow, Array.range_zero']
  refine sound_newdeep hR hdst hd hfr (vals := []) (v := .slice (some ⟨w.heap.size, 0, none⟩) 0 0) (w' := w.alloc (.cells #[] et)) ?_ (hR.kept.alloc _)
    (by rw [alloc_size]; omega) (fun b hb => alloc_old _ b hb) (by simp [Value.ownBlock]) ?_ ⟨by simp, by simp⟩ rfl rfl rfl
  · simp only [Array.map_empty] at hrun
    simp [execOp, ho, hrun]
  · exact ⟨by simp, .inr ⟨w.heap.size, 0, #[], by simp, by simpa using alloc_new _, by simp, by simp [maxLen], by simp, by simp⟩⟩

/-! ### A slice put back -/

theorem plug_core (hc : Core w0 S f h β φ tm w) {id nid i : Nat} {t t1 : TypeId} {ct e2 : List CT} {rows r : List (List DC)} {u : Bool} {h' : Nat → Option VObj} (hob : h id = some (.deep t ct [t1] rows (some (i, nid)))) (hn : h nid = some (.row t1 e2 r false u)) (hsl : ∃ e', ct[slPos ct]? = some (.sl e') ∧ e' = e2) (hcnt : slCount ct = 1)
    (hne : nid ≠ id) (hf : flatB e2 = true) (hh : h' id = some (.deep t ct [t1] (rows.set i (splice (rows.getD i []) (slPos ct) [.sl r])) none)) (hh2 : ∀ j, j ≠ id → h' j = if j = nid then none else h j) :
    ∃ β' φ', Core w0 S f h' β' φ' tm w := by
  obtain ⟨e', hsl, rfl⟩ := hsl
  obtain ⟨vals, mbs, hown, hin, hnb, hφ⟩ := hc.objs id _ hob
  obtain ⟨vals2, fps2, hown2, hin2, _, _⟩ := hc.objs nid _ hn
  have hnd := (hc.fresh id _ hob).1
  rw [hφ] at hnd
  have htn : tops β nid (.row t1 e' r false u) = (β.val nid).ownBlock.toList := rfl
  have hmid : ∀ b ∈ (β.val nid).ownBlock.toList, b ∉ φ id := fun b hb => hc.sep nid id _ _ hne hn hob b (tops_sub (hc.objs nid _ hn) b (htn ▸ hb))
  have hvn : (β.val nid).ownBlock.toList.Nodup := by cases (β.val nid).ownBlock <;> simp
  have hmem : ∀ b ∈ (mbs.set i (β.val nid).ownBlock.toList).flatten, b ∈ mbs.flatten ∨ b ∈ (β.val nid).ownBlock.toList := by
    intro b hb
    by_cases hi : i < mbs.length
    · rw [flatten_set hi] at hb
      rw [flatten_at hi]
      simp only [List.mem_append] at hb ⊢
      rcases hb with hb | hb | hb <;> simp [hb]
    · rw [List.set_eq_of_length_le (by omega)] at hb
      exact .inl hb
  have hnd2 : ((β.val id).ownBlock.toList ++ (mbs.set i (β.val nid).ownBlock.toList).flatten).Nodup := by
    by_cases hi : i < mbs.length
    · rw [flatten_set hi]
      have h3 := hnd
      rw [flatten_at hi] at h3
      have h4 := nodup_insert (A := (β.val id).ownBlock.toList ++ (mbs.take i).flatten) (p1 := []) (p2 := mbs[i]) (p3 := []) (B := (mbs.drop (i + 1)).flatten) (n := (β.val nid).ownBlock.toList) (by simpa using h3) hvn
        (fun b hb hb2 => hmid b hb (by rw [hφ, flatten_at hi]; simpa using hb2))
      simpa using h4
    · rw [List.set_eq_of_length_le (by omega)]
      exact hnd
  refine ⟨β.setNb id (mbs.set i (β.val nid).ownBlock.toList).flatten, upd φ id ((β.val id).ownBlock.toList ++ (mbs.set i (β.val nid).ownBlock.toList).flatten), ?_⟩
  refine hc.regroup (t := t) (ct := ct) (ts := [t1]) (rows := rows.set i (splice (rows.getD i []) (slPos ct) [.sl r])) (hl := none) (G := fun k => k = nid) hob (fun k hk e => hne (hk ▸ e)) hh (fun j hj x hx => ?_) (Nat.le_refl _) (fun _ _ _ => rfl) (fun b hb => by simp only [tops]; exact List.mem_append_left _ hb) (fun b hb => ?_) ?_ hnd2
  · rw [hh2 j hj] at hx
    split at hx
    · cases hx
    · rename_i hk
      exact ⟨hx, hk⟩
  · rcases hmem b hb with hb | hb
    · left
      simp only [tops, hnb]
      exact List.mem_append_right _ hb
    · exact .inr ⟨nid, _, rfl, hn, htn ▸ hb⟩
  · refine ⟨vals, mbs.set i (β.val nid).ownBlock.toList, by simpa [Env.setNb] using hown, ⟨by simp [hin.1], fun k r' m hk hm => ?_⟩, by simp [Env.setNb, upd], by simp [Env.setNb]⟩
    by_cases hki : k = i
    · subst hki
      have hkl : k < rows.length := by have := (List.getElem?_eq_some_iff.1 hk).1; simpa using this
      have hkm : k < mbs.length := by rw [hin.1]; exact hkl
      rw [List.getElem?_set_self hkl, Option.some.injEq] at hk
      rw [List.getElem?_set_self hkm, Option.some.injEq] at hm
      subst hk hm
      have h3 := hin.2 k (rows.getD k []) mbs[k] (getD_of_lt hkl) (by simp)
      simp only [holeV, if_true] at h3
      exact CellsH.back _ e' t1 _ _ mbs[k] hsl hcnt h3 ⟨vals2, fps2, hown2, hin2, rfl⟩
    · rw [List.getElem?_set_ne (Ne.symm hki)] at hk hm
      have := hin.2 k r' m hk hm
      simp only [holeV, hki, if_false] at this
      exact this

end

end Go.Proofs.Ytklbgnodgnlebaa.Vm

/- The value machine: every operation that it takes does in the model what it says. Conditions: the contracts of the context hold. -/
namespace Go.Proofs.Ytklbgnodgnlebaa.Vm

theorem toList_one {α : Type} {l : Array α} {x : α} (h : l.toList = [x]) : l = #[x] := by
  cases l; simp at h; subst h; rfl
theorem toList_two {α : Type} {l : Array α} {x y : α} (h : l.toList = [x, y]) : l = #[x, y] := by
  cases l; simp at h; subst h; rfl

theorem op_sound {P : Program} {Γ : Ctx} {w0 : World} {S : Own} {st : St} {o : Oper} {e : Eff} {a : Act} {w : World} (hΓ : CtxHolds P Γ) (hR : Rel w0 S st a w)
    (hv : (evalOp P Γ o).val st.get st.obj = some e) (hok : e.ok = true) (hd : ∀ d, o.dst = some d → DstOk st.n d) (hfr : e.ow ≠ [] → ∀ d, o.dst = some d → FreshAt st d) : Good P w0 S st o e a w := by
  unfold evalOp at hv
  split at hv
  · rename_i x ho
    simp only [M.val_bind, Option.bind_eq_some_iff, M.val_pure, Option.some.injEq] at hv
    obtain ⟨s, h1, rfl⟩ := hv
    exact sound_move hR hd (.inl ho) h1 rfl
  · rename_i x ho
    simp only [M.val_bind, Option.bind_eq_some_iff, M.val_pure, Option.some.injEq] at hv
    obtain ⟨s, h1, rfl⟩ := hv
    exact sound_move hR hd (.inr ho) h1 rfl
  · rename_i c x y ho
    simp only [M.val_bind, Option.bind_eq_some_iff] at hv
    obtain ⟨sc, h0, sx, h1, sy, h2, hv⟩ := hv
    exact sound_pick hR hd ho h0 h1 h2 hv
  · rename_i t ho
    split at hv
    · rename_i d hdst
      simp only [M.val_bind, Option.bind_eq_some_iff, M.val_pure, Option.some.injEq] at hv
      obtain ⟨z, hz, rfl⟩ := hv
      exact sound_alloc hR hdst (hd d hdst) (hfr (by simp) d hdst) ho hz rfl
    · simp at hv
  · rename_i t x ho
    split at hv
    · rename_i d hdst
      simp only [M.val_bind, Option.bind_eq_some_iff, M.val_pure, Option.some.injEq] at hv
      obtain ⟨s, hs, cs, hcs, rfl⟩ := hv
      exact sound_box hR hdst (hd d hdst) (hfr (by simp) d hdst) ho hs hcs rfl
    · simp at hv
  · rename_i t parts ho
    split at hv
    · rename_i fs hu
      split at hv
      · rename_i places hp
        simp only [M.val_bind, Option.bind_eq_some_iff, M.val_pure, Option.some.injEq] at hv
        obtain ⟨z, hz, cs, hcs, rfl⟩ := hv
        exact sound_build hR hd ho hu hp hz hcs rfl
      · simp at hv
    · simp at hv
  · rename_i t len parts ho
    cases hann : annB Γ o.dst with
    | true =>
      simp only [hann, cond_true] at hv
      unfold emptyD at hv
      split at hv
      · rename_i et d hu hdst hp
        split at hv
        · rename_i ct ts hct hts
          cases hb : sizeB P et ct.length && Nat.blt 0 ct.length
          · simp only [hb, cond_false, M.val_fail, reduceCtorEq] at hv
          simp only [hb, cond_true, M.val_bind, Option.bind_eq_some_iff, M.val_pure, Option.some.injEq] at hv
          obtain ⟨z, hz, hv⟩ := hv
          simp only [Bool.and_eq_true] at hb
          exact sound_emptyD hR hdst (hd d hdst) (hfr (by rw [← hv]; simp) d hdst) ho hp hu hb.1 ⟨z, hz⟩ hv.symm
        · simp at hv
      · simp at hv
    | false =>
    simp only [hann, cond_false] at hv
    split at hv
    · rename_i et d hu hdst
      split at hv
      · rename_i ct hct
        cases hb : sizeB P et ct.length && Nat.blt 0 ct.length && Nat.beq len parts.toList.length && Nat.ble (len * ct.length) 16777216
        · simp only [hb, cond_false, M.val_fail, reduceCtorEq] at hv
        simp only [hb, cond_true, M.val_bind, Option.bind_eq_some_iff] at hv
        obtain ⟨z, hz, q, hq, hv⟩ := hv
        cases hn : metNodup q.2.1
        · simp [hn] at hv
        simp only [hn, cond_true, M.val_pure, Option.some.injEq] at hv
        simp only [Bool.and_eq_true] at hb
        exact sound_buildSlice hR hdst (hd d hdst) (hfr (by rw [← hv]; simp) d hdst) ho hu hb.1.1.1 (Nat.le_of_ble_eq_true hb.1.1.2) (Nat.eq_of_beq_eq_true hb.1.2) (Nat.le_of_ble_eq_true hb.2) hq ⟨z, hz⟩ hn hv.symm
      · simp at hv
    · simp at hv
  · rename_i t x ho
    simp only [M.val_bind, Option.bind_eq_some_iff] at hv
    obtain ⟨s, h1, hv⟩ := hv
    unfold loadX at hv
    split at hv
    · rename_i id i z off
      simp only [M.val_obj, Option.bind_eq_some_iff] at hv
      obtain ⟨ob, hob, hv⟩ := hv
      split at hv
      · rename_i t' ct ts rows hl
        cases hann : annB Γ o.dst with
        | false =>
          simp only [hann, cond_false] at hv
          exact sound_loadD hR hd ho h1 hob hv hok
        | true =>
          simp only [hann, cond_true] at hv
          unfold takeM at hv
          split at hv
          · rename_i e' t1 d hoff hdst
            cases hb : Nat.beq z ct.length && Nat.beq (slCount ct) 1 && !(isAggB P t) && (P.underlying t).isSome
            · simp [hb] at hv
            simp only [hb, cond_true, M.val_pure, Option.some.injEq] at hv
            simp only [Bool.and_eq_true, Bool.not_eq_true'] at hb
            obtain ⟨⟨⟨b1, b2⟩, b3⟩, b4⟩ := hb
            have b1 := Nat.eq_of_beq_eq_true b1
            subst b1
            obtain ⟨td, hu⟩ := Option.isSome_iff_exists.1 b4
            have hi : i < rows.length := by rw [← hv] at hok; simpa using hok
            exact sound_take hR hdst (hd d hdst) (hfr (by rw [← hv]; simp) d hdst) ho h1 hob hoff (Nat.eq_of_beq_eq_true b2) b3 hu hi (by rw [← hv]) (by rw [← hv]) (by rw [← hv])
          · simp at hv
      · exact sound_load hR hd ho h1 hv hok
    · exact sound_load hR hd ho h1 hv hok
  · rename_i t x y ho
    simp only [M.val_bind, Option.bind_eq_some_iff] at hv
    obtain ⟨sx, h1, sy, h2, hv⟩ := hv
    have plain : (storeM P t sx sy).val st.get st.obj = some e → Good P w0 S st o e a w := by
      clear hv
      intro hv
      unfold storeM at hv
      simp only [M.val_bind, Option.bind_eq_some_iff] at hv
      obtain ⟨svs, hcs, hv⟩ := hv
      cases hsz : sizeB P t svs.length
      · simp [hsz] at hv
      simp only [hsz, cond_true] at hv
      split at hv
      · rename_i id off
        simp only [M.val_obj, Option.bind_eq_some_iff] at hv
        obtain ⟨ob, hob, hv⟩ := hv
        split at hv
        · rename_i t' cells
          cases hfit : Nat.ble (off + svs.length) cells.length
          · simp [hfit] at hv
          simp only [hfit, cond_true, M.val_pure, Option.some.injEq] at hv
          exact sound_store_box hR hd ho h1 h2 hcs hsz hob (Nat.le_of_ble_eq_true hfit) hv.symm
        · simp at hv
      · rename_i id i z off
        simp only [M.val_obj, Option.bind_eq_some_iff] at hv
        obtain ⟨ob, hob, hv⟩ := hv
        split at hv
        · rename_i t' ct rows fz u
          cases hfit : Nat.beq z ct.length && Nat.ble (off + svs.length) ct.length
          · simp [hfit] at hv
          simp only [hfit, cond_true, M.val_bind, Option.bind_eq_some_iff] at hv
          obtain ⟨r, hr, hv⟩ := hv
          cases hm : metNot id r.2.1 && metNodup r.2.1
          · simp [hm] at hv
          simp only [hm, cond_true, M.val_pure, Option.some.injEq] at hv
          simp only [Bool.and_eq_true] at hfit hm
          have hz := Nat.eq_of_beq_eq_true hfit.1
          subst hz
          have hi : i < rows.length := by rw [← hv] at hok; simpa using hok
          exact sound_store_row hR hd ho h1 h2 hcs hsz hob (Nat.le_of_ble_eq_true hfit.2) hr hm.1 hm.2 hi (by rw [← hv]) (by rw [← hv]) (by rw [← hv])
        · simp at hv
      · simp at hv
    unfold storeX at hv
    split at hv
    · rename_i id i z off
      simp only [M.val_obj, Option.bind_eq_some_iff] at hv
      obtain ⟨ob, hob, hv⟩ := hv
      split at hv
      · rename_i t' ct ts rows hl
        unfold storeD at hv
        simp only [M.val_bind, Option.bind_eq_some_iff] at hv
        obtain ⟨svs, hcs, hv⟩ := hv
        cases hsz : sizeB P t svs.length && Nat.beq z ct.length && Nat.ble (off + svs.length) ct.length
        · simp [hsz] at hv
        simp only [hsz, cond_true] at hv
        simp only [Bool.and_eq_true] at hsz
        obtain ⟨⟨s1, s2⟩, s3⟩ := hsz
        have s2 := Nat.eq_of_beq_eq_true s2
        subst s2
        have s3 := Nat.le_of_ble_eq_true s3
        cases hf : flatB ((ct.drop off).take svs.length) with
        | true =>
          simp only [hf, cond_true, M.val_bind, Option.bind_eq_some_iff] at hv
          obtain ⟨r, hr, hv⟩ := hv
          cases hm : r.2.1.isEmpty
          · simp [hm] at hv
          simp only [hm, cond_true, M.val_pure, Option.some.injEq] at hv
          have hi : i < rows.length := by rw [← hv] at hok; simpa using hok
          exact sound_storeF hR hd ho h1 h2 hcs s1 hob s3 hf hr hi (by rw [← hv]) (by rw [← hv]) (by rw [← hv])
        | false =>
          simp only [hf, cond_false] at hv
          cases hcn : Nat.beq (slCount ((ct.drop off).take svs.length)) (slCount ct)
          · simp [hcn] at hv
          simp only [hcn, cond_true, M.val_bind, Option.bind_eq_some_iff] at hv
          obtain ⟨r, hr, hv⟩ := hv
          cases hm : nodupB (id :: muIds r.2)
          · simp [hm] at hv
          simp only [hm, cond_true, M.val_pure, Option.some.injEq] at hv
          have hi : i < rows.length ∧ holeOk hl i = true := by rw [← hv] at hok; simpa using hok
          exact sound_storeA hR hd ho h1 h2 hcs s1 hob s3 (Nat.eq_of_beq_eq_true hcn) hr hm hi.1 hi.2 (by rw [← hv]) (by rw [← hv]) (by rw [← hv])
      · exact plain hv
    · exact plain hv
  · rename_i x ho
    simp only [M.val_bind, Option.bind_eq_some_iff] at hv
    obtain ⟨s, h1, hv⟩ := hv
    exact sound_nilCheck hR hd ho h1 hv
  · rename_i op t x y t' ho
    simp only [M.val_bind, Option.bind_eq_some_iff] at hv
    obtain ⟨sx, h1, sy, h2, hv⟩ := hv
    exact sound_bin hR hd ho h1 h2 hv hok
  · rename_i op t x ho
    simp only [M.val_bind, Option.bind_eq_some_iff] at hv
    obtain ⟨sx, h1, hv⟩ := hv
    exact sound_un hR hd ho h1 hv
  · rename_i s t x ho
    simp only [M.val_bind, Option.bind_eq_some_iff] at hv
    obtain ⟨sx, h1, hv⟩ := hv
    exact sound_conv hR hd hfr ho h1 hv
  · rename_i t l c ho
    simp only [M.val_bind, Option.bind_eq_some_iff] at hv
    obtain ⟨sl, h1, sc, h2, hv⟩ := hv
    cases hann : annB Γ o.dst with
    | true =>
      simp only [hann, cond_true] at hv
      unfold makeD at hv
      split at hv
      · rename_i et n m d hu hdst
        split at hv
        · rename_i ct ts i hct hts hi
          cases hb : Nat.beq i.size ct.length && Nat.blt 0 ct.length
          · simp [hb] at hv
          simp only [hb, cond_true, M.val_bind, Option.bind_eq_some_iff] at hv
          obtain ⟨z, hz, r, hr, hv⟩ := hv
          cases hmu : (muIds r.2).isEmpty
          · simp [hmu] at hv
          simp only [hmu, cond_true, M.val_pure, Option.some.injEq] at hv
          simp only [Bool.and_eq_true] at hb
          exact sound_makeD hR hdst (hd d hdst) (hfr (by rw [← hv]; simp) d hdst) ho h1 h2 hu hi (Nat.eq_of_beq_eq_true hb.1) hz hr (by simpa using hmu) hv.symm hok
        · simp at hv
      · simp at hv
    | false =>
    simp only [hann, cond_false] at hv
    unfold makeM at hv
    split at hv
    · rename_i et n m d hu hdst
      split at hv
      · rename_i ct i hct hi
        cases hb : Nat.beq i.size ct.length && Nat.blt 0 ct.length
        · simp [hb] at hv
        simp only [hb, cond_true, M.val_bind, Option.bind_eq_some_iff, M.val_pure, Option.some.injEq] at hv
        obtain ⟨z, hz, r, hr, hv⟩ := hv
        simp only [Bool.and_eq_true] at hb
        exact sound_make hR hdst (hd d hdst) (hfr (by rw [← hv]; simp) d hdst) ho h1 h2 hu hi (Nat.eq_of_beq_eq_true hb.1) hz hr hv.symm hok
      · simp at hv
    · simp at hv
  · rename_i t x lo hi mx ho
    split at hv
    · simp only [M.val_bind, Option.bind_eq_some_iff] at hv
      obtain ⟨sx, h1, sl, h2, sh, h3, hv⟩ := hv
      cases hann : annB Γ o.dst
      · simp only [hann, cond_false] at hv
        exact sound_slice hR hd ho h1 h2 h3 hv hok
      · simp only [hann, cond_true] at hv
        exact sound_sliceO hR hd ho h1 h2 h3 hv hok
    · simp at hv
  · rename_i t x f ho
    split at hv
    · rename_i fs hu
      split at hv
      · rename_i fd hf
        cases hz : sizeB P fd.type 0
        · simp only [hz, cond_false] at hv
          split at hv
          · simp at hv
          · rename_i i hi
            simp only [M.val_bind, Option.bind_eq_some_iff] at hv
            obtain ⟨s, h1, hv⟩ := hv
            exact sound_fieldAddr hR hd ho hu hf hz hi h1 hv
        · simp [hz] at hv
      · simp at hv
    · simp at hv
  · rename_i t x i ho
    simp only [M.val_bind, Option.bind_eq_some_iff] at hv
    obtain ⟨sx, h1, si, h2, hv⟩ := hv
    exact sound_indexAddrX hR hd ho h1 h2 hv hok
  · rename_i t x i ho
    simp only [M.val_bind, Option.bind_eq_some_iff] at hv
    obtain ⟨sx, h1, si, h2, hv⟩ := hv
    exact sound_index hR hd ho h1 h2 hv hok
  · rename_i x i ho
    simp only [M.val_bind, Option.bind_eq_some_iff] at hv
    obtain ⟨sx, h1, hv⟩ := hv
    split at hv
    · rename_i vs
      split at hv
      · rename_i v hvi
        simp only [M.val_pure, Option.some.injEq] at hv
        exact sound_extract hR hd ho h1 hvi hv.symm
      · simp at hv
    · simp at hv
  · rename_i fn first captured ho
    split at hv
    · rename_i g hfirst
      simp only [M.val_bind, Option.bind_eq_some_iff, M.val_pure, Option.some.injEq] at hv
      obtain ⟨cs, hcs, hv⟩ := hv
      exact sound_makeFunc hR hd ho hfirst hcs hv.symm
    · simp at hv
  · rename_i c ho
    split at hv
    · rename_i g hg
      simp only [M.val_bind, Option.bind_eq_some_iff] at hv
      obtain ⟨l, hl, hv⟩ := hv
      cases hlk : lkS Γ g with
      | none =>
        unfold callM at hv
        rw [hlk] at hv
        simp at hv
      | some s =>
        cases hann : s.ann with
        | true =>
          unfold callM at hv
          rw [hlk] at hv
          simp only [hann, cond_true] at hv
          simp at hv
        | false =>
        cases hp : s.pt with
        | some q =>
          obtain ⟨t, cts⟩ := q
          cases hdst : o.dst with
          | none =>
            unfold callM at hv
            rw [hlk, hdst] at hv
            simp only [hann, cond_false, hp] at hv
            simp at hv
          | some d =>
            rw [hdst] at hv
            exact sound_callP hΓ hlk hann hp hR hdst (hd d hdst) (fun h => hfr h d hdst) ho hg hl hv hok
        | none =>
        cases hm : s.ms with
        | nil =>
          cases hdst : o.dst with
          | none =>
            unfold callM at hv
            rw [hlk, hdst] at hv
            simp only [hann, cond_false, hp, hm] at hv
            simp at hv
          | some d =>
            rw [hdst] at hv
            exact sound_call hΓ hlk hann hp hm hR hdst (hd d hdst) (fun h => hfr h d hdst) ho hg hl hv hok
        | cons m ms =>
          have hv' : (callMM s o.dst l).val st.get st.obj = some e := by
            unfold callM at hv
            rw [hlk] at hv
            simp only [hann, cond_false, hp, hm] at hv
            exact hv
          refine sound_callM hΓ hlk hann hp (by rw [hm]; simp) hR hd (fun d hdst h => hfr h d hdst) (us := c.args.toList.map a.eval) (fun fn hf hb hn => ?_) (fun β φ hc => evMs_ok hc _ l hl) hv' hok
          have hvals : c.args.map a.eval = (c.args.toList.map a.eval).toArray := by rw [← Array.toList_map, Array.toArray_toList]
          rw [← hvals]
          exact run_call ho hg hf hb hn
    · rename_i k hg
      simp only [M.val_bind, Option.bind_eq_some_iff] at hv
      obtain ⟨s, hk, hv⟩ := hv
      split at hv
      · rename_i g cs
        simp only [M.val_bind, Option.bind_eq_some_iff] at hv
        obtain ⟨l, hl, hv⟩ := hv
        unfold callC at hv
        split at hv
        · rename_i s hlk
          cases hann : s.ann with
          | true => simp [hann] at hv
          | false =>
            simp only [hann, cond_false] at hv
            split at hv
            · rename_i m ms hp hm
              exact sound_clo hΓ hlk hann hp (by rw [hm]; simp) hR hd (fun d hdst h => hfr h d hdst) ho hg hk hl hv hok
            · simp at hv
        · simp at hv
      · simp at hv
    · rename_i hb
      split at hv
      · rename_i x t hx ht
        simp only [M.val_bind, Option.bind_eq_some_iff] at hv
        obtain ⟨s, h1, hv⟩ := hv
        exact sound_lenX hR hd ho hb (toList_one hx) (toList_one ht) h1 hv
      · simp at hv
    · rename_i hb
      split at hv
      · rename_i x y hx
        simp only [M.val_bind, Option.bind_eq_some_iff] at hv
        obtain ⟨s, h1, s2, h2, hv⟩ := hv
        exact sound_minmax (mx := false) hR hd ho hb (toList_two hx) h1 h2 hv
      · simp at hv
    · rename_i hb
      split at hv
      · rename_i x y hx
        simp only [M.val_bind, Option.bind_eq_some_iff] at hv
        obtain ⟨s, h1, s2, h2, hv⟩ := hv
        exact sound_minmax (mx := true) hR hd ho hb (toList_two hx) h1 h2 hv
      · simp at hv
    · rename_i hb
      split at hv
      · rename_i s x t t' hx ht
        cases htt : Nat.beq t t'
        · simp [htt] at hv
        simp only [htt, cond_true] at hv
        have htt' := Nat.eq_of_beq_eq_true htt
        subst htt'
        simp only [M.val_bind, Option.bind_eq_some_iff] at hv
        obtain ⟨ss, h1, sx, h2, hv⟩ := hv
        unfold appendM at hv
        split at hv
        · rename_i et d hu hdst
          split at hv
          · rename_i ct hct
            cases hz1 : sizeB P et ct.length && Nat.blt 0 ct.length
            · simp [hz1] at hv
            simp only [hz1, cond_true, M.val_bind, Option.bind_eq_some_iff] at hv
            obtain ⟨z, hz, hv⟩ := hv
            cases hzl : Nat.beq z.length ct.length
            · simp [hzl] at hv
            simp only [hzl, cond_true] at hv
            have hzl' := Nat.eq_of_beq_eq_true hzl
            simp only [Bool.and_eq_true] at hz1
            have hpos : 0 < ct.length := Nat.le_of_ble_eq_true hz1.2
            split at hv
            · simp only [M.val_bind, Option.bind_eq_some_iff, M.val_pure, Option.some.injEq] at hv
              obtain ⟨q, hq, hv⟩ := hv
              have hroom : roomB P et q.1.length = true := by rw [← hv] at hok; exact hok
              exact sound_append_nil hR hdst (hd d hdst) (hfr (by rw [← hv]; simp) d hdst) ho hb (toList_two hx) (toList_two ht) h1 h2 hu hz1.1 hpos hz hzl' hq hroom (by rw [← hv]) (by rw [← hv]) (by rw [← hv])
            · rename_i id
              simp only [M.val_obj, Option.bind_eq_some_iff] at hv
              obtain ⟨ob, hob, hv⟩ := hv
              split at hv
              · rename_i t' e' r u
                cases he : Nat.beq t' et && ctsBeq e' ct
                · simp [he] at hv
                simp only [he, cond_true, M.val_bind, Option.bind_eq_some_iff] at hv
                obtain ⟨q, hq, hv⟩ := hv
                cases hn : metNot id q.2.1
                · simp [hn] at hv
                simp only [hn, cond_true, M.val_pure, Option.some.injEq] at hv
                simp only [Bool.and_eq_true] at he
                have e1 := Nat.eq_of_beq_eq_true he.1
                have e2 := ctsBeq_eq _ _ he.2
                subst e1 e2
                have hroom : roomB P t' (r.length + q.1.length) = true := by rw [← hv] at hok; exact hok
                exact sound_append_own hR hdst (hd d hdst) (hfr (by rw [← hv]; simp) d hdst) ho hb (toList_two hx) (toList_two ht) h1 h2 hob hu hz1.1 hpos hz hzl' hq hn hroom (by rw [← hv]) (by rw [← hv]) (by rw [← hv])
              · simp at hv
            · rename_i id lo z0
              simp only [M.val_obj, Option.bind_eq_some_iff] at hv
              obtain ⟨ob, hob, hv⟩ := hv
              split at hv
              · rename_i t' e' r u
                cases he : Nat.beq t' et && ctsBeq e' ct && Nat.beq z0 ct.length && flatB ct
                · simp [he] at hv
                simp only [he, cond_true, M.val_bind, Option.bind_eq_some_iff] at hv
                obtain ⟨q, hq, hv⟩ := hv
                cases hn : metNot id q.2.1
                · simp [hn] at hv
                simp only [hn, cond_true, M.val_pure, Option.some.injEq] at hv
                simp only [Bool.and_eq_true] at he
                have e1 := Nat.eq_of_beq_eq_true he.1.1.1
                have e2 := ctsBeq_eq _ _ he.1.1.2
                have e3 := Nat.eq_of_beq_eq_true he.1.2
                subst e1 e2 e3
                have hroom : roomB P t' ((r.drop lo).length + q.1.length) = true ∧ lo ≤ r.length := by
                  rw [← hv] at hok
                  simp only [Bool.and_eq_true, decide_eq_true_eq] at hok
                  exact hok
                exact sound_appendO hR hd ho hb (toList_two hx) (toList_two ht) h1 h2 hob hu he.2 hz1.1 hpos hz hzl' hq hn hroom.2 hroom.1 (by rw [← hv]) (by rw [← hv]) (by rw [← hv])
              · simp at hv
            · simp at hv
          · simp at hv
        · simp at hv
      · simp at hv
    · rename_i hb
      split at hv
      · rename_i s x t t' hx ht
        simp only [M.val_bind, Option.bind_eq_some_iff] at hv
        obtain ⟨ss, h1, sx, h2, hv⟩ := hv
        exact sound_copy hR hd ho hb (toList_two hx) (toList_two ht) h1 h2 hv hok
      · simp at hv
    · simp at hv
  · simp at hv

end Go.Proofs.Ytklbgnodgnlebaa.Vm

/- The value machine: what a run leaves alone; ways that meet. Conditions: as each lemma says. -/
namespace Go.Proofs.Ytklbgnodgnlebaa.Vm

/-- What a piece of a run has not touched is as it was. -/
structure Tr (st st' : St) : Prop where
  n : st'.n = st.n
  ok : st.ok = true
  get : ∀ i, i ∉ st'.ls → st'.get i = st.get i
  ls : ∀ i ∈ st.ls, i ∈ st'.ls
  obj : ∀ id o, st.obj id = some o → id ∉ st'.lm → st'.obj id = some o
  lm : ∀ i ∈ st.lm, i ∈ st'.lm

theorem Tr.refl {st : St} (h : st.ok = true) : Tr st st := ⟨rfl, h, fun _ _ => rfl, fun _ h => h, fun _ _ h _ => h, fun _ h => h⟩

theorem Tr.trans {a b c : St} (h : Tr a b) (k : Tr b c) : Tr a c :=
  ⟨k.n.trans h.n, h.ok, fun i hi => (k.get i hi).trans (h.get i (fun h' => hi (k.ls i h'))), fun i hi => k.ls i (h.ls i hi),
    fun id o ho hi => k.obj id o (h.obj id o ho (fun h' => hi (k.lm id h'))) hi, fun i hi => k.lm i (h.lm i hi)⟩

theorem fo_other {ow : List (Nat × Option VObj)} {h : Nat → Option VObj} {j : Nat} (hj : j ∉ ow.map (·.1)) : fo ow h j = h j := by
  induction ow with
  | nil => rfl
  | cons x l ih =>
    obtain ⟨i, ob⟩ := x
    simp only [List.map_cons, List.mem_cons, not_or] at hj
    simp only [fo, upd, hj.1, if_false]
    exact ih hj.2

theorem tr_apply {st : St} {d : Option Nat} {e : Eff} (hok : (st.apply d e).ok = true) : Tr st (st.apply d e) := by
  have hok' : st.ok = true := by
    simp only [St.apply, andt_eq] at hok
    exact hok.1.1
  refine ⟨rfl, hok', fun i hi => ?_, fun i hi => ?_, fun id o ho hi => ?_, fun i hi => ?_⟩
  · cases d with
    | none => rfl
    | some d =>
      have hi' : i ≠ d := fun h => hi (by simp [St.apply, h])
      rw [apply_get]
      simp [upd, hi']
  · cases d <;> simp [St.apply, hi]
  · rw [apply_obj]
    simp only [St.apply, List.mem_append, not_or] at hi
    rw [fo_other hi.2.1]
    cases hcw : e.cw with
    | none => exact ho
    | some x =>
      obtain ⟨k, off, svs⟩ := x
      simp only [hcw, List.mem_singleton] at hi
      rw [← ho]
      simp only [fc]
      cases st.obj k with
      | none => rfl
      | some b => cases b <;> simp [upd, hi.1]
  · simp only [St.apply, List.mem_append]
    exact .inr (.inr hi)

theorem fail_ok {st : St} : st.fail.ok = false := rfl

theorem tr_doOp {P : Program} {Γ : Ctx} {st : St} {o : Oper} (hok : (st.doOp P Γ o).ok = true) : Tr st (st.doOp P Γ o) := by
  unfold St.doOp at hok ⊢
  split
  · rename_i e r hr
    simp only [hr] at hok
    cases hf : freshOk o.dst e st
    · simp [hf, fail_ok] at hok
    · simp only [hf, cond_true] at hok ⊢
      exact tr_apply hok
  · rename_i hr
    simp [hr, fail_ok] at hok

theorem know_get (st : St) (s : Nat) (b : Bool) : (st.know s b).get = upd st.get s (.kb b) := by
  funext i
  show lkV ((s, .kb b) :: st.sl) i = _
  simp only [lkV, upd, St.get]
  cases hk : Nat.beq s i
  · have e2 := Nat.ne_of_beq_eq_false hk
    rw [if_neg (fun h => e2 h.symm)]
    rfl
  · simp [(Nat.eq_of_beq_eq_true hk).symm]

theorem tr_know {st : St} {s : Nat} {b : Bool} (hok : st.ok = true) : Tr st (st.know s b) := by
  refine ⟨rfl, hok, fun i hi => ?_, fun i hi => by simp [St.know, hi], fun _ _ h _ => h, fun _ h => h⟩
  rw [know_get]
  have : i ≠ s := fun h => hi (by simp [St.know, h])
  simp [upd, this]

theorem memN_iff {i : Nat} {l : List Nat} : memN i l = true ↔ i ∈ l := by
  induction l with
  | nil => simp [memN]
  | cons k l ih =>
    simp only [memN, Bool.or_eq_true, List.mem_cons, ih]
    constructor
    · rintro (h | h)
      · exact .inl (Nat.eq_of_beq_eq_true h).symm
      · exact .inr h
    · rintro (rfl | h)
      · exact .inl (Nat.beq_refl i)
      · exact .inr h

theorem mem_dedup {i : Nat} {l : List Nat} : i ∈ dedup l ↔ i ∈ l := by
  induction l with
  | nil => simp [dedup]
  | cons k l ih =>
    simp only [dedup]
    cases hm : memN k l
    · simp [ih]
    · simp only [cond_true, List.mem_cons, ih]
      constructor
      · exact .inr
      · rintro (rfl | h)
        · exact memN_iff.1 hm
        · exact h

theorem lkV_mergeSl {g : Bool} {f h : Nat → SV} {l : List (Nat × SV)} : ∀ (r : List Nat) (i : Nat), lkV (mergeSl g f h r l) i = if i ∈ r then mergeSV g (f i) (h i) else lkV l i
  | [], i => by simp [mergeSl]
  | k :: r, i => by
    simp only [mergeSl, lkV]
    cases hk : Nat.beq k i
    · have e2 := Nat.ne_of_beq_eq_false hk
      simp only [cond_false, lkV_mergeSl r i, List.mem_cons]
      by_cases hi : i ∈ r
      · simp [hi]
      · rw [if_neg hi, if_neg (fun h => h.elim (fun h => e2 h.symm) hi)]
    · have e1 := Nat.eq_of_beq_eq_true hk
      subst e1
      simp

theorem untouched_not {hp : List (Nat × VObj)} {l : List Nat} (h : untouched hp l = true) : ∀ i o, lkO hp i = some o → i ∉ l := by
  induction l with
  | nil => simp
  | cons k l ih =>
    simp only [untouched, Bool.and_eq_true] at h
    intro i o ho hi
    rcases List.mem_cons.1 hi with rfl | hi
    · rw [ho] at h
      simp at h
    · exact ih h.2 i o ho hi

theorem mem_touched {hp : List (Nat × VObj)} : ∀ {l : List Nat} {i : Nat}, i ∈ touchedIds hp l ↔ i ∈ l ∧ ∃ o, lkO hp i = some o
  | [], i => by simp [touchedIds]
  | k :: l, i => by
    simp only [touchedIds]
    cases hk : lkO hp k with
    | none =>
      simp only [mem_touched (l := l), List.mem_cons]
      constructor
      · rintro ⟨h1, h2⟩
        exact ⟨.inr h1, h2⟩
      · rintro ⟨rfl | h1, h2⟩
        · rw [hk] at h2; obtain ⟨o, h2⟩ := h2; cases h2
        · exact ⟨h1, h2⟩
    | some o =>
      simp only [List.mem_cons, mem_touched (l := l)]
      constructor
      · rintro (rfl | ⟨h1, h2⟩)
        · exact ⟨.inl rfl, o, hk⟩
        · exact ⟨.inr h1, h2⟩
      · rintro ⟨rfl | h1, h2⟩
        · exact .inl rfl
        · exact .inr ⟨h1, h2⟩

theorem fo_mergeOw {g : Bool} {f k h : Nat → Option VObj} : ∀ (l : List Nat) (i : Nat), fo (mergeOw g f k l) h i = if i ∈ l then mergeO g (f i) (k i) else h i
  | [], i => by simp [mergeOw, fo]
  | j :: l, i => by
    simp only [mergeOw, fo, upd, List.mem_cons]
    by_cases hi : i = j
    · subst hi; simp
    · simp only [hi, if_false, false_or]
      exact fo_mergeOw l i

theorem merge_obj (pre : St) (g : Bool) (a b : St) (i : Nat) : (merge pre g a b).obj i = if i ∈ touchedIds pre.hp (dedup (a.lm ++ b.lm)) then mergeO g (a.obj i) (b.obj i) else pre.obj i := by
  show lkO (putO _ pre.hp) i = _
  rw [lkO_putO, fo_mergeOw]
  rfl

theorem tr_merge {pre a b : St} {g : Bool} (hp : pre.ok = true) (_hok : (merge pre g a b).ok = true) : Tr pre (merge pre g a b) := by
  refine ⟨rfl, hp, fun i hi => ?_, fun i hi => List.mem_append_right _ hi, fun i o h hi => ?_, fun i h => List.mem_append_right _ h⟩
  · have hi : i ∉ dedup (a.ls ++ b.ls) ∧ i ∉ pre.ls := by simpa only [merge, List.mem_append, not_or] using hi
    show lkV (mergeSl g a.get b.get (dedup (a.ls ++ b.ls)) pre.sl) i = lkV pre.sl i
    rw [lkV_mergeSl, if_neg hi.1]
  · have hi : i ∉ touchedIds pre.hp (dedup (a.lm ++ b.lm)) := fun h' => hi (List.mem_append_left _ h')
    rw [merge_obj, if_neg hi]
    exact h

/-- A smaller set of objects; slots and boxes that say less. -/
theorem Core.sub {w0 : World} {S : Own} {f f' : Nat → SV} {h h' : Nat → Option VObj} {β : Env} {φ : Nat → List Nat} {tm : Array Value} {w : World} (hc : Core w0 S f h β φ tm w)
    (hh : ∀ j o, h' j = some o → h j = some o ∨ ∃ t cs cs', o = .box t cs' ∧ h j = some (.box t cs) ∧ ∀ vs, SVRL w (Av h' β) β cs vs → SVRL w (Av h' β) β cs' vs)
    (hf : ∀ i v, SVR w (Av h' β) β (f i) v → SVR w (Av h' β) β (f' i) v) : Core w0 S f' h' β φ tm w := by
  have hsome : ∀ j o, h' j = some o → ∃ o', h j = some o' ∧ tops β j o = tops β j o' := by
    intro j o ho
    rcases hh j o ho with h1 | ⟨t, cs, cs', rfl, h1, _⟩
    · exact ⟨o, h1, rfl⟩
    · exact ⟨_, h1, rfl⟩
  have hav : ∀ b, Av h' β b → Av h β b := fun b hb => hb.imp (fun ⟨j, o, hj, hb⟩ => by
    obtain ⟨o', h1, h2⟩ := hsome j o hj
    exact ⟨j, o', h1, h2 ▸ hb⟩) id
  have hm := hc.step (h' := h') (β' := β) (φ' := φ) (w' := w) (fun _ => False) (Nat.le_refl _) (fun _ _ _ => rfl) (fun b hb => .inl (hav b hb)) (fun _ _ _ h => h) (fun _ _ => ⟨rfl, rfl⟩)
    (fun id o ho => by
      rcases hh id o ho with h1 | ⟨t, cs, cs', rfl, h1, h2⟩
      · exact .inl ⟨fun h => h, h1, rfl, fun _ _ h => h, fun _ _ => rfl⟩
      · refine .inr ⟨?_, hc.fresh id _ h1⟩
        have h3 := (hc.objs id _ h1).mono (w' := w) (av' := Av h' β) (β' := β) (Nat.le_refl _) (fun _ _ _ => rfl) (fun b hb => .inl (hav b hb)) (fun _ _ => ⟨rfl, rfl⟩) (fun _ _ => rfl) rfl
        obtain ⟨vs, e1, e2, e3, e4⟩ := h3
        exact ⟨vs, e1, h2 vs e2, e3, e4⟩)
    (fun i j o p hne hi hj b hb => by
      obtain ⟨o', h1, _⟩ := hsome i o hi
      obtain ⟨p', h2, _⟩ := hsome j p hj
      exact hc.sep i j o' p' hne h1 h2 b hb)
  exact ⟨fun i => hf i _ (hm.slots i), hm.objs, hm.fresh, hm.sep, hm.bar, hm.bars⟩

theorem mergeO_ok {w : World} {av : Nat → Prop} {β : Env} {g : Bool} {x y : Option VObj} {o : VObj} (h : mergeO g x y = some o) :
    (bif g then x else y) = some o ∨ ∃ t cs cs', o = .box t cs' ∧ (bif g then x else y) = some (.box t cs) ∧ ∀ vs, SVRL w av β cs vs → SVRL w av β cs' vs := by
  unfold mergeO at h
  split at h
  · rename_i t cs t' cs'
    cases hc : Nat.beq t t' && Nat.beq cs.length cs'.length
    · simp [hc] at h
    · simp only [hc, cond_true, Option.some.injEq] at h
      simp only [Bool.and_eq_true] at hc
      have ht := Nat.eq_of_beq_eq_true hc.1
      have hl := Nat.eq_of_beq_eq_true hc.2
      subst ht h
      refine .inr ⟨t, bif g then cs else cs', _, rfl, by cases g <;> rfl, fun vs hv => SVRL.merge g cs cs' vs hl hv⟩
  · rename_i t e r fz u t' e' r' fz' u'
    cases hc : Nat.beq t t' && ctsBeq e e' && (fz == fz') && (u == u')
    · simp [hc] at h
    · simp only [hc, cond_true, Option.some.injEq] at h
      simp only [Bool.and_eq_true] at hc
      have ht := Nat.eq_of_beq_eq_true hc.1.1.1
      have he := ctsBeq_eq _ _ hc.1.1.2
      have hf : fz = fz' := by simpa using hc.1.2
      have hu : u = u' := by simpa using hc.2
      subst ht he hf hu h
      refine .inl ?_
      cases g <;> rfl
  · cases h

/-- The way that was gone, seen from where the ways meet. -/
theorem rel_merge {w0 : World} {S : Own} {pre yes no : St} {g : Bool} {a : Act} {w : World} (hy : g = true → Tr pre.reset yes ∧ Rel w0 S yes a w) (hn : g = false → Tr pre.reset no ∧ Rel w0 S no a w)
    (_hok : (merge pre g yes no).ok = true) : Rel w0 S (merge pre g yes no) a w := by
  have key : ∀ r : St, Tr pre.reset r → Rel w0 S r a w → (∀ i ∈ r.ls, i ∈ yes.ls ++ no.ls) → (∀ i ∈ r.lm, i ∈ yes.lm ++ no.lm) → (∀ i v av β, SVR w av β (r.get i) v → SVR w av β (mergeSV g (yes.get i) (no.get i)) v) →
      (∀ i, (bif g then yes.obj i else no.obj i) = r.obj i) → Rel w0 S (merge pre g yes no) a w := by
    intro r ht hr hls hlm hmg hro
    obtain ⟨β, φ, hc⟩ := hr.core
    refine ⟨hr.size.trans (congrArg (· % 1099511627776) ht.n), fun x hx => by have h1 := hr.fx x hx; rw [ht.n] at h1; exact h1, hr.defers, hr.kept, β, φ, ?_⟩
    refine hc.sub (fun j o ho => ?_) (fun i v hv => ?_)
    · rw [merge_obj] at ho
      split at ho
      · have := mergeO_ok (w := w) (av := Av (merge pre g yes no).obj β) (β := β) ho
        rw [hro j] at this
        exact this
      · rename_i hj
        refine .inl (ht.obj j o ho (fun h => hj ?_))
        exact mem_touched.2 ⟨mem_dedup.2 (hlm j h), o, ho⟩
    · show SVR w _ β (lkV (mergeSl g yes.get no.get (dedup (yes.ls ++ no.ls)) pre.sl) i) v
      rw [lkV_mergeSl]
      split
      · exact hmg i v _ β hv
      · rename_i hi
        have : r.get i = pre.get i := ht.get i (fun h => hi (mem_dedup.2 (hls i h)))
        rw [this] at hv
        exact hv
  cases g with
  | true =>
    obtain ⟨ht, hr⟩ := hy rfl
    exact key yes ht hr (fun i hi => List.mem_append_left _ hi) (fun i hi => List.mem_append_left _ hi) (fun i v av β hv => SVR.merge true _ _ _ hv) (fun _ => rfl)
  | false =>
    obtain ⟨ht, hr⟩ := hn rfl
    exact key no ht hr (fun i hi => List.mem_append_right _ hi) (fun i hi => List.mem_append_right _ hi) (fun i v av β hv => SVR.merge false _ _ _ hv) (fun _ => rfl)

theorem Rel.reset {w0 : World} {S : Own} {st : St} {a : Act} {w : World} (h : Rel w0 S st a w) : Rel w0 S st.reset a w := ⟨h.size, h.fx, h.defers, h.kept, h.core⟩

theorem Rel.know {w0 : World} {S : Own} {st : St} {a : Act} {w : World} (h : Rel w0 S st a w) {s : Nat} {b : Bool} (hs : a.tmps.getD s undef = .bool b) : Rel w0 S (st.know s b) a w := by
  obtain ⟨β, φ, hc⟩ := h.core
  refine ⟨h.size, h.fx, h.defers, h.kept, β, φ, ?_⟩
  rw [know_get]
  exact ⟨fun i => by
    by_cases hi : i = s
    · subst hi
      simp only [upd, if_true, SVR]
      exact hs
    · have := hc.slots i
      show SVR w (Av st.obj β) β _ _
      simpa only [upd, hi, if_false] using this, hc.objs, hc.fresh, hc.sep, hc.bar, hc.bars⟩

theorem Rel.slot_bool {w0 : World} {S : Own} {st : St} {a : Act} {w : World} (h : Rel w0 S st a w) {s : Nat} {g : Bool} (hs : st.get s = .bool g) : a.tmps.getD s undef = .bool g := by
  obtain ⟨β, φ, hc⟩ := h.core
  have := hc.slots s
  rw [hs] at this
  simpa only [SVR] using this

theorem tr_execOps {P : Program} {Γ : Ctx} {ops : Array Oper} {gs : List Nat} {chk : List OpLog → Bool} : ∀ (rest : List Oper) (i : Nat) (acc : List OpLog) (st : St), (execOps P Γ ops gs chk rest i acc st).ok = true →
    Tr st (execOps P Γ ops gs chk rest i acc st)
  | [], i, acc, st, h => by
    simp only [execOps] at h ⊢
    simp only [andt_eq] at h
    exact ⟨rfl, h.1, fun _ _ => rfl, fun _ h => h, fun _ _ h _ => h, fun _ h => h⟩
  | o :: rest, i, acc, st, h => by
    rw [execOps] at h ⊢
    split
    · rename_i hw; simp [hw, fail_ok] at h
    · rename_i hw
      simp only [hw] at h
      have h1 := tr_execOps rest _ _ _ h
      exact (tr_apply h1.ok).trans h1
    · rename_i hw
      simp only [hw] at h
      have plain : (execOps P Γ ops gs chk rest (i + 1) (acc ++ [logOf P Γ ops i st o]) (st.doOp P Γ o)).ok = true → Tr st (execOps P Γ ops gs chk rest (i + 1) (acc ++ [logOf P Γ ops i st o]) (st.doOp P Γ o)) := by
        intro h'
        have h1 := tr_execOps rest _ _ _ h'
        exact (tr_doOp h1.ok).trans h1
      split
      · rename_i hd
        simp only [hd] at h
        exact plain h
      · rename_i s hd
        simp only [hd] at h
        cases hm : memN s gs
        · simp only [hm, cond_false] at h ⊢
          exact plain h
        · simp only [hm, cond_true] at h ⊢
          split
          · rename_i g hg
            simp only [hg] at h
            have hok1 : (st.doOp P Γ o).ok = true := by
              have h' := h
              simp only [merge, okm_eq] at h'
              cases g with
              | true => simp only [cond_true] at h'; exact (tr_execOps rest _ _ _ h').ok
              | false => simp only [cond_false] at h'; exact (tr_execOps rest _ _ _ h').ok
            exact (tr_doOp hok1).trans (tr_merge hok1 h)
          · rename_i hg
            have h' : (execOps P Γ ops gs chk rest (i + 1) (acc ++ [logOf P Γ ops i st o]) (st.doOp P Γ o)).ok = true := by
              revert h
              split
              · rename_i g hg'; exact absurd hg' (hg g)
              · exact id
            exact plain h'

end Go.Proofs.Ytklbgnodgnlebaa.Vm

/- The value machine: a region in the order of its text. Conditions: the contracts of the context hold. -/
set_option linter.unusedVariables false
set_option linter.unusedSimpArgs false
namespace Go.Proofs.Ytklbgnodgnlebaa.Vm

theorem noneOf_not {ds l : List Nat} (h : noneOf ds l = true) : ∀ i ∈ l, i / 64 ∉ ds := by
  induction l with
  | nil => simp
  | cons k l ih =>
    simp only [noneOf, Bool.and_eq_true, Bool.not_eq_true'] at h
    intro i hi
    rcases List.mem_cons.1 hi with rfl | hi
    · intro hm
      rw [memN_iff.2 hm] at h
      simp at h
    · exact ih h.2 i hi

theorem lkV_mem {l : List (Nat × SV)} {i : Nat} : lkV l i = .unk ∨ ∃ x ∈ l, lkV l i = x.2 := by
  induction l with
  | nil => exact .inl rfl
  | cons y l ih =>
    obtain ⟨k, s⟩ := y
    simp only [lkV]
    cases Nat.beq k i
    · rcases ih with h | ⟨x, hx, h⟩
      · exact .inl h
      · exact .inr ⟨x, List.mem_cons_of_mem _ hx, h⟩
    · exact .inr ⟨_, List.mem_cons_self .., rfl⟩

theorem lkO_mem {l : List (Nat × VObj)} {i : Nat} {ob : VObj} (h : lkO l i = some ob) : (i, ob) ∈ l := by
  induction l with
  | nil => simp [lkO] at h
  | cons y l ih =>
    obtain ⟨k, s⟩ := y
    simp only [lkO] at h
    cases hk : Nat.beq k i
    · simp only [hk, cond_false] at h
      exact List.mem_cons_of_mem _ (ih h)
    · simp only [hk, cond_true, Option.some.injEq] at h
      rw [Nat.eq_of_beq_eq_true hk, h]
      exact List.mem_cons_self ..

theorem fresh_of {ds : List Nat} {st : St} (h : freshFor ds st = true) : ∀ d ∈ ds, FreshAt st d := by
  intro d hd
  simp only [freshFor, Bool.and_eq_true, List.all_eq_true] at h
  constructor
  · intro i j hj
    rcases lkV_mem (l := st.sl) (i := i) with h0 | ⟨x, hx, h0⟩
    · have : st.get i = .unk := h0
      rw [this] at hj
      simp [svIds] at hj
    · have : st.get i = x.2 := h0
      rw [this] at hj
      exact fun e => noneOf_not (h.1 x hx) j hj (e ▸ hd)
  · intro j ob hj
    have hm := h.2 _ (lkO_mem hj)
    refine ⟨fun e => noneOf_not hm j (List.mem_cons_self ..) (e ▸ hd), fun k hk e => noneOf_not hm k (List.mem_cons_of_mem _ hk) (e ▸ hd)⟩

section
variable {P : Program} {Γ : Ctx} {w0 : World} {S : Own} {ops : Array Oper} {gs : List Nat}

theorem doOp_eff {st : St} {o : Oper} (h : (st.doOp P Γ o).ok = true) : ∃ e s r, (evalOp P Γ o).run st.get st.obj = some (e, s, r) ∧ freshOk o.dst e st = true ∧ st.doOp P Γ o = st.apply o.dst e := by
  unfold St.doOp at h ⊢
  split at h
  · rename_i e r hr
    obtain ⟨s, r⟩ := r
    cases hf : freshOk o.dst e st
    · simp [hf, fail_ok] at h
    · exact ⟨e, s, r, hr, hf, by simp [hr, hf]⟩
  · simp [fail_ok] at h

theorem doOp_good (hΓ : CtxHolds P Γ) {st : St} {o : Oper} {a : Act} {w : World} (hR : Rel w0 S st a w) (h : (st.doOp P Γ o).ok = true) (Q : Exit → Act → World → Prop) :
    o.wp P a w (fun a' w' => ∃ v, a' = a.put o.dst v ∧ Rel w0 S (st.doOp P Γ o) a' w') Q := by
  obtain ⟨e, s, r, hr, hf, he⟩ := doOp_eff h
  rw [he] at h ⊢
  simp only [St.apply, andt_eq] at h
  refine op_sound hΓ hR (M.val_of_run _ hr) h.1.2 (fun d hd => ?_) (fun how d hd => ?_) Q
  · have := h.2
    rw [hd] at this
    exact dstB_ok this
  · unfold freshOk at hf
    rw [hd] at hf
    split at hf
    · rename_i d' _ hd'
      injection hd' with hd'
      subst hd'
      exact fresh_of hf d (List.mem_singleton.2 rfl)
    · rename_i hno
      cases hw : e.ow with
      | nil => exact absurd hw how
      | cons x l => exact (hno x l d hw rfl).elim

theorem wanted_of {st : St} {o : Oper} {a : Act} {w : World} {b : Bool} (hR : Rel w0 S st a w) (h : wantB ops st o = some b) : Region.wanted o (yielded ops a.tmps) = b := by
  obtain ⟨β, φ, hc⟩ := hR.core
  unfold wantB at h
  unfold Region.wanted
  split at h
  · rename_i hg
    simp only [hg]
    simpa using h
  · rename_i j want hg
    simp only [hg]
    split at h
    · cases h
    · rename_i s hs
      have hsl := hc.slots s
      split at h
      · rename_i b' hb'
        rw [hb'] at hsl
        simp only [SVR] at hsl
        have : a.tmps[s]? = some (.bool b') := by
          rw [Array.getD_eq_getD_getElem?] at hsl
          cases hq : a.tmps[s]? with
          | none => rw [hq] at hsl; simp [undef] at hsl
          | some v => rw [hq] at hsl; simpa using hsl
        simp only [yielded, hs, Option.bind_some, this]
        have h := Option.some.inj h
        rw [← h]
        rfl
      · rename_i hb'
        rw [hb'] at hsl
        simp only [SVR] at hsl
        have : ∀ c, a.tmps[s]? ≠ some (.bool c) := by
          intro c hq
          rw [Array.getD_eq_getD_getElem?, hq] at hsl
          simp [undef] at hsl
        have hy : yielded ops a.tmps j = none := by
          unfold yielded
          rw [hs]
          simp only [Option.bind_some]
        rw [hy]
        have h := Option.some.inj h
        rw [← h]
        rfl
      · cases h

theorem skip_rel {st : St} {o : Oper} {a : Act} {w : World} (hR : Rel w0 S st a w) (h : (st.skip o.dst).ok = true) : Rel w0 S (st.skip o.dst) (a.put o.dst undef) w := by
  obtain ⟨β, φ, hc⟩ := hR.core
  refine rel_put hR (fun d hd => ?_) hR.kept ⟨β, φ, hc, by simp [SVR]⟩
  simp only [St.skip, St.apply, andt_eq] at h
  have := h.2
  rw [hd] at this
  exact dstB_ok this

theorem Rel.okIrr {st : St} {a : Act} {w : World} (hR : Rel w0 S st a w) (b : Bool) : Rel w0 S { st with ok := b } a w := ⟨hR.size, hR.fx, hR.defers, hR.kept, hR.core⟩

theorem merge_ok_split {pre a b : St} {g : Bool} (h : (merge pre g a b).ok = true) : (g = true → a.ok = true) ∧ (g = false → b.ok = true) := by
  simp only [merge, okm_eq] at h
  cases g
  · exact ⟨by simp, fun _ => h⟩
  · exact ⟨fun _ => h, by simp⟩

theorem execOps_seq (hΓ : CtxHolds P Γ) {chk : List OpLog → Bool} {Q : Exit → Act → World → Prop} : ∀ (rest : List Oper) (i : Nat) (acc : List OpLog) (st : St) (a : Act) (w : World), Rel w0 S st a w →
    (execOps P Γ ops gs chk rest i acc st).ok = true → (∀ a' w', Rel w0 S (execOps P Γ ops gs chk rest i acc st) a' w' → Q .normal a' w') → wpList P ops Q rest a w
  | [], i, acc, st, a, w, hR, hok, hQ => by
    simp only [execOps] at hQ
    exact hQ a w (hR.okIrr _)
  | o :: rest, i, acc, st, a, w, hR, hok, hQ => by
    rw [execOps] at hok hQ
    cases hw : wantB ops st o with
    | none => simp [hw, fail_ok] at hok
    | some b =>
      simp only [hw] at hok hQ
      have hwant := wanted_of hR hw
      unfold wpList
      cases b with
      | false =>
        rw [if_neg (by rw [hwant]; simp)]
        simp only at hok hQ
        exact execOps_seq hΓ rest _ _ _ _ w (skip_rel hR (tr_execOps rest _ _ _ hok).ok) hok hQ
      | true =>
        rw [if_pos hwant]
        simp only at hok hQ
        refine .inl ?_
        have plain : (execOps P Γ ops gs chk rest (i + 1) (acc ++ [logOf P Γ ops i st o]) (st.doOp P Γ o)).ok = true →
            (∀ a' w', Rel w0 S (execOps P Γ ops gs chk rest (i + 1) (acc ++ [logOf P Γ ops i st o]) (st.doOp P Γ o)) a' w' → Q .normal a' w') → o.wp P a w (wpList P ops Q rest) Q := by
          intro h1 h2
          have hd := (tr_execOps rest _ _ _ h1).ok
          refine Oper.wp_mono ?_ (doOp_good hΓ hR hd Q)
          rintro a' w' ⟨v, rfl, hR'⟩
          exact execOps_seq hΓ rest _ _ _ _ w' hR' h1 h2
        split at hok
        · rename_i hd
          simp only [hd] at hQ
          exact plain hok hQ
        · rename_i s hd
          simp only [hd] at hQ
          cases hm : memN s gs
          · simp only [hm, cond_false] at hok hQ
            exact plain hok hQ
          · simp only [hm, cond_true] at hok hQ
            split at hok
            · rename_i g hg
              simp only [hg] at hQ
              have hsp := merge_ok_split hok
              have hok1 : (st.doOp P Γ o).ok = true := by
                cases g with
                | true => exact (tr_execOps rest _ _ _ (hsp.1 rfl)).ok
                | false => exact (tr_execOps rest _ _ _ (hsp.2 rfl)).ok
              refine Oper.wp_mono ?_ (doOp_good hΓ hR hok1 Q)
              rintro a' w' ⟨v, rfl, hR'⟩
              have hslot := hR'.slot_bool hg
              cases g with
              | true =>
                have hy := hsp.1 rfl
                refine execOps_seq hΓ rest (i + 1) (acc ++ [logOf P Γ ops i st o]) ((st.doOp P Γ o).reset.know s true) _ w' (hR'.reset.know hslot) hy ?_
                intro a'' w'' h''
                exact hQ a'' w'' (rel_merge (fun _ => ⟨(tr_know (st := (st.doOp P Γ o).reset) hok1).trans (tr_execOps rest _ _ _ hy), h''⟩) (by simp) hok)
              | false =>
                have hn := hsp.2 rfl
                refine execOps_seq hΓ rest (i + 1) (acc ++ [logOf P Γ ops i st o]) ((st.doOp P Γ o).reset.know s false) _ w' (hR'.reset.know hslot) hn ?_
                intro a'' w'' h''
                exact hQ a'' w'' (rel_merge (by simp) (fun _ => ⟨(tr_know (st := (st.doOp P Γ o).reset) hok1).trans (tr_execOps rest _ _ _ hn), h''⟩) hok)
            · rename_i hg
              have hQ' : ∀ a' w', Rel w0 S (execOps P Γ ops gs chk rest (i + 1) (acc ++ [logOf P Γ ops i st o]) (st.doOp P Γ o)) a' w' → Q .normal a' w' := by
                revert hQ
                split
                · rename_i g hg'; exact absurd hg' (hg g)
                · exact id
              exact plain hok hQ'

theorem tr_region {draw : Bool} {st : St} (h : (execRegion P Γ ops draw st).ok = true) : Tr st (execRegion P Γ ops draw st) := by
  unfold execRegion at h ⊢
  cases draw
  · simp only [cond_false] at h ⊢
    exact tr_execOps _ _ _ _ h
  · simp only [cond_true] at h ⊢
    cases hf : freshFor (dsts ops.toList) st && edgesOk ops.toList 0 && P.follows .mixedOrders
    · simp [hf, fail_ok] at h
    · simp only [hf, cond_true] at h ⊢
      exact tr_execOps _ _ _ _ h

theorem region_seq (hΓ : CtxHolds P Γ) {st : St} {a : Act} {w : World} {id : Nat} {Q : Exit → Act → World → Prop} (hR : Rel w0 S st a w) (h : (execRegion P Γ ops false st).ok = true)
    (hQ : ∀ a' w', Rel w0 S (execRegion P Γ ops false st) a' w' → Q .normal a' w') : (Code.region id ops false).wp P Q a w := by
  unfold execRegion at h hQ
  simp only [cond_false] at h hQ
  exact wp_region_list (execOps_seq hΓ _ _ _ _ a w hR h hQ)

end

end Go.Proofs.Ytklbgnodgnlebaa.Vm

/- The value machine: a region whose order is drawn: whatever the order, it ends as in the order of its text. Conditions: the contracts of the context hold; what may not be exchanged is ordered by the region's edges. -/
set_option linter.unusedVariables false
set_option linter.unusedSimpArgs false
namespace Go.Proofs.Ytklbgnodgnlebaa.Vm

theorem M.run_congr {α : Type} {f f' : Nat → SV} {h h' : Nat → Option VObj} : ∀ (m : M α) {a : α} {s o : List Nat}, m.run f h = some (a, s, o) → (∀ i ∈ s, f' i = f i) → (∀ i ∈ o, h' i = h i) → m.run f' h' = some (a, s, o)
  | .pure a, _, _, _, e, _, _ => by simpa [M.run] using e
  | .fail, _, _, _, e, _, _ => by simp [M.run] at e
  | .slot i k, a, s, o, e, hs, ho => by
    simp only [M.run] at e ⊢
    split at e
    · rename_i b s' o' hk
      simp only [Option.some.injEq, Prod.mk.injEq] at e
      obtain ⟨rfl, rfl, rfl⟩ := e
      rw [hs i (List.mem_cons_self ..), M.run_congr (k (f i)) hk (fun j hj => hs j (List.mem_cons_of_mem _ hj)) ho]
    · cases e
  | .obj i k, a, s, o, e, hs, ho => by
    simp only [M.run] at e ⊢
    split at e
    · rename_i x hx
      split at e
      · rename_i b s' o' hk
        simp only [Option.some.injEq, Prod.mk.injEq] at e
        obtain ⟨rfl, rfl, rfl⟩ := e
        rw [ho i (List.mem_cons_self ..), hx]
        simp only
        rw [M.run_congr (k x) hk hs (fun j hj => ho j (List.mem_cons_of_mem _ hj))]
      · cases e
    · cases e

/-- One step of the way that is gone. -/
structure PS where
  i : Nat
  o : Oper
  run : Bool
  st : St
  e : Eff
  log : OpLog

def PS.f (p : PS) (s : Nat) (v : SV) : SV := if p.o.dst = some s then p.e.sv else v

def lkW : List (Nat × Option VObj) → Nat → Option (Option VObj)
  | [], _ => none
  | (i, x) :: l, j => if j = i then some x else lkW l j

def cwAt (cw : Option (Nat × Nat × List SV)) (id : Nat) (v : Option VObj) : Option VObj :=
  match cw with
  | some (i, off, svs) => if id = i then (match v with | some (.box t cells) => some (.box t (writeCells cells off svs)) | o => o) else v
  | none => v

def PS.h (p : PS) (id : Nat) (v : Option VObj) : Option VObj :=
  match lkW p.e.ow id with
  | some x => x
  | none => cwAt p.e.cw id v

theorem fc_at (cw : Option (Nat × Nat × List SV)) (h : Nat → Option VObj) (id : Nat) : fc cw h id = cwAt cw id (h id) := by
  cases cw with
  | none => rfl
  | some x =>
    obtain ⟨i, off, svs⟩ := x
    simp only [fc, cwAt]
    by_cases hi : id = i
    · subst hi
      rw [if_pos rfl]
      cases hh : h id with
      | none => simp [hh]
      | some b => cases b <;> simp [upd, hh]
    · rw [if_neg hi]
      cases h i with
      | none => rfl
      | some b => cases b <;> simp [upd, hi]

theorem fo_at (ow : List (Nat × Option VObj)) (h : Nat → Option VObj) (id : Nat) : fo ow h id = match lkW ow id with | some x => x | none => h id := by
  induction ow with
  | nil => rfl
  | cons x l ih =>
    obtain ⟨i, ob⟩ := x
    simp only [fo, upd, lkW]
    split
    · rfl
    · exact ih

theorem apply_h (st : St) (p : PS) (id : Nat) : (st.apply p.o.dst p.e).obj id = p.h id (st.obj id) := by
  rw [apply_obj, fo_at]
  unfold PS.h
  rw [fc_at]

theorem apply_f (st : St) (p : PS) (s : Nat) : (st.apply p.o.dst p.e).get s = p.f s (st.get s) := by
  unfold PS.f
  cases hd : p.o.dst with
  | none => simp [apply_get_none]
  | some d =>
    rw [apply_get]
    simp only [upd, Option.some.injEq]
    by_cases hs : s = d
    · simp [hs]
    · rw [if_neg hs, if_neg (fun h : d = s => hs h.symm)]

/-- The way through a region that the guards' values pick. -/
inductive Path (P : Program) (Γ : Ctx) (ops : Array Oper) (gs : List Nat) : List Oper → Nat → St → List PS → St → Prop where
  | nil (i : Nat) (st : St) : Path P Γ ops gs [] i st [] st
  | skip (o : Oper) (rest : List Oper) (i : Nat) (st : St) (l : List PS) (fin : St) (hw : wantB ops st o = some false) (hok : (st.skip o.dst).ok = true) (h : Path P Γ ops gs rest (i + 1) (st.skip o.dst) l fin) :
      Path P Γ ops gs (o :: rest) i st (⟨i, o, false, st, { sv := .undef }, skipLog ops i o⟩ :: l) fin
  | op (o : Oper) (rest : List Oper) (i : Nat) (st : St) (l : List PS) (fin : St) (e : Eff) (hw : wantB ops st o = some true) (hok : (st.doOp P Γ o).ok = true) (he : st.doOp P Γ o = st.apply o.dst e)
      (hr : ∃ s r, (evalOp P Γ o).run st.get st.obj = some (e, s, r)) (h : Path P Γ ops gs rest (i + 1) (st.doOp P Γ o) l fin) :
      Path P Γ ops gs (o :: rest) i st (⟨i, o, true, st, e, logOf P Γ ops i st o⟩ :: l) fin
  | opk (o : Oper) (rest : List Oper) (i : Nat) (st : St) (l : List PS) (fin : St) (e : Eff) (s : Nat) (g : Bool) (hw : wantB ops st o = some true) (hok : (st.doOp P Γ o).ok = true) (he : st.doOp P Γ o = st.apply o.dst e)
      (hr : ∃ s r, (evalOp P Γ o).run st.get st.obj = some (e, s, r)) (hd : o.dst = some s) (hg : e.sv = .bool g) (h : Path P Γ ops gs rest (i + 1) ((st.doOp P Γ o).reset.know s g) l fin) :
      Path P Γ ops gs (o :: rest) i st (⟨i, o, true, st, { e with sv := .kb g }, logOf P Γ ops i st o⟩ :: l) fin

section
variable {P : Program} {Γ : Ctx} {w0 : World} {S : Own} {ops : Array Oper} {gs : List Nat}

theorem execOps_path {chk : List OpLog → Bool} : ∀ (rest : List Oper) (i : Nat) (acc : List OpLog) (st : St), (execOps P Γ ops gs chk rest i acc st).ok = true →
    ∃ l fin, Path P Γ ops gs rest i st l fin ∧ fin.ok = true ∧ chk (acc ++ l.map (·.log)) = true ∧ ∀ (w0 : World) (S : Own) (a : Act) (w : World), Rel w0 S fin a w → Rel w0 S (execOps P Γ ops gs chk rest i acc st) a w
  | [], i, acc, st, hok => by
    simp only [execOps, andt_eq] at hok ⊢
    exact ⟨[], st, .nil i st, hok.1, by simpa using hok.2, fun w0 S a w h => h.okIrr _⟩
  | o :: rest, i, acc, st, hok => by
    rw [execOps] at hok ⊢
    cases hw : wantB ops st o with
    | none => simp [hw, fail_ok] at hok
    | some b =>
      simp only [hw] at hok ⊢
      cases b with
      | false =>
        simp only at hok ⊢
        obtain ⟨l, fin, h1, h2, h3, h4⟩ := execOps_path rest _ _ _ hok
        exact ⟨_, fin, .skip o rest i st l fin hw (tr_execOps rest _ _ _ hok).ok h1, h2, by simpa using h3, h4⟩
      | true =>
        simp only at hok ⊢
        have plain : (execOps P Γ ops gs chk rest (i + 1) (acc ++ [logOf P Γ ops i st o]) (st.doOp P Γ o)).ok = true →
            ∃ l fin, Path P Γ ops gs (o :: rest) i st l fin ∧ fin.ok = true ∧ chk (acc ++ l.map (·.log)) = true ∧ ∀ (w0 : World) (S : Own) (a : Act) (w : World), Rel w0 S fin a w →
              Rel w0 S (execOps P Γ ops gs chk rest (i + 1) (acc ++ [logOf P Γ ops i st o]) (st.doOp P Γ o)) a w := by
          intro h1
          have hd := (tr_execOps rest _ _ _ h1).ok
          obtain ⟨l, fin, g1, g2, g3, g4⟩ := execOps_path rest _ _ _ h1
          obtain ⟨e, s, r, hr, _, he⟩ := doOp_eff hd
          exact ⟨_, fin, .op o rest i st l fin e hw hd he ⟨s, r, hr⟩ g1, g2, by simpa using g3, g4⟩
        split at hok
        · rename_i hd
          exact plain hok
        · rename_i s hd
          cases hm : memN s gs
          · simp only [hm, cond_false] at hok ⊢
            exact plain hok
          · simp only [hm, cond_true] at hok ⊢
            split at hok
            · rename_i g hg
              have hsp := merge_ok_split hok
              have hbr : ∀ b : Bool, g = b → (execOps P Γ ops gs chk rest (i + 1) (acc ++ [logOf P Γ ops i st o]) ((st.doOp P Γ o).reset.know s b)).ok = true := by
                rintro b rfl
                cases g with
                | true => exact hsp.1 rfl
                | false => exact hsp.2 rfl
              have hd1 := (tr_execOps rest _ _ _ (hbr g rfl)).ok
              have hd2 : (st.doOp P Γ o).ok = true := hd1
              obtain ⟨l, fin, g1, g2, g3, g4⟩ := execOps_path rest (i + 1) (acc ++ [logOf P Γ ops i st o]) _ (hbr g rfl)
              obtain ⟨e, s', r, hr, _, he⟩ := doOp_eff hd2
              have hsv : e.sv = .bool g := by
                rw [he, hd, apply_get] at hg
                simpa [upd] using hg
              refine ⟨_, fin, .opk o rest i st l fin e s g hw hd2 he ⟨s', r, hr⟩ hd hsv g1, g2, by simpa using g3, fun w0 S a w hR => ?_⟩
              have hR' := g4 w0 S a w hR
              refine rel_merge (fun hgt => ?_) (fun hgf => ?_) hok
              · subst hgt
                exact ⟨(tr_know (st := (st.doOp P Γ o).reset) hd2).trans (tr_execOps rest _ _ _ (hbr true rfl)), hR'⟩
              · subst hgf
                exact ⟨(tr_know (st := (st.doOp P Γ o).reset) hd2).trans (tr_execOps rest _ _ _ (hbr false rfl)), hR'⟩
            · rename_i hg
              exact plain hok

/-- The slot, the object as a set of steps leaves them, the steps taken in the order of the text. -/
def foldF (L : Nat → Bool) (l : List PS) (s : Nat) (v : SV) : SV := l.foldl (fun v p => if L p.i then p.f s v else v) v
def foldH (L : Nat → Bool) (l : List PS) (id : Nat) (v : Option VObj) : Option VObj := l.foldl (fun v p => if L p.i then p.h id v else v) v

def PS.tF (p : PS) (s : Nat) : Prop := p.o.dst = some s
def PS.tH (p : PS) (id : Nat) : Prop := id ∈ p.e.ow.map (·.1) ∨ ∃ off svs, p.e.cw = some (id, off, svs)

theorem PS.f_id {p : PS} {s : Nat} (h : ¬ p.tF s) (v : SV) : p.f s v = v := by unfold PS.f PS.tF at *; rw [if_neg h]

theorem lkW_none {ow : List (Nat × Option VObj)} {id : Nat} (h : id ∉ ow.map (·.1)) : lkW ow id = none := by
  induction ow with
  | nil => rfl
  | cons x l ih =>
    obtain ⟨i, ob⟩ := x
    simp only [List.map_cons, List.mem_cons, not_or] at h
    simp only [lkW]
    rw [if_neg h.1]
    exact ih h.2

theorem PS.h_id {p : PS} {id : Nat} (h : ¬ p.tH id) (v : Option VObj) : p.h id v = v := by
  unfold PS.tH at h
  simp only [not_or] at h
  unfold PS.h
  rw [lkW_none h.1]
  simp only
  unfold cwAt
  split
  · rename_i i off svs hcw
    by_cases hi : id = i
    · subst hi
      exact absurd ⟨off, svs, hcw⟩ h.2
    · rw [if_neg hi]
  · rfl

theorem fold_none {α : Type} (step : PS → α → α) {L : Nat → Bool} : ∀ (l : List PS) (v : α), (∀ q ∈ l, L q.i = false) → l.foldl (fun v q => if L q.i then step q v else v) v = v
  | [], v, _ => rfl
  | z :: l, v, h => by
    simp only [List.foldl_cons, h z (List.mem_cons_self ..), Bool.false_eq_true, if_false]
    exact fold_none step l v (fun q hq => h q (List.mem_cons_of_mem _ hq))

section folds
variable {α : Type} (step : PS → α → α) (T : PS → Prop)

theorem fold_congr (hid : ∀ p v, ¬ T p → step p v = v) {L L' : Nat → Bool} : ∀ (l : List PS) (v : α), (∀ p ∈ l, T p → L p.i = L' p.i) →
    l.foldl (fun v p => if L p.i then step p v else v) v = l.foldl (fun v p => if L' p.i then step p v else v) v
  | [], v, _ => rfl
  | p :: l, v, h => by
    simp only [List.foldl_cons]
    have : (if L p.i then step p v else v) = if L' p.i then step p v else v := by
      by_cases ht : T p
      · rw [h p (List.mem_cons_self ..) ht]
      · rw [hid p v ht]
        simp
    rw [this]
    exact fold_congr hid l _ (fun q hq => h q (List.mem_cons_of_mem _ hq))

/-- One step more, behind which no step that was taken touches the place. -/
theorem fold_insert (hid : ∀ p v, ¬ T p → step p v = v) {L : Nat → Bool} {q : PS} : ∀ (l : List PS) (v : α), q ∈ l → (l.map (·.i)).Nodup → L q.i = false → l.Pairwise (fun a b => a.i < b.i) → (∀ p ∈ l, q.i < p.i → T q → T p → L p.i = false) →
    l.foldl (fun v p => if (L p.i || p.i == q.i) then step p v else v) v = step q (l.foldl (fun v p => if L p.i then step p v else v) v)
  | [], v, hq, _, _, _, _ => by simp at hq
  | p :: l, v, hq, hn, hL, hp, hno => by
    simp only [List.foldl_cons]
    simp only [List.map_cons, List.nodup_cons] at hn
    rw [List.pairwise_cons] at hp
    rcases List.mem_cons.1 hq with rfl | hql
    · simp only [hL, beq_self_eq_true, Bool.or_true, if_true, Bool.false_eq_true, if_false]
      have e1 : l.foldl (fun v p => if (L p.i || p.i == q.i) then step p v else v) (step q v) = l.foldl (fun v p => if L p.i then step p v else v) (step q v) := by
        refine fold_congr step T hid (L := fun k => L k || k == q.i) (L' := L) l _ (fun r hr _ => ?_)
        have : r.i ≠ q.i := fun e => hn.1 (e ▸ List.mem_map_of_mem hr)
        simp [this]
      rw [e1]
      by_cases ht : T q
      · have e2 : ∀ u, l.foldl (fun v p => if L p.i then step p v else v) u = u := by
          intro u
          have := fold_congr step T hid (L := L) (L' := fun _ => false) l u (fun r hr hrt => hno r (List.mem_cons_of_mem _ hr) (hp.1 r hr) ht hrt)
          rw [this]
          exact fold_none step (L := fun _ => false) l u (fun _ _ => rfl)
        rw [e2, e2]
      · rw [hid q v ht, hid q _ ht]
    · have hne : p.i ≠ q.i := fun e => hn.1 (e ▸ List.mem_map_of_mem hql)
      have : (if (L p.i || p.i == q.i) then step p v else v) = if L p.i then step p v else v := by simp [hne]
      rw [this]
      exact fold_insert hid l _ hql hn.2 hL hp.2 (fun r hr => hno r (List.mem_cons_of_mem _ hr))
end folds

theorem path_index : ∀ {rest : List Oper} {i : Nat} {st : St} {l : List PS} {fin : St}, Path P Γ ops gs rest i st l fin → l.map (·.i) = List.range' i rest.length ∧ l.map (·.o) = rest ∧ (∀ p ∈ l, p.log.i = p.i ∧ p.log.d = p.o.dst) := by
  intro rest i st l fin h
  induction h with
  | nil => exact ⟨rfl, rfl, by simp⟩
  | skip o rest i st l fin hw hok h ih =>
    refine ⟨by simp [ih.1, List.range'_succ], by simp [ih.2.1], fun p hp => ?_⟩
    rcases List.mem_cons.1 hp with rfl | hp
    · exact ⟨rfl, rfl⟩
    · exact ih.2.2 p hp
  | op o rest i st l fin e hw hok he hr h ih =>
    refine ⟨by simp [ih.1, List.range'_succ], by simp [ih.2.1], fun p hp => ?_⟩
    rcases List.mem_cons.1 hp with rfl | hp
    · obtain ⟨s, r, hr⟩ := hr
      simp [logOf, hr]
    · exact ih.2.2 p hp
  | opk o rest i st l fin e s g hw hok he hr hd hg h ih =>
    refine ⟨by simp [ih.1, List.range'_succ], by simp [ih.2.1], fun p hp => ?_⟩
    rcases List.mem_cons.1 hp with rfl | hp
    · obtain ⟨s, r, hr⟩ := hr
      simp [logOf, hr]
    · exact ih.2.2 p hp

/-- What a place of the path says: the states along the way. -/
def Along (st : St) (l : List PS) (fin : St) : Prop :=
  (∀ p ∈ l, (∀ s, p.st.get s = foldF (fun k => decide (k < p.i)) l s (st.get s)) ∧ (∀ id, p.st.obj id = foldH (fun k => decide (k < p.i)) l id (st.obj id)) ∧ p.st.n = st.n) ∧
    (∀ s, fin.get s = foldF (fun _ => true) l s (st.get s)) ∧ (∀ id, fin.obj id = foldH (fun _ => true) l id (st.obj id)) ∧ fin.n = st.n

theorem along_cons (p0 : PS) {st st1 : St} {rest' : List Oper} {l' : List PS} {fin' : St} {i : Nat} (hi : p0.i = i) (hst : p0.st = st) (hf : ∀ s, st1.get s = p0.f s (st.get s)) (hh : ∀ id, st1.obj id = p0.h id (st.obj id)) (hn : st1.n = st.n)
    (hpath : Path P Γ ops gs rest' (i + 1) st1 l' fin') (ih : Along st1 l' fin') : Along st (p0 :: l') fin' := by
  have hidx := (path_index hpath).1
  have hge : ∀ p ∈ l', i + 1 ≤ p.i := by
    intro p hp
    have : p.i ∈ l'.map (·.i) := List.mem_map_of_mem hp
    rw [hidx] at this
    exact (List.mem_range'_1.1 this).1
  refine ⟨fun p hp => ?_, fun s => ?_, fun id => ?_, ih.2.2.2.trans hn⟩
  · rcases List.mem_cons.1 hp with rfl | hp
    · have none_lt : ∀ q ∈ p :: l', decide (q.i < p.i) = false := by
        intro q hq
        rcases List.mem_cons.1 hq with rfl | hq
        · simp
        · have := hge q hq
          simp
          omega
      refine ⟨fun s => ?_, fun id => ?_, by rw [hst]⟩
      · have := fold_none (fun q v => PS.f q s v) (L := fun k => decide (k < p.i)) (p :: l') (st.get s) none_lt
        rw [hst]
        exact this.symm
      · have := fold_none (fun q v => PS.h q id v) (L := fun k => decide (k < p.i)) (p :: l') (st.obj id) none_lt
        rw [hst]
        exact this.symm
    · have h0 := hge p hp
      have hlt : decide (p0.i < p.i) = true := by simp; omega
      obtain ⟨g1, g2, g3⟩ := ih.1 p hp
      refine ⟨fun s => ?_, fun id => ?_, g3.trans hn⟩
      · rw [g1 s, hf s]
        unfold foldF
        simp only [List.foldl_cons, hlt, if_true]
      · rw [g2 id, hh id]
        unfold foldH
        simp only [List.foldl_cons, hlt, if_true]
  · rw [ih.2.1 s, hf s]
    unfold foldF
    simp only [List.foldl_cons, if_true]
  · rw [ih.2.2.1 id, hh id]
    unfold foldH
    simp only [List.foldl_cons, if_true]

theorem know_f {st : St} {o : Oper} {e : Eff} {s : Nat} {g : Bool} (hd : o.dst = some s) (p : PS) (hp : p.o = o) (hpe : p.e = { e with sv := .kb g }) (k : Nat) : (((st.apply o.dst e).reset).know s g).get k = p.f k (st.get k) := by
  rw [know_get]
  have e1 : (st.apply o.dst e).reset.get = (st.apply o.dst e).get := rfl
  rw [e1, hd, apply_get]
  unfold PS.f
  rw [hp, hd, hpe]
  simp only [upd, Option.some.injEq]
  by_cases hk : k = s
  · simp [hk]
  · rw [if_neg hk, if_neg hk, if_neg (fun h : s = k => hk h.symm)]

theorem know_h {st : St} {o : Oper} {e : Eff} {s : Nat} {g : Bool} (p : PS) (hp : p.o = o) (hpe : p.e = { e with sv := .kb g }) (id : Nat) : (((st.apply o.dst e).reset).know s g).obj id = p.h id (st.obj id) := by
  have e1 : (((st.apply o.dst e).reset).know s g).obj id = (st.apply p.o.dst p.e).obj id := by
    rw [apply_obj, hpe]
    show (st.apply o.dst e).obj id = _
    rw [apply_obj]
  rw [e1]
  exact apply_h st p id

theorem path_states {rest : List Oper} {i : Nat} {st : St} {l : List PS} {fin : St} (h : Path P Γ ops gs rest i st l fin) : Along st l fin := by
  induction h with
  | nil => exact ⟨by simp, fun _ => rfl, fun _ => rfl, rfl⟩
  | skip o rest i st l fin hw hok h ih =>
    exact along_cons ⟨i, o, false, st, { sv := .undef }, skipLog ops i o⟩ rfl rfl (fun s => apply_f st ⟨i, o, false, st, { sv := .undef }, skipLog ops i o⟩ s) (fun id => apply_h st ⟨i, o, false, st, { sv := .undef }, skipLog ops i o⟩ id) rfl h ih
  | op o rest i st l fin e hw hok he hr h ih =>
    refine along_cons ⟨i, o, true, st, e, logOf P Γ ops i st o⟩ rfl rfl (fun s => ?_) (fun id => ?_) ?_ h ih
    · rw [he]; exact apply_f st ⟨i, o, true, st, e, logOf P Γ ops i st o⟩ s
    · rw [he]; exact apply_h st ⟨i, o, true, st, e, logOf P Γ ops i st o⟩ id
    · rw [he]; rfl
  | opk o rest i st l fin e s g hw hok he hr hd hg h ih =>
    refine along_cons ⟨i, o, true, st, { e with sv := .kb g }, logOf P Γ ops i st o⟩ rfl rfl (fun s => ?_) (fun id => ?_) ?_ h ih
    · rw [he]; exact know_f hd ⟨i, o, true, st, { e with sv := .kb g }, logOf P Γ ops i st o⟩ rfl rfl s
    · rw [he]; exact know_h ⟨i, o, true, st, { e with sv := .kb g }, logOf P Γ ops i st o⟩ rfl rfl id
    · rw [he]; rfl

/-- What a step is. -/
def StepIs (P : Program) (Γ : Ctx) (ops : Array Oper) (p : PS) : Prop :=
  (wantB ops p.st p.o = some false ∧ p.e = { sv := .undef } ∧ (p.st.skip p.o.dst).ok = true ∧ p.log = skipLog ops p.i p.o) ∨
  (wantB ops p.st p.o = some true ∧ ∃ e s r, (evalOp P Γ p.o).run p.st.get p.st.obj = some (e, s, r) ∧ (p.st.apply p.o.dst e).ok = true ∧ p.log = logOf P Γ ops p.i p.st p.o ∧
    (p.e = e ∨ ∃ d g, p.o.dst = some d ∧ e.sv = .bool g ∧ p.e = { e with sv := .kb g }))

theorem path_steps {rest : List Oper} {i : Nat} {st : St} {l : List PS} {fin : St} (h : Path P Γ ops gs rest i st l fin) : ∀ p ∈ l, StepIs P Γ ops p := by
  induction h with
  | nil => simp
  | skip o rest i st l fin hw hok h ih =>
    intro p hp
    rcases List.mem_cons.1 hp with rfl | hp
    · exact .inl ⟨hw, rfl, hok, rfl⟩
    · exact ih p hp
  | op o rest i st l fin e hw hok he hr h ih =>
    intro p hp
    rcases List.mem_cons.1 hp with rfl | hp
    · obtain ⟨s, r, hr⟩ := hr
      exact .inr ⟨hw, e, s, r, hr, by rw [← he]; exact hok, rfl, .inl rfl⟩
    · exact ih p hp
  | opk o rest i st l fin e s g hw hok he hr hd hg h ih =>
    intro p hp
    rcases List.mem_cons.1 hp with rfl | hp
    · obtain ⟨s', r, hr⟩ := hr
      exact .inr ⟨hw, e, s', r, hr, by rw [← he]; exact hok, rfl, .inr ⟨s, g, hd, hg, rfl⟩⟩
    · exact ih p hp

end

end Go.Proofs.Ytklbgnodgnlebaa.Vm

/- The value machine: a region whose order is drawn ends, whatever the order, as in the order of its text. Conditions: the contracts of the context hold; what may not be exchanged is ordered by the region's edges. -/
set_option linter.unusedVariables false
set_option linter.unusedSimpArgs false
namespace Go.Proofs.Ytklbgnodgnlebaa.Vm

section
variable {P : Program} {Γ : Ctx} {w0 : World} {S : Own} {ops : Array Oper} {gs : List Nat}

/-! ### The order that the edges force -/

theorem mem_unionN {i : Nat} : ∀ {l m : List Nat}, i ∈ unionN l m → i ∈ l ∨ i ∈ m
  | [], m, h => .inr h
  | k :: l, m, h => by
    simp only [unionN] at h
    cases hk : memN k m
    · simp only [hk, cond_false, List.mem_cons] at h
      rcases h with rfl | h
      · exact .inl (List.mem_cons_self ..)
      · exact (mem_unionN h).imp (List.mem_cons_of_mem _) id
    · simp only [hk, cond_true] at h
      exact (mem_unionN h).imp (List.mem_cons_of_mem _) id

def GoodK (ops : Array Oper) (L : Nat → Bool) (k : Nat) : Prop := ∀ o, ops[k]? = some o → ∀ e ∈ o.after, Region.binds .any e = true → L e.on = true

theorem foldr_anc {acc : List (List Nat)} {j : Nat} : ∀ (l : List Edge), j ∈ l.foldr (fun e r => bif Region.binds .any e then unionN (unionN [e.on] (acc.getD e.on [])) r else r) [] →
    ∃ e ∈ l, Region.binds .any e = true ∧ (j = e.on ∨ j ∈ acc.getD e.on [])
  | [], h => by simp at h
  | e :: l, h => by
    simp only [List.foldr_cons] at h
    cases hb : Region.binds .any e
    · simp only [hb, cond_false] at h
      obtain ⟨x, hx, h1⟩ := foldr_anc l h
      exact ⟨x, List.mem_cons_of_mem _ hx, h1⟩
    · simp only [hb, cond_true] at h
      rcases mem_unionN h with h | h
      · refine ⟨e, List.mem_cons_self .., hb, ?_⟩
        rcases mem_unionN h with h | h
        · exact .inl (by simpa using h)
        · exact .inr h
      · obtain ⟨x, hx, h1⟩ := foldr_anc l h
        exact ⟨x, List.mem_cons_of_mem _ hx, h1⟩

theorem ancs_spec {L : Nat → Bool} (hcl : ∀ k, L k = true → GoodK ops L k) : ∀ (l : List Oper) (acc : List (List Nat)) (pre : List Oper), ops.toList = pre ++ l → acc.length = pre.length →
    (∀ k j, GoodK ops L k → j ∈ acc.getD k [] → L j = true) → ∀ k j, GoodK ops L k → j ∈ (ancs l acc).getD k [] → L j = true
  | [], acc, pre, _, _, h => by simpa [ancs] using h
  | o :: l, acc, pre, hops, hlen, h => by
    rw [ancs]
    refine ancs_spec hcl l _ (pre ++ [o]) (by simp [hops]) (by simp [hlen]) ?_
    intro k j hk hj
    rcases Nat.lt_trichotomy k acc.length with hlt | heq | hgt
    · refine h k j hk ?_
      rw [List.getD_eq_getElem?_getD, List.getElem?_append_left hlt] at hj
      rwa [List.getD_eq_getElem?_getD]
    · subst heq
      rw [List.getD_eq_getElem?_getD, List.getElem?_append_right (Nat.le_refl _)] at hj
      simp only [Nat.sub_self, List.getElem?_cons_zero, Option.getD_some] at hj
      obtain ⟨e, he, hb, hj⟩ := foldr_anc _ hj
      have ho : ops[acc.length]? = some o := by
        rw [← Array.getElem?_toList, hops, hlen]
        simp
      have hL := hk o ho e (by simpa using he) hb
      rcases hj with rfl | hj
      · exact hL
      · exact h e.on j (hcl _ hL) hj
    · rw [List.getD_eq_getElem?_getD, List.getElem?_eq_none (by simp; omega)] at hj
      simp at hj

theorem edgesOk_spec : ∀ (l : List Oper) (i : Nat), edgesOk l i = true → ∀ k o, l[k]? = some o → ∀ e ∈ o.after, Region.binds .any e = true → e.on < i + k
  | [], _, _, k, o, h, _, _, _ => by simp at h
  | x :: l, i, h, k, o, hk, e, he, hb => by
    simp only [edgesOk, Bool.and_eq_true, List.all_eq_true] at h
    cases k with
    | zero =>
      simp only [List.getElem?_cons_zero, Option.some.injEq] at hk
      subst hk
      have := h.1 e (by simpa using he)
      rw [hb] at this
      simp only [Bool.not_true, Bool.false_or] at this
      exact Nat.le_of_ble_eq_true this
    | succ k =>
      simp only [List.getElem?_cons_succ] at hk
      have := edgesOk_spec l (i + 1) h.2 k o hk e he hb
      omega

/-! ### Pairs -/

theorem pairsOk_spec {an : List (List Nat)} {a : OpLog} : ∀ (l : List OpLog), pairsOk an a l = true → ∀ b ∈ l, (clash a b = true → a.i ∈ an.getD b.i []) ∧ clash1 b a = false
  | [], _ => by simp
  | c :: l, h => by
    simp only [pairsOk, Bool.and_eq_true, Bool.not_eq_true'] at h
    intro b hb
    rcases List.mem_cons.1 hb with rfl | hb
    · refine ⟨fun hc => ?_, h.1.2⟩
      have := h.1.1
      rw [hc] at this
      simp only [Bool.not_true, Bool.false_or] at this
      exact memN_iff.1 this
    · exact pairsOk_spec l h.2 b hb

theorem allOk_spec {an : List (List Nat)} : ∀ (l : List OpLog), allOk an l = true → l.Pairwise (fun a b => (clash a b = true → a.i ∈ an.getD b.i []) ∧ clash1 b a = false)
  | [], _ => .nil
  | a :: l, h => by
    simp only [allOk, Bool.and_eq_true] at h
    exact .cons (pairsOk_spec l h.1) (allOk_spec l h.2)

theorem anyIn_of {l m : List Nat} {i : Nat} (h1 : i ∈ l) (h2 : i ∈ m) : anyIn l m = true := by
  induction m with
  | nil => simp at h2
  | cons k m ih =>
    simp only [anyIn, Bool.or_eq_true]
    rcases List.mem_cons.1 h2 with rfl | h2
    · exact .inl (memN_iff.2 h1)
    · exact .inr (ih h2)

theorem path_get {rest : List Oper} {st : St} {l : List PS} {fin : St} (h : Path P Γ ops gs rest 0 st l fin) {p : PS} (hp : p ∈ l) : l[p.i]? = some p ∧ rest[p.i]? = some p.o ∧ p.i < rest.length := by
  obtain ⟨k, hk, rfl⟩ := List.getElem_of_mem hp
  have h1 := (path_index h).1
  have h2 := (path_index h).2.1
  have hl : l.length = rest.length := by rw [← h2]; simp
  have e : l[k].i = k := by
    have : (l.map (·.i))[k]? = (List.range' 0 rest.length)[k]? := by rw [h1]
    rw [List.getElem?_map, List.getElem?_eq_getElem hk, List.getElem?_range' (by omega)] at this
    simpa using this
  rw [e]
  refine ⟨List.getElem?_eq_getElem hk, ?_, by omega⟩
  rw [← h2, List.getElem?_map, List.getElem?_eq_getElem hk]
  rfl

theorem path_pair {rest : List Oper} {st : St} {l : List PS} {fin : St} {an : List (List Nat)} (h : Path P Γ ops gs rest 0 st l fin) (hall : allOk an (l.map (·.log)) = true) {p q : PS} (hp : p ∈ l) (hq : q ∈ l) (hlt : p.i < q.i) :
    (clash p.log q.log = true → p.i ∈ an.getD q.i []) ∧ clash1 q.log p.log = false := by
  have hpw := List.pairwise_map.1 (allOk_spec _ hall)
  have gp := (path_get h hp).1
  have gq := (path_get h hq).1
  rw [List.pairwise_iff_getElem] at hpw
  have lp := (List.getElem?_eq_some_iff.1 gp).1
  have lq := (List.getElem?_eq_some_iff.1 gq).1
  have := hpw p.i q.i lp lq hlt
  rw [(List.getElem?_eq_some_iff.1 gp).2, (List.getElem?_eq_some_iff.1 gq).2] at this
  have ei := ((path_index h).2.2 p hp).1
  have ej := ((path_index h).2.2 q hq).1
  rw [ei, ej] at this
  exact this

/-! ### What a step reads, turns, names -/

theorem log_wo {p : PS} (hs : StepIs P Γ ops p) {id : Nat} (ht : p.tH id) : id ∈ p.log.wo := by
  rcases hs with ⟨_, he, _, _⟩ | ⟨_, e, s, r, hr, _, hl, he⟩
  · rw [PS.tH, he] at ht
    simp at ht
  · rw [hl]
    simp only [logOf, hr]
    have h1 : p.e.ow = e.ow ∧ p.e.cw = e.cw := by
      rcases he with rfl | ⟨d, g, _, _, he⟩
      · exact ⟨rfl, rfl⟩
      · rw [he]; exact ⟨rfl, rfl⟩
    rw [PS.tH, h1.1, h1.2] at ht
    rcases ht with ht | ⟨off, svs, hc⟩
    · exact List.mem_append_right _ ht
    · rw [hc]
      exact List.mem_append_left _ (List.mem_singleton.2 rfl)

theorem log_sv {p : PS} (hs : StepIs P Γ ops p) {j : Nat} (hj : j ∈ svIds p.e.sv) : j ∈ p.log.m := by
  rcases hs with ⟨_, he, _, _⟩ | ⟨_, e, s, r, hr, _, hl, he⟩
  · rw [he] at hj
    simp [svIds] at hj
  · rw [hl]
    simp only [logOf, hr]
    rcases he with rfl | ⟨d, g, _, _, he⟩
    · exact List.mem_append_left _ hj
    · rw [he] at hj
      simp [svIds] at hj

theorem lkW_mem {ow : List (Nat × Option VObj)} {id : Nat} {x : Option VObj} (h : lkW ow id = some x) : (id, x) ∈ ow := by
  induction ow with
  | nil => simp [lkW] at h
  | cons y l ih =>
    obtain ⟨i, ob⟩ := y
    simp only [lkW] at h
    split at h
    · rename_i hi
      subst hi
      simp only [Option.some.injEq] at h
      subst h
      exact List.mem_cons_self ..
    · exact List.mem_cons_of_mem _ (ih h)

theorem log_ow {p : PS} (hs : StepIs P Γ ops p) {id : Nat} {ob : VObj} (hj : (id, some ob) ∈ p.e.ow) : id ∈ p.log.m ∧ ∀ j ∈ objIds ob, j ∈ p.log.m := by
  rcases hs with ⟨_, he, _, _⟩ | ⟨_, e, s, r, hr, _, hl, he⟩
  · rw [he] at hj
    simp at hj
  · rw [hl]
    simp only [logOf, hr]
    have h1 : p.e.ow = e.ow := by
      rcases he with rfl | ⟨d, g, _, _, he⟩
      · rfl
      · rw [he]
    rw [h1] at hj
    unfold effIds
    constructor
    · exact List.mem_append_right _ (List.mem_append_right _ (List.mem_flatMap.2 ⟨_, hj, List.mem_cons_self ..⟩))
    · intro j hj'
      exact List.mem_append_right _ (List.mem_append_right _ (List.mem_flatMap.2 ⟨_, hj, List.mem_cons_of_mem _ hj'⟩))

theorem log_cw {p : PS} (hs : StepIs P Γ ops p) {i off : Nat} {svs : List SV} (hc : p.e.cw = some (i, off, svs)) : ∀ j ∈ svIdsL svs, j ∈ p.log.m := by
  rcases hs with ⟨_, he, _, _⟩ | ⟨_, e, s, r, hr, _, hl, he⟩
  · rw [he] at hc
    simp at hc
  · rw [hl]
    simp only [logOf, hr]
    have h1 : p.e.cw = e.cw := by
      rcases he with rfl | ⟨d, g, _, _, he⟩
      · rfl
      · rw [he]
    rw [h1] at hc
    intro j hj
    unfold effIds
    refine List.mem_append_right _ (List.mem_append_left _ ?_)
    rw [hc]
    exact hj

theorem svIdsL_append (a b : List SV) : svIdsL (a ++ b) = svIdsL a ++ svIdsL b := by
  induction a with
  | nil => rfl
  | cons x a ih => simp [svIdsL, ih]

theorem svIdsL_take {a : List SV} {n j : Nat} (h : j ∈ svIdsL (a.take n)) : j ∈ svIdsL a := by
  have := List.take_append_drop n a
  rw [← this, svIdsL_append]
  exact List.mem_append_left _ h

theorem svIdsL_drop {a : List SV} {n j : Nat} (h : j ∈ svIdsL (a.drop n)) : j ∈ svIdsL a := by
  have := List.take_append_drop n a
  rw [← this, svIdsL_append]
  exact List.mem_append_right _ h

/-- Where a name comes from. -/
def Orig (ds : List Nat) (L : Nat → Bool) (l : List PS) (j : Nat) : Prop := j / 64 ∉ ds ∨ ∃ p ∈ l, L p.i = true ∧ j ∈ p.log.m

theorem foldF_orig {ds : List Nat} {L : Nat → Bool} {s : Nat} : ∀ (l l0 : List PS) (v : SV), (∀ p ∈ l, StepIs P Γ ops p) → (∀ p ∈ l, p ∈ l0) → (∀ j ∈ svIds v, Orig ds L l0 j) → ∀ j ∈ svIds (foldF L l s v), Orig ds L l0 j
  | [], _, v, _, _, hv => hv
  | p :: l, l0, v, hs, hsub, hv => by
    unfold foldF
    simp only [List.foldl_cons]
    refine foldF_orig l l0 _ (fun q hq => hs q (List.mem_cons_of_mem _ hq)) (fun q hq => hsub q (List.mem_cons_of_mem _ hq)) ?_
    intro j hj
    split at hj
    · rename_i hL
      unfold PS.f at hj
      split at hj
      · exact .inr ⟨p, hsub p (List.mem_cons_self ..), hL, log_sv (hs p (List.mem_cons_self ..)) hj⟩
      · exact hv j hj
    · exact hv j hj

def OrigO (ds : List Nat) (L : Nat → Bool) (l : List PS) (id : Nat) (o : Option VObj) : Prop := ∀ ob, o = some ob → Orig ds L l id ∧ ∀ j ∈ objIds ob, Orig ds L l j

theorem foldH_orig {ds : List Nat} {L : Nat → Bool} {id : Nat} : ∀ (l l0 : List PS) (v : Option VObj), (∀ p ∈ l, StepIs P Γ ops p) → (∀ p ∈ l, p ∈ l0) → OrigO ds L l0 id v → OrigO ds L l0 id (foldH L l id v)
  | [], _, v, _, _, hv => hv
  | p :: l, l0, v, hs, hsub, hv => by
    unfold foldH
    simp only [List.foldl_cons]
    refine foldH_orig l l0 _ (fun q hq => hs q (List.mem_cons_of_mem _ hq)) (fun q hq => hsub q (List.mem_cons_of_mem _ hq)) ?_
    split
    · rename_i hL
      have hsp := hs p (List.mem_cons_self ..)
      have hmem := hsub p (List.mem_cons_self ..)
      unfold PS.h
      split
      · rename_i x hx
        rintro ob rfl
        have := log_ow hsp (lkW_mem hx)
        exact ⟨.inr ⟨p, hmem, hL, this.1⟩, fun j hj => .inr ⟨p, hmem, hL, this.2 j hj⟩⟩
      · unfold cwAt
        split
        · rename_i i off svs hcw
          split
          · split
            · rename_i t cells
              rintro ob hob
              simp only [Option.some.injEq] at hob
              subst hob
              have h0 := hv _ rfl
              refine ⟨h0.1, fun j hj => ?_⟩
              simp only [objIds, writeCells, svIdsL_append, List.mem_append] at hj
              rcases hj with hj | hj | hj
              · exact h0.2 j (svIdsL_take hj)
              · exact .inr ⟨p, hmem, hL, log_cw hsp hcw j hj⟩
              · exact h0.2 j (svIdsL_drop hj)
            · exact hv
          · exact hv
        · exact hv
    · exact hv

/-! ### Clashes -/

theorem clash_ds {a b : OpLog} {s : Nat} (ha : a.d = some s) (hb : s ∈ b.rs) : clash a b = true := by
  have : anyIn (optN a.d) (b.rs ++ optN b.d) = true := anyIn_of (i := s) (by simp [ha, optN]) (List.mem_append_left _ hb)
  simp [clash, this]
theorem clash_dd {a b : OpLog} {s : Nat} (ha : a.d = some s) (hb : b.d = some s) : clash a b = true := by
  have : anyIn (optN a.d) (b.rs ++ optN b.d) = true := anyIn_of (i := s) (by simp [ha, optN]) (List.mem_append_right _ (by simp [hb, optN]))
  simp [clash, this]
theorem clash_sd {a b : OpLog} {s : Nat} (ha : s ∈ a.rs) (hb : b.d = some s) : clash a b = true := by
  have : anyIn a.rs (optN b.d) = true := anyIn_of (i := s) ha (by simp [hb, optN])
  simp [clash, this]
theorem clash_ww {a b : OpLog} {s : Nat} (ha : s ∈ a.wo) (hb : s ∈ b.wo) : clash a b = true := by
  have : anyIn a.wo (b.ro ++ b.wo) = true := anyIn_of (i := s) ha (List.mem_append_right _ hb)
  simp [clash, this]
theorem clash_wr {a b : OpLog} {s : Nat} (ha : s ∈ a.wo) (hb : s ∈ b.ro) : clash a b = true := by
  have : anyIn a.wo (b.ro ++ b.wo) = true := anyIn_of (i := s) ha (List.mem_append_left _ hb)
  simp [clash, this]
theorem clash_rw {a b : OpLog} {s : Nat} (ha : s ∈ a.ro) (hb : s ∈ b.wo) : clash a b = true := by
  have : anyIn a.ro b.wo = true := anyIn_of (i := s) ha hb
  simp [clash, this]
theorem clash_dm {a b : OpLog} {j : Nat} (ha : a.d = some (j / 64)) (hb : j ∈ b.m) : clash a b = true := by
  have : (b.m.any fun i => Nat.beq (i / 64) (j / 64)) = true := by
    simp only [List.any_eq_true]
    exact ⟨j, hb, Nat.beq_refl _⟩
  unfold clash
  rw [ha]
  simp only [this, Bool.or_true]
theorem clash1_dm {a b : OpLog} {j : Nat} (ha : b.d = some (j / 64)) (hb : j ∈ a.m) : clash1 b a = true := by
  unfold clash1
  rw [ha]
  simp only [List.any_eq_true]
  exact ⟨j, hb, Nat.beq_refl _⟩

/-! ### Counting -/

theorem countP_lt {p q : Nat → Bool} : ∀ (l : List Nat), (∀ k ∈ l, q k = true → p k = true) → (∃ k ∈ l, p k = true ∧ q k = false) → l.countP q < l.countP p
  | [], _, h => by simp at h
  | x :: l, h, ⟨k, hk, hp, hq⟩ => by
    have hle : l.countP q ≤ l.countP p := List.countP_mono_left (fun y hy hqy => h y (List.mem_cons_of_mem _ hy) hqy)
    simp only [List.countP_cons]
    rcases List.mem_cons.1 hk with rfl | hk
    · rw [hp, hq]
      simp
      omega
    · have := countP_lt l (fun y hy => h y (List.mem_cons_of_mem _ hy)) ⟨k, hk, hp, hq⟩
      have hx := h x (List.mem_cons_self ..)
      cases hqx : q x
      · simp; omega
      · rw [hx hqx]; simp; omega

def unl (ops : Array Oper) (listed : Array Bool) : Nat := (List.range ops.size).countP fun k => !(listed.getD k true)

/-! ### The state behind a set of steps -/

def Cur (w0 : World) (S : Own) (st : St) (l : List PS) (L : Nat → Bool) (a : Act) (w : World) : Prop :=
  ∃ stS : St, Rel w0 S stS a w ∧ stS.n = st.n ∧ (∀ s, stS.get s = foldF L l s (st.get s)) ∧ ∀ id, stS.obj id = foldH L l id (st.obj id)

theorem fold_here {α : Type} {step : PS → α → α} {T : PS → Prop} (hid : ∀ p v, ¬ T p → step p v = v) {L : Nat → Bool} {l : List PS} {p : PS} (v : α)
    (h1 : ∀ q ∈ l, T q → q.i < p.i → L q.i = true) (h2 : ∀ q ∈ l, T q → p.i < q.i → L q.i = false) (h3 : L p.i = false) :
    l.foldl (fun v q => if L q.i then step q v else v) v = l.foldl (fun v q => if decide (q.i < p.i) then step q v else v) v := by
  refine fold_congr step T hid (L := L) (L' := fun k => decide (k < p.i)) l v (fun q hq ht => ?_)
  rcases Nat.lt_trichotomy q.i p.i with hlt | heq | hgt
  · rw [h1 q hq ht hlt]; simp [hlt]
  · rw [heq, h3]; simp
  · rw [h2 q hq ht hgt]; simp; omega

theorem mem_dsts {o : Oper} {d : Nat} : ∀ {l : List Oper}, o ∈ l → o.dst = some d → d ∈ dsts l
  | [], hm, _ => by simp at hm
  | x :: r, hm, hdd => by
    simp only [dsts]
    rcases List.mem_cons.1 hm with rfl | hm
    · rw [hdd]; exact List.mem_cons_self ..
    · split
      · exact List.mem_cons_of_mem _ (mem_dsts hm hdd)
      · exact mem_dsts hm hdd

theorem one_step (hΓ : CtxHolds P Γ) {st : St} {l : List PS} {fin : St} (hpath : Path P Γ ops gs ops.toList 0 st l fin) (hall : allOk (ancs ops.toList []) (l.map (·.log)) = true)
    (hfr : freshFor (dsts ops.toList) st = true) {L : Nat → Bool} (hcl : ∀ k, L k = true → GoodK ops L k) {p : PS} (hp : p ∈ l) (hg : GoodK ops L p.i) (hL : L p.i = false)
    {Q : Exit → Act → World → Prop} {a : Act} {w : World} (hcur : Cur w0 S st l L a w) {K : Act → World → Prop} (hK : ∀ a' w', Cur w0 S st l (fun k => L k || k == p.i) a' w' → K a' w') : wpOp P ops Q p.i K a w := by
  obtain ⟨stS, hR, hn, hget, hobj⟩ := hcur
  have hsteps := path_steps hpath
  have hstates := path_states hpath
  have hsp := hsteps p hp
  have hanc := ancs_spec hcl ops.toList [] [] rfl rfl (by simp)
  have hd : ∀ q ∈ l, q.log.d = q.o.dst := fun q hq => ((path_index hpath).2.2 q hq).2
  have hA : ∀ q ∈ l, q.i < p.i → clash q.log p.log = true → L q.i = true := fun q hq hlt hc => hanc p.i q.i hg ((path_pair hpath hall hq hp hlt).1 hc)
  have hB : ∀ q ∈ l, p.i < q.i → clash p.log q.log = true → L q.i = false := by
    intro q hq hlt hc
    cases hLq : L q.i
    · rfl
    · have := hanc q.i p.i (hcl _ hLq) ((path_pair hpath hall hp hq hlt).1 hc)
      rw [hL] at this
      cases this
  obtain ⟨hg1, hg2, hg3⟩ := hstates.1 p hp
  have hslot : ∀ s ∈ p.log.rs, stS.get s = p.st.get s := by
    intro s hs
    rw [hget s, hg1 s]
    refine fold_here (step := fun q v => PS.f q s v) (T := fun q => q.tF s) (fun q v h => PS.f_id h v) _ (fun q hq ht hlt => hA q hq hlt (clash_ds ((hd q hq).trans ht) hs)) (fun q hq ht hlt => hB q hq hlt (clash_sd hs ((hd q hq).trans ht))) hL
  have hob : ∀ id ∈ p.log.ro, stS.obj id = p.st.obj id := by
    intro id hs
    rw [hobj id, hg2 id]
    refine fold_here (step := fun q v => PS.h q id v) (T := fun q => q.tH id) (fun q v h => PS.h_id h v) _ (fun q hq ht hlt => hA q hq hlt (clash_wr (log_wo (hsteps q hq) ht) hs)) (fun q hq ht hlt => hB q hq hlt (clash_rw hs (log_wo (hsteps q hq) ht))) hL
  have hnd : (l.map (·.i)).Nodup := by
    rw [(path_index hpath).1]
    exact List.nodup_range'
  have hpw : l.Pairwise (fun a b => a.i < b.i) := by
    have := List.pairwise_lt_range' (s := 0) (n := ops.toList.length)
    rw [← (path_index hpath).1] at this
    exact List.pairwise_map.1 this
  have insF : ∀ s, foldF (fun k => L k || k == p.i) l s (st.get s) = p.f s (stS.get s) := by
    intro s
    rw [hget s]
    exact fold_insert (fun q v => PS.f q s v) (fun q => q.tF s) (fun q v h => PS.f_id h v) (L := L) (q := p) l (st.get s) hp hnd hL hpw (fun q hq hlt h1 h2 => hB q hq hlt (clash_dd ((hd p hp).trans h1) ((hd q hq).trans h2)))
  have insH : ∀ id, foldH (fun k => L k || k == p.i) l id (st.obj id) = p.h id (stS.obj id) := by
    intro id
    rw [hobj id]
    exact fold_insert (fun q v => PS.h q id v) (fun q => q.tH id) (fun q v h => PS.h_id h v) (L := L) (q := p) l (st.obj id) hp hnd hL hpw (fun q hq hlt h1 h2 => hB q hq hlt (clash_ww (log_wo hsp h1) (log_wo (hsteps q hq) h2)))
  have hopi : ops[p.i]? = some p.o := by
    rw [← Array.getElem?_toList]
    exact (path_get hpath hp).2.1
  have hds : ∀ d, p.o.dst = some d → d ∈ dsts ops.toList := by
    intro d hdd
    have hm : p.o ∈ ops.toList := List.mem_of_getElem? (path_get hpath hp).2.1
    exact mem_dsts hm hdd
  have hguard : guardSlot ops p.o ⊆ p.log.rs := by
    rcases hsp with ⟨_, _, _, hl⟩ | ⟨_, e, s, r, hr, _, hl, _⟩
    · rw [hl]; exact fun _ h => h
    · rw [hl]; simp only [logOf, hr]; exact fun _ h => List.mem_append_left _ h
  have hwant : wantB ops stS p.o = wantB ops p.st p.o := by
    unfold wantB
    split
    · rfl
    · rename_i j want hgd
      split
      · rfl
      · rename_i s hs
        rw [hslot s (hguard (by unfold guardSlot; simp [hgd, hs, optN]))]
  unfold wpOp
  rw [hopi]
  simp only
  have hw : wantB ops stS p.o = some true ∨ wantB ops stS p.o = some false := by
    rw [hwant]
    rcases hsp with ⟨h, _⟩ | ⟨h, _⟩
    · exact .inr h
    · exact .inl h
  rcases hsp with ⟨hw0, he, hok, hl⟩ | ⟨hw0, e, s, r, hr, hok, hl, he⟩
  · rw [← hwant] at hw0
    rw [if_neg (by rw [wanted_of hR hw0]; simp)]
    refine hK _ _ ⟨stS.skip p.o.dst, ?_, hn, fun s => ?_, fun id => ?_⟩
    · have hok' : ∀ d, p.o.dst = some d → DstOk stS.n d := by
        intro d hdd
        simp only [St.skip, St.apply, andt_eq] at hok
        have := hok.2
        rw [hdd] at this
        have := dstB_ok this
        rw [hn, ← hg3]
        exact this
      obtain ⟨β, φ, hc⟩ := hR.core
      exact rel_put (e := { sv := .undef }) hR hok' hR.kept ⟨β, φ, hc, by simp [SVR]⟩
    · rw [insF s]
      unfold St.skip
      rw [← he]
      exact (apply_f stS p s)
    · rw [insH id]
      unfold St.skip
      rw [← he]
      exact (apply_h stS p id)
  · rw [← hwant] at hw0
    rw [if_pos (wanted_of hR hw0)]
    refine .inl ?_
    have hrs : ∀ k ∈ s, stS.get k = p.st.get k := fun k hk => hslot k (by rw [hl]; simp only [logOf, hr]; exact List.mem_append_right _ hk)
    have hro : ∀ k ∈ r, stS.obj k = p.st.obj k := fun k hk => hob k (by rw [hl]; simp only [logOf, hr]; exact List.mem_append_right _ hk)
    have hrun := M.run_congr (evalOp P Γ p.o) hr hrs hro
    simp only [St.apply, andt_eq] at hok
    have hgood := op_sound hΓ hR (M.val_of_run _ hrun) hok.1.2 (fun d hdd => by
        have := hok.2
        rw [hdd] at this
        have := dstB_ok this
        rw [hn, ← hg3]
        exact this) (fun _ d hdd => ?_) Q
    · refine Oper.wp_mono ?_ hgood
      rintro a' w' ⟨v, rfl, hR'⟩
      rcases he with he | ⟨d, g, hdd, hsv, he⟩
      · refine hK _ _ ⟨stS.apply p.o.dst e, hR', hn, fun s => ?_, fun id => ?_⟩
        · rw [insF s, ← he]; exact apply_f stS p s
        · rw [insH id, ← he]; exact apply_h stS p id
      · have hb : (stS.apply p.o.dst e).get d = .bool g := by
          rw [hdd, apply_get, hsv]
          simp [upd]
        have hslot' := hR'.slot_bool hb
        refine hK _ _ ⟨(stS.apply p.o.dst e).reset.know d g, hR'.reset.know hslot', hn, fun s => ?_, fun id => ?_⟩
        · rw [insF s]; exact know_f hdd p rfl he s
        · rw [insH id]; exact know_h p rfl he id
    · have key : ∀ j, Orig (dsts ops.toList) L l j → j / 64 ≠ d := by
        rintro j (hj | ⟨q, hq, hLq, hj⟩) rfl
        · exact hj (hds _ hdd)
        · rcases Nat.lt_trichotomy q.i p.i with hlt | heq | hgt
          · have := (path_pair hpath hall hq hp hlt).2
            rw [clash1_dm ((hd p hp).trans hdd) hj] at this
            cases this
          · rw [heq, hL] at hLq
            cases hLq
          · have := hB q hq hgt (clash_dm ((hd p hp).trans hdd) hj)
            rw [this] at hLq
            cases hLq
      have hf0 := fun d' hd' => fresh_of hfr d' hd'
      constructor
      · intro i j hj
        rw [hget i] at hj
        refine key j (foldF_orig l l _ hsteps (fun _ h => h) (fun k hk => .inl (fun hm => ?_)) j hj)
        exact (hf0 _ hm).slot i k hk rfl
      · intro j ob hjo
        rw [hobj j] at hjo
        have h0 : OrigO (dsts ops.toList) L l j (st.obj j) := by
          intro ob' hob'
          refine ⟨.inl (fun hm => ((hf0 _ hm).obj j ob' hob').1 rfl), fun k hk => .inl (fun hm => ((hf0 _ hm).obj j ob' hob').2 k hk rfl)⟩
        have := foldH_orig l l _ hsteps (fun _ h => h) h0 ob hjo
        exact ⟨key j this.1, fun k hk => key k (this.2 k hk)⟩

theorem wpAny_drawn (hΓ : CtxHolds P Γ) {st : St} {l : List PS} {fin : St} (hpath : Path P Γ ops gs ops.toList 0 st l fin) (hall : allOk (ancs ops.toList []) (l.map (·.log)) = true)
    (hfr : freshFor (dsts ops.toList) st = true) (hed : edgesOk ops.toList 0 = true) {Q : Exit → Act → World → Prop} (hQ : ∀ a w, Rel w0 S fin a w → Q .normal a w) :
    ∀ (fuel : Nat) (listed : Array Bool) (a : Act) (w : World), listed.size = ops.size → (∀ k, listed.getD k false = true → GoodK ops (fun k => listed.getD k false) k) → unl ops listed ≤ fuel →
      Cur w0 S st l (fun k => listed.getD k false) a w → wpAny P .any ops Q fuel listed a w := by
  have hstates := path_states hpath
  have hlen : l.length = ops.size := by
    have : (l.map (·.o)).length = ops.toList.length := by rw [(path_index hpath).2.1]
    simpa using this
  have done : ∀ (listed : Array Bool) (a : Act) (w : World), listed.size = ops.size → Region.ready .any ops listed = [] → Cur w0 S st l (fun k => listed.getD k false) a w → Q .normal a w := by
    intro listed a w hsz hr ⟨stS, hR, hn, hget, hobj⟩
    have hall' : ∀ k, k < ops.size → listed.getD k false = true := by
      intro k
      induction k using Nat.strongRecOn with
      | ind k ih =>
        intro hk
        cases hLk : listed.getD k false
        · have : k ∈ Region.ready .any ops listed := by
            rw [mem_ready]
            refine ⟨?_, ops[k], Array.getElem?_eq_getElem hk, fun e he hb => ?_⟩
            · rw [← hLk]
              simp only [Array.getD_eq_getD_getElem?, Array.getElem?_eq_getElem (show k < listed.size by omega), Option.getD_some]
            · have := edgesOk_spec ops.toList 0 hed k ops[k] (by simp [Array.getElem?_toList, hk]) e he hb
              exact ih e.on (by omega) (by omega)
          rw [hr] at this
          cases this
        · rfl
    refine hQ a w ?_
    have hLl : ∀ q ∈ l, listed.getD q.i false = true := by
      intro q hq
      have := (path_get hpath hq).2.2
      exact hall' q.i (by simpa using this)
    have e1 : stS.get = fin.get := by
      funext s
      rw [hget s, hstates.2.1 s]
      exact fold_congr (fun q v => PS.f q s v) (fun _ => True) (fun _ _ h => absurd trivial h) (L := fun k => listed.getD k false) (L' := fun _ => true) l _ (fun q hq _ => hLl q hq)
    have e2 : stS.obj = fin.obj := by
      funext s
      rw [hobj s, hstates.2.2.1 s]
      exact fold_congr (fun q v => PS.h q s v) (fun _ => True) (fun _ _ h => absurd trivial h) (L := fun k => listed.getD k false) (L' := fun _ => true) l _ (fun q hq _ => hLl q hq)
    obtain ⟨β, φ, hc⟩ := hR.core
    refine ⟨?_, fun x hx => by rw [hstates.2.2.2, ← hn]; exact hR.fx x hx, hR.defers, hR.kept, β, φ, ?_⟩
    · rw [hR.size, hn, hstates.2.2.2]
    · rw [← e1, ← e2]; exact hc
  intro fuel
  induction fuel with
  | zero =>
    intro listed a w hsz hcl hun hcur
    have hr : Region.ready .any ops listed = [] := by
      cases hrr : Region.ready .any ops listed with
      | nil => rfl
      | cons x xs =>
        have hx : x ∈ Region.ready .any ops listed := by rw [hrr]; exact List.mem_cons_self ..
        obtain ⟨h1, o, ho, _⟩ := mem_ready.1 hx
        have hlt := (Array.getElem?_eq_some_iff.1 ho).1
        have : 0 < unl ops listed := by
          unfold unl
          rw [List.countP_pos_iff]
          exact ⟨x, List.mem_range.2 hlt, by simp only [h1]; rfl⟩
        omega
    exact ⟨hr, done listed a w hsz hr hcur⟩
  | succ fuel ih =>
    intro listed a w hsz hcl hun hcur
    refine ⟨fun hr => done listed a w hsz hr hcur, fun i hi => ?_⟩
    obtain ⟨h1, o, ho, hed'⟩ := mem_ready.1 hi
    have hlt := (Array.getElem?_eq_some_iff.1 ho).1
    have hil : i < l.length := by omega
    have hpi : l[i].i = i := by
      have : (l.map (·.i))[i]? = (List.range' 0 ops.toList.length)[i]? := by rw [(path_index hpath).1]
      rw [List.getElem?_map, List.getElem?_eq_getElem hil, List.getElem?_range' (by simpa using hlt)] at this
      simpa using this
    have hset : ∀ k, (listed.setIfInBounds i true).getD k false = (listed.getD k false || k == i) := by
      intro k
      simp only [Array.getD_eq_getD_getElem?, Array.getElem?_setIfInBounds]
      by_cases hk : i = k
      · subst hk
        simp [show i < listed.size by omega]
      · have : (k == i) = false := by simpa using fun h => hk h.symm
        simp [hk, this]
    have hLi : listed.getD i false = false := by
      rw [← h1]
      simp only [Array.getD_eq_getD_getElem?, Array.getElem?_eq_getElem (show i < listed.size by omega), Option.getD_some]
    have hgi : GoodK ops (fun k => listed.getD k false) i := by
      intro o' ho' e he hb
      rw [ho] at ho'
      injection ho' with ho'
      subst ho'
      exact hed' e he hb
    have := one_step (w0 := w0) (S := S) (Q := Q) hΓ hpath hall hfr hcl (p := l[i]) (List.getElem_mem hil) (by rw [hpi]; exact hgi) (by rw [hpi]; exact hLi) hcur
      (K := wpAny P .any ops Q fuel (listed.setIfInBounds i true)) (fun a' w' hc => ?_)
    · rw [hpi] at this
      exact this
    · refine ih _ a' w' (by simpa using hsz) (fun k hk => ?_) ?_ ?_
      · intro o' ho' e he hb
        show (listed.setIfInBounds i true).getD e.on false = true
        rw [hset] at hk ⊢
        simp only [Bool.or_eq_true, beq_iff_eq] at hk ⊢
        rcases hk with hk | rfl
        · exact .inl (hcl k hk o' ho' e he hb)
        · exact .inl (hgi o' ho' e he hb)
      · have : unl ops (listed.setIfInBounds i true) < unl ops listed := by
          unfold unl
          refine countP_lt _ (fun k hk hq => ?_) ⟨i, List.mem_range.2 hlt, by simp only [h1]; rfl, ?_⟩
          · simp only [Bool.not_eq_true', Array.getD_eq_getD_getElem?, Array.getElem?_setIfInBounds] at hq ⊢
            split at hq
            · split at hq <;> simp at hq
            · exact hq
          · simp [Array.getElem?_setIfInBounds, show i < listed.size by omega]
        omega
      · have e : (fun k => (listed.setIfInBounds i true).getD k false) = (fun k => listed.getD k false || k == i) := funext hset
        rw [e]
        rw [hpi] at hc
        exact hc

theorem Rel.drew {st : St} {a : Act} {w : World} (hR : Rel w0 S st a w) : Rel w0 S st a { w with drawn := w.drawn + 1 } := by
  obtain ⟨β, φ, hc⟩ := hR.core
  refine ⟨hR.size, hR.fx, hR.defers, ⟨hR.kept.os, hR.kept.tape, hR.kept.output, hR.kept.size, hR.kept.block⟩, β, φ, ?_⟩
  exact hc.step (h' := st.obj) (β' := β) (φ' := φ) (w' := { w with drawn := w.drawn + 1 }) (fun _ => False) (Nat.le_refl _) (fun _ _ _ => rfl) (fun b hb => .inl hb) (fun _ _ _ h => h) (fun _ _ => ⟨rfl, rfl⟩)
    (fun id o ho => .inl ⟨fun h => h, ho, rfl, fun _ _ h => h, fun _ _ => rfl⟩) hc.sep

theorem region_sound (hΓ : CtxHolds P Γ) {st : St} {a : Act} {w : World} {id : Nat} {draw : Bool} {Q : Exit → Act → World → Prop} (hR : Rel w0 S st a w) (h : (execRegion P Γ ops draw st).ok = true)
    (hQ : ∀ a' w', Rel w0 S (execRegion P Γ ops draw st) a' w' → Q .normal a' w') : (Code.region id ops draw).wp P Q a w := by
  cases draw with
  | false => exact region_seq hΓ hR h hQ
  | true =>
    unfold execRegion at h hQ
    simp only [cond_true] at h hQ
    cases hf : freshFor (dsts ops.toList) st && edgesOk ops.toList 0 && P.follows .mixedOrders
    · simp [hf, fail_ok] at h
    · simp only [hf, cond_true] at h hQ
      simp only [Bool.and_eq_true] at hf
      obtain ⟨l, fin, hpath, _, hchk, hrel⟩ := execOps_path _ _ _ _ h
      refine wp_region_any hf.2 (wpAny_drawn hΓ hpath (by simpa using hchk) hf.1.1 hf.1.2 (fun a' w' hR' => hQ a' w' (hrel w0 S a' w' hR')) _ _ a _ (by simp) (fun k hk => ?_) ?_ ?_)
      · rw [Array.getD_eq_getD_getElem?, Array.getElem?_replicate] at hk
        split at hk <;> simp at hk
      · unfold unl
        have := List.countP_le_length (p := fun k => !((Array.replicate ops.size false).getD k true)) (l := List.range ops.size)
        simpa using this
      · refine ⟨st, hR.drew, rfl, fun s => ?_, fun o => ?_⟩
        · refine (fold_none (fun q v => PS.f q s v) (L := fun k => (Array.replicate ops.size false).getD k false) l (st.get s) (fun q _ => ?_)).symm
          rw [Array.getD_eq_getD_getElem?, Array.getElem?_replicate]
          split <;> rfl
        · refine (fold_none (fun q v => PS.h q o v) (L := fun k => (Array.replicate ops.size false).getD k false) l (st.obj o) (fun q _ => ?_)).symm
          rw [Array.getD_eq_getD_getElem?, Array.getElem?_replicate]
          split <;> rfl

end

end Go.Proofs.Ytklbgnodgnlebaa.Vm
