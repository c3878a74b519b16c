/- The value machine: calls by contract; every operation. Conditions: as each lemma says. -/
import Derived.Test.YtjknoknkbfhelaaVmQ
namespace Go.Proofs.Ytjknoknkbfhelaa.Vm

section
variable {P : Program} {Γ : Ctx} {w0 : World} {S : Own} {st : St} {o : Oper} {e : Eff} {a : Act} {w : World}
variable {f : Nat → SV} {h : Nat → Option VObj} {β : Env} {φ : Nat → List Nat} {tm : Array Value}

theorem ResL.length {w : World} : ∀ (rcs : List RC) (ds : List DC) (vs : List Value) (φ im tp : List Nat), ResL w rcs ds vs φ im tp → ds.length = rcs.length
  | [], ds, vs, φ, im, tp, h => by simp only [ResL] at h; simp [h.1]
  | .imm c :: cs, ds, vs, φ, im, tp, h => by
    simp only [ResL] at h
    obtain ⟨d, ds', v, vs', f1, im', rfl, _, _, h1, _⟩ := h
    simp [ResL.length cs ds' vs' _ _ _ h1]
  | .own t e :: cs, ds, vs, φ, im, tp, h => by
    simp only [ResL] at h
    obtain ⟨rows, ds', v, vs', vals, fps, φ', tp', rfl, _, _, _, h1, _⟩ := h
    simp [ResL.length cs ds' vs' _ _ _ h1]

theorem resCells_ok {w' : World} {d : Nat} : ∀ (rcs : List RC) (k : Nat) (ds : List DC) (vs : List Value) (φ im tp : List Nat), ResL w' rcs ds vs φ im tp →
    ∃ N : List NewRow, (resCells d k rcs ds).2 = rowsOw N ∧ N.map (·.id) = (List.range' k (ownCount rcs)).map (newId d) ∧ (∀ x ∈ N, x.ok w') ∧ N.flatMap NewRow.blks = φ ∧ N.flatMap (fun x => x.v.ownBlock.toList) = tp ∧
      ∀ (av : Nat → Prop) (β' : Env), (∀ x ∈ N, β'.val x.id = x.v) → (∀ b ∈ im, ¬ av b) → SVRL w' av β' (resCells d k rcs ds).1 vs
  | [], k, ds, vs, φ, im, tp, h => by
    simp only [ResL] at h
    obtain ⟨rfl, rfl, rfl, rfl, rfl⟩ := h
    exact ⟨[], rfl, rfl, by simp, rfl, rfl, by simp [resCells, SVRL]⟩
  | .imm c :: cs, k, ds, vs, φ, im, tp, h => by
    simp only [ResL] at h
    obtain ⟨x, ds', v, vs', f1, im', rfl, rfl, h1, h2, rfl⟩ := h
    obtain ⟨N, e1, e2, e3, e4, e5, e6⟩ := resCells_ok cs k ds' vs' φ im' tp h2
    refine ⟨N, by simpa [resCells] using e1, by simpa [ownCount] using e2, e3, e4, e5, fun av β' hβ hav => ?_⟩
    simp only [resCells, List.headD_cons, List.tail_cons, SVRL]
    exact ⟨v, vs', rfl, ofDC_ok h1 (fun b hb => hav b (List.mem_append_left _ hb)), e6 av β' hβ (fun b hb => hav b (List.mem_append_right _ hb))⟩
  | .own t e :: cs, k, ds, vs, φ, im, tp, h => by
    simp only [ResL] at h
    obtain ⟨rows, ds', v, vs', vals, fps, φ', tp', rfl, rfl, h1, h2, h3, rfl, rfl⟩ := h
    obtain ⟨N, e1, e2, e3, e4, e5, e6⟩ := resCells_ok cs (k + 1) ds' vs' φ' im tp' h3
    refine ⟨⟨newId d k, t, e, rows, v, fps⟩ :: N, ?_, ?_, ?_, ?_, ?_, fun av β' hβ hav => ?_⟩
    · simp [resCells, rowsOw, NewRow.obj, DC.asRows] at e1 ⊢
      exact e1
    · simp only [List.map_cons, ownCount, List.range'_succ, e2]
    · intro x hx
      rcases List.mem_cons.1 hx with rfl | hx
      · exact ⟨vals, h1, h2⟩
      · exact e3 x hx
    · simp [List.flatMap_cons, e4, NewRow.blks]
    · simp [List.flatMap_cons, e5]
    · simp only [resCells, List.headD_cons, List.tail_cons, SVRL]
      refine ⟨v, vs', rfl, ?_, e6 av β' (fun x hx => hβ x (List.mem_cons_of_mem _ hx)) hav⟩
      simp only [SVR]
      exact ⟨(hβ _ (List.mem_cons_self ..)).symm, h1.one⟩

theorem resVals_ok {w' : World} {d : Nat} : ∀ (rks : List RK) (k : Nat) (ds : List DC) (vs : List Value) (φ im tp : List Nat), ResV w' rks ds vs φ im tp →
    ∃ N : List NewRow, (resVals d k rks ds).2 = rowsOw N ∧ N.map (·.id) = (List.range' k (ownTotal rks)).map (newId d) ∧ (∀ x ∈ N, x.ok w') ∧ N.flatMap NewRow.blks = φ ∧ N.flatMap (fun x => x.v.ownBlock.toList) = tp ∧
      ∀ (av : Nat → Prop) (β' : Env), (∀ x ∈ N, β'.val x.id = x.v) → (∀ b ∈ im, ¬ av b) → SVRL w' av β' (resVals d k rks ds).1 vs
  | [], k, ds, vs, φ, im, tp, h => by
    simp only [ResV] at h
    obtain ⟨rfl, rfl, rfl, rfl, rfl⟩ := h
    exact ⟨[], rfl, rfl, by simp, rfl, rfl, by simp [resVals, SVRL]⟩
  | r :: rs, k, ds, vs, φ, im, tp, h => by
    simp only [ResV] at h
    obtain ⟨d1, d2, v, vs', us, φ1, φ2, i1, i2, t1, t2, rfl, rfl, hv, hone, h1, h2, rfl, rfl, rfl⟩ := h
    have hl := ResL.length _ _ _ _ _ _ h1
    obtain ⟨N1, a1, a2, a3, a4, a5, a6⟩ := resCells_ok (d := d) r.cells k d1 us φ1 i1 t1 h1
    obtain ⟨N2, b1, b2, b3, b4, b5, b6⟩ := resVals_ok (d := d) rs (k + ownCount r.cells) d2 vs' φ2 i2 t2 h2
    have ht : (d1 ++ d2).take r.cells.length = d1 := by rw [← hl]; simp
    have hdr : (d1 ++ d2).drop r.cells.length = d2 := by rw [← hl]; simp
    refine ⟨N1 ++ N2, ?_, ?_, ?_, by simp [a4, b4], by simp [a5, b5], fun av β' hβ hav => ?_⟩
    · simp only [resVals, ht, hdr, a1, b1, rowsOw, List.map_append]
    · rw [List.map_append, a2, b2, ← List.map_append, List.range'_append_1]
      rfl
    · intro x hx
      rcases List.mem_append.1 hx with hx | hx
      · exact a3 x hx
      · exact b3 x hx
    · have s1 := a6 av β' (fun x hx => hβ x (List.mem_append_left _ hx)) (fun b hb => hav b (List.mem_append_left _ hb))
      have s2 := b6 av β' (fun x hx => hβ x (List.mem_append_right _ hx)) (fun b hb => hav b (List.mem_append_right _ hb))
      simp only [resVals, ht, hdr, SVRL]
      refine ⟨v, vs', rfl, ?_, s2⟩
      cases hagg : r.agg with
      | true =>
        rw [hagg, cond_true] at hv
        subst hv
        simp only [cond_true, SVR]
        exact ⟨us, rfl, s1, hone⟩
      | false =>
        rw [hagg, cond_false] at hv
        subst hv
        simp only [cond_false]
        generalize (resCells d k r.cells d1).1 = q at s1
        cases q with
        | nil => simp [SVRL] at s1
        | cons y l =>
          simp only [SVRL] at s1
          obtain ⟨v', l', e1, e2, _⟩ := s1
          injection e1 with e1
          subst e1
          simpa using e2

theorem ArgsR.lt {w : World} : ∀ (ks : List AK) (ds : List DC) (vs : List Value) (fp : List Nat), ArgsR w ks ds vs fp → ∀ b ∈ fp, b < w.heap.size
  | [], ds, vs, fp, h => by simp only [ArgsR] at h; simp [h.2.2]
  | k :: ks, ds, vs, fp, h => by
    simp only [ArgsR] at h
    obtain ⟨d1, d2, v, vs', f1, f2, rfl, rfl, ⟨us, _, _, hr, _⟩, h2, rfl⟩ := h
    intro b hb
    rcases List.mem_append.1 hb with hb | hb
    · exact RdL.lt _ _ _ _ hr b hb
    · exact ArgsR.lt ks d2 vs' f2 h2 b hb

theorem ResL.noimm {w : World} : ∀ (rcs : List RC) (ds : List DC) (vs : List Value) (φ im tp : List Nat), immSl rcs = false → ResL w rcs ds vs φ im tp → im = []
  | [], ds, vs, φ, im, tp, _, h => by simp only [ResL] at h; exact h.2.2.2.1
  | .imm c :: cs, ds, vs, φ, im, tp, hn, h => by
    simp only [ResL] at h
    obtain ⟨d, ds', v, vs', f1, im', rfl, _, h1, h2, rfl⟩ := h
    have : f1 = [] ∧ immSl cs = false := by
      cases c with
      | int k => simp only [RdC] at h1; obtain ⟨n, _, _, _, e⟩ := h1; exact ⟨e, by simpa [immSl] using hn⟩
      | bool => simp only [RdC] at h1; obtain ⟨n, _, _, e⟩ := h1; exact ⟨e, by simpa [immSl] using hn⟩
      | str => simp only [RdC] at h1; obtain ⟨n, _, _, _, e⟩ := h1; exact ⟨e, by simpa [immSl] using hn⟩
      | sl e => simp [immSl] at hn
    rw [this.1, ResL.noimm cs ds' vs' _ _ _ this.2 h2]
    rfl
  | .own t e :: cs, ds, vs, φ, im, tp, hn, h => by
    simp only [ResL] at h
    obtain ⟨rows, ds', v, vs', vals, fps, φ', tp', rfl, _, _, _, h1, _⟩ := h
    exact ResL.noimm cs ds' vs' _ _ _ (by simpa [immSl] using hn) h1

theorem ResV.noimm {w : World} : ∀ (rks : List RK) (ds : List DC) (vs : List Value) (φ im tp : List Nat), (rks.any fun r => immSl r.cells) = false → ResV w rks ds vs φ im tp → im = []
  | [], ds, vs, φ, im, tp, _, h => by simp only [ResV] at h; exact h.2.2.2.1
  | r :: rs, ds, vs, φ, im, tp, hn, h => by
    simp only [ResV] at h
    obtain ⟨d1, d2, v, vs', us, φ1, φ2, i1, i2, t1, t2, rfl, rfl, _, _, h1, h2, _, rfl, _⟩ := h
    simp only [List.any_cons, Bool.or_eq_false_iff] at hn
    rw [ResL.noimm _ _ _ _ _ _ hn.1 h1, ResV.noimm rs d2 vs' _ _ _ hn.2 h2]
    rfl

theorem evMs_ok (hc : Core w0 S st.get st.obj β φ a.tmps w) : ∀ (xs : List Operand) (ss : List SV), (evMs xs).val st.get st.obj = some ss → SVRL w (Av st.obj β) β ss (xs.map a.eval)
  | [], ss, h => by simp [evMs] at h; subst h; simp [SVRL]
  | x :: xs, ss, h => by
    simp only [evMs, M.val_bind, Option.bind_eq_some_iff, M.val_pure, Option.some.injEq] at h
    obtain ⟨s, h1, r, h2, rfl⟩ := h
    simp only [List.map_cons, SVRL]
    exact ⟨_, _, rfl, hc.ev h1, evMs_ok hc xs r h2⟩

theorem run_call {c : Call} {g : Nat} {fn : Func} (ho : o.op = .call c) (hg : c.callee = .value (.func g)) (hf : P.funcs[g]? = some fn) (hb : fn.body.isSome = true) (hn : (fn.name == "runtime.NumGoroutine") = false) :
    (execOp a.eval o).run P w = .ok (.enter g (c.args.map a.eval)) w := by
  have hb' : fn.body.isNone = false := by cases h : fn.body <;> simp_all
  simp only [execOp, ho, resolve, hg, Act.eval, Deferred.ofValue, Sem.run_bind, Sem.run_pure, Result.andThen_ok, invoke, callFunc, run_program, hf, hn, hb', Bool.false_eq_true, if_false]
  simp

theorem sound_call (hΓ : CtxHolds P Γ) {s : Sum} {g : Nat} (hs : lkS Γ g = some s) (hms : s.ms = []) (hR : Rel w0 S st a w) {d : Nat} (hdst : o.dst = some d) (hd : DstOk st.n d) (hfr : e.ow ≠ [] → FreshAt st d) {c : Call} (ho : o.op = .call c) (hg : c.callee = .value (.func g)) {l : List SV}
    (hl : (evMs c.args.toList).val st.get st.obj = some l) (he : (callM Γ (some d) g l).val st.get st.obj = some e) (hok : e.ok = true) : Good P w0 S st o e a w := by
  unfold callM at he
  rw [hs] at he
  simp only [hms] at he
  cases h64 : Nat.blt (ownTotal s.rs) 64
  · simp [h64] at he
  simp only [h64, cond_true, M.val_bind, Option.bind_eq_some_iff] at he
  obtain ⟨r, hr, he⟩ := he
  cases hsm : (!(shares s) || metNodup r.2)
  · simp [hsm] at he
  simp only [hsm, cond_true, M.val_pure, Option.some.injEq] at he
  subst he
  have h64 : ownTotal s.rs < 64 := Nat.le_of_ble_eq_true h64
  have hH : Holds P g s := by have h0 := hΓ g s hs; unfold HoldsAny at h0; rw [hms] at h0; exact h0
  obtain ⟨⟨fn, hf, hb, hn⟩, hcalls⟩ := hH
  obtain ⟨β, φ, hc⟩ := hR.core
  obtain ⟨fp, hargs, hmet, hfav⟩ := argsM_ok hc s.ps l _ r (evMs_ok hc _ l hl) hr
  have hfplt := ArgsR.lt _ _ _ _ hargs
  intro Q
  unfold Oper.wp
  rw [run_call ho hg hf hb hn, Oper.upon_enter]
  have hvals : c.args.map a.eval = (c.args.toList.map a.eval).toArray := by rw [← Array.toList_map, Array.toArray_toList]
  rw [hvals]
  refine (hcalls w r.1 _ fp hargs hok).mono ?_
  rintro _ w' ⟨vs, φs, im, tp, rfl, hk, hres, hnd, hal, him⟩
  obtain ⟨N, n1, n2, n3, n4, n5, n6⟩ := resVals_ok (d := d) s.rs 0 _ vs φs im tp hres
  -- the rows that are met are written no more where the results may lie in them
  let M' : Met := bif shares s then r.2 else []
  have hM : MetOk st.obj M' ∧ metNodup M' = true := by
    cases hsh : shares s with
    | true =>
      have : M' = r.2 := by simp [M', hsh]
      rw [this]
      exact ⟨hmet, by simpa [hsh] using hsm⟩
    | false =>
      have : M' = [] := by simp [M', hsh]
      rw [this]
      exact ⟨by simp [MetOk], rfl⟩
  have hfz : (bif shares s then metFreeze r.2 else []) = metFreeze M' := by cases hsh : shares s <;> simp [M', hsh, metFreeze]
  have hc1 := hc.freezes M' hM.1 hM.2
  have hids : ∀ x ∈ N, x.id / 64 = d ∧ x.id ∈ N.map (·.id) := by
    intro x hx
    have hm : x.id ∈ N.map (·.id) := List.mem_map_of_mem hx
    refine ⟨?_, hm⟩
    rw [n2] at hm
    obtain ⟨j, hj, hj'⟩ := List.mem_map.1 hm
    rw [← hj']
    have := List.mem_range'_1.1 hj
    exact newId_div d j (by omega)
  have hidn : (N.map (·.id)).Nodup := by
    rw [n2]
    refine List.Pairwise.map _ ?_ (List.nodup_range' ..)
    intro x y hxy e
    unfold newId at e
    omega
  have hle := hR.kept.size
  have hw : ∀ b, b < w.heap.size → w'.heap[b]? = w.heap[b]? := fun b hb => hk.block b hb (fun h => h)
  have hcN := hc1.creates (N := N) hk.size hw hle ?_ n3 hidn (by rw [n4]; exact hnd) (by rw [n4]; exact hal)
  · have hval : ∀ x ∈ N, (β.setN N).val x.id = x.v := by
      intro x hx
      simp [Env.setN, lkN_some hx hidn]
    have himav : ∀ b ∈ im, ¬ Av (fun j => match lkN N j with | some x => some x.obj | none => fo (metFreeze M') st.obj j) (β.setN N) b := by
      rintro b hb (⟨j, oj, hj, hbj⟩ | hbar)
      case inr =>
        have hib := him b hb
        have hbw := (hc1.bar b hbar).1
        rcases hib.1 with hfpb | hbig
        · cases hsh : shares s with
          | false =>
            have : im = [] := ResV.noimm _ _ _ _ _ _ (by simpa [shares] using hsh) hres
            rw [this] at hb
            simp at hb
          | true =>
            have hM' : M' = r.2 := by simp [M', hsh]
            rcases hfav b hfpb with h3 | ⟨x, hx, hbx⟩
            · exact h3 (.inr hbar)
            · exact not_av_met hc hM.1 (by rw [hM']; exact hx) hbx (.inr hbar)
        · omega
      have hib := him b hb
      cases hlk : lkN N j with
      | some x =>
        simp only [hlk, Option.some.injEq] at hj
        subst hj
        have hx := (lkN_mem hlk).1
        refine hib.2 ?_
        rw [← n5]
        refine List.mem_flatMap.2 ⟨x, hx, ?_⟩
        simpa [tops, NewRow.obj, Env.setN, hlk] using hbj
      | none =>
        simp only [hlk] at hj
        have hbj' : b ∈ tops β j oj := by
          cases oj <;> simp only [tops, Env.setN, hlk] at hbj ⊢ <;> exact hbj
        have hblt := ((hc1.fresh j oj hj).2 b (tops_sub (hc1.objs j oj hj) b hbj')).2
        rcases hib.1 with hfpb | hbig
        · cases hsh : shares s with
          | false =>
            have : im = [] := ResV.noimm _ _ _ _ _ _ (by simpa [shares] using hsh) hres
            rw [this] at hb
            simp at hb
          | true =>
            have hM' : M' = r.2 := by simp [M', hsh]
            rcases hfav b hfpb with h3 | ⟨x, hx, hbx⟩
            · exact h3 (av_frozen (.inl ⟨j, oj, hj, hbj'⟩))
            · exact not_av_met hc hM.1 (by rw [hM']; exact hx) hbx (.inl ⟨j, oj, hj, hbj'⟩)
        · omega
    have hsvl := n6 _ (β.setN N) hval himav
    have hk' : Kept S w0 w' := ⟨hk.os.trans hR.kept.os, hk.tape.trans hR.kept.tape, hk.output.trans hR.kept.output, by have := hk.size; omega, fun k h1 h2 => (hw k (by omega)).trans (hR.kept.block k h1 h2)⟩
    refine ⟨pack vs, rfl, rel_put hR (fun d' h' => by rw [hdst] at h'; injection h' with h'; exact h' ▸ hd) hk' ⟨β.setN N, fun j => match lkN N j with | some x => x.blks | none => frozenφ φ M' j, ?_, ?_⟩⟩
    · have : fo ((resVals d 0 s.rs (s.fn r.1).2).2 ++ (bif shares s then metFreeze r.2 else [])) (fc none st.obj) = fun j => match lkN N j with | some x => some x.obj | none => fo (metFreeze M') st.obj j := by
        funext j
        rw [n1, hfz, fo_rows]
        rfl
      show Core w0 S st.get (fo ((resVals d 0 s.rs (s.fn r.1).2).2 ++ (bif shares s then metFreeze r.2 else [])) (fc none st.obj)) _ _ _ _
      rw [this]
      exact hcN
    · have : fo ((resVals d 0 s.rs (s.fn r.1).2).2 ++ (bif shares s then metFreeze r.2 else [])) (fc none st.obj) = fun j => match lkN N j with | some x => some x.obj | none => fo (metFreeze M') st.obj j := by
        funext j
        rw [n1, hfz, fo_rows]
        rfl
      show SVR w' (Av (fo ((resVals d 0 s.rs (s.fn r.1).2).2 ++ (bif shares s then metFreeze r.2 else [])) (fc none st.obj)) (β.setN N)) (β.setN N) (packSV (resVals d 0 s.rs (s.fn r.1).2).1) (pack vs)
      rw [this]
      generalize (resVals d 0 s.rs (s.fn r.1).2).1 = q at hsvl
      match q, vs, hsvl with
      | [], vs, hsvl =>
        simp only [SVRL] at hsvl
        subst hsvl
        simp only [packSV, pack, SVR]
        exact ⟨[], rfl, by simp [SVRL]⟩
      | [x], vs, hsvl =>
        simp only [SVRL] at hsvl
        obtain ⟨v, l', rfl, h1, rfl⟩ := hsvl
        exact h1
      | x :: y :: q, vs, hsvl =>
        have hsvl' := hsvl
        simp only [SVRL] at hsvl
        obtain ⟨v, l', rfl, h1, v2, l2, rfl, h2, h3⟩ := hsvl
        simp only [packSV, pack]
        unfold SVR
        exact ⟨v :: v2 :: l2, rfl, hsvl'⟩
  · intro x hx
    have h1 := (hids x hx).1
    have hfr := hfr (by
      show (resVals d 0 s.rs (s.fn r.1).2).2 ++ _ ≠ []
      rw [n1]
      intro h0
      rw [List.append_eq_nil_iff] at h0
      have : N = [] := by simpa [rowsOw] using h0.1
      rw [this] at hx
      simp at hx)
    refine ⟨?_, fun i hi => hfr.slot i _ hi h1, fun k ok hk' hi => ?_⟩
    · cases hn : fo (metFreeze M') st.obj x.id with
      | none => rfl
      | some ob =>
        rcases frozen_obj hn with h2 | ⟨e', r', rfl, y, hy, h2⟩
        · exact absurd h1 (hfr.obj _ ob h2).1
        · obtain ⟨t', fz', h3⟩ := hM.1 y hy
          rw [h2] at h3
          exact absurd h1 (hfr.obj _ _ h3).1
    · rcases frozen_obj hk' with h2 | ⟨e', r', rfl, _⟩
      · exact (hfr.obj k ok h2).2 _ hi h1
      · simp [objIds] at hi

end

end Go.Proofs.Ytjknoknkbfhelaa.Vm
