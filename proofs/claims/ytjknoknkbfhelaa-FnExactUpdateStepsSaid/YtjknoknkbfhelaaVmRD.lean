/- The value machine: calls that write through parameters are sound. Conditions: the contracts of the context hold. -/
import Derived.Test.YtjknoknkbfhelaaVmRC
set_option linter.unusedVariables false
set_option linter.unusedSimpArgs false
namespace Go.Proofs.Ytjknoknkbfhelaa.Vm

section
variable {P : Program} {Γ : Ctx} {w0 : World} {S : Own} {st : St} {o : Oper} {e : Eff} {a : Act} {w w' : World}
variable {f : Nat → SV} {h : Nat → Option VObj} {β : Env} {φ : Nat → List Nat} {tm : Array Value}

theorem sound_callM (hΓ : CtxHolds P Γ) {s : Sum} {g : Nat} (hs : lkS Γ g = some s) (hms : s.ms ≠ []) (hR : Rel w0 S st a w) (hd : ∀ d, o.dst = some d → DstOk st.n d) (hfr : ∀ d, o.dst = some d → e.ow ≠ [] → FreshAt st d)
    {c : Call} (ho : o.op = .call c) (hg : c.callee = .value (.func g)) {l : List SV}
    (hl : (evMs c.args.toList).val st.get st.obj = some l) (he : (callMM s o.dst l).val st.get st.obj = some e) (hok : e.ok = true) : Good P w0 S st o e a w := by
  have hH : HoldsM P g s := by
    have h0 := hΓ g s hs
    unfold HoldsAny at h0
    split at h0
    · rename_i hm
      exact absurd hm hms
    · exact h0
  unfold callMM at he
  cases hcond : Nat.blt (ownTotal s.rs) 64 && !(shares s) && (o.dst.isSome || s.rs.isEmpty)
  · simp [hcond] at he
  simp only [hcond, cond_true, M.val_bind, Option.bind_eq_some_iff] at he
  obtain ⟨r, hr, he⟩ := he
  cases hc2 : metNodup r.2.1 && nodupB (muIds r.2.2) && (muIds r.2.2).all (fun i => metNot i r.2.1)
  · simp [hc2] at he
  simp only [hc2, cond_true, M.val_pure, Option.some.injEq] at he
  subst he
  simp only [Bool.and_eq_true, Bool.not_eq_true', List.all_eq_true] at hcond hc2
  obtain ⟨⟨h64, hsh⟩, hdr⟩ := hcond
  obtain ⟨⟨hmn, hun⟩, hum⟩ := hc2
  have h64 : ownTotal s.rs < 64 := Nat.le_of_ble_eq_true h64
  obtain ⟨⟨fn, hf, hb, hn⟩, hcalls⟩ := hH
  obtain ⟨β, φ, hc⟩ := hR.core
  obtain ⟨fp, hargs, hmet, hmu, hfav⟩ := argsMM_ok hc s.ps s.ms l _ r (evMs_ok hc _ l hl) hr
  have hmbN := mu_nodup hc hmu hun
  have hmbF : ∀ b ∈ r.2.2.flatMap (muTops β), b ∉ fp := by
    intro b hb hbf
    obtain ⟨id, hid, ob, hob, hbt⟩ := mu_top (β := β) hmu b hb
    rcases hfav b hbf with h3 | ⟨x, hx, hbx⟩
    · exact h3 (.inl ⟨id, ob, hob, hbt⟩)
    · obtain ⟨t', fz', hx'⟩ := hmet x hx
      have hne : x.1 ≠ id := metNot_ne (hum id hid) x hx
      exact hc.sep x.1 id _ ob hne hx' hob b (tops_sub (hc.objs _ _ hx') b hbx) (tops_sub (hc.objs _ _ hob) b hbt)
  intro Q
  unfold Oper.wp
  rw [run_call ho hg hf hb hn, Oper.upon_enter]
  have hvals : c.args.map a.eval = (c.args.toList.map a.eval).toArray := by rw [← Array.toList_map, Array.toArray_toList]
  rw [hvals]
  refine (hcalls w r.1 _ fp _ hargs hmbN hmbF hok).mono ?_
  rintro _ w' ⟨vs, φs, im, tp, im2, rd, od, rfl, hfn, hrd, hk, hres, hnd, hal, houts, him2⟩
  have him0 : im = [] := ResV.noimm _ _ _ _ _ _ (by simpa [shares] using hsh) hres
  have hdrop : (s.fn r.1).2.drop (resCount s.rs) = od := by rw [hfn, ← hrd, List.drop_left]
  have hrv : resVals (o.dst.getD 0) 0 s.rs (s.fn r.1).2 = resVals (o.dst.getD 0) 0 s.rs rd := by rw [hfn, resVals_app _ _ _ _ hrd]
  obtain ⟨N, n1, n2, n3, n4, n5, n6⟩ := resVals_ok (d := o.dst.getD 0) s.rs 0 _ vs φs im tp hres
  obtain ⟨_, hgood⟩ := mu_outs (w' := w') hc s.ps s.ms l _ r od im2 (evMs_ok hc _ l hl) hr houts (fun b hb => hb)
  have hc1 := hc.freezes r.2.1 hmet hmn
  have hNdst : N ≠ [] → ∃ d, o.dst = some d := by
    intro hne
    cases hdst : o.dst with
    | some d => exact ⟨d, rfl⟩
    | none =>
      rw [hdst] at hdr
      simp only [Option.isSome_none, Bool.false_or] at hdr
      have hrs : s.rs = [] := List.isEmpty_iff.1 hdr
      rw [hrs] at n2
      simp only [ownTotal, List.range'_zero, List.map_nil, List.map_eq_nil_iff] at n2
      exact absurd n2 hne
  have hids : ∀ x ∈ N, x.id / 64 = o.dst.getD 0 ∧ x.id ∈ N.map (·.id) := by
    intro x hx
    have hm : x.id ∈ N.map (·.id) := List.mem_map_of_mem hx
    refine ⟨?_, hm⟩
    rw [n2] at hm
    obtain ⟨j, hj, hj'⟩ := List.mem_map.1 hm
    rw [← hj']
    have := List.mem_range'_1.1 hj
    exact newId_div _ j (by omega)
  have hidn : (N.map (·.id)).Nodup := by
    rw [n2]
    refine List.Pairwise.map _ ?_ (List.nodup_range' ..)
    intro x y hxy e
    unfold newId at e
    omega
  have hle := hR.kept.size
  have hUids : ∀ x ∈ muObjs r.2.2 od, x.1 ∈ muIds r.2.2 := by
    intro x hx
    rw [← muObjs_ids r.2.2 od]
    exact List.mem_map_of_mem hx
  have hmbav : ∀ b ∈ r.2.2.flatMap (muTops β), Av st.obj β b := by
    intro b hb
    obtain ⟨id, hid, ob, hob, hbt⟩ := mu_top (β := β) hmu b hb
    exact .inl ⟨id, ob, hob, hbt⟩
  have hval : ∀ x ∈ N, (β.setN N).val x.id = x.v := by
    intro x hx
    simp [Env.setN, lkN_some hx hidn]
  let h' : Nat → Option VObj := fun j => match lkN N j with | some x => some x.obj | none => match lkU (muObjs r.2.2 od) j with | some o => some o | none => fo (metFreeze r.2.1) st.obj j
  have himav : ∀ b ∈ im2, ¬ Av h' (β.setN N) b := by
    rintro b hb (⟨j, oj, hj, hbj⟩ | hbar)
    case inr =>
      have hib := him2 b hb
      have hbw := (hc1.bar b hbar).1
      rcases hib.1 with hfpb | hbig
      · rcases hfav b hfpb with h3 | ⟨x, hx, hbx⟩
        · exact h3 (.inr hbar)
        · exact not_av_met hc hmet hx hbx (.inr hbar)
      · omega
    have hib := him2 b hb
    cases hlk : lkN N j with
    | some x =>
      simp only [h', hlk, Option.some.injEq] at hj
      subst hj
      have hx := (lkN_mem hlk).1
      refine hib.2.1 ?_
      rw [← n5]
      refine List.mem_flatMap.2 ⟨x, hx, ?_⟩
      simpa [tops, NewRow.obj, Env.setN, hlk] using hbj
    | none =>
      have hbj' : b ∈ tops β j oj := by
        cases oj <;> simp only [tops, Env.setN, hlk] at hbj ⊢ <;> exact hbj
      simp only [h', hlk] at hj
      cases hu : lkU (muObjs r.2.2 od) j with
      | some ob =>
        simp only [hu, Option.some.injEq] at hj
        subst hj
        exact hib.2.2 (mu_sub r.2.2 od _ (lkU_mem hu) b hbj')
      | none =>
        simp only [hu] at hj
        have hblt := ((hc1.fresh j oj hj).2 b (tops_sub (hc1.objs j oj hj) b hbj')).2
        rcases hib.1 with hfpb | hbig
        · rcases hfav b hfpb with h3 | ⟨x, hx, hbx⟩
          · exact h3 (av_frozen (.inl ⟨j, oj, hj, hbj'⟩))
          · exact not_av_met hc hmet hx hbx (.inl ⟨j, oj, hj, hbj'⟩)
        · omega
  have hcN := hc1.acts (N := N) (U := muObjs r.2.2 od) (im := im2) hk.size hle ?_ ?_ ?_ himav ?_ n3 (by rw [n4]; exact hnd) (by rw [n4]; exact hal)
  · have hsvl := n6 (Av h' (β.setN N)) (β.setN N) hval (by rw [him0]; simp)
    have hk' : Kept S w0 w' := by
      refine ⟨hk.os.trans hR.kept.os, hk.tape.trans hR.kept.tape, hk.output.trans hR.kept.output, by have := hk.size; omega, fun k h1 h2 => ?_⟩
      refine (hk.block k (by omega) (fun hkm => ?_)).trans (hR.kept.block k h1 h2)
      obtain ⟨id, hid, ob, hob, hbt⟩ := mu_top (β := β) hmu k hkm
      rcases ((hc.fresh id ob hob).2 k (tops_sub (hc.objs _ _ hob) k hbt)).1 with h3 | h3
      · omega
      · exact h2 h3
    have hfo : fo ((resVals (o.dst.getD 0) 0 s.rs (s.fn r.1).2).2 ++ (muOw r.2.2 ((s.fn r.1).2.drop (resCount s.rs)) ++ metFreeze r.2.1)) (fc none st.obj) = h' := by
      funext j
      rw [hrv, hdrop, n1, muOw_eq, fo_rows, fo_mu]
      rfl
    refine ⟨pack vs, rfl, rel_put hR hd hk' ⟨β.setN N, fun j => match lkN N j with | some x => x.blks | none => frozenφ φ r.2.1 j, ?_, ?_⟩⟩
    · show Core w0 S st.get (fo ((resVals (o.dst.getD 0) 0 s.rs (s.fn r.1).2).2 ++ (muOw r.2.2 ((s.fn r.1).2.drop (resCount s.rs)) ++ metFreeze r.2.1)) (fc none st.obj)) _ _ _ _
      rw [hfo]
      exact hcN
    · show SVR w' (Av (fo ((resVals (o.dst.getD 0) 0 s.rs (s.fn r.1).2).2 ++ (muOw r.2.2 ((s.fn r.1).2.drop (resCount s.rs)) ++ metFreeze r.2.1)) (fc none st.obj)) (β.setN N)) (β.setN N) (packSV (resVals (o.dst.getD 0) 0 s.rs (s.fn r.1).2).1) (pack vs)
      rw [hfo, hrv]
      generalize (resVals (o.dst.getD 0) 0 s.rs rd).1 = q at hsvl
      match q, vs, hsvl with
      | [], vs, hsvl =>
        simp only [SVRL] at hsvl
        subst hsvl
        simp only [packSV, pack, SVR]
        exact ⟨[], rfl, by simp [SVRL]⟩
      | [x], vs, hsvl =>
        simp only [SVRL] at hsvl
        obtain ⟨v, l', rfl, h1, rfl⟩ := hsvl
        exact h1
      | x :: y :: q, vs, hsvl =>
        have hsvl' := hsvl
        simp only [SVRL] at hsvl
        obtain ⟨v, l', rfl, h1, v2, l2, rfl, h2, h3⟩ := hsvl
        simp only [packSV, pack]
        unfold SVR
        exact ⟨v :: v2 :: l2, rfl, hsvl'⟩
  · intro b hb hnb
    refine hk.block b hb (fun hbm => ?_)
    obtain ⟨x, hx, hbx⟩ := mu_cover (β := β) r.2.2 od b hbm
    exact hnb x hx hbx
  · intro x hx
    obtain ⟨ob, h1, h2, h3, _⟩ := hgood x hx
    exact ⟨ob, by rw [fo_unmet (hum _ (hUids x hx))]; exact h1, h2, h3⟩
  · intro x hx av β' hv hbk himm
    obtain ⟨ob, h1, h2, h3, h4⟩ := hgood x hx
    rw [frozen_unmet (hum _ (hUids x hx))]
    exact h4 av β' hv hbk himm
  · intro x hx
    have h1 := (hids x hx).1
    obtain ⟨d, hdst⟩ := hNdst (fun h0 => by rw [h0] at hx; simp at hx)
    have hfr := hfr d hdst (by
      show (resVals (o.dst.getD 0) 0 s.rs (s.fn r.1).2).2 ++ _ ≠ []
      rw [hrv, n1]
      intro h0
      rw [List.append_eq_nil_iff] at h0
      have : N = [] := by simpa [rowsOw] using h0.1
      rw [this] at hx
      simp at hx)
    rw [hdst] at h1
    simp only [Option.getD_some] at h1
    refine ⟨?_, fun i hi => hfr.slot i _ hi h1, fun k ok hk' hi => ?_⟩
    · cases hn : fo (metFreeze r.2.1) st.obj x.id with
      | none => rfl
      | some ob =>
        rcases frozen_obj hn with h2 | ⟨e', r', rfl, y, hy, h2⟩
        · exact absurd h1 (hfr.obj _ ob h2).1
        · obtain ⟨t', fz', h3⟩ := hmet y hy
          rw [h2] at h3
          exact absurd h1 (hfr.obj _ _ h3).1
    · rcases frozen_obj hk' with h2 | ⟨e', r', rfl, _⟩
      · exact (hfr.obj k ok h2).2 _ hi h1
      · simp [objIds] at hi

end
end Go.Proofs.Ytjknoknkbfhelaa.Vm
