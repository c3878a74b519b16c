/- The value machine: contracts out of runs. Conditions: the contracts of the context hold; the run ends with the contract's data. -/
import Derived.Test.YtjknoknkbfhelaaVmZA
namespace Go.Proofs.Ytjknoknkbfhelaa.Vm

mutual
def WtC : CT → DC → Prop
  | .int k, d => ∃ n, d = .int n ∧ inR k n = true
  | .bool, d => ∃ b, d = .bool b
  | .str, d => ∃ s : List UInt8, d = .str s ∧ s.length ≤ maxLen
  | .sl e, d => ∃ rows : List (List DC), d = .sl rows ∧ rows.length ≤ maxLen ∧ ∀ r ∈ rows, WtL e r
def WtL : List CT → List DC → Prop
  | [], r => r = []
  | c :: cs, r => ∃ d r', r = d :: r' ∧ WtC c d ∧ WtL cs r'
end

mutual
theorem RdC.wt {w : World} : ∀ (c : CT) (d : DC) (v : Value) (fp : List Nat), RdC w c d v fp → WtC c d
  | .int k, _, _, _, h => by
    simp only [RdC, WtC] at h ⊢
    obtain ⟨n, h1, _, h2, _⟩ := h
    exact ⟨n, h1, h2⟩
  | .bool, _, _, _, h => by
    simp only [RdC, WtC] at h ⊢
    obtain ⟨n, h1, _⟩ := h
    exact ⟨n, h1⟩
  | .str, _, _, _, h => by
    simp only [RdC, WtC] at h ⊢
    obtain ⟨s, h1, _, h2, _⟩ := h
    exact ⟨s, h1, h2⟩
  | .sl e, _, _, _, h => by
    simp only [RdC, WtC] at h ⊢
    obtain ⟨rows, a, n, c, rfl, _, hn, hc, hm, hr⟩ := h
    refine ⟨rows, rfl, by omega, fun r hr' => ?_⟩
    rcases hr with ⟨h0, _⟩ | ⟨_, b, o, fps, _, _, hl, _, hr⟩
    · rw [h0] at hn
      rw [List.length_eq_zero_iff.1 hn] at hr'
      simp at hr'
    · obtain ⟨i, hi, rfl⟩ := List.getElem_of_mem hr'
      exact RdL.wt e _ _ _ (hr i rows[i] fps[i] (by simp) (by simp))
theorem RdL.wt {w : World} : ∀ (cs : List CT) (r : List DC) (f : Nat → Option Value) (fp : List Nat), RdL w cs r f fp → WtL cs r
  | [], _, _, _, h => by
    simp only [RdL, WtL] at h ⊢
    exact h.1
  | c :: cs, _, _, _, h => by
    simp only [RdL, WtL] at h ⊢
    obtain ⟨d, r', v, f1, f2, h0, _, h1, h2, _⟩ := h
    exact ⟨d, r', h0, RdC.wt c d v f1 h1, RdL.wt cs r' _ f2 h2⟩
end

def ctsAll : List AK → List CT
  | [] => []
  | k :: ks => k.cts ++ ctsAll ks

theorem WtL.append : ∀ {cs cs' : List CT} {r r' : List DC}, WtL cs r → WtL cs' r' → WtL (cs ++ cs') (r ++ r')
  | [], _, _, _, h, h' => by
    simp only [WtL] at h
    subst h
    exact h'
  | c :: cs, _, _, _, h, h' => by
    simp only [WtL] at h
    obtain ⟨d, r1, rfl, h1, h2⟩ := h
    simp only [List.cons_append, WtL]
    exact ⟨d, r1 ++ _, rfl, h1, h2.append h'⟩

theorem ArgsR.wt {w : World} : ∀ (ks : List AK) (ds : List DC) (vs : List Value) (fp : List Nat), ArgsR w ks ds vs fp → WtL (ctsAll ks) ds
  | [], _, _, _, h => by
    simp only [ctsAll, WtL]
    exact h.1
  | k :: ks, _, _, _, h => by
    obtain ⟨d1, d2, v, vs', f1, f2, rfl, rfl, ⟨us, _, _, hr, _⟩, h2, rfl⟩ := h
    exact WtL.append (RdL.wt _ _ _ _ hr) (ArgsR.wt ks d2 vs' f2 h2)

section
variable {P : Program} {Γ : Ctx} {A : List (Nat × Ann)} {w : World}

theorem ofDCs_append : ∀ (cs : List CT) (d1 d2 : List DC) (k : Nat), k + cs.length ≤ d1.length → ofDCs cs (d1 ++ d2) k = ofDCs cs d1 k
  | [], _, _, _, _ => rfl
  | c :: cs, d1, d2, k, h => by
    simp only [ofDCs]
    simp only [List.length_cons] at h
    rw [ofDCs_append cs d1 d2 (k + 1) (by omega)]
    congr 2
    simp only [List.getD_eq_getElem?_getD]
    rw [List.getElem?_append_left (by omega)]

theorem arg_sv {av : Nat → Prop} {β : Env} {k : AK} {ds : List DC} {v : Value} {fp : List Nat} (h : ArgR w k ds v fp) (hav : ∀ b ∈ fp, ¬ av b) :
    SVR w av β (bif k.agg then .agg (ofDCs k.cts ds 0) else (ofDCs k.cts ds 0).headD .unk) v := by
  obtain ⟨us, h1, h2, h3, h4⟩ := h
  obtain ⟨vs, l1, l2, l3, l4⟩ := RdL.svs (β := β) h3 hav k.cts.length 0 (by omega)
  have e : vs = us := by
    apply List.ext_getElem?
    intro j
    by_cases hj : j < vs.length
    · have := l2 j vs[j] (by simp)
      simp only [Nat.zero_add] at this
      rw [this]
      simp
    · rw [List.getElem?_eq_none (by omega), List.getElem?_eq_none (by omega)]
  subst e
  simp only [List.drop_zero, List.take_length] at l3
  cases hk : k.agg with
  | true =>
    rw [hk] at h1
    simp only [cond_true] at h1 ⊢
    simp only [SVR]
    exact ⟨vs, h1, l3, l4⟩
  | false =>
    rw [hk] at h1
    simp only [cond_false] at h1 ⊢
    rw [h1.1] at l3
    cases hd : ofDCs k.cts ds 0 with
    | nil => simp [SVR]
    | cons s ss =>
      rw [hd] at l3
      simp only [SVRL] at l3
      obtain ⟨v', l', e1, e2, _⟩ := l3
      simp only [List.cons.injEq] at e1
      rw [e1.1]
      exact e2

theorem init_sv {av : Nat → Prop} {β : Env} : ∀ (ks : List AK) (ds : List DC) (vs : List Value) (fp : List Nat) (i0 : Nat), ArgsR w ks ds vs fp → (∀ b ∈ fp, ¬ av b) → ∀ i,
    lkV (initSl i0 ks ds) i = .unk ∨ ∃ j v, i = i0 + j ∧ vs[j]? = some v ∧ SVR w av β (lkV (initSl i0 ks ds) i) v
  | [], _, _, _, _, _, _, i => .inl rfl
  | k :: ks, _, _, _, i0, h, hav, i => by
    obtain ⟨d1, d2, v, vs', f1, f2, rfl, rfl, ha, h2, rfl⟩ := h
    have hl : d1.length = k.cts.length := by
      obtain ⟨us, _, _, hr, _⟩ := ha
      exact RdL.length _ _ _ _ hr
    simp only [initSl, lkV]
    rw [ofDCs_append _ _ _ _ (by omega)]
    cases hk : Nat.beq i0 i
    · simp only [cond_false]
      rw [← hl, List.drop_left]
      rcases init_sv (av := av) (β := β) ks d2 vs' f2 (i0 + 1) h2 (fun b hb => hav b (List.mem_append_right _ hb)) i with h3 | ⟨j, v', hi, hj, hs⟩
      · exact .inl h3
      · exact .inr ⟨j + 1, v', by omega, by simpa using hj, hs⟩
    · have := Nat.eq_of_beq_eq_true hk
      subst this
      simp only [cond_true]
      exact .inr ⟨0, v, rfl, rfl, arg_sv ha (fun b hb => hav b (List.mem_append_left _ hb))⟩

theorem ArgsR.length : ∀ (ks : List AK) (ds : List DC) (vs : List Value) (fp : List Nat), ArgsR w ks ds vs fp → vs.length = ks.length
  | [], _, _, _, h => by rw [h.2.1]; rfl
  | k :: ks, _, _, _, h => by
    obtain ⟨d1, d2, v, vs', f1, f2, rfl, rfl, ha, h2, rfl⟩ := h
    simp [ArgsR.length ks d2 vs' f2 h2]

theorem fin_ok {fn : Func} {s : Sum} {st : St} {r : List DC} (h : fin P fn s st = (true, r)) : st.ok = true := by
  unfold fin at h
  split at h
  · simp only [Prod.mk.injEq, Bool.and_eq_true] at h
    exact h.1.1.1
  · exact absurd h bad_ne

theorem fin_post {fn : Func} {s : Sum} {st : St} {r : List DC} {w w' : World} {fp : List Nat} {a : Act} (h : fin P fn s st = (true, r)) (hR : Rel w ⟨fun _ => False, fun b => b < w.heap.size ∧ b ∉ fp, []⟩ st a w') :
    a.defers = [] ∧ ∃ v, (results fn a.tmps).run P w' = .ok v w' ∧ ∃ vs φ im tp, Ending.returned v = .returned (pack vs) ∧ Kept Own.none w w' ∧ ResV w' s.rs r vs φ im tp ∧ φ.Nodup ∧
      (∀ b ∈ φ, w.heap.size ≤ b ∧ b < w'.heap.size) ∧ ∀ b ∈ im, (b ∈ fp ∨ w.heap.size ≤ b) ∧ b ∉ tp := by
  unfold fin at h
  split at h
  case h_2 => exact absurd h bad_ne
  rename_i ds own im x hr
  simp only [Prod.mk.injEq, Bool.and_eq_true, List.all_eq_true, Bool.not_eq_true'] at h
  obtain ⟨⟨⟨_, hown⟩, him⟩, rfl⟩ := h
  obtain ⟨β, φ, hc⟩ := hR.core
  have hval := M.val_of_run _ hr
  simp only [M.val_bind, Option.bind_eq_some_iff] at hval
  obtain ⟨ss, h1, h2⟩ := hval
  obtain ⟨vs, g1, g2⟩ := resSVs_ok hc _ _ h1
  obtain ⟨φ', im', tp', k1, k2, k3, k4, k5⟩ := finVals_ok hc _ _ _ _ g2 h2
  refine ⟨hR.defers, pack vs, results_run g1, vs, φ', im', tp', rfl, ⟨hR.kept.os, hR.kept.tape, hR.kept.output, hR.kept.size, fun k hk hn => hR.kept.block k hk (fun h => h)⟩, k1, k4 (nodupN_iff hown), ?_, ?_⟩
  · intro b hb
    obtain ⟨i, _, ⟨o, hio⟩, hbi⟩ := k2 b hb
    have := (hc.fresh i o hio).2 b hbi
    rcases this.1 with h3 | h3
    · exact ⟨h3, this.2⟩
    · exact h3.elim
  · intro b hb
    rcases k5 b hb with h3 | ⟨i, hi, ⟨o, hio⟩, hbi⟩
    · refine ⟨?_, fun hx => ?_⟩
      · by_cases hlt : b < w.heap.size
        · by_cases hm : b ∈ fp
          · exact .inl hm
          · refine absurd (.inr ?_) h3
            rw [hc.bars]
            exact ⟨hlt, hm⟩
        · exact .inr (by omega)
      · obtain ⟨j, oj, _, hj, hbj⟩ := k3 b hx
        exact h3 (.inl ⟨j, oj, hj, hbj⟩)
    · refine ⟨?_, fun hx => ?_⟩
      · rcases ((hc.fresh i o hio).2 b hbi).1 with h3 | h3
        · exact .inr h3
        · exact h3.elim
      · obtain ⟨j, oj, hjm, hj, hbj⟩ := k3 b hx
        have hne : i ≠ j := by
          rintro rfl
          have := him i hi
          rw [memN_iff.2 hjm] at this
          cases this
        exact hc.sep i j o oj hne hio hj b hbi (tops_sub (hc.objs j oj hj) b hbj)

/-- A contract out of runs. -/
theorem holds_of_run (hΓ : CtxHolds P Γ) {g : Nat} {fn : Func} {s : Sum} (hf : P.funcs[g]? = some fn) (hbd : fn.body.isSome = true) (hn : (fn.name == "runtime.NumGoroutine") = false) (hlen : s.ps.length ≤ fn.ntmps) (hnt : fn.ntmps < 1099511627776)
    (h : ∀ ds, WtL (ctsAll s.ps) ds → (s.fn ds).1 = true → ∃ N, runF P Γ A N fn s ds = (true, (s.fn ds).2)) : Holds P g s := by
  refine ⟨⟨fn, hf, hbd, hn⟩, fun w ds vals fp hargs hok => ?_⟩
  obtain ⟨N, hrun⟩ := h ds (ArgsR.wt _ _ _ _ hargs) hok
  obtain ⟨c, hc⟩ := Option.isSome_iff_exists.1 hbd
  unfold runF at hrun
  rw [hc] at hrun
  simp only at hrun
  have hvl := ArgsR.length _ _ _ _ hargs
  refine calls_of_wp hf hc ?_
  let S : Own := ⟨fun _ => False, fun b => b < w.heap.size ∧ b ∉ fp, []⟩
  let β : Env := ⟨fun _ => 0, fun _ => undef, S.bar⟩
  have hfp := ArgsR.lt _ _ _ _ hargs
  have hR : Rel w S { n := fn.ntmps, sl := initSl 0 s.ps ds, hp := [], ok := true, ls := [], lm := [] } { tmps := vals.toArray ++ Array.replicate (fn.ntmps - vals.toArray.size) undef, defers := [] } w := by
    refine ⟨by simp only [Array.size_append, List.size_toArray, Array.size_replicate]; rw [Nat.mod_eq_of_lt hnt]; omega, fun x hx => by simp [S] at hx, rfl, ⟨rfl, rfl, rfl, Nat.le_refl _, fun _ _ _ => rfl⟩, β, fun _ => [], ?_⟩
    refine ⟨fun i => ?_, fun id o ho => by simp [St.obj, lkO] at ho, fun id o ho => by simp [St.obj, lkO] at ho, fun i j o p _ ho => by simp [St.obj, lkO] at ho, fun b hb => ⟨hb.1, fun h => h⟩, rfl⟩
    have hnav : ∀ b ∈ fp, ¬ Av (lkO []) β b := by
      intro b hb hx
      rcases hx with ⟨id, o, ho, _⟩ | hx
      · simp [lkO] at ho
      · exact hx.2 hb
    rcases init_sv (av := Av (lkO []) β) (β := β) s.ps ds vals fp 0 hargs hnav i with h1 | ⟨j, v, hi, hj, hs⟩
    · show SVR w _ _ (lkV (initSl 0 s.ps ds) i) _
      rw [h1]
      simp [SVR]
    · have hv : (vals.toArray ++ Array.replicate (fn.ntmps - vals.toArray.size) undef).getD i undef = v := by
        have hjl : j < vals.length := (List.getElem?_eq_some_iff.1 hj).1
        rw [Array.getD_eq_getD_getElem?, Array.getElem?_append_left (by simp; omega)]
        have : i = j := by omega
        subst this
        simp [hj]
      rw [hv]
      exact hs
  refine run_sound (r := (s.fn ds).2) hΓ c _ { nrm := fin P fn s, ext := fun _ _ => bad, ret := fin P fn s } _ w _ ⟨fun st hst => fin_ok hst, fun i st hst => absurd hst bad_ne, fun st hst => fin_ok hst⟩ hR hrun ⟨?_, ?_, ?_⟩
  · intro st a w' hR' hst
    exact fin_post hst hR'
  · intro i st a w' _ hst
    exact absurd hst bad_ne
  · intro st a w' hR' hst
    exact fin_post hst hR'

end
end Go.Proofs.Ytjknoknkbfhelaa.Vm
