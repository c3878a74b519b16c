/- The value machine: contracts of functions that write through parameters, out of runs. Conditions: the contracts of the context hold; the run ends with the contract's data. -/
import Derived.Test.YtjknoknkbfhelaaVmZD
set_option linter.unusedVariables false
set_option linter.unusedSimpArgs false
namespace Go.Proofs.Ytjknoknkbfhelaa.Vm

/-- An object at the beginning: its name, itself, its block, its value, what it owns. -/
structure EN where
  id : Nat
  o : VObj
  blk : Nat
  val : Value
  φ : List Nat

def EN.ok (w : World) (av : Nat → Prop) (β : Env) (x : EN) : Prop := ObjR w av β x.id x.o x.φ ∧ tops β x.id x.o = x.φ

section
variable {P : Program} {Γ : Ctx} {A : List (Nat × Ann)} {w : World} {i : Nat}

theorem initCells_ok : ∀ (j : Nat) (cs : List CT) (ts : List TypeId) (ds : List DC) (us : List Value) (mb : List Nat), RowsA w cs ts ds us mb →
    ∃ E : List EN, (initCells i j cs ts ds).2 = E.map (fun x => (x.id, x.o)) ∧ E.flatMap (·.φ) = mb ∧ ∀ (av : Nat → Prop) (β : Env), (∀ x ∈ E, β.blk x.id = x.blk ∧ β.val x.id = x.val) →
      SVRL w av β (initCells i j cs ts ds).1 us ∧ ∀ x ∈ E, x.ok w av β
  | j, [], ts, ds, us, mb, hm => by
    simp only [RowsA] at hm
    obtain ⟨rfl, rfl, rfl, rfl⟩ := hm
    exact ⟨[], rfl, rfl, fun av β _ => ⟨by simp [initCells, SVRL], by simp⟩⟩
  | j, .int k :: cs, ts, ds, us, mb, hm => by
    simp only [RowsA] at hm
    obtain ⟨d, ds', v, us', rfl, rfl, h1, hm⟩ := hm
    obtain ⟨E, e1, e2, e3⟩ := initCells_ok (j + 1) cs ts ds' us' mb hm
    refine ⟨E, by simpa only [initCells, List.tail_cons] using e1, e2, fun av β hb => ?_⟩
    obtain ⟨k1, k2⟩ := e3 av β hb
    refine ⟨?_, k2⟩
    simp only [initCells, List.headD_cons, List.tail_cons, SVRL]
    exact ⟨v, us', rfl, ofDC_ok h1 (by simp), k1⟩
  | j, .bool :: cs, ts, ds, us, mb, hm => by
    simp only [RowsA] at hm
    obtain ⟨d, ds', v, us', rfl, rfl, h1, hm⟩ := hm
    obtain ⟨E, e1, e2, e3⟩ := initCells_ok (j + 1) cs ts ds' us' mb hm
    refine ⟨E, by simpa only [initCells, List.tail_cons] using e1, e2, fun av β hb => ?_⟩
    obtain ⟨k1, k2⟩ := e3 av β hb
    refine ⟨?_, k2⟩
    simp only [initCells, List.headD_cons, List.tail_cons, SVRL]
    exact ⟨v, us', rfl, ofDC_ok h1 (by simp), k1⟩
  | j, .str :: cs, ts, ds, us, mb, hm => by
    simp only [RowsA] at hm
    obtain ⟨d, ds', v, us', rfl, rfl, h1, hm⟩ := hm
    obtain ⟨E, e1, e2, e3⟩ := initCells_ok (j + 1) cs ts ds' us' mb hm
    refine ⟨E, by simpa only [initCells, List.tail_cons] using e1, e2, fun av β hb => ?_⟩
    obtain ⟨k1, k2⟩ := e3 av β hb
    refine ⟨?_, k2⟩
    simp only [initCells, List.headD_cons, List.tail_cons, SVRL]
    exact ⟨v, us', rfl, ofDC_ok h1 (by simp), k1⟩
  | j, .sl e :: cs, ts, ds, us, mb, hm => by
    simp only [RowsA] at hm
    obtain ⟨t, ts', rows, ds', v, us', vals, fps, mb', rfl, rfl, rfl, hfl, h1, h2, hm, rfl⟩ := hm
    obtain ⟨E, e1, e2, e3⟩ := initCells_ok (j + 1) cs ts' ds' us' mb' hm
    refine ⟨⟨pid i j, .row t e rows false true, 0, v, v.ownBlock.toList⟩ :: E, ?_, ?_, fun av β hb => ?_⟩
    · simp only [initCells, List.headD_cons, List.tail_cons, List.map_cons, e1, DC.asRows]
    · simp only [List.flatMap_cons, e2]
    · obtain ⟨k1, k2⟩ := e3 av β (fun x hx => hb x (List.mem_cons_of_mem _ hx))
      have hv := (hb _ (List.mem_cons_self ..)).2
      simp only at hv
      refine ⟨?_, fun x hx => ?_⟩
      · simp only [initCells, List.headD_cons, List.tail_cons, SVRL]
        refine ⟨v, us', rfl, ?_, k1⟩
        simp only [SVR]
        exact ⟨hv.symm, h1.one⟩
      · rcases List.mem_cons.1 hx with rfl | hx
        · refine ⟨⟨vals, fps, by rw [hv]; exact h1, h2, by rw [InR_flat hfl h2]; simp, ?_⟩, ?_⟩
          · rw [hv, InR_flat hfl h2]
            simp
          · simp only [tops, hv]
        · exact k2 x hx

theorem RowsA.length : ∀ (cs : List CT) (ts : List TypeId) (ds : List DC) (us : List Value) (mb : List Nat), RowsA w cs ts ds us mb → ds.length = cs.length
  | [], ts, ds, us, mb, h => by simp only [RowsA] at h; simp [h.2.1]
  | .sl e :: cs, ts, ds, us, mb, h => by
    simp only [RowsA] at h
    obtain ⟨t, ts', rows, ds', v, us', vals, fps, mb', rfl, rfl, rfl, _, _, _, h, _⟩ := h
    simp [RowsA.length cs ts' ds' us' mb' h]
  | .int k :: cs, ts, ds, us, mb, h => by
    simp only [RowsA] at h
    obtain ⟨d, ds', v, us', rfl, rfl, _, h⟩ := h
    simp [RowsA.length cs ts ds' us' mb h]
  | .bool :: cs, ts, ds, us, mb, h => by
    simp only [RowsA] at h
    obtain ⟨d, ds', v, us', rfl, rfl, _, h⟩ := h
    simp [RowsA.length cs ts ds' us' mb h]
  | .str :: cs, ts, ds, us, mb, h => by
    simp only [RowsA] at h
    obtain ⟨d, ds', v, us', rfl, rfl, _, h⟩ := h
    simp [RowsA.length cs ts ds' us' mb h]

theorem initCells_app : ∀ (j : Nat) (cs : List CT) (ts : List TypeId) (d1 d2 : List DC), cs.length ≤ d1.length → initCells i j cs ts (d1 ++ d2) = initCells i j cs ts d1
  | _, [], _, _, _, _ => rfl
  | j, c :: cs, ts, d1, d2, hl => by
    cases d1 with
    | nil => simp at hl
    | cons x d1 =>
      have hl' : cs.length ≤ d1.length := by simpa using hl
      cases c <;> simp only [List.cons_append, initCells, List.headD_cons, List.tail_cons] <;> rw [initCells_app _ cs _ d1 d2 hl']

theorem init_ok : ∀ (i : Nat) (ks : List AK) (ms : List (Option MK)) (ds : List DC) (vs : List Value) (fp mb : List Nat), MArgs w ks ms ds vs fp mb →
    ∃ E : List EN, (initM i ks ms ds).2 = E.map (fun x => (x.id, x.o)) ∧ E.flatMap (·.φ) = mb ∧ ∀ (av : Nat → Prop) (β : Env), (∀ x ∈ E, β.blk x.id = x.blk ∧ β.val x.id = x.val) → (∀ b ∈ fp, ¬ av b) →
      (∀ n, lkV (initM i ks ms ds).1 n = .unk ∨ ∃ j v, n = i + j ∧ vs[j]? = some v ∧ SVR w av β (lkV (initM i ks ms ds).1 n) v) ∧ ∀ x ∈ E, x.ok w av β
  | i, [], ms, ds, vs, fp, mb, hm => by
    simp only [MArgs] at hm
    obtain ⟨rfl, rfl, rfl, rfl, rfl⟩ := hm
    exact ⟨[], rfl, rfl, fun av β _ _ => ⟨fun n => .inl rfl, by simp⟩⟩
  | i, k :: ks, ms, ds, vs, fp, mb, hm => by
    simp only [MArgs] at hm
    obtain ⟨m, ms, d1, d2, v, vs, f1, f2, b1, b2, rfl, rfl, rfl, ha, hm, rfl, rfl⟩ := hm
    obtain ⟨E, e1, e2, e3⟩ := init_ok (i + 1) ks ms d2 vs f2 b2 hm
    have step : ∀ (av : Nat → Prop) (β : Env) (s : SV) (l : List (Nat × SV)), (∀ n, lkV l n = .unk ∨ ∃ j u, n = i + 1 + j ∧ vs[j]? = some u ∧ SVR w av β (lkV l n) u) → SVR w av β s v →
        ∀ n, lkV ((i, s) :: l) n = .unk ∨ ∃ j u, n = i + j ∧ (v :: vs)[j]? = some u ∧ SVR w av β (lkV ((i, s) :: l) n) u := by
      intro av β s l hl hs n
      simp only [lkV]
      cases hk : Nat.beq i n
      · simp only [cond_false]
        rcases hl n with h3 | ⟨j, u, hn, hj, hu⟩
        · exact .inl h3
        · exact .inr ⟨j + 1, u, by omega, by simpa using hj, hu⟩
      · have := Nat.eq_of_beq_eq_true hk
        subst this
        simp only [cond_true]
        exact .inr ⟨0, v, rfl, rfl, hs⟩
    cases m with
    | none =>
      simp only [MArg] at ha
      obtain ⟨ha, rfl⟩ := ha
      have hl : d1.length = k.cts.length := by
        obtain ⟨us, _, _, hr, _⟩ := ha
        exact RdL.length _ _ _ _ hr
      have hdr : (d1 ++ d2).drop k.cts.length = d2 := by rw [← hl, List.drop_left]
      refine ⟨E, by simp only [initM, List.headD_cons, List.tail_cons, hdr, e1], by simpa using e2, fun av β hb hfp => ?_⟩
      obtain ⟨k1, k2⟩ := e3 av β hb (fun b hb => hfp b (List.mem_append_right _ hb))
      refine ⟨?_, k2⟩
      simp only [initM, List.headD_cons, List.tail_cons, hdr]
      refine step av β _ _ k1 ?_
      rw [ofDCs_app _ _ _ _ (by omega)]
      exact arg_sv ha (fun b hb => hfp b (List.mem_append_left _ hb))
    | some m =>
      cases m with
      | box t =>
        simp only [MArg] at ha
        obtain ⟨g, us, rfl, hg, hone, hr, hlu, rfl⟩ := ha
        have hl : d1.length = k.cts.length := RdL.length _ _ _ _ hr
        have hdr : (d1 ++ d2).drop k.cts.length = d2 := by rw [← hl, List.drop_left]
        refine ⟨⟨pid i 0, .box t (ofDCs k.cts d1 0), g, undef, [g]⟩ :: E, ?_, by simp [e2], fun av β hb hfp => ?_⟩
        · simp only [initM, List.headD_cons, List.tail_cons, hdr, e1, List.map_cons]
          rw [ofDCs_app _ _ _ _ (by omega)]
        · obtain ⟨k1, k2⟩ := e3 av β (fun x hx => hb x (List.mem_cons_of_mem _ hx)) (fun b hb => hfp b (List.mem_append_right _ hb))
          have hbk := (hb _ (List.mem_cons_self ..)).1
          simp only at hbk
          refine ⟨?_, fun x hx => ?_⟩
          · simp only [initM, List.headD_cons, List.tail_cons, hdr]
            refine step av β _ _ k1 ?_
            simp only [SVR, hbk]
          · rcases List.mem_cons.1 hx with rfl | hx
            · obtain ⟨vs', l1, l2, l3, l4⟩ := RdL.svs (β := β) (av := av) hr (fun b hb => hfp b (List.mem_append_left _ hb)) k.cts.length 0 (by omega)
              have ee : vs' = us := by
                apply List.ext_getElem?
                intro j
                by_cases hj : j < vs'.length
                · have := l2 j vs'[j] (by simp)
                  simp only [Nat.zero_add] at this
                  rw [this]
                  simp
                · rw [List.getElem?_eq_none (by omega), List.getElem?_eq_none (by omega)]
              subst ee
              simp only [List.drop_zero, List.take_length] at l3
              exact ⟨⟨vs', by rw [hbk]; exact hg, l3, hone, by simp only [hbk]⟩, by simp only [tops, hbk]⟩
            · exact k2 x hx
      | rows ts =>
        simp only [MArg] at ha
        obtain ⟨us, hus, hone, hra, rfl⟩ := ha
        obtain ⟨E1, a1, a2, a3⟩ := initCells_ok (i := i) 0 k.cts ts d1 us b1 hra
        have hl : d1.length = k.cts.length := RowsA.length _ _ _ _ _ hra
        have hdr : (d1 ++ d2).drop k.cts.length = d2 := by rw [← hl, List.drop_left]
        have hic : initCells i 0 k.cts ts (d1 ++ d2) = initCells i 0 k.cts ts d1 := initCells_app _ _ _ _ _ (by omega)
        refine ⟨E1 ++ E, ?_, by simp [a2, e2], fun av β hb hfp => ?_⟩
        · simp only [initM, List.headD_cons, List.tail_cons, hdr, hic, e1, a1, List.map_append]
        · obtain ⟨k1, k2⟩ := e3 av β (fun x hx => hb x (List.mem_append_right _ hx)) (fun b hb => hfp b (by simpa using hb))
          obtain ⟨c1, c2⟩ := a3 av β (fun x hx => hb x (List.mem_append_left _ hx))
          refine ⟨?_, fun x hx => ?_⟩
          · simp only [initM, List.headD_cons, List.tail_cons, hdr, hic]
            refine step av β _ _ k1 ?_
            cases hk : k.agg with
            | true =>
              rw [hk] at hus
              simp only [cond_true] at hus ⊢
              simp only [SVR]
              exact ⟨us, hus, c1, hone⟩
            | false =>
              rw [hk] at hus
              simp only [cond_false] at hus ⊢
              rw [hus.1] at c1
              generalize (initCells i 0 k.cts ts d1).1 = q at c1
              cases q with
              | nil => simp [SVRL] at c1
              | cons y l =>
                simp only [SVRL] at c1
                obtain ⟨v', l', e0, e5, _⟩ := c1
                injection e0 with e0
                subst e0
                simpa using e5
          · rcases List.mem_append.1 hx with hx | hx
            · exact c2 x hx
            · exact k2 x hx

theorem RowsA.lt : ∀ (cs : List CT) (ts : List TypeId) (ds : List DC) (us : List Value) (mb : List Nat), RowsA w cs ts ds us mb → ∀ b ∈ mb, b < w.heap.size
  | [], ts, ds, us, mb, h => by simp only [RowsA] at h; simp [h.2.2.2]
  | .sl e :: cs, ts, ds, us, mb, h => by
    simp only [RowsA] at h
    obtain ⟨t, ts', rows, ds', v, us', vals, fps, mb', rfl, rfl, rfl, _, h1, _, h, rfl⟩ := h
    intro b hb
    rcases List.mem_append.1 hb with hb | hb
    · exact h1.lt b hb
    · exact RowsA.lt cs ts' ds' us' mb' h b hb
  | .int k :: cs, ts, ds, us, mb, h => by
    simp only [RowsA] at h
    obtain ⟨d, ds', v, us', rfl, rfl, _, h⟩ := h
    exact RowsA.lt cs ts ds' us' mb h
  | .bool :: cs, ts, ds, us, mb, h => by
    simp only [RowsA] at h
    obtain ⟨d, ds', v, us', rfl, rfl, _, h⟩ := h
    exact RowsA.lt cs ts ds' us' mb h
  | .str :: cs, ts, ds, us, mb, h => by
    simp only [RowsA] at h
    obtain ⟨d, ds', v, us', rfl, rfl, _, h⟩ := h
    exact RowsA.lt cs ts ds' us' mb h

theorem MArgs.facts : ∀ (ks : List AK) (ms : List (Option MK)) (ds : List DC) (vs : List Value) (fp mb : List Nat), MArgs w ks ms ds vs fp mb → (∀ b ∈ mb, b < w.heap.size) ∧ (∀ b ∈ fp, b < w.heap.size) ∧ vs.length = ks.length
  | [], ms, ds, vs, fp, mb, h => by
    simp only [MArgs] at h
    obtain ⟨_, _, rfl, rfl, rfl⟩ := h
    simp
  | k :: ks, ms, ds, vs, fp, mb, h => by
    simp only [MArgs] at h
    obtain ⟨m, ms', d1, d2, v, vs', f1, f2, b1, b2, rfl, rfl, rfl, ha, h, rfl, rfl⟩ := h
    obtain ⟨k1, k2, k3⟩ := MArgs.facts ks ms' d2 vs' f2 b2 h
    have one : (∀ b ∈ b1, b < w.heap.size) ∧ ∀ b ∈ f1, b < w.heap.size := by
      cases m with
      | none =>
        simp only [MArg] at ha
        obtain ⟨⟨us, _, _, hr, _⟩, rfl⟩ := ha
        exact ⟨by simp, RdL.lt _ _ _ _ hr⟩
      | some m =>
        cases m with
        | box t =>
          simp only [MArg] at ha
          obtain ⟨g, us, _, hg, _, hr, _, rfl⟩ := ha
          refine ⟨fun b hb => ?_, RdL.lt _ _ _ _ hr⟩
          simp only [List.mem_singleton] at hb
          subst hb
          exact (Array.getElem?_eq_some_iff.1 hg).1
        | rows ts =>
          simp only [MArg] at ha
          obtain ⟨us, _, _, hra, rfl⟩ := ha
          exact ⟨RowsA.lt _ _ _ _ _ hra, by simp⟩
    refine ⟨fun b hb => ?_, fun b hb => ?_, by simp [k3]⟩
    · rcases List.mem_append.1 hb with hb | hb
      · exact one.1 b hb
      · exact k1 b hb
    · rcases List.mem_append.1 hb with hb | hb
      · exact one.2 b hb
      · exact k2 b hb

theorem flat_apart {E : List EN} (h : (E.flatMap (·.φ)).Nodup) : (∀ x ∈ E, x.φ.Nodup) ∧ ∀ x ∈ E, ∀ y ∈ E, x ≠ y → ∀ b ∈ x.φ, b ∉ y.φ := by
  induction E with
  | nil => simp
  | cons z l ih =>
    rw [List.flatMap_cons, List.nodup_append] at h
    obtain ⟨h1, h2, h3⟩ := h
    obtain ⟨i1, i2⟩ := ih h2
    refine ⟨fun x hx => ?_, fun x hx y hy hxy b hb hb' => ?_⟩
    · rcases List.mem_cons.1 hx with rfl | hx
      · exact h1
      · exact i1 x hx
    · rcases List.mem_cons.1 hx with hx1 | hx1 <;> rcases List.mem_cons.1 hy with hy1 | hy1
      · exact hxy (hx1.trans hy1.symm)
      · subst hx1
        exact h3 b hb b (List.mem_flatMap.2 ⟨y, hy1, hb'⟩) rfl
      · subst hy1
        exact h3 b hb' b (List.mem_flatMap.2 ⟨x, hx1, hb⟩) rfl
      · exact i2 x hx1 y hy1 hxy b hb hb'

theorem ResV.count {w : World} : ∀ (rks : List RK) (ds : List DC) (vs : List Value) (φ im tp : List Nat), ResV w rks ds vs φ im tp → ds.length = resCount rks
  | [], ds, vs, φ, im, tp, h => by simp only [ResV] at h; simp [h.1, resCount]
  | r :: rs, ds, vs, φ, im, tp, h => by
    simp only [ResV] at h
    obtain ⟨d1, d2, v, vs', us, φ1, φ2, i1, i2, t1, t2, rfl, rfl, _, _, h1, h2, _⟩ := h
    simp only [List.length_append, resCount, ResL.length _ _ _ _ _ _ h1, ResV.count rs d2 vs' _ _ _ h2]

theorem RowsA.wt : ∀ (cs : List CT) (ts : List TypeId) (ds : List DC) (us : List Value) (mb : List Nat), RowsA w cs ts ds us mb → WtL cs ds
  | [], ts, ds, us, mb, h => by simp only [RowsA] at h; simp only [WtL]; exact h.2.1
  | .sl e :: cs, ts, ds, us, mb, h => by
    simp only [RowsA] at h
    obtain ⟨t, ts', rows, ds', v, us', vals, fps, mb', rfl, rfl, rfl, _, h1, h2, h, _⟩ := h
    simp only [WtL, WtC]
    refine ⟨_, _, rfl, ⟨rows, rfl, ?_, fun r hr => ?_⟩, RowsA.wt cs ts' ds' us' mb' h⟩
    · rcases h1.2 with ⟨_, hn, _⟩ | ⟨g, cap, cur, _, _, h3, h4, _⟩
      · rw [hn]; exact Nat.zero_le _
      · omega
    · obtain ⟨i, hi, rfl⟩ := List.getElem_of_mem hr
      have hi' : i < fps.length := by have := h2.1; omega
      exact RdL.wt e _ _ _ (h2.2 i rows[i] fps[i] (by simp) (by simp [hi']))
  | .int k :: cs, ts, ds, us, mb, h => by
    simp only [RowsA] at h
    obtain ⟨d, ds', v, us', rfl, rfl, h1, h⟩ := h
    simp only [WtL]
    exact ⟨d, ds', rfl, RdC.wt _ _ _ _ h1, RowsA.wt cs ts ds' us' mb h⟩
  | .bool :: cs, ts, ds, us, mb, h => by
    simp only [RowsA] at h
    obtain ⟨d, ds', v, us', rfl, rfl, h1, h⟩ := h
    simp only [WtL]
    exact ⟨d, ds', rfl, RdC.wt _ _ _ _ h1, RowsA.wt cs ts ds' us' mb h⟩
  | .str :: cs, ts, ds, us, mb, h => by
    simp only [RowsA] at h
    obtain ⟨d, ds', v, us', rfl, rfl, h1, h⟩ := h
    simp only [WtL]
    exact ⟨d, ds', rfl, RdC.wt _ _ _ _ h1, RowsA.wt cs ts ds' us' mb h⟩

theorem MArgs.wt : ∀ (ks : List AK) (ms : List (Option MK)) (ds : List DC) (vs : List Value) (fp mb : List Nat), MArgs w ks ms ds vs fp mb → WtL (ctsAll ks) ds
  | [], ms, ds, vs, fp, mb, h => by
    simp only [MArgs] at h
    simp only [ctsAll, WtL]
    exact h.2.1
  | k :: ks, ms, ds, vs, fp, mb, h => by
    simp only [MArgs] at h
    obtain ⟨m, ms', d1, d2, v, vs', f1, f2, b1, b2, rfl, rfl, rfl, ha, h, _⟩ := h
    refine WtL.append ?_ (MArgs.wt ks ms' d2 vs' f2 b2 h)
    cases m with
    | none =>
      simp only [MArg] at ha
      obtain ⟨⟨us, _, _, hr, _⟩, _⟩ := ha
      exact RdL.wt _ _ _ _ hr
    | some m =>
      cases m with
      | box t =>
        simp only [MArg] at ha
        obtain ⟨g, us, _, _, _, hr, _⟩ := ha
        exact RdL.wt _ _ _ _ hr
      | rows ts =>
        simp only [MArg] at ha
        obtain ⟨us, _, _, hra, _⟩ := ha
        exact RowsA.wt _ _ _ _ _ hra

def lkE : List EN → Nat → Option EN
  | [], _ => none
  | x :: l, i => if i = x.id then some x else lkE l i

theorem lkE_mem {E : List EN} {j : Nat} {x : EN} (h : lkE E j = some x) : x ∈ E ∧ x.id = j := by
  induction E with
  | nil => simp [lkE] at h
  | cons y l ih =>
    simp only [lkE] at h
    split at h
    · rename_i hj
      injection h with h
      subst h
      exact ⟨List.mem_cons_self .., hj.symm⟩
    · obtain ⟨h1, h2⟩ := ih h
      exact ⟨List.mem_cons_of_mem _ h1, h2⟩

theorem lkE_some {E : List EN} {x : EN} (hx : x ∈ E) (hn : (E.map (·.id)).Nodup) : lkE E x.id = some x := by
  induction E with
  | nil => simp at hx
  | cons y l ih =>
    simp only [List.map_cons, List.nodup_cons] at hn
    simp only [lkE]
    rcases List.mem_cons.1 hx with rfl | hx
    · simp
    · have : x.id ≠ y.id := fun e => hn.1 (e ▸ List.mem_map_of_mem hx)
      rw [if_neg this]
      exact ih hx hn.2

theorem lkO_E {E : List EN} {j : Nat} {o : VObj} (h : lkO (E.map fun x => (x.id, x.o)) j = some o) : ∃ x, lkE E j = some x ∧ x.o = o := by
  induction E with
  | nil => simp [lkO] at h
  | cons y l ih =>
    simp only [List.map_cons, lkO] at h
    simp only [lkE]
    cases hb : Nat.beq y.id j
    · rw [hb] at h
      rw [if_neg (fun e => Nat.ne_of_beq_eq_false hb e.symm)]
      exact ih h
    · rw [hb] at h
      have := Nat.eq_of_beq_eq_true hb
      subst this
      simp only [cond_true, Option.some.injEq] at h
      exact ⟨y, by simp, h⟩

theorem finM_ok {fn : Func} {s : Sum} {st : St} {r : List DC} (h : finM P fn s st = (true, r)) : st.ok = true := by
  unfold finM at h
  split at h
  · simp only [Prod.mk.injEq, Bool.and_eq_true] at h
    exact h.1.1
  · exact absurd h bad_ne

theorem finM_post {fn : Func} {s : Sum} {st : St} {r : List DC} {w w' : World} {ds : List DC} {vals : List Value} {fp mb : List Nat} {a : Act} (hsh : shares s = false) (hm : MArgs w s.ps s.ms ds vals fp mb)
    (h : finM P fn s st = (true, r)) (hR : Rel w ⟨fun b => b ∈ mb, fun b => b < w.heap.size ∧ b ∉ fp ∧ b ∉ mb, (vals.zipIdx.filter (fun x => Nat.blt x.2 (loOf s.ms))).map (fun x => (x.2, x.1))⟩ st a w') :
    a.defers = [] ∧ ∃ v, (results fn a.tmps).run P w' = .ok v w' ∧ ∃ vs φ im tp im2 rd od, Ending.returned v = .returned (pack vs) ∧ r = rd ++ od ∧ rd.length = resCount s.rs ∧ Kept ⟨fun b => b ∈ mb, fun _ => False, []⟩ w w' ∧ ResV w' s.rs rd vs φ im tp ∧ φ.Nodup ∧
      (∀ b ∈ φ, w.heap.size ≤ b ∧ b < w'.heap.size) ∧ MOuts w' s.ps s.ms od vals im2 ∧ ∀ b ∈ im2, (b ∈ fp ∨ w.heap.size ≤ b) ∧ b ∉ tp ∧ b ∉ mb := by
  obtain ⟨_, _, hvl⟩ := MArgs.facts _ _ _ _ _ _ hm
  unfold finM at h
  split at h
  case h_2 => exact absurd h bad_ne
  rename_i rd own im od ids x hr
  simp only [Prod.mk.injEq, Bool.and_eq_true] at h
  obtain ⟨⟨_, hown⟩, rfl⟩ := h
  obtain ⟨β, φ, hc⟩ := hR.core
  have hval := M.val_of_run _ hr
  simp only [M.val_bind, Option.bind_eq_some_iff, M.val_pure, Option.some.injEq, Prod.mk.injEq] at hval
  obtain ⟨ss, h1, q, h2, q2, h3, e1, e2⟩ := hval
  subst e1
  subst e2
  obtain ⟨vs, g1, g2⟩ := resSVs_ok hc _ _ h1
  obtain ⟨φ', im', tp', k1, k2, k3, k4, k5⟩ := finVals_ok hc _ _ _ _ g2 h2
  have hfx : ∀ (j : Nat) v m, vals[j]? = some v → s.ms[j]? = some (some m) → a.tmps.getD (0 + j) undef = v := by
    intro j v m hj hm
    have := (hR.fx (j, v) (List.mem_map.2 ⟨(v, j), List.mem_filter.2 ⟨by rw [List.mem_zipIdx_iff_getElem?]; exact hj, Nat.ble_eq_true_of_le (loOf_lt hm)⟩, rfl⟩)).2
    simpa using this
  obtain ⟨im2, o1, o2, o3⟩ := outs_ok hc 0 s.ps s.ms vals _ hfx hvl h3
  have hnd := nodupN_iff hown
  rw [List.nodup_append] at hnd
  have hmb : ∀ b ∈ mb, ∃ id ∈ ids, ∃ o, st.obj id = some o ∧ b ∈ tops β id o := o3 w ds fp mb hm
  refine ⟨hR.defers, pack vs, results_run g1, vs, φ', im', tp', im2, rd, od, rfl, rfl, ResV.count _ _ _ _ _ _ k1, ⟨hR.kept.os, hR.kept.tape, hR.kept.output, hR.kept.size, hR.kept.block⟩, k1, k4 hnd.1, ?_, o1, ?_⟩
  · intro b hb
    obtain ⟨i, hi, ⟨o, hio⟩, hbi⟩ := k2 b hb
    have hf := (hc.fresh i o hio).2 b hbi
    rcases hf.1 with h4 | h4
    · exact ⟨h4, hf.2⟩
    · obtain ⟨id, hid, o', ho', hbt⟩ := hmb b h4
      have hne : i ≠ id := fun e => hnd.2.2 i hi id hid e
      exact absurd (tops_sub (hc.objs _ _ ho') b hbt) (hc.sep i id o o' hne hio ho' b hbi)
  · intro b hb
    have hav := o2 b hb
    have hnm : b ∉ mb := fun hbm => by
      obtain ⟨id, hid, o', ho', hbt⟩ := hmb b hbm
      exact hav (.inl ⟨id, o', ho', hbt⟩)
    refine ⟨?_, fun hbt => ?_, hnm⟩
    · by_cases hlt : b < w.heap.size
      · by_cases hf : b ∈ fp
        · exact .inl hf
        · refine absurd (.inr ?_) hav
          rw [hc.bars]
          exact ⟨hlt, hf, hnm⟩
      · exact .inr (by omega)
    · obtain ⟨j, oj, _, hj, hbj⟩ := k3 b hbt
      exact hav (.inl ⟨j, oj, hj, hbj⟩)

/-- A contract of a function that writes through parameters, out of runs. -/
theorem holdsM_of_run (hΓ : CtxHolds P Γ) {g : Nat} {fn : Func} {s : Sum} (hf : P.funcs[g]? = some fn) (hbd : fn.body.isSome = true) (hn : (fn.name == "runtime.NumGoroutine") = false) (hlen : s.ps.length ≤ fn.ntmps) (hnt : fn.ntmps < 1099511627776)
    (hsh : shares s = false) (hid : ∀ ds, nodupN ((initM 0 s.ps s.ms ds).2.map (·.1)) = true)
    (h : ∀ ds, WtL (ctsAll s.ps) ds → (s.fn ds).1 = true → ∃ N, runFM P Γ A N fn s ds = (true, (s.fn ds).2)) : HoldsM P g s := by
  refine ⟨⟨fn, hf, hbd, hn⟩, fun w ds vals fp mb hargs hmbn hmbf hok => ?_⟩
  obtain ⟨N, hrun⟩ := h ds (MArgs.wt _ _ _ _ _ _ hargs) hok
  obtain ⟨c, hc⟩ := Option.isSome_iff_exists.1 hbd
  unfold runFM at hrun
  rw [hc] at hrun
  simp only at hrun
  obtain ⟨hmlt, hflt, hvl⟩ := MArgs.facts _ _ _ _ _ _ hargs
  refine calls_of_wp hf hc ?_
  let S : Own := ⟨fun b => b ∈ mb, fun b => b < w.heap.size ∧ b ∉ fp ∧ b ∉ mb, (vals.zipIdx.filter (fun x => Nat.blt x.2 (loOf s.ms))).map (fun x => (x.2, x.1))⟩
  obtain ⟨E, e1, e2, e3⟩ := init_ok 0 s.ps s.ms ds vals fp mb hargs
  have hidE : (E.map (·.id)).Nodup := by
    have := nodupN_iff (hid ds)
    rw [e1, List.map_map] at this
    exact this
  let β : Env := ⟨fun j => match lkE E j with | some x => x.blk | none => 0, fun j => match lkE E j with | some x => x.val | none => undef, S.bar⟩
  have hβ : ∀ x ∈ E, β.blk x.id = x.blk ∧ β.val x.id = x.val := by
    intro x hx
    simp only [β, lkE_some hx hidE, and_self]
  have hφmb : ∀ x ∈ E, ∀ b ∈ x.φ, b ∈ mb := fun x hx b hb => by rw [← e2]; exact List.mem_flatMap.2 ⟨x, hx, hb⟩
  -- tops, whatever is written
  have htops : ∀ x ∈ E, tops β x.id x.o = x.φ := fun x hx => ((e3 (fun _ => False) β hβ (fun _ _ h => h)).2 x hx).2
  have hnav : ∀ b ∈ fp, ¬ Av (lkO (initM 0 s.ps s.ms ds).2) β b := by
    rintro b hb (⟨j, o, ho, hbt⟩ | hx)
    · rw [e1] at ho
      obtain ⟨x, hx, rfl⟩ := lkO_E ho
      obtain ⟨hm, rfl⟩ := lkE_mem hx
      rw [htops x hm] at hbt
      exact hmbf b (hφmb x hm b hbt) hb
    · exact hx.2.1 hb
  obtain ⟨hsl, hob⟩ := e3 (Av (lkO (initM 0 s.ps s.ms ds).2) β) β hβ hnav
  have hR : Rel w S { n := fn.ntmps + loOf s.ms * 1099511627776, sl := (initM 0 s.ps s.ms ds).1, hp := (initM 0 s.ps s.ms ds).2, ok := true, ls := [], lm := [] } { tmps := vals.toArray ++ Array.replicate (fn.ntmps - vals.toArray.size) undef, defers := [] } w := by
    have hget : ∀ (j : Nat) v, vals[j]? = some v → (vals.toArray ++ Array.replicate (fn.ntmps - vals.toArray.size) undef).getD j undef = v := by
      intro j v hj
      have hjl : j < vals.length := (List.getElem?_eq_some_iff.1 hj).1
      rw [Array.getD_eq_getD_getElem?, Array.getElem?_append_left (by simp; omega)]
      simp [hj]
    refine ⟨by simp; omega, ?_, rfl, ⟨rfl, rfl, rfl, Nat.le_refl _, fun _ _ _ => rfl⟩, β, fun j => match lkE E j with | some x => x.φ | none => [], ?_⟩
    · intro x hx
      obtain ⟨⟨v, j⟩, hvj, rfl⟩ := List.mem_map.1 hx
      obtain ⟨hvj, hlo⟩ := List.mem_filter.1 hvj
      have hlo : j < loOf s.ms := Nat.le_of_ble_eq_true hlo
      rw [List.mem_zipIdx_iff_getElem?] at hvj
      have hjl : j < vals.length := (List.getElem?_eq_some_iff.1 hvj).1
      exact ⟨by simp only; omega, hget j v hvj⟩
    · refine ⟨fun i => ?_, fun id o ho => ?_, fun id o ho => ?_, fun i j oi oj hne hi hj b hb => ?_, fun b hb => ⟨hb.1, hb.2.2⟩, rfl⟩
      · rcases hsl i with h1 | ⟨j, v, hi, hj, hs⟩
        · show SVR w _ _ (lkV (initM 0 s.ps s.ms ds).1 i) _
          rw [h1]
          simp [SVR]
        · have : i = j := by omega
          subst this
          rw [hget i v hj]
          exact hs
      · have ho' : lkO (initM 0 s.ps s.ms ds).2 id = some o := ho
        rw [e1] at ho'
        obtain ⟨x, hx, rfl⟩ := lkO_E ho'
        obtain ⟨hm, rfl⟩ := lkE_mem hx
        simp only [hx]
        exact (hob x hm).1
      · have ho' : lkO (initM 0 s.ps s.ms ds).2 id = some o := ho
        rw [e1] at ho'
        obtain ⟨x, hx, rfl⟩ := lkO_E ho'
        obtain ⟨hm, rfl⟩ := lkE_mem hx
        simp only [hx]
        refine ⟨?_, fun b hb => ⟨.inr (hφmb x hm b hb), hmlt b (hφmb x hm b hb)⟩⟩
        exact (flat_apart (E := E) (by rw [e2]; exact hmbn)).1 x hm
      · have hi' : lkO (initM 0 s.ps s.ms ds).2 i = some oi := hi
        have hj' : lkO (initM 0 s.ps s.ms ds).2 j = some oj := hj
        rw [e1] at hi' hj'
        obtain ⟨x, hx, rfl⟩ := lkO_E hi'
        obtain ⟨y, hy, rfl⟩ := lkO_E hj'
        simp only [hx] at hb
        simp only [hy]
        have hxm := lkE_mem hx
        have hym := lkE_mem hy
        have hxy : x ≠ y := by
          rintro rfl
          exact hne (hxm.2.symm.trans hym.2)
        exact (flat_apart (E := E) (by rw [e2]; exact hmbn)).2 x hxm.1 y hym.1 hxy b hb
  refine run_sound (r := (s.fn ds).2) hΓ c _ { nrm := finM P fn s, ext := fun _ _ => bad, ret := finM P fn s } _ w _ ⟨fun st hst => finM_ok hst, fun i st hst => absurd hst bad_ne, fun st hst => finM_ok hst⟩ hR hrun ⟨?_, ?_, ?_⟩
  · intro st a w' hR' hst
    exact finM_post hsh hargs hst hR'
  · intro i st a w' _ hst
    exact absurd hst bad_ne
  · intro st a w' hR' hst
    exact finM_post hsh hargs hst hR'

end
end Go.Proofs.Ytjknoknkbfhelaa.Vm
