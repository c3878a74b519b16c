/- The value machine: append. Conditions: as each lemma says. -/
import Derived.Test.YtjknoknkbfhelaaVmN
namespace Go.Proofs.Ytjknoknkbfhelaa.Vm

theorem flat_fp {w : World} : ∀ (ct : List CT) (r : List DC) (f : Nat → Option Value) (fp : List Nat), flatB ct = true → RdL w ct r f fp → fp = []
  | [], _, _, _, _, h => by simp only [RdL] at h; exact h.2
  | c :: cs, _, _, _, hf, h => by
    simp only [RdL] at h
    obtain ⟨d, r', v, f1, f2, rfl, _, h1, h2, rfl⟩ := h
    have h0 : f1 = [] ∧ flatB cs = true := by
      cases c with
      | int k => simp only [RdC] at h1; obtain ⟨n, _, _, _, e⟩ := h1; exact ⟨e, by simpa [flatB] using hf⟩
      | bool => simp only [RdC] at h1; obtain ⟨n, _, _, e⟩ := h1; exact ⟨e, by simpa [flatB] using hf⟩
      | str => simp only [RdC] at h1; obtain ⟨n, _, _, _, e⟩ := h1; exact ⟨e, by simpa [flatB] using hf⟩
      | sl e => simp [flatB] at hf
    rw [h0.1, flat_fp cs _ _ _ h0.2 h2]
    rfl

theorem InR.flat {w : World} {ct : List CT} {rows : List (List DC)} {vals : List Value} {fps : List (List Nat)} (h : InR w ct rows vals fps) (hf : flatB ct = true) : fps.flatten = [] := by
  rw [List.flatten_eq_nil_iff]
  intro l hl
  obtain ⟨i, hi, rfl⟩ := List.getElem_of_mem hl
  have hi' : i < rows.length := by have := h.1; omega
  exact flat_fp ct _ _ _ hf (h.2 i rows[i] fps[i] (by simp) (by simp))

/-- The cells of a slice that is read. -/
theorem src_cells {w : World} {ct : List CT} {r : List (List DC)} {q : Option Addr} {m c : Nat} {fp : List Nat} (h : RdC w (.sl ct) (.sl r) (.slice q m c) fp) (hp : 0 < ct.length) :
    m = r.length ∧ ∃ (news : List Value) (fps : List (List Nat)), news.length = m * ct.length ∧ (q = none → m = 0) ∧ (∀ ad, q = some ad → ∀ j u, news[j]? = some u → w.cell? (ad.add j) = some u) ∧ (∀ x ∈ news, x.oneCell' = true) ∧
      InR w ct r news fps ∧ (∀ b ∈ fps.flatten, b ∈ fp) ∧ (fp.Nodup → fps.flatten.Nodup) := by
  obtain ⟨q', m', c', hv, hn, hc, hm, hcase⟩ := sl_form h
  injection hv with e1 e2 e3
  subst e1 e2 e3
  refine ⟨hn.symm, ?_⟩
  rcases hcase with ⟨h0, rfl⟩ | ⟨hpos, b, o, fps, rfl, hlt, hfl, rfl, hrow⟩
  · have hr : r = [] := by simpa [h0] using hn
    subst hr
    exact ⟨[], [], by simp [h0], fun _ => h0, by simp, by simp, InR.nil, by simp, by simp⟩
  · have cellAt : ∀ j, j < m * ct.length → ∃ u, w.cell? ⟨b, o + j, none⟩ = some u ∧ u.oneCell' = true := by
      intro j hj
      have h1 : j / ct.length < r.length := by rw [hn]; exact Nat.div_lt_of_lt_mul (by rw [Nat.mul_comm]; exact hj)
      have h2 : j % ct.length < ct.length := Nat.mod_lt _ hp
      have hf : j / ct.length < fps.length := by omega
      obtain ⟨u, fp', e1, e2, _⟩ := RdL.get _ _ _ _ (j % ct.length) ct[j % ct.length] (hrow (j / ct.length) r[j / ct.length] fps[j / ct.length] (by simp) (by simp)) (by simp)
      refine ⟨u, ?_, e2.one⟩
      have : j / ct.length * ct.length + j % ct.length = j := by rw [Nat.mul_comm]; exact Nat.div_add_mod j ct.length
      rw [this] at e1
      exact e1
    refine ⟨(List.range (m * ct.length)).map (fun j => (w.cell? ⟨b, o + j, none⟩).getD undef), fps, by simp, by simp, ?_, ?_, ⟨by omega, ?_⟩, fun x hx => List.mem_cons_of_mem _ hx, fun hn => (List.nodup_cons.1 hn).2⟩
    · intro ad had j u hj
      injection had with had
      subst had
      rw [addr_add]
      have hjl : j < m * ct.length := by
        have := (List.getElem?_eq_some_iff.1 hj).1
        simpa using this
      obtain ⟨u', hu', _⟩ := cellAt j hjl
      simp [hjl, hu'] at hj
      rw [hu', hj]
    · intro x hx
      simp only [List.mem_map, List.mem_range] at hx
      obtain ⟨j, hj, rfl⟩ := hx
      obtain ⟨u', hu', ho⟩ := cellAt j hj
      rw [hu']
      exact ho
    · intro i r' f' hi hf
      refine row_reads.RdL.ofSub' ?_ (hrow i r' f' hi hf)
      intro j u hj hju
      have hil : i < m := by have := (List.getElem?_eq_some_iff.1 hi).1; omega
      have : i * ct.length + j < m * ct.length := by
        have : i * ct.length + ct.length ≤ m * ct.length := by rw [← Nat.succ_mul]; exact Nat.mul_le_mul_right _ hil
        omega
      simp [this, hju]

section
variable {P : Program} {Γ : Ctx} {w0 : World} {S : Own} {st : St} {o : Oper} {e : Eff} {a : Act} {w : World}
variable {f : Nat → SV} {h : Nat → Option VObj} {β : Env} {φ : Nat → List Nat} {tm : Array Value}

theorem run_append_nil (base : Nat) (t ty et : TypeId) (i : TypeInfo) (size : Nat) (ht : P.underlying t = some (.slice et)) (hi : P.info? et = some i)
    (v : Value) (n : Nat) (xs : List Value) (hown : w.ownsRow base et size v n xs) (c : Nat) : (Builtin.append_ #[t, t] ty #[v, .slice none 0 c]).run P w = .ok v w := by
  rcases hown.2 with ⟨rfl, rfl⟩ | ⟨g, cap, cur, rfl, _, _, hnc, _⟩
  · simp [Builtin.append_, run_underlying ht, sizeOf, typeInfo, hi, Builtin.lenOf, Builtin.firstCells]
  · simp [Builtin.append_, run_underlying ht, sizeOf, typeInfo, hi, Builtin.lenOf, Builtin.firstCells, hnc, storeCells]

theorem roomB_ok {t : TypeId} {i : TypeInfo} {n : Nat} (hi : P.info? t = some i) (h : roomB P t n = true) : n * i.bytes ≤ 140737488355328 ∧ n ≤ maxLen := by
  simp only [roomB, hi, Bool.and_eq_true, decide_eq_true_eq] at h
  exact ⟨h.1, by simp only [maxLen]; omega⟩

theorem append_run {t ty et : TypeId} {i : TypeInfo} {zv : Value} {ct : List CT} (ht : P.underlying t = some (.slice et)) (hi : P.info? et = some i) (hz : i.zero = some zv) (hsz : i.size = ct.length) (hzs : zv.cells.size = ct.length) (hp : 0 < ct.length)
    {v : Value} {n : Nat} {vals : List Value} (hown : OwnR w et ct.length false v n vals) {q : Option Addr} {m c : Nat} {news : List Value} (hl : news.length = m * ct.length) (hq : q = none → m = 0)
    (hnews : ∀ ad, q = some ad → ∀ j u, news[j]? = some u → w.cell? (ad.add j) = some u) (h1 : ∀ x ∈ news, x.oneCell' = true) (hroom : roomB P et (n + m) = true) :
    ∃ v' w', (Builtin.append_ #[t, t] ty #[v, .slice q m c]).run P w = .ok v' w' ∧ OwnR w' et ct.length false v' (n + m) (vals ++ news) ∧ w.grownBy w' v.ownBlock ∧ (v'.ownBlock = v.ownBlock ∨ v'.ownBlock = some w.heap.size) := by
  obtain ⟨hb, hm⟩ := roomB_ok hi hroom
  cases q with
  | none =>
    have hm0 := hq rfl
    subst hm0
    have hn : news = [] := by simpa using hl
    subst hn
    exact ⟨v, w, run_append_nil 0 t ty et i ct.length ht hi v n vals hown.owns c, by simpa using hown, ⟨rfl, rfl, rfl, Nat.le_refl _, fun _ _ _ => rfl⟩, .inl rfl⟩
  | some ad =>
    obtain ⟨v', w', hr, h2, h3, _, h5⟩ := run_append_own_at (P := P) w 0 t ty et i zv ct.length i.bytes ht hi hz hsz rfl hzs hp v n vals hown.owns ad m c news hl (hnews ad rfl) h1 hm hb (Nat.zero_le _)
    exact ⟨v', w', hr, OwnR.ofOwns h2, h3, h5⟩

theorem Kept.grown (hk : Kept S w0 w) {w' : World} {row : Option Nat} (hg : w.grownBy w' row) (hr : ∀ b, row = some b → w0.heap.size ≤ b ∨ S b) : Kept S w0 w' :=
  ⟨hg.os.trans hk.os, hg.tape.trans hk.tape, hg.output.trans hk.output, Nat.le_trans hk.size hg.size, fun k h1 h2 => by
    rw [hg.block k (by have := hk.size; omega) (fun e => by rcases hr k e.symm with h | h; omega; exact h2 h)]
    exact hk.block k h1 h2⟩

mutual
theorem ctBeq_refl : ∀ (a : CT), ctBeq a a = true
  | .int k => by simp [ctBeq]
  | .bool => rfl
  | .str => rfl
  | .sl e => by simp only [ctBeq]; exact ctsBeq_refl e
theorem ctsBeq_refl : ∀ (a : List CT), ctsBeq a a = true
  | [] => rfl
  | a :: l => by simp only [ctsBeq, Bool.and_eq_true]; exact ⟨ctBeq_refl a, ctsBeq_refl l⟩
end

theorem rowsM_toDC {ct : List CT} {s : SV} {q : List (List DC) × Met × Bool} (hq : (rowsM ct s).val f h = some q) : (toDC (.sl ct) s).val f h = some (.sl q.1, q.2) := by
  unfold rowsM at hq
  split at hq
  · simp only [M.val_pure, Option.some.injEq] at hq
    subst hq
    simp [toDC]
  · rename_i e' r
    cases hb : ctsBeq ct e'
    · simp [hb] at hq
    · simp only [hb, cond_true, M.val_pure, Option.some.injEq] at hq
      have := ctsBeq_eq _ _ hb
      subst this hq
      simp [toDC, ctsBeq_refl]
  · rename_i id
    simp only [M.val_obj, Option.bind_eq_some_iff] at hq
    obtain ⟨ob, hob, hq⟩ := hq
    split at hq
    · rename_i t' e' r fz u
      cases hb : ctsBeq ct e'
      · simp [hb] at hq
      · simp only [hb, cond_true, M.val_pure, Option.some.injEq] at hq
        have := ctsBeq_eq _ _ hb
        subst this hq
        simp [toDC, hob, ctsBeq_refl]
    · rename_i e' r
      cases hb : ctsBeq ct e'
      · simp [hb] at hq
      · simp only [hb, cond_true, M.val_pure, Option.some.injEq] at hq
        have := ctsBeq_eq _ _ hb
        subst this hq
        simp [toDC, hob, ctsBeq_refl]
    · simp at hq
  · simp at hq

theorem rowsM_ok (hc : Core w0 S f h β φ tm w) {ct : List CT} {s : SV} {v : Value} {q : List (List DC) × Met × Bool} (hs : SVR w (Av h β) β s v) (hq : (rowsM ct s).val f h = some q) :
    ∃ fp, RdC w (.sl ct) (.sl q.1) v fp ∧ MetOk h q.2.1 ∧ metNodup q.2.1 = true ∧ (∀ b ∈ fp, (¬ Av h β b) ∨ ∃ x ∈ q.2.1, b ∈ (β.val x.1).ownBlock.toList) ∧
      (q.2.2 = true → (∀ b ∈ fp, ∃ x ∈ q.2.1, b ∈ φ x.1) ∧ fp.Nodup) := toDC_ok hc hs (rowsM_toDC hq)

/-- What is put behind a row: as little as can be frozen is. -/
theorem src_met {ct : List CT} {m : Met} (hm : MetOk h m) (hn : metNodup m = true) : MetOk h (bif flatB ct then [] else m) ∧ metNodup (bif flatB ct then [] else m) = true := by
  cases flatB ct
  · exact ⟨hm, hn⟩
  · exact ⟨by simp [MetOk], rfl⟩

theorem freeze_cond {ct : List CT} {m : Met} : (bif flatB ct then [] else metFreeze m) = metFreeze (bif flatB ct then [] else m) := by cases flatB ct <;> rfl

theorem sound_append_nil (hR : Rel w0 S st a w) {d : Nat} (hdst : o.dst = some d) (hd : DstOk st.n d) (hfr : FreshAt st d) {t et : TypeId} {s x : Operand} {c : Call} (ho : o.op = .call c) (hb : c.callee = .builtin .append) (hargs : c.args = #[s, x])
    (hat : c.argTypes = #[t, t]) {sx : SV} {ct : List CT} {q : List (List DC) × Met × Bool} {z : List SV} (h1 : (evM s).val st.get st.obj = some .nil) (h2 : (evM x).val st.get st.obj = some sx) (hu : P.underlying t = some (.slice et))
    (hsz : sizeB P et ct.length = true) (hp : 0 < ct.length) (hz : (zeroM P et).val st.get st.obj = some z) (hzl : z.length = ct.length) (hq : (rowsM ct sx).val st.get st.obj = some q) (hroom : roomB P et q.1.length = true)
    (hsv : e.sv = .own (newId d 0)) (hcw : e.cw = none) (how : e.ow = (newId d 0, some (.row et ct q.1 false (flatB ct || q.2.2))) :: (bif flatB ct then [] else metFreeze q.2.1)) : Good P w0 S st o e a w := by
  obtain ⟨i, hi, hsize⟩ := sizeB_size hsz
  obtain ⟨i', zv, hi', hzv, rfl, _⟩ := zeroM_ok hz
  rw [hi] at hi'
  injection hi' with hi'
  subst hi'
  obtain ⟨β0, φ0, hc0⟩ := hR.core
  obtain ⟨fp0, hrd0, hmet0, hmn0, _, _⟩ := rowsM_ok hc0 (hc0.ev h2) hq
  obtain ⟨Q, m, cc, hxv, hml, _, _, _⟩ := sl_form hrd0
  rw [hxv] at hrd0
  obtain ⟨hmr, news, fps0, hnl, hqn, hcell, hone, hin0, _, _⟩ := src_cells hrd0 hp
  have hs0 := hc0.ev h1
  simp only [SVR] at hs0
  have hown0 : OwnR w et ct.length false (.slice none 0 0) 0 [] := ⟨by simp, .inl ⟨rfl, rfl, rfl⟩⟩
  obtain ⟨v', w', hrun, hown', hgrow, hblk⟩ := append_run (P := P) (ty := o.type) (c := cc) hu hi hzv hsize (by simpa using hzl) hp hown0 hnl hqn hcell hone (by rw [hmr, Nat.zero_add]; exact hroom)
  obtain ⟨hmm, hmmn⟩ := src_met (ct := ct) hmet0 hmn0
  refine sound_newrow hR hdst hd hfr (m := bif flatB ct then [] else q.2.1) (fz := false) (u := flatB ct || q.2.2) (vals := news) (v := v') (w' := w') ?_ (hR.kept.grown hgrow (by simp [Value.ownBlock])) hgrow.size
    (fun b hb => hgrow.block b hb (by simp [Value.ownBlock])) ?_ hmm hmmn ?_ ?_ hsv hcw (by rw [how, freeze_cond])
  · simp [execOp, ho, resolve, hb, hargs, hat, invoke, builtin, hs0, hxv, hrun]
  · intro b hb'
    rcases hblk with h3 | h3
    · rw [h3] at hb'; simp [Value.ownBlock] at hb'
    · rw [h3] at hb'; simpa using hb'
  · rw [← hmr]
    simpa using hown'
  · intro β φ hc
    obtain ⟨fp, hrd, hmet, hmn, hfav, hfu⟩ := rowsM_ok hc (hc.ev h2) hq
    rw [hxv] at hrd
    obtain ⟨_, news', fps, hnl', _, hcell', _, hin, hsub, hnod⟩ := src_cells hrd hp
    have hnn : InR w ct q.1 news fps := by
      refine ⟨hin.1, fun k r' f' hk hf => ?_⟩
      refine row_reads.RdL.ofSub' ?_ (hin.2 k r' f' hk hf)
      intro j u hj hju
      have hidx : k * ct.length + j < news'.length := (List.getElem?_eq_some_iff.1 hju).1
      cases Q with
      | none =>
        have : m = 0 := hqn rfl
        subst this
        simp at hnl'
        simp [hnl'] at hju
      | some ad =>
        have e1 := hcell' ad rfl _ _ hju
        have hlt : k * ct.length + j < news.length := by omega
        have e2 := hcell ad rfl (k * ct.length + j) news[k * ct.length + j] (by simp)
        rw [e1] at e2
        injection e2 with e2
        rw [List.getElem?_eq_getElem hlt, ← e2]
    refine ⟨fps, hnn, ?_, ?_⟩
    · intro b hb'
      cases hfl : flatB ct with
      | true => rw [hin.flat hfl] at hb'; simp at hb'
      | false => simpa using hfav b (hsub b hb')
    · intro hu'
      cases hfl : flatB ct with
      | true => rw [hin.flat hfl]; simp
      | false =>
        rw [hfl, Bool.false_or] at hu'
        exact ⟨fun b hb' => by simpa using (hfu hu').1 b (hsub b hb'), hnod (hfu hu').2⟩

theorem sound_append_own (hR : Rel w0 S st a w) {d : Nat} (hdst : o.dst = some d) (hd : DstOk st.n d) (hfr : FreshAt st d) {t et : TypeId} {s x : Operand} {c : Call} (ho : o.op = .call c) (hb : c.callee = .builtin .append) (hargs : c.args = #[s, x])
    (hat : c.argTypes = #[t, t]) {id : Nat} {u : Bool} {r : List (List DC)} {sx : SV} {ct : List CT} {q : List (List DC) × Met × Bool} {z : List SV} (h1 : (evM s).val st.get st.obj = some (.own id)) (h2 : (evM x).val st.get st.obj = some sx)
    (hob : st.obj id = some (.row et ct r false u)) (hu : P.underlying t = some (.slice et))
    (hsz : sizeB P et ct.length = true) (hp : 0 < ct.length) (hz : (zeroM P et).val st.get st.obj = some z) (hzl : z.length = ct.length) (hq : (rowsM ct sx).val st.get st.obj = some q) (hnot : metNot id q.2.1 = true)
    (hroom : roomB P et (r.length + q.1.length) = true) (hsv : e.sv = .own (newId d 0)) (hcw : e.cw = none)
    (how : e.ow = (newId d 0, some (.row et ct (r ++ q.1) false (u && (flatB ct || q.2.2)))) :: (id, none) :: (bif flatB ct then [] else metFreeze q.2.1)) : Good P w0 S st o e a w := by
  obtain ⟨i, hi, hsize⟩ := sizeB_size hsz
  obtain ⟨i', zv, hi', hzv, rfl, _⟩ := zeroM_ok hz
  rw [hi] at hi'
  injection hi' with hi'
  subst hi'
  obtain ⟨β, φ, hc⟩ := hR.core
  obtain ⟨fp, hrd, hmet0, hmn0, hfav, hfu⟩ := rowsM_ok hc (hc.ev h2) hq
  obtain ⟨Q, m, cc, hxv, hml, _, _, _⟩ := sl_form hrd
  rw [hxv] at hrd
  obtain ⟨hmr, news, fps2, hnl, hqn, hcell, hone, hin2, hsub, hnod⟩ := src_cells hrd hp
  obtain ⟨hmm, hmmn⟩ := src_met (ct := ct) hmet0 hmn0
  have hno0 := metNot_mem hnot
  have hno : ∀ y ∈ (bif flatB ct then [] else q.2.1), y.1 ≠ id := by
    cases flatB ct
    · exact hno0
    · simp
  generalize hM : (bif flatB ct then [] else q.2.1) = M' at hmm hmmn hno
  have hc1 := hc.freezes M' hmm hmmn
  have hob1 : fo (metFreeze M') st.obj id = some (.row et ct r false u) := by rw [fo_frozen_other hno]; exact hob
  obtain ⟨vals, fps, hown, hin, hiav, hφ⟩ := hc1.objs id _ hob1
  have hs0 := hc.ev h1
  simp only [SVR] at hs0
  obtain ⟨v', w', hrun, hown', hgrow, hblk⟩ := append_run (P := P) (ty := o.type) (c := cc) hu hi hzv hsize (by simpa using hzl) hp hown hnl hqn hcell hone (by rw [hmr]; exact hroom)
  have hnew : newId d 0 / 64 = d := newId_div d 0 (by omega)
  have hidne : id ≠ newId d 0 := fun e => (hfr.obj id _ hob).1 (e ▸ hnew)
  have hβ : ∀ j, j ≠ newId d 0 → (β.setV (newId d 0) v').val j = β.val j ∧ (β.setV (newId d 0) v').blk j = β.blk j := by
    intro j hj
    exact ⟨by simp [Env.setV, upd, hj], rfl⟩
  have hval : (β.setV (newId d 0) v').val (newId d 0) = v' := by simp [Env.setV, upd]
  have hsub1 := tops_sub (hc1.objs id _ hob1)
  have hfresh := hc1.fresh id _ hob1
  have hlt1 := hin.lt
  have hlt2 := hin2.lt
  -- inner blocks of what is put behind are not written any more
  have hav2 : ∀ b ∈ fps2.flatten, ¬ Av (fo (metFreeze M') st.obj) β b := by
    intro b hb'
    cases hfl : flatB ct with
    | true => rw [hin2.flat hfl] at hb'; simp at hb'
    | false =>
      rw [hfl, cond_false] at hM
      subst hM
      rcases hfav b (hsub b hb') with h3 | ⟨y, hy, hby⟩
      · exact fun h4 => h3 (av_frozen h4)
      · exact not_av_met hc hmm hy hby
  have hmoved : (u && (flatB ct || q.2.2)) = true → ∀ b ∈ fps2.flatten, ∃ y ∈ M', b ∈ φ y.1 := by
    intro huu b hb'
    cases hfl : flatB ct with
    | true => rw [hin2.flat hfl] at hb'; simp at hb'
    | false =>
      rw [hfl, cond_false] at hM
      subst hM
      rw [hfl, Bool.false_or, Bool.and_eq_true] at huu
      exact (hfu huu.2).1 b (hsub b hb')
  have hnod2 : (u && (flatB ct || q.2.2)) = true → fps2.flatten.Nodup := by
    intro huu
    cases hfl : flatB ct with
    | true => rw [hin2.flat hfl]; simp
    | false =>
      rw [hfl, Bool.false_or, Bool.and_eq_true] at huu
      exact hnod (hfu huu.2).2
  have hob' : ∀ j oj, upd (upd (fo (metFreeze M') st.obj) id none) (newId d 0) (some (.row et ct (r ++ q.1) false (u && (flatB ct || q.2.2)))) j = some oj → j ≠ newId d 0 → j ≠ id ∧ fo (metFreeze M') st.obj j = some oj := by
    intro j oj hj hjn
    simp only [upd, hjn, if_false] at hj
    split at hj
    · cases hj
    · exact ⟨by assumption, hj⟩
  have hown_top : ∀ b, (β.val id).ownBlock = some b → b ∈ frozenφ φ M' id := fun b hb' => hsub1 b (by simp [tops, hb'])
  have hvout : ∀ b ∈ v'.ownBlock.toList, b ∈ frozenφ φ M' id ∨ b = w.heap.size := by
    intro b hb'
    rcases hblk with h3 | h3
    · rw [h3] at hb'
      exact .inl (hsub1 b (by simpa [tops] using hb'))
    · rw [h3] at hb'
      exact .inr (by simpa using hb')
  have hφu : u = true → ∀ b ∈ fps.flatten, b ∈ frozenφ φ M' id := by
    intro huu b hb'
    rw [hφ, huu]
    exact List.mem_append_right _ hb'
  have hsep2 : ∀ b, b ∈ v'.ownBlock.toList ++ (bif (u && (flatB ct || q.2.2)) then (fps ++ fps2).flatten else []) → ∀ j oj, j ≠ id → fo (metFreeze M') st.obj j = some oj → b ∉ frozenφ φ M' j := by
    intro b hb' j oj hj hjo hbj
    have old : b ∈ frozenφ φ M' id → False := fun h3 => hc1.sep id j _ _ (Ne.symm hj) hob1 hjo b h3 hbj
    rcases List.mem_append.1 hb' with hb' | hb'
    · rcases hvout b hb' with h3 | h3
      · exact old h3
      · have := ((hc1.fresh j oj hjo).2 b hbj).2
        omega
    · cases huu : (u && (flatB ct || q.2.2)) with
      | false => simp [huu] at hb'
      | true =>
        simp only [huu, cond_true, List.flatten_append, List.mem_append] at hb'
        rcases hb' with hb' | hb'
        · rw [Bool.and_eq_true] at huu
          exact old (hφu huu.1 b hb')
        · obtain ⟨y, hy, hby⟩ := hmoved huu b hb'
          obtain ⟨t'', fz', h3⟩ := hmm y hy
          by_cases hjm : ∃ k ∈ M', k.1 = j
          · rw [frozenφ_in hjm] at hbj
            simp at hbj
          · have hno' : ∀ k ∈ M', k.1 ≠ j := fun k hk e => hjm ⟨k, hk, e⟩
            rw [fo_frozen_other hno'] at hjo
            rw [frozenφ_other hno'] at hbj
            exact hc.sep y.1 j _ _ (hno' y hy) h3 hjo b hby hbj
  have hwsame : ∀ b, b < w.heap.size → (β.val id).ownBlock ≠ some b → w'.heap[b]? = w.heap[b]? := fun b hb' hne => hgrow.block b hb' (fun e => hne e.symm)
  have hinner : ∀ b ∈ (fps ++ fps2).flatten, ¬ Av (fo (metFreeze M') st.obj) β b ∧ b < w.heap.size := by
    intro b hb'
    simp only [List.flatten_append, List.mem_append] at hb'
    rcases hb' with hb' | hb'
    · exact ⟨hiav b hb', hlt1 b hb'⟩
    · exact ⟨hav2 b hb', hlt2 b hb'⟩
  have havnew : ∀ b, Av (upd (upd (fo (metFreeze M') st.obj) id none) (newId d 0) (some (.row et ct (r ++ q.1) false (u && (flatB ct || q.2.2))))) (β.setV (newId d 0) v') b → Av (fo (metFreeze M') st.obj) β b ∨ w.heap.size ≤ b := by
    rintro b (⟨j, oj, hj, hbj⟩ | hb)
    case inr => exact .inl (.inr hb)
    by_cases hjj : j = newId d 0
    · subst hjj
      simp only [upd, if_true, Option.some.injEq] at hj
      subst hj
      simp only [tops, hval] at hbj
      rcases hblk with h3 | h3
      · rw [h3] at hbj
        exact .inl (.inl ⟨id, _, hob1, by simpa [tops] using hbj⟩)
      · rw [h3] at hbj
        right
        have : b = w.heap.size := by simpa using hbj
        omega
    · obtain ⟨_, hj'⟩ := hob' j oj hj hjj
      refine .inl (.inl ⟨j, oj, hj', ?_⟩)
      cases oj <;> simp only [tops, hβ j hjj] at hbj ⊢ <;> exact hbj
  refine good_value hR (fun d' h' => by rw [hdst] at h'; injection h' with h'; exact h' ▸ hd) (v := v') (w' := w') ?_ (hR.kept.grown hgrow (fun b hb' => (hfresh.2 b (hown_top b hb')).1))
    ⟨β.setV (newId d 0) v', upd (frozenφ φ M') (newId d 0) (v'.ownBlock.toList ++ (bif (u && (flatB ct || q.2.2)) then (fps ++ fps2).flatten else [])), ?_, ?_⟩
  · simp [execOp, ho, resolve, hb, hargs, hat, invoke, builtin, hs0.1, hxv, hrun]
  · rw [how, hcw, freeze_cond, hM]
    show Core w0 S st.get (upd (upd (fo (metFreeze M') st.obj) id none) (newId d 0) (some (.row et ct (r ++ q.1) false (u && (flatB ct || q.2.2))))) _ _ _ _
    refine hc1.step (fun j => j = newId d 0) hgrow.size (fun b hb' hn => hwsame b hb' (fun e => hn (.inl ⟨id, _, hob1, by simp [tops, e]⟩))) havnew
      (fun k j hj e => hfr.slot k j hj (by rw [e]; exact hnew)) hβ ?_ ?_
    · intro j oj hj
      by_cases hjj : j = newId d 0
      · subst hjj
        have hj' := hj
        simp only [upd, if_true, Option.some.injEq] at hj'
        subst hj'
        refine .inr ⟨?_, ?_, ?_⟩
        · refine ⟨vals ++ news, fps ++ fps2, ?_, ?_, ?_, ?_⟩
          · rw [hval]
            have : (r ++ q.1).length = r.length + m := by simp [hmr]
            rw [this]
            exact hown'
          · exact (hin.append hown.1 hin2).mono hgrow.size (fun b hb' => hwsame b (hinner b hb').2 (fun e => (hinner b hb').1 (.inl ⟨id, _, hob1, by simp [tops, e]⟩)))
          · intro b hb' hx
            rcases havnew b hx with h3 | h3
            · exact (hinner b hb').1 h3
            · have := (hinner b hb').2
              omega
          · rw [hval]
            simp [upd]
        · simp only [upd, if_true]
          have hnd1 : v'.ownBlock.toList.Nodup := by cases v'.ownBlock <;> simp
          cases huu : (u && (flatB ct || q.2.2)) with
          | false => simpa using hnd1
          | true =>
            have hu1 : u = true := by rw [Bool.and_eq_true] at huu; exact huu.1
            have hn0 := hfresh.1
            rw [hφ, hu1, cond_true, List.nodup_append] at hn0
            obtain ⟨_, hn2, hn3⟩ := hn0
            have hfn : ((fps ++ fps2).flatten).Nodup := by
              rw [List.flatten_append, List.nodup_append]
              refine ⟨hn2, hnod2 huu, fun b hb' c' hc' hbc => ?_⟩
              subst hbc
              obtain ⟨y, hy, hby⟩ := hmoved huu b hc'
              obtain ⟨t'', fz', h3⟩ := hmm y hy
              have h4 := hφu hu1 b hb'
              rw [frozenφ_other hno] at h4
              exact hc.sep y.1 id _ _ (hno y hy) h3 hob b hby h4
            rw [cond_true, List.nodup_append]
            refine ⟨hnd1, hfn, fun b hb' c' hc' hbc => ?_⟩
            subst hbc
            rcases hblk with h3 | h3
            · rw [h3] at hb'
              exact (hinner b hc').1 (.inl ⟨id, _, hob1, by simpa [tops] using hb'⟩)
            · rw [h3] at hb'
              have h4 : b = w.heap.size := by simpa using hb'
              have := (hinner b hc').2
              omega
        · simp only [upd, if_true]
          intro b hb'
          rcases List.mem_append.1 hb' with hb' | hb'
          · rcases hvout b hb' with h3 | h3
            · have := hfresh.2 b h3
              exact ⟨this.1, by have := hgrow.size; omega⟩
            · subst h3
              refine ⟨.inl hR.kept.size, hown'.lt _ hb'⟩
          · cases huu : (u && (flatB ct || q.2.2)) with
            | false => simp [huu] at hb'
            | true =>
              simp only [huu, cond_true, List.flatten_append, List.mem_append] at hb'
              have hsz' := hgrow.size
              rcases hb' with hb' | hb'
              · have hu1 : u = true := by rw [Bool.and_eq_true] at huu; exact huu.1
                have := hfresh.2 b (hφu hu1 b hb')
                exact ⟨this.1, by omega⟩
              · obtain ⟨y, hy, hby⟩ := hmoved huu b hb'
                obtain ⟨t'', fz', h3⟩ := hmm y hy
                have := (hc.fresh y.1 _ h3).2 b hby
                exact ⟨this.1, by omega⟩
      · obtain ⟨hji, hj'⟩ := hob' j oj hj hjj
        refine .inl ⟨hjj, hj', by simp [upd, hjj], ?_, ?_⟩
        · intro k hk e
          rcases frozen_obj hj' with h3 | ⟨e', r', rfl, _⟩
          · exact (hfr.obj j oj h3).2 k hk (by rw [e]; exact hnew)
          · simp [objIds] at hk
        · intro b hb'
          have hbφ := tops_sub (hc1.objs j oj hj') b hb'
          refine hwsame b ((hc1.fresh j oj hj').2 b hbφ).2 (fun e => ?_)
          exact hc1.sep id j _ _ (Ne.symm hji) hob1 hj' b (hown_top b e) hbφ
    · intro k j ok oj hne hk hj b hb'
      by_cases hkk : k = newId d 0
      · subst hkk
        have hjn : j ≠ newId d 0 := Ne.symm hne
        obtain ⟨hji, hj'⟩ := hob' j oj hj hjn
        simp only [upd, if_true] at hb'
        simp only [upd, hjn, if_false]
        exact hsep2 b hb' j oj hji hj'
      · obtain ⟨hki, hk'⟩ := hob' k ok hk hkk
        simp only [upd, hkk, if_false] at hb'
        by_cases hjj : j = newId d 0
        · subst hjj
          simp only [upd, if_true]
          exact fun h3 => hsep2 b h3 k ok hki hk' hb'
        · obtain ⟨hji, hj'⟩ := hob' j oj hj hjj
          simp only [upd, hjj, if_false]
          exact hc1.sep k j ok oj hne hk' hj' b hb'
  · rw [hsv]
    unfold SVR
    exact ⟨hval.symm, hown'.one⟩

end

end Go.Proofs.Ytjknoknkbfhelaa.Vm
