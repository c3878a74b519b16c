/- The value machine: calls, every operation, regions in every order. Conditions: as each lemma says. -/
import Derived.Test.YthpmalpdnnbkgaaGreatVb
import Derived.ArgAppend

/- The value machine: function values; parts of a row that is still written. Conditions: as each lemma says. -/
set_option linter.unusedVariables false
set_option linter.unusedSimpArgs false
namespace Go.Proofs.YthpmalpdnnbkgaaGreat.Vm

section
variable {P : Program} {Γ : Ctx} {w0 : World} {S : Own} {st : St} {o : Oper} {e : Eff} {a : Act} {w w' : World}
variable {f : Nat → SV} {h : Nat → Option VObj} {β : Env} {φ : Nat → List Nat} {tm : Array Value}

theorem sound_makeFunc (hR : Rel w0 S st a w) (hd : ∀ d, o.dst = some d → DstOk st.n d) {g : Nat} {first cap : Array Operand} (ho : o.op = .makeFunc (.func g) first cap) (hf : first.toList = []) {cs : List SV}
    (hcs : (evMs cap.toList).val st.get st.obj = some cs) (he : e = { sv := .clo g cs }) : Good P w0 S st o e a w := by
  subst he
  have hf' : first = #[] := by cases first; simp at hf; subst hf; rfl
  subst hf'
  refine good_pure hR hd rfl rfl fun β φ hc => ?_
  refine ⟨.func (.func g) #[] (cap.map a.eval), ?_, ?_⟩
  · simp [execOp, ho, Instr.makeFunc]
  · simp only [SVR]
    refine ⟨cap.toList.map a.eval, ?_, evMs_ok hc _ _ hcs⟩
    rw [← Array.toList_map, Array.toArray_toList]

theorem run_clo {c : Call} {k g : Nat} {fn : Func} {vs : List Value} (ho : o.op = .call c) (hg : c.callee = .value (.tmp k)) (hv : a.eval (.tmp k) = .func (.func g) #[] vs.toArray) (hf : P.funcs[g]? = some fn) (hb : fn.body.isSome = true)
    (hn : (fn.name == "runtime.NumGoroutine") = false) : (execOp a.eval o).run P w = .ok (.enter g ((c.args.toList.map a.eval) ++ vs).toArray) w := by
  have hb' : fn.body.isNone = false := by cases h : fn.body <;> simp_all
  have e1 : ((c.args.toList.map a.eval) ++ vs).toArray = c.args.map a.eval ++ vs.toArray := by
    rw [← List.append_toArray, ← Array.toList_map, Array.toArray_toList]
  rw [e1]
  simp only [execOp, ho, resolve, hg, hv, Deferred.ofValue, Sem.run_bind, Sem.run_pure, Result.andThen_ok, invoke, callFunc, run_program, hf, hn, hb', Bool.false_eq_true, if_false]
  simp

theorem sound_clo (hΓ : CtxHolds P Γ) {s : Sum} {g k : Nat} {cs : List SV} (hs : lkS Γ g = some s) (hann : s.ann = false) (hpt : s.pt = none) (hms : s.ms ≠ []) (hR : Rel w0 S st a w) (hd : ∀ d, o.dst = some d → DstOk st.n d) (hfr : ∀ d, o.dst = some d → e.ow ≠ [] → FreshAt st d)
    {c : Call} (ho : o.op = .call c) (hg : c.callee = .value (.tmp k)) (hk : (evM (.tmp k)).val st.get st.obj = some (.clo g cs)) {l : List SV}
    (hl : (evMs c.args.toList).val st.get st.obj = some l) (he : (callMM s o.dst (l ++ cs)).val st.get st.obj = some e) (hok : e.ok = true) : Good P w0 S st o e a w := by
  obtain ⟨β, φ, hc⟩ := hR.core
  have hx := hc.ev hk
  simp only [SVR] at hx
  obtain ⟨vs, hv, _⟩ := hx
  refine sound_callM hΓ hs hann hpt hms hR hd hfr (us := (c.args.toList.map a.eval) ++ vs) (fun fn hf hb hn => run_clo ho hg hv hf hb hn) (fun β φ hc => ?_) he hok
  have hx := hc.ev hk
  simp only [SVR] at hx
  obtain ⟨vs', hv', h'⟩ := hx
  rw [hv] at hv'
  injection hv' with _ _ h3
  have : vs = vs' := by simpa using h3
  subst this
  exact SVRL.append _ _ _ _ (evMs_ok hc _ l hl) h'

theorem sound_sliceO (hR : Rel w0 S st a w) (hd : ∀ d, o.dst = some d → DstOk st.n d) {t : TypeId} {x : Operand} {lo hi : Option Operand} (ho : o.op = .slice t x lo hi none) {sx : SV} {slo shi : Option SV}
    (h1 : (evM x).val st.get st.obj = some sx) (h2 : (evMo lo).val st.get st.obj = some slo) (h3 : (evMo hi).val st.get st.obj = some shi)
    (he : (sliceO P t sx slo shi).val st.get st.obj = some e) (hok : e.ok = true) : Good P w0 S st o e a w := by
  unfold sliceO at he
  split at he
  · rename_i et id k l hu
    simp only [M.val_obj, Option.bind_eq_some_iff] at he
    obtain ⟨ob, hob, he⟩ := he
    split at he
    · rename_i t' ct r fz u
      cases hz : Nat.beq t' et && sizeB P et ct.length
      · simp [hz] at he
      simp only [hz, cond_true, M.val_pure, Option.some.injEq] at he
      subst he
      simp only [Bool.and_eq_true] at hz
      simp only [Bool.and_eq_true, decide_eq_true_eq] at hok
      obtain ⟨i, hi', hsz⟩ := sizeB_size hz.2
      refine good_pure hR hd rfl rfl fun β φ hc => ?_
      have hx := hc.ev h1
      simp only [SVR] at hx
      obtain ⟨vals, fps, hown, _⟩ := hc.objs id _ hob
      rcases hown.2 with ⟨_, h0, _⟩ | ⟨g, cap, cur, hv, hg, hnc, hcm, hcs, htk⟩
      · omega
      have hb := run_bounds (P := P) (isS := true) (n := r.length) (cap := cap) (l := l.toNat) (m := r.length) (c := decide (0 ≤ l) && decide (l ≤ (r.length : Int))) hnc hc h2 h3 rfl (by simp only [Bool.and_eq_true, decide_eq_true_eq]; exact hok.1)
      refine ⟨.slice (some ⟨g, if l.toNat < cap then l.toNat * ct.length else 0, none⟩) (r.length - l.toNat) (cap - l.toNat), ?_, ?_⟩
      · have hrun : (execOp a.eval o).run P w = .ok (.value (.slice (if cap = l.toNat then some ⟨g, 0, none⟩ else (some (⟨g, 0, none⟩ : Addr)).map (·.add (l.toNat * i.size))) (r.length - l.toNat) (cap - l.toNat))) w := by
          simp [execOp, ho, hx.1, hv, Instr.sliceAt, Instr.slice, run_underlying hu, hb, sizeOf, typeInfo, hi']
        rw [hrun]
        by_cases hlt : l.toNat < cap
        · rw [if_neg (by omega), if_pos hlt, hsz]
          simp [addr_add]
        · rw [if_pos (by omega), if_neg hlt]
      · simp only [SVR]
        exact ⟨g, r.length, cap, hv, by omega, rfl⟩
    · simp at he
  · simp at he

theorem InR.take {ct : List CT} {rows : List (List DC)} {vals : List Value} {fps : List (List Nat)} (hin : InR w ct rows vals fps) (k : Nat) : InR w ct (rows.take k) (vals.take (k * ct.length)) (fps.take k) := by
  refine ⟨by simp [hin.1], fun i r f hi hf => ?_⟩
  rw [List.getElem?_take] at hi hf
  split at hi
  · rename_i hik
    rw [if_pos hik] at hf
    refine row_reads.RdL.ofSub' (fun j u hj hu => ?_) (hin.2 i r f hi hf)
    rw [List.getElem?_take, if_pos]
    · exact hu
    · have : (i + 1) * ct.length ≤ k * ct.length := Nat.mul_le_mul_right _ hik
      rw [Nat.succ_mul] at this
      omega
  · cases hi

theorem InR.drop {ct : List CT} {rows : List (List DC)} {vals : List Value} {fps : List (List Nat)} (hin : InR w ct rows vals fps) (k : Nat) : InR w ct (rows.drop k) (vals.drop (k * ct.length)) (fps.drop k) := by
  refine ⟨by simp [hin.1], fun i r f hi hf => ?_⟩
  rw [List.getElem?_drop] at hi hf
  refine row_reads.RdL.ofSub' (fun j u hj hu => ?_) (hin.2 (k + i) r f hi hf)
  rw [List.getElem?_drop, ← hu]
  congr 1
  rw [Nat.add_mul]
  omega

theorem append_room_at {t ty et : TypeId} {i : TypeInfo} (ht : P.underlying t = some (.slice et)) (hi : P.info? et = some i) {g off sLen sCap : Nat} {cur : Array Value} {t' : TypeId} (hg : w.heap[g]? = some (.cells cur t' (0, 0)))
    {ad : Addr} {m c : Nat} {news : List Value} (hl : news.length = m * i.size) (hnews : ∀ j u, news[j]? = some u → w.cell? (ad.add j) = some u) (h1 : ∀ u ∈ news, u.oneCell' = true) (hroom : sLen + m ≤ sCap) (hfit : off + sLen * i.size + news.length ≤ cur.size) :
    (Builtin.append_ #[t, t] ty #[.slice (some ⟨g, off, none⟩) sLen sCap, .slice (some ad) m c]).run P w = .ok (.slice (some ⟨g, off, none⟩) (sLen + m) sCap) (w.setRow g (cur.toList.take (off + sLen * i.size) ++ (news ++ cur.toList.drop (off + sLen * i.size + news.length))).toArray) := by
  have hfc := run_firstCells_some (P := P) w i.size m ad m c news hl hnews
  have hst := run_storeCells_free P g (off + sLen * i.size) t' (0, 0) news 0 cur w hg (fun j _ h => by simp at h) (by omega) h1
  simp only [Nat.add_zero] at hst
  simp [Builtin.append_, run_underlying ht, sizeOf, typeInfo, hi, Builtin.lenOf, hroom, hfc, Addr.add_lit, hst]

/-- An object that is gone; its block was written. -/
theorem Core.ended (hc : Core w0 S f h β φ tm w) {id : Nat} {ob : VObj} (hob : h id = some ob) (hs : w.heap.size ≤ w'.heap.size) (hw : ∀ b, b < w.heap.size → b ∉ tops β id ob → w'.heap[b]? = w.heap[b]?) : Core w0 S f (upd h id none) β φ tm w' := by
  have hsub : ∀ j o, upd h id none j = some o → j ≠ id ∧ h j = some o := by
    intro j o hj
    by_cases hji : j = id
    · subst hji; simp [upd] at hj
    · simp only [upd, hji, if_false] at hj
      exact ⟨hji, hj⟩
  have hav : ∀ b, Av (upd h id none) β b → Av h β b := by
    rintro b (⟨j, o, hj, hb⟩ | hb)
    · exact .inl ⟨j, o, (hsub j o hj).2, hb⟩
    · exact .inr hb
  refine hc.step (fun _ => False) hs (fun b hb hn => hw b hb (fun hx => hn (.inl ⟨id, ob, hob, hx⟩))) (fun b hb => .inl (hav b hb)) (fun _ _ _ h => h) (fun _ _ => ⟨rfl, rfl⟩) ?_ ?_
  · intro j o hj
    obtain ⟨hji, hj⟩ := hsub j o hj
    refine .inl ⟨fun h => h, hj, rfl, fun _ _ h => h, fun b hb => ?_⟩
    have hbφ := tops_sub (hc.objs j o hj) b hb
    exact hw b ((hc.fresh j o hj).2 b hbφ).2 (fun hx => hc.sep id j ob o (Ne.symm hji) hob hj b (tops_sub (hc.objs id ob hob) b hx) hbφ)
  · intro i j oi oj hne hi hj b hb
    exact hc.sep i j oi oj hne (hsub i oi hi).2 (hsub j oj hj).2 b hb

theorem not_av_ended (hc : Core w0 S f h β φ tm w) {id : Nat} {ob : VObj} (hob : h id = some ob) {b : Nat} (hb : b ∈ tops β id ob) : ¬ Av (upd h id none) β b := by
  rintro (⟨j, o, hj, hx⟩ | hx)
  · by_cases hji : j = id
    · subst hji; simp [upd] at hj
    · simp only [upd, hji, if_false] at hj
      exact hc.sep id j ob o (Ne.symm hji) hob hj b (tops_sub (hc.objs id ob hob) b hb) (tops_sub (hc.objs j o hj) b hx)
  · exact hc.not_bar hob (tops_sub (hc.objs id ob hob) b hb) hx

theorem read_own {t : TypeId} {ct : List CT} {rows : List (List DC)} {v : Value} {vals : List Value} {fps : List (List Nat)} (hown : OwnR w t ct.length false v rows.length vals) (hin : InR w ct rows vals fps) (hfl : flatB ct = true) :
    ∃ fp, RdC w (.sl ct) (.sl rows) v fp ∧ ∀ b ∈ fp, b ∈ v.ownBlock.toList := by
  have hf := hin.flat hfl
  obtain ⟨fp, h1, h2, _⟩ := row_reads (w := w) (av := fun b => b ∉ v.ownBlock.toList) (β := ⟨fun _ => 0, fun _ => v, fun _ => False, fun _ => []⟩) (id := 0) (t := t) (e := ct) (rows := rows) (fz := false) (u := false) (φ := v.ownBlock.toList)
    ⟨vals, fps, hown, hin, by rw [hf]; simp, by simp⟩
  refine ⟨fp, h1, fun b hb => ?_⟩
  rcases h2 b hb with h3 | h3
  · simpa [tops] using h3
  · exact Classical.not_not.1 h3

theorem sound_appendO (hR : Rel w0 S st a w) (hd : ∀ d, o.dst = some d → DstOk st.n d) {t et : TypeId} {s x : Operand} {c : Call} (ho : o.op = .call c) (hb : c.callee = .builtin .append) (hargs : c.args = #[s, x])
    (hat : c.argTypes = #[t, t]) {id lo : Nat} {u : Bool} {r : List (List DC)} {sx : SV} {ct : List CT} {q : List (List DC) × Met × Bool} {z : List SV} (h1 : (evM s).val st.get st.obj = some (.osl id lo ct.length)) (h2 : (evM x).val st.get st.obj = some sx)
    (hob : st.obj id = some (.row et ct r false u)) (hu : P.underlying t = some (.slice et)) (hfl : flatB ct = true)
    (hsz : sizeB P et ct.length = true) (hp : 0 < ct.length) (hz : (zeroM P et).val st.get st.obj = some z) (hzl : z.length = ct.length) (hq : (rowsM ct sx).val st.get st.obj = some q) (hnot : metNot id q.2.1 = true) (hlo : lo ≤ r.length)
    (hroom : roomB P et ((r.drop lo).length + q.1.length) = true) (hsv : e.sv = .sl ct (r.drop lo ++ q.1)) (hcw : e.cw = none) (how : e.ow = [(id, none)]) : Good P w0 S st o e a w := by
  obtain ⟨i, hi, hsize⟩ := sizeB_size hsz
  obtain ⟨i', zv, hi', hzv, rfl, _⟩ := zeroM_ok hz
  rw [hi] at hi'
  injection hi' with hi'
  subst hi'
  obtain ⟨hbytes, hmax⟩ := roomB_ok hi hroom
  obtain ⟨β, φ, hc⟩ := hR.core
  obtain ⟨fp, hrd, hmet0, hmn0, hfav, hfu⟩ := rowsM_ok hc (hc.ev h2) hq
  obtain ⟨Q, m, cc, hxv, hml, -, -, -⟩ := sl_form hrd
  rw [hxv] at hrd
  obtain ⟨hmr, news, fps2, hnl, hqn, hcell, hone, hin2, hsub, hnod⟩ := src_cells hrd hp
  have hs0 := hc.ev h1
  simp only [SVR] at hs0
  obtain ⟨g, n, cap, hval, hln, hsv0⟩ := hs0
  obtain ⟨vals, fps, hown, hin, hiav, hφ⟩ := hc.objs id _ hob
  have hft : ∀ b ∈ tops β id (.row et ct r false u), b = g := by
    intro b hb'
    simp only [tops, hval, Value.ownBlock] at hb'
    simpa using hb'
  have hgt : g ∈ tops β id (.row et ct r false u) := by simp [tops, hval, Value.ownBlock]
  rcases hown.2 with ⟨hv0, _, _⟩ | ⟨g', cap', cur, hv', hg, hnc, hcm, hcs, htk⟩
  · rw [hval] at hv0; cases hv0
  rw [hval] at hv'
  injection hv' with e1 e2 e3
  injection e1 with e1
  injection e1 with e1
  subst e1 e2 e3
  have hgφ := tops_sub (hc.objs id _ hob) g hgt
  have hgS := (hc.fresh id _ hob).2 g hgφ
  have hvl := hown.1
  have hfps2 := hin2.flat hfl
  have hdl : (r.drop lo).length = r.length - lo := by simp
  have hfin : ∀ (v' : Value) (w' : World), (Builtin.append_ #[t, t] o.type #[a.eval s, .slice Q m cc]).run P w = .ok v' w' → Kept S w0 w' → w.heap.size ≤ w'.heap.size → (∀ b, b < w.heap.size → b ≠ g → w'.heap[b]? = w.heap[b]?) →
      (∃ fp', RdC w' (.sl ct) (.sl (r.drop lo ++ q.1)) v' fp' ∧ ∀ b ∈ fp', b = g ∨ w.heap.size ≤ b) → Good P w0 S st o e a w := by
    intro v' w' hrun hk hs hw hr'
    refine good_value hR hd (v := v') (w' := w') ?_ hk ⟨β, φ, ?_, ?_⟩
    · simp [execOp, ho, resolve, hb, hargs, hat, invoke, builtin, hxv, hrun]
    · rw [how, hcw]
      exact hc.ended hob hs (fun b hb' hx => hw b hb' (fun e => hx (e ▸ hgt)))
    · rw [hsv, how, hcw]
      unfold SVR
      obtain ⟨fp', hr', hb'⟩ := hr'
      refine ⟨fp', hr', fun b hx => ?_⟩
      rcases hb' b hx with rfl | hge
      · exact not_av_ended hc hob hgt
      · intro hav
        have hav' : Av st.obj β b := by
          rcases hav with ⟨j, oj, hj, hbj⟩ | hx'
          · by_cases hji : j = id
            · subst hji; simp [fo, fc, upd] at hj
            · simp only [fo, fc, upd, hji, if_false] at hj
              exact .inl ⟨j, oj, hj, hbj⟩
          · exact .inr hx'
        have := hc.av_lt hR.kept.size hav'
        omega
  cases Q with
  | none =>
    have hm0 := hqn rfl
    subst hm0
    have hn0 : news = [] := by simpa using hnl
    have hq0 : q.1 = [] := by simpa using hmr.symm
    refine hfin (a.eval s) w ?_ hR.kept (Nat.le_refl _) (fun _ _ _ => rfl) ?_
    · rw [hsv0]
      simp [Builtin.append_, run_underlying hu, sizeOf, typeInfo, hi, Builtin.lenOf, Builtin.firstCells, show r.length - lo ≤ cap - lo by omega, storeCells]
    · rw [hq0, List.append_nil]
      obtain ⟨fp1, hr1, hf1⟩ := read_own hown hin hfl
      rw [hval] at hr1 hf1
      obtain ⟨fp2, hr2, hf2⟩ := sl_sub hr1 hlo (Nat.le_refl _)
      rw [List.take_length] at hr2
      rcases Nat.eq_zero_or_pos (r.length - lo) with h0 | h0
      · refine ⟨[], ?_, by simp⟩
        rw [hsv0]
        exact sl_mk (by simp) (by omega) (by omega) (.inl ⟨h0, rfl⟩)
      · rw [if_neg (by omega)] at hr2
        rw [hsv0, if_pos (by omega)]
        refine ⟨fp2, by simpa [addr_add] using hr2, fun b hb' => .inl ?_⟩
        simpa [Value.ownBlock] using hf1 b (hf2 b hb')
  | some ad =>
    by_cases hrm : r.length + m ≤ cap
    · have hfit : (if lo < cap then lo * ct.length else 0) + (r.length - lo) * i.size + news.length ≤ cur.size := by
        rw [hsize, hnl, hcs]
        have h3 : (r.length + m) * ct.length ≤ cap * ct.length := Nat.mul_le_mul_right _ hrm
        rw [Nat.add_mul] at h3
        have h4 : lo * ct.length + (r.length - lo) * ct.length = r.length * ct.length := by rw [← Nat.add_mul]; congr 1; omega
        split <;> omega
      have hrun := append_room_at (P := P) (ty := o.type) (c := cc) (w := w) (off := if lo < cap then lo * ct.length else 0) (sLen := r.length - lo) (sCap := cap - lo) hu hi hg (by rw [hsize]; exact hnl) (hcell ad rfl) hone (by omega) hfit
      by_cases hlt : lo < cap
      · rw [if_pos hlt] at hrun hfit
        have hoff : lo * ct.length + (r.length - lo) * i.size = r.length * ct.length := by rw [hsize, ← Nat.add_mul]; congr 1; omega
        rw [hoff] at hrun hfit
        refine hfin _ _ (by rw [hsv0, if_pos hlt]; exact hrun) (hR.kept.setRow hgS.1 _) (by simp) (fun b hb' hne => setRow_other w g b _ hne) ?_
        have hcurl : (cur.toList.take (r.length * ct.length) ++ (news ++ cur.toList.drop (r.length * ct.length + news.length))).length = cur.size := by
          simp only [List.length_append, List.length_take, List.length_drop, Array.length_toList]
          omega
        have hown' : OwnR (w.setRow g (cur.toList.take (r.length * ct.length) ++ (news ++ cur.toList.drop (r.length * ct.length + news.length))).toArray) et ct.length false (.slice (some ⟨g, 0, none⟩) (r ++ q.1).length cap) (r ++ q.1).length (vals ++ news) := by
          refine ⟨by rw [List.length_append, hvl, hnl, List.length_append, ← hmr, Nat.add_mul], .inr ⟨g, cap, _, rfl, by rw [setRow_heap w _ _ _ _ _ hg]; rfl, by rw [List.length_append, ← hmr]; exact hrm, hcm, by simp only [List.size_toArray, hcurl]; exact hcs, ?_⟩⟩
          have hlen : (r ++ q.1).length * ct.length = (vals ++ news).length := by rw [List.length_append, List.length_append, hvl, hnl, ← hmr, Nat.add_mul]
          rw [hlen, htk]
          show (vals ++ (news ++ _)).take (vals ++ news).length = vals ++ news
          rw [← List.append_assoc, List.take_left]
        have hin' : InR (w.setRow g (cur.toList.take (r.length * ct.length) ++ (news ++ cur.toList.drop (r.length * ct.length + news.length))).toArray) ct (r ++ q.1) (vals ++ news) (fps ++ fps2) :=
          (hin.append hvl hin2).mono (by simp) (fun b hb' => by
            rw [List.flatten_append, hin.flat hfl, hfps2] at hb'
            simp at hb')
        obtain ⟨fp1, hr1, hf1⟩ := read_own hown' hin' hfl
        obtain ⟨fp3, hr3, hf3⟩ := sl_sub hr1 (show lo ≤ (r ++ q.1).length by rw [List.length_append]; omega) (Nat.le_refl _)
        rw [if_neg (by omega), List.take_length, List.drop_append_of_le_length hlo] at hr3
        refine ⟨fp3, ?_, fun b hb' => .inl ?_⟩
        · have e4 : (r ++ q.1).length - lo = r.length - lo + m := by rw [List.length_append, ← hmr]; omega
          rw [e4] at hr3
          simpa [addr_add] using hr3
        · simpa [Value.ownBlock] using hf1 b (hf3 b hb')
      · have hm0 : m = 0 := by omega
        subst hm0
        have hn0 : news = [] := by simpa using hnl
        have hq0 : q.1 = [] := by simpa using hmr.symm
        refine hfin _ _ (by rw [hsv0]; exact hrun) (hR.kept.setRow hgS.1 _) (by simp) (fun b hb' hne => setRow_other w g b _ hne) ?_
        refine ⟨[], ?_, by simp⟩
        rw [hq0, List.append_nil]
        exact sl_mk (by simp) (by omega) (by omega) (.inl ⟨by omega, rfl⟩)
    · have holds : ∀ j uu, (vals.drop (lo * ct.length))[j]? = some uu → w.cell? ((⟨g, if lo < cap then lo * ct.length else 0, none⟩ : Addr).add j) = some uu := by
        intro j uu hj
        rw [List.getElem?_drop] at hj
        have hlt : lo < cap := by
          have h3 := (List.getElem?_eq_some_iff.1 hj).1
          rw [hvl] at h3
          have h4 : lo < r.length := by
            rcases Nat.lt_or_ge lo r.length with h5 | h5
            · exact h5
            · have := Nat.mul_le_mul_right ct.length h5
              omega
          omega
        rw [if_pos hlt, addr_add]
        rw [← htk, List.getElem?_take] at hj
        split at hj
        · simp only [World.cell?, hg]
          simpa using hj
        · cases hj
      obtain ⟨v', w', hrun, hown', hgrow⟩ := run_append_arg_grows (P := P) w t o.type et i zv ct.length i.bytes hu hi hzv hsize rfl (by simpa using hzl) hp ⟨g, if lo < cap then lo * ct.length else 0, none⟩ (r.length - lo) (cap - lo) (vals.drop (lo * ct.length))
        (by rw [List.length_drop, hvl, Nat.sub_mul]) holds ad m cc news hnl (hcell ad rfl) (by omega) (by rw [hmr]; rw [hdl] at hmax; exact hmax) (by rw [hmr]; rw [hdl] at hbytes; exact hbytes)
      refine hfin v' w' (by rw [hsv0]; exact hrun) (hR.kept.grown hgrow (by simp)) hgrow.size (fun b hb' _ => hgrow.block b hb' (by simp)) ?_
      have hrl : r.length - lo + m = (r.drop lo ++ q.1).length := by rw [List.length_append, hdl, hmr]
      have hin' : InR w' ct (r.drop lo ++ q.1) (vals.drop (lo * ct.length) ++ news) (fps.drop lo ++ fps2) :=
        ((hin.drop lo).append (by rw [List.length_drop, hvl, hdl, Nat.sub_mul]) hin2).mono hgrow.size (fun b hb' => by
          rw [List.flatten_append, (hin.drop lo).flat hfl, hfps2] at hb'
          simp at hb')
      have hown2 : OwnR w' et ct.length false v' (r.drop lo ++ q.1).length (vals.drop (lo * ct.length) ++ news) := by rw [← hrl]; exact OwnR.ofOwns hown'
      obtain ⟨fp1, hr1, hf1⟩ := read_own hown2 hin' hfl
      refine ⟨fp1, hr1, fun b hb' => .inr ?_⟩
      have hx := hf1 b hb'
      rcases hown'.2 with ⟨rfl, _⟩ | ⟨g2, cap2, cur2, rfl, hge, _⟩
      · simp [Value.ownBlock] at hx
      · simp [Value.ownBlock] at hx
        omega

theorem sound_copy (hR : Rel w0 S st a w) (hd : ∀ d, o.dst = some d → DstOk st.n d) {t t2 : TypeId} {x y : Operand} {c : Call} (ho : o.op = .call c) (hb : c.callee = .builtin .copy) (hargs : c.args = #[x, y]) (hat : c.argTypes = #[t, t2]) {sx sy : SV}
    (h1 : (evM x).val st.get st.obj = some sx) (h2 : (evM y).val st.get st.obj = some sy) (he : (copyM P t sx sy).val st.get st.obj = some e) (hok : e.ok = true) : Good P w0 S st o e a w := by
  unfold copyM at he
  split at he
  · rename_i et id lo z s hu
    simp only [M.val_obj, Option.bind_eq_some_iff] at he
    obtain ⟨ob, hob, he⟩ := he
    split at he
    · rename_i t' ct r fz u
      cases hz : Nat.beq t' et && sizeB P et 1 && Nat.beq z 1 && ctsBeq ct [.int .u8]
      · simp [hz] at he
      simp only [hz, cond_true, M.val_pure, Option.some.injEq] at he
      subst he
      simp only [Bool.and_eq_true] at hz
      have hct := ctsBeq_eq _ _ hz.2
      subst hct
      have hz1 := Nat.eq_of_beq_eq_true hz.1.2
      subst hz1
      obtain ⟨i, hi, hsize⟩ := sizeB_size hz.1.1.2
      have hlo : lo ≤ r.length := by simpa using hok
      obtain ⟨β, φ, hc⟩ := hR.core
      have hs0 := hc.ev h1
      simp only [SVR] at hs0
      obtain ⟨g, n, cap, hval, hln, hsv0⟩ := hs0
      have hy := hc.ev h2
      simp only [SVR] at hy
      obtain ⟨vals, fps, hown, hin, hiav, hφ⟩ := hc.objs id _ hob
      have hgt : g ∈ tops β id (.row t' [.int .u8] r fz u) := by simp [tops, hval, Value.ownBlock]
      rcases hown.2 with ⟨hv0, _, _⟩ | ⟨g', cap', cur, hv', hg, hnc, hcm, hcs, htk⟩
      · rw [hval] at hv0; cases hv0
      rw [hval] at hv'
      injection hv' with e1 e2 e3
      injection e1 with e1
      injection e1 with e1
      subst e1 e2 e3
      have hgφ := tops_sub (hc.objs id _ hob) g hgt
      have hgS := (hc.fresh id _ hob).2 g hgφ
      have hvl := hown.1
      simp only [List.length_cons, List.length_nil, Nat.zero_add, Nat.mul_one] at hvl hcs htk hsv0
      have hflat : flatB [CT.int .u8] = true := rfl
      let us : List Value := (s.take (r.length - lo)).map fun b => Value.int .u8 b.toNat
      have hul : us.length = min s.length (r.length - lo) := by simp [us, Nat.min_comm]
      have hone : ∀ v ∈ us, v.oneCell' = true := by
        intro v hv
        simp only [us, List.mem_map] at hv
        obtain ⟨b, _, rfl⟩ := hv
        rfl
      have hfree : ∀ j, j < cur.size → ¬ ((bif fz then (cur.size, cur.size + 1) else ((0, 0) : Nat × Nat)).1 ≤ j ∧ j < (bif fz then (cur.size, cur.size + 1) else ((0, 0) : Nat × Nat)).2) := by
        intro j hj
        cases fz <;> simp <;> omega
      -- where nothing goes over the place does not matter
      have hplace : us = [] ∨ (if lo < cap then lo else 0) = lo := by
        rcases Nat.lt_or_ge lo cap with h3 | h3
        · exact .inr (if_pos h3)
        · refine .inl ?_
          have : us.length = 0 := by rw [hul]; omega
          exact List.eq_nil_of_length_eq_zero this
      have hstore : (storeCells ⟨g, if lo < cap then lo else 0, none⟩ us 0).run P w = .ok () (w.setRow g (cur.toList.take lo ++ (us ++ cur.toList.drop (lo + us.length))).toArray) := by
        rcases hplace with h3 | h3
        · rw [h3]
          simp only [storeCells, List.nil_append, List.length_nil, Nat.add_zero, List.take_append_drop, Array.toArray_toList]
          rw [setRow_self w g cur t' _ hg]
          rfl
        · rw [h3]
          have := run_storeCells_free P g lo t' _ us 0 cur w hg hfree (by rw [hul, hcs]; omega) hone
          simpa only [Nat.add_zero] using this
      have hcells : (Builtin.firstCells i.size (Nat.min s.length (r.length - lo)) (.string ⟨s.toArray⟩)).run P w = .ok us.toArray w := by
        have : ((⟨s.toArray⟩ : ByteArray).extract 0 (Nat.min s.length (r.length - lo))).data.map (fun b => Value.int .u8 b.toNat) = us.toArray := by
          rw [str_extract]
          have e5 : s.take (Nat.min s.length (r.length - lo)) = s.take (r.length - lo) := by
            rcases Nat.le_total s.length (r.length - lo) with h3 | h3
            · rw [show Nat.min s.length (r.length - lo) = s.length from Nat.min_eq_left h3, List.take_length, List.take_of_length_le h3]
            · rw [show Nat.min s.length (r.length - lo) = r.length - lo from Nat.min_eq_right h3]
          simp [us, e5]
        simp only [Builtin.firstCells, Sem.run_pure, this]
      have hcurl : (cur.toList.take lo ++ (us ++ cur.toList.drop (lo + us.length))).length = cur.size := by
        simp only [List.length_append, List.length_take, List.length_drop, Array.length_toList]
        omega
      have hrow : (r.take lo ++ (((s.take (r.length - lo)).map ofByte) ++ r.drop (lo + min s.length (r.length - lo)))).length = r.length := by
        simp only [List.length_append, List.length_take, List.length_drop, List.length_map]
        omega
      have hinS : InR w [.int .u8] ((s.take (r.length - lo)).map ofByte) us (List.replicate us.length []) := by
        refine ⟨by simp [us], fun k r' f' hk hf => ?_⟩
        have hkl : k < (s.take (r.length - lo)).length := by
          have := (List.getElem?_eq_some_iff.1 hk).1
          simpa using this
        have hr' : r' = ofByte (s.take (r.length - lo))[k] := by
          rw [List.getElem?_map, List.getElem?_eq_getElem hkl] at hk
          simpa using hk.symm
        have hf' : f' = [] := by
          have := List.mem_of_getElem? hf
          exact (List.mem_replicate.1 this).2
        subst hr' hf'
        unfold ofByte
        simp only [RdL, RdC]
        refine ⟨.int (s.take (r.length - lo))[k].toNat, [], .int .u8 (s.take (r.length - lo))[k].toNat, [], [], rfl, ?_, ⟨_, rfl, rfl, ?_, rfl⟩, ⟨rfl, rfl⟩, rfl⟩
        · simp only [us, List.length_cons, List.length_nil, Nat.zero_add, Nat.mul_one, Nat.add_zero]
          rw [List.getElem?_map, List.getElem?_eq_getElem hkl]
          rfl
        · rw [inR_iff]
          have h1 : IntKind.u8.min = 0 := by decide
          have h2 : IntKind.u8.max = 255 := by decide
          have := (s.take (r.length - lo))[k].toNat_lt
          omega
      have hin' : InR w [.int .u8] (r.take lo ++ (((s.take (r.length - lo)).map ofByte) ++ r.drop (lo + min s.length (r.length - lo)))) (vals.take lo ++ (us ++ vals.drop (lo + us.length))) (fps.take lo ++ (List.replicate us.length [] ++ fps.drop (lo + us.length))) := by
        have a1 := hin.take lo
        have a2 := hin.drop (lo + us.length)
        simp only [List.length_cons, List.length_nil, Nat.zero_add, Nat.mul_one] at a1 a2
        rw [← hul]
        refine a1.append ?_ (hinS.append ?_ a2)
        · simp only [List.length_cons, List.length_nil, Nat.zero_add, Nat.mul_one, List.length_take, hvl]
        · simp [us]
      have hfl' := hin'.flat hflat
      have hφ' : φ id = [g] := by
        rw [hφ, hin.flat hflat, hval]
        cases u <;> simp [Value.ownBlock]
      refine good_value hR hd (v := .int .i64 (min s.length (r.length - lo) : Nat)) (w' := w.setRow g (cur.toList.take lo ++ (us ++ cur.toList.drop (lo + us.length))).toArray) ?_ (hR.kept.setRow hgS.1 _)
        ⟨β, upd φ id [g], ?_, ?_⟩
      · have hmn : Nat.min s.length (r.length - lo) = min s.length (r.length - lo) := rfl
        simp [execOp, ho, resolve, hb, hargs, hat, invoke, builtin, Builtin.copy_, run_underlying hu, hsv0, hy.1, Builtin.lenOf, sizeOf, typeInfo, hi, str_size, hcells, hstore, goInt]
      · show Core w0 S st.get (upd st.obj id (some (.row t' [.int .u8] (r.take lo ++ (((s.take (r.length - lo)).map ofByte) ++ r.drop (lo + min s.length (r.length - lo)))) fz u))) _ _ _ _
        refine hc.rewrite hob hgt (fun b hb' => hb') ?_ (by simp) ?_
        · refine ⟨vals.take lo ++ (us ++ vals.drop (lo + us.length)), fps.take lo ++ (List.replicate us.length [] ++ fps.drop (lo + us.length)), ⟨?_, .inr ⟨g, cap, (cur.toList.take lo ++ (us ++ cur.toList.drop (lo + us.length))).toArray, by rw [hrow]; exact hval, ?_, by rw [hrow]; exact hnc, hcm, ?_, ?_⟩⟩, ?_, ?_, ?_⟩
          · rw [hrow]
            simp only [List.length_cons, List.length_nil, Nat.zero_add, Nat.mul_one, List.length_append, List.length_take, List.length_drop, hvl]
            omega
          · rw [setRow_heap w _ _ _ _ _ hg]
            simp only [List.size_toArray, hcurl]
          · simp only [List.size_toArray, hcurl, List.length_cons, List.length_nil, Nat.zero_add, Nat.mul_one]
            exact hcs
          · rw [hrow]
            simp only [List.length_cons, List.length_nil, Nat.zero_add, Nat.mul_one]
            rw [take_splice _ _ _ _ (by omega) (by simp only [Array.length_toList]; omega), htk]
          · exact hin'.mono (by simp) (fun b hb' => by rw [hfl'] at hb'; simp at hb')
          · rw [hfl']; simp
          · rw [hfl', hval]
            cases u <;> simp [Value.ownBlock]
        · intro b hb'
          have hbg : b = g := by simpa using hb'
          subst hbg
          exact ⟨hgS, fun j oj hj hjo => hc.sep id j _ _ (Ne.symm hj) hob hjo b hgφ⟩
      · unfold SVR
        refine ⟨rfl, ?_⟩
        rw [inR_iff]
        have h1 : IntKind.i64.min = -9223372036854775808 := by decide
        have h2 : IntKind.i64.max = 9223372036854775807 := by decide
        have := hy.2
        simp only [maxLen] at this
        omega
    · simp at he
  · simp at he

end

end Go.Proofs.YthpmalpdnnbkgaaGreat.Vm

/- The value machine: rows whose slices are rows of the call's own: what they hold, cut and put together. Conditions: as each lemma says. -/
set_option linter.unusedVariables false
set_option linter.unusedSimpArgs false
namespace Go.Proofs.YthpmalpdnnbkgaaGreat.Vm

theorem ct_cases (c : CT) : (∃ e, c = .sl e) ∨ flatB [c] = true := by
  cases c with
  | sl e => exact .inl ⟨e, rfl⟩
  | _ => exact .inr rfl

theorem flatB_cons {c : CT} {cs : List CT} : flatB (c :: cs) = (flatB [c] && flatB cs) := by
  cases c <;> rfl

theorem slCount_flat {c : CT} {cs : List CT} (hc : flatB [c] = true) : slCount (c :: cs) = slCount cs := by
  cases c with
  | sl e => simp [flatB] at hc
  | _ => rfl

theorem slCount_zero : ∀ {cs : List CT}, slCount cs = 0 → flatB cs = true
  | [], _ => rfl
  | c :: cs, h => by
    rcases ct_cases c with ⟨e, rfl⟩ | hc
    · simp [slCount] at h
    · rw [slCount_flat hc] at h
      rw [flatB_cons, hc, slCount_zero h]
      rfl

theorem slCount_append : ∀ (a b : List CT), slCount (a ++ b) = slCount a + slCount b
  | [], b => by simp [slCount]
  | c :: cs, b => by
    rcases ct_cases c with ⟨e, rfl⟩ | hc
    · simp only [List.cons_append, slCount, slCount_append cs b]; omega
    · rw [List.cons_append, slCount_flat hc, slCount_flat hc, slCount_append cs b]

theorem flat_get : ∀ {cs : List CT} {k : Nat} {e : List CT}, flatB cs = true → cs[k]? = some (.sl e) → False
  | [], k, e, _, h => by simp at h
  | c :: cs, k, e, hf, h => by
    rw [flatB_cons, Bool.and_eq_true] at hf
    cases k with
    | zero =>
      simp only [List.getElem?_cons_zero, Option.some.injEq] at h
      subst h
      simp [flatB] at hf
    | succ k => exact flat_get hf.2 (by simpa using h)

section
variable {w : World}

theorem CellsH.length {hv : Option Value} : ∀ (cs : List CT) (ts : List TypeId) (ds : List DC) (us : List Value) (mb : List Nat), CellsH w hv cs ts ds us mb → us.length = cs.length ∧ ds.length = cs.length
  | [], _, _, _, _, h => by
    simp only [CellsH] at h
    obtain ⟨_, rfl, rfl, _⟩ := h
    exact ⟨rfl, rfl⟩
  | c :: cs, _, _, _, _, h => by
    rcases ct_cases c with ⟨e, rfl⟩ | hc
    · simp only [CellsH] at h
      obtain ⟨t, ts', rows, ds', v, us', m1, mb', rfl, rfl, rfl, _, _, h6, rfl⟩ := h
      have := CellsH.length cs _ _ _ _ h6
      simp [this.1, this.2]
    · rw [CellsH.flat hc] at h
      obtain ⟨d, ds', v, us', rfl, rfl, _, h4⟩ := h
      have := CellsH.length cs _ _ _ _ h4
      simp [this.1, this.2]

theorem CellsH.lt {hv : Option Value} : ∀ (cs : List CT) (ts : List TypeId) (ds : List DC) (us : List Value) (mb : List Nat), CellsH w hv cs ts ds us mb → ∀ b ∈ mb, b < w.heap.size
  | [], _, _, _, _, h => by
    simp only [CellsH] at h
    simp [h.2.2.2]
  | c :: cs, _, _, _, _, h => by
    rcases ct_cases c with ⟨e, rfl⟩ | hc
    · simp only [CellsH] at h
      obtain ⟨t, ts', rows, ds', v, us', m1, mb', rfl, rfl, rfl, _, h5, h6, rfl⟩ := h
      intro b hb
      rcases List.mem_append.1 hb with hb | hb
      · cases hv with
        | none =>
          obtain ⟨vals, fps, g1, _, rfl⟩ := h5
          exact g1.lt b hb
        | some v0 =>
          rw [h5.2.2] at hb
          simp at hb
      · exact CellsH.lt cs _ _ _ _ h6 b hb
    · rw [CellsH.flat hc] at h
      obtain ⟨d, ds', v, us', rfl, rfl, _, h4⟩ := h
      exact CellsH.lt cs _ _ _ _ h4

theorem DeepR.lt {e : List CT} {ts : List TypeId} {rows : List (List DC)} {vals : List Value} {hv : Nat → Option Value} {mbs : List (List Nat)} (h : DeepR w e ts rows vals hv mbs) : ∀ b ∈ mbs.flatten, b < w.heap.size := by
  intro b hb
  obtain ⟨m, hm, hb⟩ := List.mem_flatten.1 hb
  obtain ⟨i, hi, rfl⟩ := List.getElem_of_mem hm
  have hi' : i < rows.length := by have := h.1; omega
  exact CellsH.lt _ _ _ _ _ (h.2 i rows[i] mbs[i] (by simp) (by simp)) b hb

theorem CellsH.split {hv : Option Value} : ∀ (cs1 cs2 : List CT) (ts : List TypeId) (ds : List DC) (us : List Value) (mb : List Nat), CellsH w hv (cs1 ++ cs2) ts ds us mb →
    ∃ ts1 ts2 m1 m2, ts = ts1 ++ ts2 ∧ mb = m1 ++ m2 ∧ CellsH w hv cs1 ts1 (ds.take cs1.length) (us.take cs1.length) m1 ∧ CellsH w hv cs2 ts2 (ds.drop cs1.length) (us.drop cs1.length) m2
  | [], cs2, ts, ds, us, mb, h => ⟨[], ts, [], mb, rfl, rfl, by simp [CellsH], by simpa using h⟩
  | c :: cs, cs2, _, _, _, _, h => by
    rw [List.cons_append] at h
    rcases ct_cases c with ⟨e, rfl⟩ | hc
    · simp only [CellsH] at h
      obtain ⟨t, ts', rows, ds', v, us', m1, mb', rfl, rfl, rfl, h4, h5, h6, rfl⟩ := h
      obtain ⟨a1, a2, b1, b2, rfl, rfl, k1, k2⟩ := CellsH.split cs cs2 _ _ _ _ h6
      refine ⟨t :: a1, a2, m1 ++ b1, b2, rfl, by simp, ?_, by simpa using k2⟩
      simp only [CellsH, List.length_cons, List.take_succ_cons]
      exact ⟨t, a1, rows, _, v, _, m1, b1, rfl, rfl, rfl, h4, h5, k1, rfl⟩
    · rw [CellsH.flat hc] at h
      obtain ⟨d, ds', v, us', rfl, rfl, h3, h4⟩ := h
      obtain ⟨a1, a2, b1, b2, rfl, rfl, k1, k2⟩ := CellsH.split cs cs2 _ _ _ _ h4
      refine ⟨a1, a2, b1, b2, rfl, rfl, ?_, by simpa using k2⟩
      rw [CellsH.flat hc]
      simp only [List.length_cons, List.take_succ_cons]
      exact ⟨d, _, v, _, rfl, rfl, h3, k1⟩

theorem CellsH.join {hv : Option Value} : ∀ (cs1 cs2 : List CT) (ts1 ts2 : List TypeId) (d1 d2 : List DC) (u1 u2 : List Value) (m1 m2 : List Nat), CellsH w hv cs1 ts1 d1 u1 m1 → CellsH w hv cs2 ts2 d2 u2 m2 →
    CellsH w hv (cs1 ++ cs2) (ts1 ++ ts2) (d1 ++ d2) (u1 ++ u2) (m1 ++ m2)
  | [], cs2, _, _, _, _, _, _, _, _, h, h2 => by
    simp only [CellsH] at h
    obtain ⟨rfl, rfl, rfl, rfl⟩ := h
    simpa using h2
  | c :: cs, cs2, _, _, _, _, _, _, _, _, h, h2 => by
    rcases ct_cases c with ⟨e, rfl⟩ | hc
    · simp only [CellsH] at h
      obtain ⟨t, ts', rows, ds', v, us', m1, mb', rfl, rfl, rfl, h4, h5, h6, rfl⟩ := h
      simp only [List.cons_append, CellsH]
      exact ⟨t, _, rows, _, v, _, m1, _, rfl, rfl, rfl, h4, h5, CellsH.join cs cs2 _ _ _ _ _ _ _ _ h6 h2, by simp⟩
    · rw [CellsH.flat hc] at h
      obtain ⟨d, ds', v, us', rfl, rfl, h3, h4⟩ := h
      simp only [List.cons_append]
      rw [CellsH.flat hc]
      exact ⟨d, _, v, _, rfl, rfl, h3, CellsH.join cs cs2 _ _ _ _ _ _ _ _ h4 h2⟩

theorem CellsH.ofFlat {hv : Option Value} : ∀ (cs : List CT) (ds : List DC) (us : List Value) (fp : List Nat), flatB cs = true → RdL w cs ds (fun j => us[j]?) fp → us.length = cs.length → CellsH w hv cs [] ds us []
  | [], ds, us, fp, _, h, hl => by
    simp only [RdL] at h
    simp only [CellsH]
    exact ⟨trivial, h.1, by simpa using hl, trivial⟩
  | c :: cs, ds, us, fp, hf, h, hl => by
    rw [flatB_cons, Bool.and_eq_true] at hf
    simp only [RdL] at h
    obtain ⟨d, r', v, f1, f2, rfl, h0, h1, h2, rfl⟩ := h
    cases us with
    | nil => simp at hl
    | cons u us =>
      simp only [List.getElem?_cons_zero, Option.some.injEq] at h0
      subst h0
      rw [CellsH.flat hf.1]
      refine ⟨d, r', u, us, rfl, rfl, ?_, CellsH.ofFlat cs r' us f2 hf.2 (by simpa using h2) (by simpa using hl)⟩
      have hz : f1 = [] := InR.flatOf [c] [d] (fun _ => some u) f1 hf.1 (by simp only [RdL]; exact ⟨d, [], u, f1, [], rfl, rfl, h1, by simp, by simp⟩)
      subst hz
      exact h1

theorem CellsH.toFlat {hv : Option Value} : ∀ (cs : List CT) (ts : List TypeId) (ds : List DC) (us : List Value) (mb : List Nat), flatB cs = true → CellsH w hv cs ts ds us mb → ts = [] ∧ mb = [] ∧ RdL w cs ds (fun j => us[j]?) []
  | [], _, _, _, _, _, h => by
    simp only [CellsH] at h
    obtain ⟨rfl, rfl, rfl, rfl⟩ := h
    exact ⟨rfl, rfl, by simp [RdL]⟩
  | c :: cs, _, _, _, _, hf, h => by
    rw [flatB_cons, Bool.and_eq_true] at hf
    rw [CellsH.flat hf.1] at h
    obtain ⟨d, ds', v, us', rfl, rfl, h3, h4⟩ := h
    obtain ⟨k1, k2, k3⟩ := CellsH.toFlat cs _ _ _ _ hf.2 h4
    refine ⟨k1, k2, ?_⟩
    simp only [RdL]
    exact ⟨d, ds', v, [], [], rfl, rfl, h3, by simpa using k3, rfl⟩

theorem CellsH.reflat {hv hv' : Option Value} {cs : List CT} {ts : List TypeId} {ds : List DC} {us : List Value} {mb : List Nat} (hf : flatB cs = true) (h : CellsH w hv cs ts ds us mb) : CellsH w hv' cs ts ds us mb := by
  obtain ⟨rfl, rfl, k3⟩ := CellsH.toFlat _ _ _ _ _ hf h
  exact CellsH.ofFlat _ _ _ _ hf k3 (CellsH.length _ _ _ _ _ h).1

/-- The one slice of an element is taken out. -/
theorem CellsH.out : ∀ (e : List CT) (off : Nat) (e' : List CT) (ts : List TypeId) (r : List DC) (us : List Value) (m : List Nat), e[off]? = some (.sl e') → slCount e = 1 → CellsH w none e ts r us m →
    ∃ t1 v rws, ts = [t1] ∧ us[off]? = some v ∧ r[off]? = some (.sl rws) ∧ flatB e' = true ∧ SlH w none t1 e' rws v m ∧ CellsH w (some v) e [t1] r us []
  | [], _, _, _, _, _, _, h, _, _ => by simp at h
  | c :: cs, off, e', _, _, _, _, h, hn, hc => by
    rcases ct_cases c with ⟨e, rfl⟩ | hf
    · simp only [slCount] at hn
      have hfl : flatB cs = true := slCount_zero (by omega)
      cases off with
      | zero =>
        simp only [List.getElem?_cons_zero, Option.some.injEq, CT.sl.injEq] at h
        subst h
        simp only [CellsH] at hc
        obtain ⟨t, ts', rows, ds', v, us', m1, mb', rfl, rfl, rfl, h4, h5, h6, rfl⟩ := hc
        obtain ⟨rfl, rfl, _⟩ := CellsH.toFlat _ _ _ _ _ hfl h6
        have hone : v.oneCell' = true := by
          obtain ⟨vals, fps, g1, _⟩ := h5
          exact g1.one
        refine ⟨t, v, rows, rfl, rfl, rfl, h4, by simpa using h5, ?_⟩
        simp only [CellsH]
        exact ⟨t, [], rows, ds', v, us', [], [], rfl, rfl, rfl, h4, ⟨rfl, hone, rfl⟩, CellsH.reflat hfl h6, rfl⟩
      | succ k => exact (flat_get hfl (by simpa using h)).elim
    · cases off with
      | zero =>
        simp only [List.getElem?_cons_zero, Option.some.injEq] at h
        subst h
        simp [flatB] at hf
      | succ k =>
        rw [CellsH.flat hf] at hc
        obtain ⟨d, ds', v, us', rfl, rfl, h3, h4⟩ := hc
        rw [slCount_flat hf] at hn
        obtain ⟨t1, v1, rws, rfl, k1, k2, k3, k4, k5⟩ := CellsH.out cs k e' _ _ _ _ (by simpa using h) hn h4
        refine ⟨t1, v1, rws, rfl, by simpa using k1, by simpa using k2, k3, k4, ?_⟩
        rw [CellsH.flat hf]
        exact ⟨d, ds', v, us', rfl, rfl, h3, k5⟩

theorem slPos_flat {c : CT} {cs : List CT} (hc : flatB [c] = true) : slPos (c :: cs) = slPos cs + 1 := by
  cases c with
  | sl e => simp [flatB] at hc
  | _ => rfl

/-- The one slice of an element is put back. -/
theorem CellsH.back {v : Value} {rws : List (List DC)} {m1 : List Nat} : ∀ (e : List CT) (e' : List CT) (t1 : TypeId) (r : List DC) (us : List Value) (m : List Nat), e[slPos e]? = some (.sl e') → slCount e = 1 → CellsH w (some v) e [t1] r us m →
    SlH w none t1 e' rws v m1 → CellsH w none e [t1] (splice r (slPos e) [.sl rws]) us m1
  | [], _, _, _, _, _, h, _, _, _ => by simp [slPos] at h
  | c :: cs, e', t1, _, _, _, h, hn, hc, hs => by
    rcases ct_cases c with ⟨e, rfl⟩ | hf
    · simp only [slCount] at hn
      have hfl : flatB cs = true := slCount_zero (by omega)
      simp only [slPos, List.getElem?_cons_zero, Option.some.injEq, CT.sl.injEq] at h
      subst h
      simp only [CellsH] at hc
      obtain ⟨t, ts', rows, ds', v', us', m1', mb', h1, rfl, rfl, h4, ⟨rfl, hone, rfl⟩, h6, rfl⟩ := hc
      simp only [List.cons.injEq] at h1
      obtain ⟨rfl, rfl⟩ := h1
      obtain ⟨_, rfl, _⟩ := CellsH.toFlat _ _ _ _ _ hfl h6
      simp only [slPos, splice, CellsH]
      exact ⟨t1, [], rws, ds', v', us', m1, [], rfl, by simp, rfl, h4, hs, CellsH.reflat hfl h6, by simp⟩
    · rw [slPos_flat hf] at h ⊢
      rw [CellsH.flat hf] at hc ⊢
      obtain ⟨d, ds', v', us', rfl, rfl, h3, h4⟩ := hc
      rw [slCount_flat hf] at hn
      refine ⟨d, splice ds' (slPos cs) [.sl rws], v', us', ?_, rfl, h3, CellsH.back cs e' t1 _ _ _ (by simpa using h) hn h4 hs⟩
      have e1 : slPos cs + 1 + ([DC.sl rws] : List DC).length = (slPos cs + ([DC.sl rws] : List DC).length) + 1 := by omega
      simp only [splice, e1, List.take_succ_cons, List.drop_succ_cons, List.cons_append]

theorem get_spl {α : Type} (l nu : List α) (p j : Nat) (h : p + nu.length ≤ l.length) : (l.take p ++ (nu ++ l.drop (p + nu.length)))[j]? = if j < p then l[j]? else if j < p + nu.length then nu[j - p]? else l[j]? := by
  have ht : (l.take p).length = p := by simp; omega
  split
  · rename_i hj
    rw [List.getElem?_append_left (by omega), List.getElem?_take, if_pos hj]
  · rename_i hj
    rw [List.getElem?_append_right (by omega), ht]
    split
    · rw [List.getElem?_append_left (by omega)]
    · rw [List.getElem?_append_right (by omega), List.getElem?_drop]
      congr 1
      omega

theorem seg_same {α : Type} (vals nu : List α) (i off el : Nat) (hoff : off + nu.length ≤ el) (hl : i * el + el ≤ vals.length) :
    ((vals.take (i * el + off) ++ (nu ++ vals.drop (i * el + off + nu.length))).drop (i * el)).take el = ((vals.drop (i * el)).take el).take off ++ (nu ++ ((vals.drop (i * el)).take el).drop (off + nu.length)) := by
  apply List.ext_getElem?
  intro j
  rw [get_spl _ _ _ _ (by simp; omega), List.getElem?_take, List.getElem?_drop, get_spl _ _ _ _ (by omega)]
  simp only [List.getElem?_take, List.getElem?_drop]
  by_cases hj : j < el
  · rw [if_pos hj, if_pos hj]
    by_cases h1 : j < off
    · rw [if_pos (by omega), if_pos h1]
    · rw [if_neg (by omega), if_neg h1]
      by_cases h2 : j < off + nu.length
      · rw [if_pos (by omega), if_pos h2]
        congr 1
        omega
      · rw [if_neg (by omega), if_neg h2]
  · rw [if_neg hj, if_neg hj, if_neg (by omega), if_neg (by omega)]

theorem seg_other {α : Type} (vals nu : List α) (i off el k : Nat) (hoff : off + nu.length ≤ el) (hl : i * el + el ≤ vals.length) (hk : k ≠ i) :
    ((vals.take (i * el + off) ++ (nu ++ vals.drop (i * el + off + nu.length))).drop (k * el)).take el = (vals.drop (k * el)).take el := by
  apply List.ext_getElem?
  intro j
  rw [List.getElem?_take, List.getElem?_drop, get_spl _ _ _ _ (by omega), List.getElem?_take, List.getElem?_drop]
  by_cases hj : j < el
  · rw [if_pos hj, if_pos hj]
    rcases Nat.lt_or_ge k i with hlt | hge
    · have : k * el + el ≤ i * el := by rw [← Nat.succ_mul]; exact Nat.mul_le_mul_right _ hlt
      rw [if_pos (by omega)]
    · have : i * el + el ≤ k * el := by rw [← Nat.succ_mul]; exact Nat.mul_le_mul_right _ (by omega)
      rw [if_neg (by omega), if_neg (by omega)]
  · rw [if_neg hj, if_neg hj]

/-- One element is written. -/
theorem DeepR.set {w w' : World} {e : List CT} {ts : List TypeId} {rows : List (List DC)} {vals : List Value} {hv hv' : Nat → Option Value} {mbs : List (List Nat)} (h : DeepR w e ts rows vals hv mbs) (hs : w.heap.size ≤ w'.heap.size) (hl : vals.length = rows.length * e.length)
    {i off : Nat} (hi : i < rows.length) {nu : List Value} (hoff : off + nu.length ≤ e.length) {r : List DC} {m : List Nat} (hm : ∀ j, j ≠ i → ∀ m', mbs[j]? = some m' → ∀ b ∈ m', w'.heap[b]? = w.heap[b]?)
    (hh : ∀ j, j ≠ i → hv' j = hv j) (hr : CellsH w' (hv' i) e ts r (((vals.drop (i * e.length)).take e.length).take off ++ (nu ++ ((vals.drop (i * e.length)).take e.length).drop (off + nu.length))) m) :
    DeepR w' e ts (rows.set i r) (vals.take (i * e.length + off) ++ (nu ++ vals.drop (i * e.length + off + nu.length))) hv' (mbs.set i m) := by
  have hil : i * e.length + e.length ≤ vals.length := by rw [hl, ← Nat.succ_mul]; exact Nat.mul_le_mul_right _ hi
  refine ⟨by simp [h.1], fun k r' m' hk hkm => ?_⟩
  by_cases hki : k = i
  · subst hki
    rw [List.getElem?_set_self hi, Option.some.injEq] at hk
    rw [List.getElem?_set_self (by rw [h.1]; exact hi), Option.some.injEq] at hkm
    subst hk hkm
    rw [seg_same _ _ _ _ _ hoff hil]
    exact hr
  · rw [List.getElem?_set_ne (Ne.symm hki)] at hk hkm
    rw [seg_other _ _ _ _ _ _ hoff hil hki, hh k hki]
    exact CellsH.mono hs _ _ _ _ _ (h.2 k r' m' hk hkm) (hm k hki m' hkm)

end

end Go.Proofs.YthpmalpdnnbkgaaGreat.Vm

/- The value machine: operations at rows whose slices are rows of the call's own. Conditions: as each lemma says. -/
set_option linter.unusedVariables false
set_option linter.unusedSimpArgs false
namespace Go.Proofs.YthpmalpdnnbkgaaGreat.Vm

def Env.setNb (β : Env) (id : Nat) (l : List Nat) : Env := ⟨β.blk, β.val, β.bar, upd β.nb id l⟩
def Env.setD (β : Env) (id : Nat) (v : Value) (l : List Nat) : Env := ⟨β.blk, upd β.val id v, β.bar, upd β.nb id l⟩

section
variable {P : Program} {Γ : Ctx} {w0 : World} {S : Own} {st : St} {o : Oper} {e : Eff} {a : Act} {w w' : World}
variable {f : Nat → SV} {h : Nat → Option VObj} {β : Env} {φ : Nat → List Nat} {tm : Array Value}

/-- An object takes over the blocks of others. -/
theorem Core.regroup (hc : Core w0 S f h β φ tm w) {id : Nat} {ob : VObj} {t : TypeId} {ct : List CT} {ts : List TypeId} {rows : List (List DC)} {hl : Option (Nat × Nat)} {nb' : List Nat} {G : Nat → Prop} {h' : Nat → Option VObj}
    (hid : h id = some ob) (hG : ∀ k, G k → k ≠ id) (hh : h' id = some (.deep t ct ts rows hl)) (hh2 : ∀ j, j ≠ id → ∀ x, h' j = some x → h j = some x ∧ ¬ G j)
    (hs : w.heap.size ≤ w'.heap.size) (hw : ∀ b, b < w.heap.size → b ∉ (β.val id).ownBlock.toList → w'.heap[b]? = w.heap[b]?)
    (hown : ∀ b ∈ (β.val id).ownBlock.toList, b ∈ tops β id ob)
    (hnb : ∀ b ∈ nb', b ∈ tops β id ob ∨ ∃ k x, G k ∧ h k = some x ∧ b ∈ tops β k x)
    (hobj : ObjR w' (Av h' (β.setNb id nb')) (β.setNb id nb') id (.deep t ct ts rows hl) ((β.val id).ownBlock.toList ++ nb')) (hnd : ((β.val id).ownBlock.toList ++ nb').Nodup) :
    Core w0 S f h' (β.setNb id nb') (upd φ id ((β.val id).ownBlock.toList ++ nb')) tm w' := by
  have htop : ∀ j oj, j ≠ id → tops (β.setNb id nb') j oj = tops β j oj := by
    intro j oj hj
    cases oj <;> simp [tops, Env.setNb, upd, hj]
  have hkind : ∀ b ∈ (β.val id).ownBlock.toList ++ nb', b ∈ tops β id ob ∨ ∃ k x, G k ∧ h k = some x ∧ b ∈ tops β k x := by
    intro b hb
    rcases List.mem_append.1 hb with hb | hb
    · exact .inl (hown b hb)
    · exact hnb b hb
  have hnew : ∀ b ∈ (β.val id).ownBlock.toList ++ nb', ((w0.heap.size ≤ b ∨ S b) ∧ b < w.heap.size) ∧ Av h β b ∧ ∀ j oj, j ≠ id → h j = some oj → ¬ G j → b ∉ φ j := by
    intro b hb
    rcases hkind b hb with h1 | ⟨k, x, hk, hx, h1⟩
    · have h2 := tops_sub (hc.objs id ob hid) b h1
      exact ⟨(hc.fresh id ob hid).2 b h2, .inl ⟨id, ob, hid, h1⟩, fun j oj hj hjo _ => hc.sep id j ob oj (Ne.symm hj) hid hjo b h2⟩
    · have h2 := tops_sub (hc.objs k x hx) b h1
      exact ⟨(hc.fresh k x hx).2 b h2, .inl ⟨k, x, hx, h1⟩, fun j oj hj hjo hg => hc.sep k j x oj (fun e => hg (e ▸ hk)) hx hjo b h2⟩
  refine hc.step' (fun _ => False) hs (fun b hb hn => hw b hb (fun hx => hn (.inl ⟨id, ob, hid, hown b hx⟩))) ?_ (fun _ _ _ h => h) (fun _ _ => ⟨rfl, rfl⟩) ?_ ?_
  · rintro b (⟨j, oj, hj, hbj⟩ | hb)
    case inr => exact .inl (.inr hb)
    by_cases hjj : j = id
    · subst hjj
      rw [hh, Option.some.injEq] at hj
      subst hj
      refine .inl (hnew b ?_).2.1
      simpa [tops, Env.setNb, upd] using hbj
    · rw [htop j oj hjj] at hbj
      exact .inl (.inl ⟨j, oj, (hh2 j hjj oj hj).1, hbj⟩)
  · intro j oj hj
    by_cases hjj : j = id
    · subst hjj
      rw [hh, Option.some.injEq] at hj
      subst hj
      refine .inr ⟨by simpa [upd] using hobj, by simpa [upd] using hnd, fun b hb => ?_⟩
      have := (hnew b (by simpa [upd] using hb)).1
      exact ⟨this.1, by omega⟩
    · have h1 := (hh2 j hjj oj hj).1
      refine .inl ⟨fun h => h, h1, by simp [Env.setNb, upd, hjj], by simp [upd, hjj], fun _ _ h => h, fun b hb => ?_⟩
      have hbφ := tops_sub (hc.objs j oj h1) b hb
      exact hw b ((hc.fresh j oj h1).2 b hbφ).2 (fun hx => hc.sep id j ob oj (Ne.symm hjj) hid h1 b (tops_sub (hc.objs id ob hid) b (hown b hx)) hbφ)
  · intro i j oi oj hne hi hj b hb
    by_cases hii : i = id
    · subst hii
      have hji : j ≠ i := Ne.symm hne
      simp only [upd, if_true] at hb
      simp only [upd, hji, if_false]
      obtain ⟨h1, h2⟩ := hh2 j hji oj hj
      exact (hnew b hb).2.2 j oj hji h1 h2
    · simp only [upd, hii, if_false] at hb
      obtain ⟨h1, h2⟩ := hh2 i hii oi hi
      by_cases hjj : j = id
      · subst hjj
        simp only [upd, if_true]
        exact fun hb' => (hnew b hb').2.2 i oi hii h1 h2 hb
      · simp only [upd, hjj, if_false]
        exact hc.sep i j oi oj hne h1 (hh2 j hjj oj hj).1 b hb

/-! ### Reading -/

theorem sound_lenX (hR : Rel w0 S st a w) (hd : ∀ d, o.dst = some d → DstOk st.n d) {c : Call} {x : Operand} {t : TypeId} (ho : o.op = .call c) (hb : c.callee = .builtin .len)
    (hx : c.args = #[x]) (ht : c.argTypes = #[t]) {sx : SV} (h1 : (evM x).val st.get st.obj = some sx) (he : (lenX P t sx).val st.get st.obj = some e) : Good P w0 S st o e a w := by
  unfold lenX at he
  split at he
  · rename_i id
    simp only [M.val_obj, Option.bind_eq_some_iff] at he
    obtain ⟨ob, hob, he⟩ := he
    split at he
    · rename_i t' ct ts r hl
      split at he
      · rename_i et hu
        simp only [M.val_pure, Option.some.injEq] at he
        subst he
        refine good_pure hR hd rfl rfl fun β φ hc => ?_
        have hv := hc.ev h1
        simp only [SVR] at hv
        obtain ⟨vals, mbs, hown, _⟩ := hc.objs id _ hob
        have key : ∃ q cap, β.val id = .slice q r.length cap ∧ r.length ≤ maxLen := by
          rcases hown.2 with ⟨hv', h0, _⟩ | ⟨g, cap, cur, hv', _, hcc, hm, _⟩
          · exact ⟨none, 0, by rw [hv', h0], by omega⟩
          · exact ⟨_, cap, hv', by omega⟩
        obtain ⟨q, cap, hq, hm⟩ := key
        refine ⟨.int .i64 r.length, ?_, by unfold SVR; exact ⟨rfl, inR_len hm⟩⟩
        simp [execOp, ho, resolve, hb, hx, ht, invoke, builtin, hv.1, hq, Builtin.len_, run_underlying hu, goInt]
      · simp at he
    · refine sound_len hR hd ho hb hx ht h1 ?_
      exact he
  · exact sound_len hR hd ho hb hx ht h1 he

theorem sound_indexAddrX (hR : Rel w0 S st a w) (hd : ∀ d, o.dst = some d → DstOk st.n d) {t : TypeId} {x i : Operand} (ho : o.op = .indexAddr t x i) {sx si : SV}
    (h1 : (evM x).val st.get st.obj = some sx) (h2 : (evM i).val st.get st.obj = some si) (he : (indexAddrX P t sx si).val st.get st.obj = some e) (hok : e.ok = true) : Good P w0 S st o e a w := by
  unfold indexAddrX at he
  split at he
  · rename_i id
    simp only [M.val_obj, Option.bind_eq_some_iff] at he
    obtain ⟨ob, hob, he⟩ := he
    split at he
    · rename_i t' ct ts r hl
      split at he
      · rename_i et k n hu
        cases hz : sizeB P et ct.length
        · simp [hz] at he
        simp only [hz, cond_true, M.val_pure, Option.some.injEq] at he
        subst he
        simp only [Bool.and_eq_true, decide_eq_true_eq] at hok
        obtain ⟨i', hi, hsz⟩ := sizeB_size hz
        refine good_pure hR hd rfl rfl fun β φ hc => ?_
        have hv := hc.ev h1
        have hi2 := hc.ev h2
        simp only [SVR] at hv hi2
        obtain ⟨vals, mbs, hown, _⟩ := hc.objs id _ hob
        rcases hown.2 with ⟨_, h0, _⟩ | ⟨g, cap, cur, hv', _⟩
        · omega
        · refine ⟨.pointer (some ⟨g, 0 + n.toNat * i'.size, none⟩), ?_, ?_⟩
          · simp [execOp, ho, hv.1, hv', hi2.1, Instr.indexAt, asIntOf, run_underlying hu, hok.1, hok.2, sizeOf, typeInfo, hi, addr_add]
          · simp only [SVR]
            exact ⟨g, by rw [hv']; rfl, by rw [hsz]; simp⟩
      · simp at he
    · exact sound_indexAddr hR hd ho h1 h2 he hok
  · exact sound_indexAddr hR hd ho h1 h2 he hok

/-- The element of a row whose slices are rows of the call's own, as it lies in memory. -/
theorem deep_row (hc : Core w0 S f h β φ tm w) {id : Nat} {t : TypeId} {ct : List CT} {ts : List TypeId} {rows : List (List DC)} {hl : Option (Nat × Nat)} (hob : h id = some (.deep t ct ts rows hl)) {i : Nat} (hi : i < rows.length) {g : Nat} (hg : (β.val id).ownBlock = some g) :
    ∃ (us : List Value) (m : List Nat), CellsH w (holeV β hl i) ct ts (rows.getD i []) us m ∧ us.length = ct.length ∧ ∀ j u, us[j]? = some u → w.cell? ⟨g, i * ct.length + j, none⟩ = some u := by
  obtain ⟨vals, mbs, hown, hin, _, _⟩ := hc.objs id _ hob
  have hf : i < mbs.length := by rw [hin.1]; exact hi
  have hrow := hin.2 i (rows.getD i []) mbs[i] (getD_of_lt hi) (by simp)
  exact ⟨_, _, hrow, (CellsH.length _ _ _ _ _ hrow).1, fun j u hj => hown.cell hg (take_drop_get hj)⟩

theorem CellsH.get {hv : Option Value} : ∀ (cs : List CT) (ts : List TypeId) (r : List DC) (us : List Value) (m : List Nat) (k : Nat) (c : CT), CellsH w hv cs ts r us m → cs[k]? = some c → flatB [c] = true →
    ∃ v, us[k]? = some v ∧ RdC w c (r.getD k default) v []
  | [], _, _, _, _, _, _, _, hk, _ => by simp at hk
  | c0 :: cs, _, _, _, _, k, c, h, hk, hf => by
    rcases ct_cases c0 with ⟨e, rfl⟩ | hc
    · simp only [CellsH] at h
      obtain ⟨t, ts', rows, ds', v, us', m1, mb', rfl, rfl, rfl, _, _, h6, rfl⟩ := h
      cases k with
      | zero =>
        simp only [List.getElem?_cons_zero, Option.some.injEq] at hk
        subst hk
        simp [flatB] at hf
      | succ k =>
        obtain ⟨v', h1, h2⟩ := CellsH.get cs _ _ _ _ k c h6 (by simpa using hk) hf
        exact ⟨v', by simpa using h1, by simpa using h2⟩
    · rw [CellsH.flat hc] at h
      obtain ⟨d, ds', v, us', rfl, rfl, h3, h4⟩ := h
      cases k with
      | zero =>
        simp only [List.getElem?_cons_zero, Option.some.injEq] at hk
        subst hk
        exact ⟨v, by simp, by simpa using h3⟩
      | succ k =>
        obtain ⟨v', h1, h2⟩ := CellsH.get cs _ _ _ _ k c h4 (by simpa using hk) hf
        exact ⟨v', by simpa using h1, by simpa using h2⟩

theorem CellsH.svs {hv : Option Value} {av : Nat → Prop} {cs : List CT} {ts : List TypeId} {r : List DC} {us : List Value} {m : List Nat} (h : CellsH w hv cs ts r us m) :
    ∀ (n k : Nat), k + n ≤ cs.length → flatB ((cs.drop k).take n) = true → ∃ vs : List Value, vs.length = n ∧ (∀ j v, vs[j]? = some v → us[k + j]? = some v) ∧ SVRL w av β (ofDCs ((cs.drop k).take n) r k) vs ∧ ∀ x ∈ vs, x.oneCell' = true
  | 0, k, _, _ => ⟨[], rfl, by simp, by simp [ofDCs, SVRL], by simp⟩
  | n + 1, k, hk, hf => by
    have hlt : k < cs.length := by omega
    have hcut : (cs.drop k).take (n + 1) = cs[k] :: (cs.drop (k + 1)).take n := by
      rw [List.drop_eq_getElem_cons hlt, List.take_succ_cons]
    rw [hcut, flatB_cons, Bool.and_eq_true] at hf
    obtain ⟨v, e1, e2⟩ := CellsH.get cs ts r us m k cs[k] h (by simp) hf.1
    obtain ⟨vs, l1, l2, l3, l4⟩ := CellsH.svs h n (k + 1) (by omega) hf.2
    refine ⟨v :: vs, by simp [l1], ?_, ?_, ?_⟩
    · intro j u hj
      cases j with
      | zero => simp at hj; subst hj; simpa using e1
      | succ j => have := l2 j u (by simpa using hj); rw [← this]; congr 1; omega
    · rw [hcut]
      simp only [ofDCs, SVRL]
      exact ⟨v, vs, rfl, ofDC_ok e2 (by simp), l3⟩
    · intro x hx
      rcases List.mem_cons.1 hx with rfl | hx
      · exact e2.one
      · exact l4 x hx

theorem sound_loadD (hR : Rel w0 S st a w) (hd : ∀ d, o.dst = some d → DstOk st.n d) {t : TypeId} {x : Operand} (ho : o.op = .load t x) {id i z off : Nat} {t' : TypeId} {ct : List CT} {ts : List TypeId} {rows : List (List DC)} {hl : Option (Nat × Nat)}
    (h1 : (evM x).val st.get st.obj = some (.eown id i z off)) (hob : st.obj id = some (.deep t' ct ts rows hl)) (he : (loadD P t i z off ct rows).val st.get st.obj = some e) (hok : e.ok = true) : Good P w0 S st o e a w := by
  unfold loadD at he
  cases hz : Nat.beq z ct.length
  · simp [hz] at he
  have hz' := Nat.eq_of_beq_eq_true hz
  simp only [hz, Bool.not_true, cond_false] at he
  split at he
  · simp at he
  rename_i td hu
  have reads : ∀ β φ, Core w0 S st.get st.obj β φ a.tmps w → i < rows.length → ∃ g us m, a.eval x = .pointer (some ⟨g, i * ct.length + off, none⟩) ∧ CellsH w (holeV β hl i) ct ts (rows.getD i []) us m ∧
      ∀ j u, us[j]? = some u → w.cell? ⟨g, i * ct.length + j, none⟩ = some u := by
    intro β φ hc hi
    have hx := hc.ev h1
    simp only [SVR] at hx
    obtain ⟨g, hg, hv⟩ := hx
    obtain ⟨us, m, k1, _, k3⟩ := deep_row hc hob hi hg
    exact ⟨g, us, m, by rw [hv, hz'], k1, k3⟩
  cases ha : isAggB P t
  · simp only [ha, cond_false] at he
    split at he
    · rename_i c hcc
      cases hf : flatB [c]
      · simp [hf] at he
      simp only [hf, cond_true, M.val_pure, Option.some.injEq] at he
      subst he
      have hi : i < rows.length := by simpa using hok
      refine good_pure hR hd rfl rfl fun β φ hc => ?_
      obtain ⟨g, us, m, hv, hr, hcell⟩ := reads β φ hc hi
      obtain ⟨v, e1, e2⟩ := CellsH.get _ _ _ _ _ _ _ hr hcc hf
      refine ⟨v, ?_, ofDC_ok e2 (by simp)⟩
      simp [execOp, ho, hv, run_loadAt_one ha hu (hcell _ _ e1)]
    · simp at he
  · simp only [ha, cond_true] at he
    split at he
    · rename_i j hj
      cases hz2 : Nat.ble (off + j.size) ct.length && flatB ((ct.drop off).take j.size)
      · simp [hz2] at he
      simp only [hz2, cond_true, M.val_pure, Option.some.injEq] at he
      subst he
      simp only [Bool.and_eq_true] at hz2
      have hi : i < rows.length := by simpa using hok
      have hle := Nat.le_of_ble_eq_true hz2.1
      refine good_pure hR hd rfl rfl fun β φ hc => ?_
      obtain ⟨g, us, m, hv, hr, hcell⟩ := reads β φ hc hi
      obtain ⟨vs, l1, l2, l3, l4⟩ := CellsH.svs (β := β) (av := Av st.obj β) hr j.size off hle hz2.2
      refine ⟨.agg vs.toArray, ?_, ?_⟩
      · have : ∀ k v, vs[k]? = some v → w.cell? ⟨g, (i * ct.length + off) + k, none⟩ = some v := fun k v hk => by
          rw [Nat.add_assoc]
          exact hcell _ _ (l2 k v hk)
        simp [execOp, ho, hv, run_loadAt_agg ha hj l1 this]
      · simp only [SVR]
        exact ⟨vs, rfl, l3, l4⟩
    · simp at he

theorem flatten_less {mbs : List (List Nat)} {i : Nat} (hi : i < mbs.length) : ∀ b ∈ (mbs.set i []).flatten, b ∈ mbs.flatten := by
  intro b hb
  rw [flatten_set hi] at hb
  rw [flatten_at hi]
  simp only [List.nil_append, List.mem_append] at hb ⊢
  rcases hb with hb | hb <;> simp [hb]

theorem sound_take (hR : Rel w0 S st a w) {d : Nat} (hdst : o.dst = some d) (hd : DstOk st.n d) (hfr : FreshAt st d) {t : TypeId} {x : Operand} (ho : o.op = .load t x) {id i off : Nat} {t' t1 : TypeId} {ct e' : List CT} {rows : List (List DC)} {td : TypeDesc}
    (h1 : (evM x).val st.get st.obj = some (.eown id i ct.length off)) (hob : st.obj id = some (.deep t' ct [t1] rows none)) (hoff : ct[off]? = some (.sl e')) (hcnt : slCount ct = 1) (ha : isAggB P t = false) (hu : P.underlying t = some td) (hi : i < rows.length)
    (hsv : e.sv = .own (newId d 0)) (hcw : e.cw = none) (how : e.ow = [(newId d 0, some (.row t1 e' ((rows.getD i []).getD off default).asRows false true)), (id, some (.deep t' ct [t1] rows (some (i, newId d 0))))]) : Good P w0 S st o e a w := by
  obtain ⟨β, φ, hc⟩ := hR.core
  have hnew : newId d 0 / 64 = d := newId_div d 0 (by omega)
  generalize hnid : newId d 0 = nid at *
  have hne : id ≠ nid := fun e => (hfr.obj id _ hob).1 (e ▸ hnew)
  have hx := hc.ev h1
  simp only [SVR] at hx
  obtain ⟨g, hg, hx⟩ := hx
  obtain ⟨vals, mbs, hown, hin, hnb, hφ⟩ := hc.objs id _ hob
  have him : i < mbs.length := by rw [hin.1]; exact hi
  have hrow := hin.2 i (rows.getD i []) mbs[i] (getD_of_lt hi) (by simp)
  obtain ⟨t1', v, rws, ht1, hv, hrv, hfl, hsl, hout⟩ := CellsH.out ct off e' _ _ _ _ hoff hcnt hrow
  simp only [List.cons.injEq, and_true] at ht1
  subst ht1
  obtain ⟨vals', fps', ho1, ho2, hmb⟩ := hsl
  have hrws : ((rows.getD i []).getD off default).asRows = rws := by
    rw [List.getD_eq_getElem?_getD, hrv]
    rfl
  rw [hrws] at how
  have hcell : w.cell? ⟨g, i * ct.length + off, none⟩ = some v := hown.cell hg (take_drop_get hv)
  have hφn := (hc.fresh id _ hob).1
  rw [hφ] at hφn
  have hsub1 : ∀ b ∈ v.ownBlock.toList, b ∈ mbs.flatten := by
    intro b hb
    rw [flatten_at him, hmb]
    simp [hb]
  have hav0 : ∀ b ∈ (β.val id).ownBlock.toList ++ mbs.flatten, Av st.obj β b := fun b hb => .inl ⟨id, _, hob, by simpa [tops, hnb] using hb⟩
  have hφid : ∀ b ∈ (β.val id).ownBlock.toList ++ mbs.flatten, b ∈ φ id := fun b hb => by rw [hφ]; exact hb
  have hsub2 : ∀ b ∈ (β.val id).ownBlock.toList ++ (mbs.set i []).flatten, b ∈ (β.val id).ownBlock.toList ++ mbs.flatten := by
    intro b hb
    rcases List.mem_append.1 hb with hb | hb
    · exact List.mem_append_left _ hb
    · exact List.mem_append_right _ (flatten_less him b hb)
  have happart : ∀ b ∈ v.ownBlock.toList, b ∉ (β.val id).ownBlock.toList ++ (mbs.set i []).flatten := by
    intro b hb hb2
    rw [flatten_at him, List.nodup_append] at hφn
    obtain ⟨_, n2, n3⟩ := hφn
    rw [List.nodup_append] at n2
    obtain ⟨_, n4, n5⟩ := n2
    rw [List.nodup_append] at n4
    obtain ⟨_, _, n6⟩ := n4
    rw [← hmb] at hb
    rcases List.mem_append.1 hb2 with hb2 | hb2
    · exact n3 b hb2 b (by simp [hb]) rfl
    · rw [flatten_set him] at hb2
      simp only [List.nil_append, List.mem_append] at hb2
      rcases hb2 with hb2 | hb2
      · exact n5 b hb2 b (by simp [hb]) rfl
      · exact n6 b hb b hb2 rfl
  have hnd2 : ((β.val id).ownBlock.toList ++ (mbs.set i []).flatten).Nodup := by
    refine List.Sublist.nodup ?_ hφn
    refine (List.Sublist.refl _).append ?_
    rw [flatten_set him, flatten_at him]
    exact (List.Sublist.refl _).append ((List.nil_sublist _).append (List.Sublist.refl _))
  have hvn : v.ownBlock.toList.Nodup := by cases v.ownBlock <;> simp
  let β' : Env := ⟨β.blk, upd β.val nid v, β.bar, upd β.nb id (mbs.set i []).flatten⟩
  have hval' : β'.val id = β.val id := by simp [β', upd, hne]
  have hvaln : β'.val nid = v := by simp [β', upd]
  have hnb' : β'.nb id = (mbs.set i []).flatten := by simp [β', upd]
  let h' : Nat → Option VObj := upd (upd st.obj id (some (.deep t' ct [t1] rows (some (i, nid))))) nid (some (.row t1 e' rws false true))
  let φ' : Nat → List Nat := upd (upd φ id ((β.val id).ownBlock.toList ++ (mbs.set i []).flatten)) nid v.ownBlock.toList
  have hcore : Core w0 S st.get h' β' φ' a.tmps w := by
    have e1 : h' nid = some (.row t1 e' rws false true) := by simp [h', upd]
    have e2 : h' id = some (.deep t' ct [t1] rows (some (i, nid))) := by simp [h', upd, hne]
    have e3 : ∀ j, j ≠ nid → j ≠ id → h' j = st.obj j := fun j h1 h2 => by simp [h', upd, h1, h2]
    have p1 : φ' nid = v.ownBlock.toList := by simp [φ', upd]
    have p2 : φ' id = (β.val id).ownBlock.toList ++ (mbs.set i []).flatten := by simp [φ', upd, hne]
    have p3 : ∀ j, j ≠ nid → j ≠ id → φ' j = φ j := fun j h1 h2 => by simp [φ', upd, h1, h2]
    have htop : ∀ j oj, j ≠ nid → j ≠ id → tops β' j oj = tops β j oj := by
      intro j oj h1 h2
      cases oj <;> simp [tops, β', upd, h1, h2]
    have havs : ∀ b, Av h' β' b → Av st.obj β b := by
      rintro b (⟨j, oj, hj, hbj⟩ | hb)
      case inr => exact .inr hb
      by_cases hjn : j = nid
      · subst hjn
        rw [e1, Option.some.injEq] at hj
        subst hj
        exact hav0 b (List.mem_append_right _ (hsub1 b (by simpa [tops, hvaln] using hbj)))
      · by_cases hji : j = id
        · subst hji
          rw [e2, Option.some.injEq] at hj
          subst hj
          exact hav0 b (hsub2 b (by simpa only [tops, hval', hnb'] using hbj))
        · rw [e3 j hjn hji] at hj
          rw [htop j oj hjn hji] at hbj
          exact .inl ⟨j, oj, hj, hbj⟩
    have hfresh := (hc.fresh id _ hob).2
    refine hc.step' (fun j => j = nid) (Nat.le_refl _) (fun _ _ _ => rfl) (fun b hb => .inl (havs b hb)) (fun k j hj e => hfr.slot k j hj (e ▸ hnew)) (fun j hj => ⟨by simp [β', upd, hj], rfl⟩) ?_ ?_
    · intro j oj hj
      by_cases hjn : j = nid
      · subst hjn
        rw [e1, Option.some.injEq] at hj
        subst hj
        refine .inr ⟨?_, by rw [p1]; exact hvn, fun b hb => ?_⟩
        · refine ⟨vals', fps', by rw [hvaln]; exact ho1, ho2, ?_, ?_⟩
          · rw [ho2.noblk hfl]
            simp
          · rw [p1, hvaln, ho2.noblk hfl]
            simp
        · rw [p1] at hb
          exact hfresh b (hφid b (List.mem_append_right _ (hsub1 b hb)))
      · by_cases hji : j = id
        · subst hji
          rw [e2, Option.some.injEq] at hj
          subst hj
          refine .inr ⟨?_, by rw [p2]; exact hnd2, fun b hb => ?_⟩
          · refine ⟨vals, mbs.set i [], by rw [hval']; exact hown, ⟨by simp [hin.1], fun k r m hk hm => ?_⟩, hnb', by rw [p2, hval']⟩
            by_cases hki : k = i
            · subst hki
              rw [List.getElem?_set_self him, Option.some.injEq] at hm
              subst hm
              have hr' : r = rows.getD k [] := by
                rw [getD_of_lt (d := []) hi, Option.some.injEq] at hk
                exact hk.symm
              subst hr'
              simp only [holeV, if_true]
              rw [hvaln]
              exact hout
            · rw [List.getElem?_set_ne (Ne.symm hki)] at hm
              simp only [holeV, hki, if_false]
              exact hin.2 k r m hk hm
          · rw [p2] at hb
            exact hfresh b (hφid b (hsub2 b hb))
        · rw [e3 j hjn hji] at hj
          refine .inl ⟨hjn, hj, by simp [β', upd, hji], p3 j hjn hji, fun k hk e => (hfr.obj j oj hj).2 k hk (e ▸ hnew), fun _ _ => rfl⟩
    · have kinds : ∀ j oj, h' j = some oj → ∀ b ∈ φ' j, (j = nid ∧ b ∈ v.ownBlock.toList) ∨ (j = id ∧ b ∈ (β.val id).ownBlock.toList ++ (mbs.set i []).flatten) ∨ (j ≠ nid ∧ j ≠ id ∧ st.obj j = some oj ∧ b ∈ φ j) := by
        intro j oj hj b hb
        by_cases hjn : j = nid
        · subst hjn
          rw [p1] at hb
          exact .inl ⟨rfl, hb⟩
        · by_cases hji : j = id
          · subst hji
            rw [p2] at hb
            exact .inr (.inl ⟨rfl, hb⟩)
          · rw [p3 j hjn hji] at hb
            rw [e3 j hjn hji] at hj
            exact .inr (.inr ⟨hjn, hji, hj, hb⟩)
      intro j k oj ok hjk hj hk b hb hb'
      rcases kinds j oj hj b hb with ⟨rfl, x1⟩ | ⟨rfl, x1⟩ | ⟨x0, x00, x1, x2⟩ <;> rcases kinds k ok hk b hb' with ⟨rfl, y1⟩ | ⟨rfl, y1⟩ | ⟨y0, y00, y1, y2⟩
      · exact hjk rfl
      · exact happart b x1 y1
      · exact hc.sep id k _ ok (Ne.symm y00) hob y1 b (hφid b (List.mem_append_right _ (hsub1 b x1))) y2
      · exact happart b y1 x1
      · exact hjk rfl
      · exact hc.sep _ k _ ok (Ne.symm y00) hob y1 b (hφid b (hsub2 b x1)) y2
      · exact hc.sep id j _ oj (Ne.symm x00) hob x1 b (hφid b (List.mem_append_right _ (hsub1 b y1))) x2
      · exact hc.sep _ j _ oj (Ne.symm x00) hob x1 b (hφid b (hsub2 b y1)) x2
      · exact hc.sep j k oj ok hjk x1 y1 b x2 y2
  refine good_value hR (fun d' h' => by rw [hdst] at h'; injection h' with h'; exact h' ▸ hd) (v := v) (w' := w) ?_ hR.kept ⟨β', φ', ?_, ?_⟩
  · simp [execOp, ho, hx, run_loadAt_one ha hu hcell]
  · rw [how, hcw]
    exact hcore
  · rw [hsv]
    unfold SVR
    exact ⟨hvaln.symm, ho1.one⟩

end

end Go.Proofs.YthpmalpdnnbkgaaGreat.Vm

/- The value machine: writes into rows whose slices are rows of the call's own; such rows made anew; a slice put back. Conditions: as each lemma says. -/
set_option linter.unusedVariables false
set_option linter.unusedSimpArgs false
namespace Go.Proofs.YthpmalpdnnbkgaaGreat.Vm

section
variable {P : Program} {Γ : Ctx} {w0 : World} {S : Own} {st : St} {o : Oper} {e : Eff} {a : Act} {w w' : World}
variable {f : Nat → SV} {h : Nat → Option VObj} {β : Env} {φ : Nat → List Nat} {tm : Array Value}

/-- Cells without slices are written. -/
theorem CellsH.spliceF {hv : Option Value} {pre part suf : List CT} {ts : List TypeId} {r ds : List DC} {us nu : List Value} {m : List Nat} (h : CellsH w hv (pre ++ (part ++ suf)) ts r us m) (hf : flatB part = true) (hn : CellsH w hv part [] ds nu []) :
    CellsH w hv (pre ++ (part ++ suf)) ts (splice r pre.length ds) (us.take pre.length ++ (nu ++ us.drop (pre.length + nu.length))) m := by
  obtain ⟨ts1, ts2, m1, m2, rfl, rfl, k1, k2⟩ := CellsH.split _ _ _ _ _ _ h
  obtain ⟨ts3, ts4, m3, m4, rfl, rfl, k3, k4⟩ := CellsH.split _ _ _ _ _ _ k2
  obtain ⟨rfl, rfl, _⟩ := CellsH.toFlat _ _ _ _ _ hf k3
  obtain ⟨l1, l2⟩ := CellsH.length _ _ _ _ _ hn
  rw [List.drop_drop, List.drop_drop] at k4
  have := CellsH.join _ _ _ _ _ _ _ _ _ _ k1 (CellsH.join _ _ _ _ _ _ _ _ _ _ hn k4)
  simpa only [splice, l1, l2] using this

/-- All slices of an element are written anew. -/
theorem CellsH.spliceA {hv : Option Value} {pre part suf : List CT} {ts ts' : List TypeId} {r ds : List DC} {us nu : List Value} {m m' : List Nat} (h : CellsH w hv (pre ++ (part ++ suf)) ts r us m) (hf : slCount part = slCount (pre ++ (part ++ suf))) (hn : CellsH w none part ts' ds nu m') :
    CellsH w none (pre ++ (part ++ suf)) ts' (splice r pre.length ds) (us.take pre.length ++ (nu ++ us.drop (pre.length + nu.length))) m' := by
  rw [slCount_append, slCount_append] at hf
  have f1 : flatB pre = true := slCount_zero (by omega)
  have f2 : flatB suf = true := slCount_zero (by omega)
  obtain ⟨ts1, ts2, m1, m2, rfl, rfl, k1, k2⟩ := CellsH.split _ _ _ _ _ _ h
  obtain ⟨ts3, ts4, m3, m4, rfl, rfl, k3, k4⟩ := CellsH.split _ _ _ _ _ _ k2
  obtain ⟨rfl, rfl, _⟩ := CellsH.toFlat _ _ _ _ _ f1 k1
  obtain ⟨rfl, rfl, _⟩ := CellsH.toFlat _ _ _ _ _ f2 k4
  obtain ⟨l1, l2⟩ := CellsH.length _ _ _ _ _ hn
  rw [List.drop_drop, List.drop_drop] at k4
  have := CellsH.join _ _ _ _ _ _ _ _ _ _ (CellsH.reflat (hv' := none) f1 k1) (CellsH.join _ _ _ _ _ _ _ _ _ _ hn (CellsH.reflat (hv' := none) f2 k4))
  simpa only [splice, l1, l2, List.nil_append, List.append_nil] using this

theorem RowsA.cells : ∀ (cs : List CT) (ts : List TypeId) (ds : List DC) (us : List Value) (mb : List Nat), RowsA w cs ts ds us mb → CellsH w none cs ts ds us mb
  | [], _, _, _, _, h => by simpa only [RowsA, CellsH] using h
  | .sl e :: cs, _, _, _, _, h => by
    simp only [RowsA] at h
    obtain ⟨t, ts', rows, ds', v, us', vals, fps, mb', rfl, rfl, rfl, h4, h5, h6, h7, rfl⟩ := h
    simp only [CellsH]
    exact ⟨t, ts', rows, ds', v, us', _, mb', rfl, rfl, rfl, h4, ⟨vals, fps, h5, h6, rfl⟩, RowsA.cells cs _ _ _ _ h7, rfl⟩
  | .int k :: cs, _, _, _, _, h => by
    simp only [RowsA] at h
    obtain ⟨d, ds', v, us', rfl, rfl, h3, h4⟩ := h
    simp only [CellsH]
    exact ⟨d, ds', v, us', rfl, rfl, h3, RowsA.cells cs _ _ _ _ h4⟩
  | .bool :: cs, _, _, _, _, h => by
    simp only [RowsA] at h
    obtain ⟨d, ds', v, us', rfl, rfl, h3, h4⟩ := h
    simp only [CellsH]
    exact ⟨d, ds', v, us', rfl, rfl, h3, RowsA.cells cs _ _ _ _ h4⟩
  | .str :: cs, _, _, _, _, h => by
    simp only [RowsA] at h
    obtain ⟨d, ds', v, us', rfl, rfl, h3, h4⟩ := h
    simp only [CellsH]
    exact ⟨d, ds', v, us', rfl, rfl, h3, RowsA.cells cs _ _ _ _ h4⟩

theorem three (ct : List CT) (off n : Nat) : ct.take off ++ ((ct.drop off).take n ++ ct.drop (off + n)) = ct := by
  rw [← List.drop_drop, List.take_append_drop, List.take_append_drop]

/-- What a write into an element does in memory. -/
theorem store_run {t t' : TypeId} {x y : Operand} (ho : o.op = .store t x y) {g i off : Nat} {ct : List CT} {n cap : Nat} {cur : Array Value} (hx : a.eval x = .pointer (some ⟨g, i * ct.length + off, none⟩)) {ti : TypeInfo} (hti : P.info? t = some ti) (hsize : ti.size = (a.eval y).cells.size)
    (hone : ∀ v ∈ (a.eval y).cells.toList, v.oneCell' = true) (hh : w.heap[g]? = some (.cells cur t' (0, 0))) (hi : i < n) (hnc : n ≤ cap) (hcs : cur.size = cap * ct.length) (hfit : off + (a.eval y).cells.toList.length ≤ ct.length) :
    (execOp a.eval o).run P w = .ok .skip (w.setRow g (cur.toList.take (i * ct.length + off) ++ ((a.eval y).cells.toList ++ cur.toList.drop (i * ct.length + off + (a.eval y).cells.toList.length))).toArray) := by
  have hlen : i * ct.length + ct.length ≤ n * ct.length := by rw [← Nat.succ_mul]; exact Nat.mul_le_mul_right _ hi
  have hlen2 : n * ct.length ≤ cap * ct.length := Nat.mul_le_mul_right _ hnc
  have hrun := run_storeCells_free P g (i * ct.length + off) t' (0, 0) (a.eval y).cells.toList 0 cur w hh (fun j _ h => by simp at h) (by omega) hone
  simp only [Nat.add_zero] at hrun
  have := run_storeAt (P := P) (t := t) (b := g) (off := i * ct.length + off) (x := a.eval y) hti hsize hrun
  simp [execOp, ho, hx, this]

/-- The row behind the write. -/
theorem OwnR.written {t : TypeId} {el i off n : Nat} {v : Value} {vals nu : List Value} (hown : OwnR w t el false v n vals) {g : Nat} (hg : v.ownBlock = some g) (hi : i < n) (hfit : off + nu.length ≤ el) {cap : Nat} {cur : Array Value} (hh : w.heap[g]? = some (.cells cur t (0, 0))) (hcs : cur.size = cap * el) (hnc : n ≤ cap) :
    OwnR (w.setRow g (cur.toList.take (i * el + off) ++ (nu ++ cur.toList.drop (i * el + off + nu.length))).toArray) t el false v n (vals.take (i * el + off) ++ (nu ++ vals.drop (i * el + off + nu.length))) := by
  have hlen : i * el + el ≤ n * el := by rw [← Nat.succ_mul]; exact Nat.mul_le_mul_right _ hi
  have hlen2 : n * el ≤ cap * el := Nat.mul_le_mul_right _ hnc
  have hcurl : (cur.toList.take (i * el + off) ++ (nu ++ cur.toList.drop (i * el + off + nu.length))).length = cur.size := by
    simp only [List.length_append, List.length_take, List.length_drop, Array.length_toList]
    omega
  rcases hown.2 with ⟨hv, h0, _⟩ | ⟨g', cap', cur', hv, hh', hnc', hcm, hcs', htk⟩
  · omega
  have hgg : g' = g := by simpa [hv, Value.ownBlock] using hg
  subst hgg
  rw [hh] at hh'
  simp only [cond_false, Option.some.injEq, Obj.cells.injEq] at hh'
  obtain ⟨rfl, _⟩ := hh'
  refine ⟨?_, .inr ⟨g', cap', (cur.toList.take (i * el + off) ++ (nu ++ cur.toList.drop (i * el + off + nu.length))).toArray, hv, ?_, hnc', hcm, by simpa [hcurl] using hcs', ?_⟩⟩
  · have := hown.1
    simp only [List.length_append, List.length_take, List.length_drop]
    omega
  · rw [setRow_heap w _ _ _ _ _ hh]
    simp
  · simp only
    rw [take_splice _ _ _ _ (by omega) (by simp only [Array.length_toList]; omega), htk]

theorem sound_storeF (hR : Rel w0 S st a w) (hd : ∀ d, o.dst = some d → DstOk st.n d) {t t' : TypeId} {x y : Operand} (ho : o.op = .store t x y) {id i off : Nat} {sy : SV} {svs : List SV} {ct : List CT} {ts : List TypeId} {rows : List (List DC)} {hl : Option (Nat × Nat)} {r : List DC × Met × Bool}
    (h1 : (evM x).val st.get st.obj = some (.eown id i ct.length off)) (h2 : (evM y).val st.get st.obj = some sy) (hcs : (cellsOfSV sy).val st.get st.obj = some svs) (hsz : sizeB P t svs.length = true)
    (hob : st.obj id = some (.deep t' ct ts rows hl)) (hfit : off + svs.length ≤ ct.length) (hf : flatB ((ct.drop off).take svs.length) = true) (hr : (toDCs ((ct.drop off).take svs.length) svs).val st.get st.obj = some r)
    (hi : i < rows.length) (hcw : e.cw = none) (hsv0 : e.sv = .undef) (how : e.ow = [(id, some (.deep t' ct ts (rows.set i (splice (rows.getD i []) off r.1)) hl))]) : Good P w0 S st o e a w := by
  obtain ⟨ti, hti, hsize⟩ := sizeB_size hsz
  obtain ⟨β, φ, hc⟩ := hR.core
  have hx := hc.ev h1
  simp only [SVR] at hx
  obtain ⟨g, hg, hx⟩ := hx
  obtain ⟨hsv, hone⟩ := cells_ok (hc.ev h2) hcs
  have hl2 := SVRL.length _ _ hsv
  have hcsz : (a.eval y).cells.size = svs.length := by simpa using hl2
  obtain ⟨fp, hrd, _, _, _⟩ := toDCs_ok hc _ _ _ r hsv hr
  obtain ⟨vals, mbs, hown, hin, hnb, hφ⟩ := hc.objs id _ hob
  have hgtop : g ∈ tops β id (.deep t' ct ts rows hl) := by simp [tops, hg]
  rcases hown.2 with ⟨hv, h0, _⟩ | ⟨g', cap, cur, hv, hh, hnc, hcm, hcs', htk⟩
  · omega
  have hgg : g' = g := by simpa [hv, Value.ownBlock] using hg
  subst hgg
  simp only [cond_false] at hh
  have hul : (a.eval y).cells.toList.length = svs.length := by simpa using hcsz
  have hrun := store_run (P := P) ho hx hti (hsize.trans hcsz.symm) hone hh hi hnc hcs' (by rw [hul]; exact hfit)
  have hw' := hown.written (off := off) (nu := (a.eval y).cells.toList) hg hi (by rw [hul]; exact hfit) hh hcs' hnc
  generalize (a.eval y).cells.toList = nu at *
  rw [← hul] at hfit hf hrd hr
  have him : i < mbs.length := by rw [hin.1]; exact hi
  have hrow := hin.2 i (rows.getD i []) mbs[i] (getD_of_lt hi) (by simp)
  have hl1 : (ct.take off).length = off := by simp; omega
  have hl3 : ((ct.drop off).take nu.length).length = nu.length := by simp; omega
  have hnew := CellsH.spliceF (pre := ct.take off) (part := (ct.drop off).take nu.length) (suf := ct.drop (off + nu.length)) (by rw [three]; exact hrow) hf (CellsH.ofFlat _ _ _ _ hf hrd hl3.symm)
  rw [three, hl1] at hnew
  have hfresh := hc.fresh id _ hob
  have hnd := hfresh.1
  rw [hφ] at hnd
  have hng : ∀ b ∈ mbs.flatten, b ≠ g' := by
    intro b hb e
    subst e
    rw [List.nodup_append] at hnd
    exact hnd.2.2 b (by simp [hg]) b hb rfl
  have hmem : ∀ j m', mbs[j]? = some m' → ∀ b ∈ m', b ∈ mbs.flatten := fun j m' hj b hb => List.mem_flatten.2 ⟨m', List.mem_of_getElem? hj, hb⟩
  have hmi : mbs.set i mbs[i] = mbs := List.set_getElem_self ..
  have hin' := hin.set (w' := w.setRow g' (cur.toList.take (i * ct.length + off) ++ (nu ++ cur.toList.drop (i * ct.length + off + nu.length))).toArray) (hv' := holeV β hl) (by simp) hown.1 hi hfit
    (fun j _ m' hj b hb => setRow_other w g' b _ (hng b (hmem j m' hj b hb))) (fun _ _ => rfl)
    (CellsH.mono (by simp) _ _ _ _ _ hnew (fun b hb => setRow_other w g' b _ (hng b (hmem i mbs[i] (by simp) b hb))))
  rw [hmi] at hin'
  have htops : ∀ b ∈ tops β id (.deep t' ct ts (rows.set i (splice (rows.getD i []) off r.1)) hl), b ∈ tops β id (.deep t' ct ts rows hl) := fun b hb => hb
  refine good_skip hR hd hrun (hR.kept.setRow (hfresh.2 g' (tops_sub (hc.objs id _ hob) g' hgtop)).1 _) ⟨β, upd φ id ((β.val id).ownBlock.toList ++ mbs.flatten), ?_, by rw [hsv0]; simp [SVR]⟩
  rw [how, hcw]
  show Core w0 S st.get (upd st.obj id (some (.deep t' ct ts (rows.set i (splice (rows.getD i []) off r.1)) hl))) _ _ _ _
  refine hc.rewrite hob hgtop htops ?_ hnd ?_
  · exact ⟨_, mbs, by simpa using hw', hin', hnb, rfl⟩
  · intro b hb
    have hb' : b ∈ φ id := by rw [hφ]; exact hb
    exact ⟨hfresh.2 b hb', fun j oj hj hjo => hc.sep id j _ _ (Ne.symm hj) hob hjo b hb'⟩

theorem fo_gone : ∀ (U : List MU) (h : Nat → Option VObj) (j : Nat), fo (muGone U) h j = if j ∈ muIds U then none else h j
  | [], h, j => by simp [muGone, muIds, fo]
  | x :: l, h, j => by
    have ih := fo_gone l h j
    cases x <;> simp only [muGone, muIds, fo, upd] <;> first | exact ih | (by_cases hj : j = _ <;> simp [hj, ih] <;> done) | skip
    all_goals
      simp only [List.mem_cons, ih]
      split <;> rename_i hj
      · simp [hj]
      · simp [hj]

theorem sound_storeA (hR : Rel w0 S st a w) (hd : ∀ d, o.dst = some d → DstOk st.n d) {t t' : TypeId} {x y : Operand} (ho : o.op = .store t x y) {id i off : Nat} {sy : SV} {svs : List SV} {ct : List CT} {ts : List TypeId} {rows : List (List DC)} {hl : Option (Nat × Nat)} {r : List DC × List MU}
    (h1 : (evM x).val st.get st.obj = some (.eown id i ct.length off)) (h2 : (evM y).val st.get st.obj = some sy) (hcs : (cellsOfSV sy).val st.get st.obj = some svs) (hsz : sizeB P t svs.length = true)
    (hob : st.obj id = some (.deep t' ct ts rows hl)) (hfit : off + svs.length ≤ ct.length) (hf : slCount ((ct.drop off).take svs.length) = slCount ct) (hr : (rowCellsM ((ct.drop off).take svs.length) ts svs).val st.get st.obj = some r)
    (hun : nodupB (id :: muIds r.2) = true) (hi : i < rows.length) (hhole : holeOk hl i = true) (hcw : e.cw = none) (hsv0 : e.sv = .undef) (how : e.ow = (id, some (.deep t' ct ts (rows.set i (splice (rows.getD i []) off r.1)) none)) :: muGone r.2) : Good P w0 S st o e a w := by
  obtain ⟨ti, hti, hsize⟩ := sizeB_size hsz
  obtain ⟨β, φ, hc⟩ := hR.core
  have hx := hc.ev h1
  simp only [SVR] at hx
  obtain ⟨g, hg, hx⟩ := hx
  obtain ⟨hsv, hone⟩ := cells_ok (hc.ev h2) hcs
  have hl2 := SVRL.length _ _ hsv
  have hcsz : (a.eval y).cells.size = svs.length := by simpa using hl2
  obtain ⟨hra, hmu⟩ := rowCells_ok hc _ _ _ _ r hsv hr
  have hnc0 := RowsA.cells _ _ _ _ _ hra
  obtain ⟨hidn, hun2⟩ := nodupB_cons hun
  have hmn := mu_nodup hc hmu hun2
  have hmt : ∀ b ∈ r.2.flatMap (muTops β), ∃ k ∈ muIds r.2, ∃ ob, st.obj k = some ob ∧ b ∈ tops β k ob := mu_top hmu
  obtain ⟨vals, mbs, hown, hin, hnb, hφ⟩ := hc.objs id _ hob
  have hgtop : g ∈ tops β id (.deep t' ct ts rows hl) := by simp [tops, hg]
  rcases hown.2 with ⟨hv, h0, _⟩ | ⟨g', cap, cur, hv, hh, hnc, hcm, hcs', htk⟩
  · omega
  have hgg : g' = g := by simpa [hv, Value.ownBlock] using hg
  subst hgg
  simp only [cond_false] at hh
  have hul : (a.eval y).cells.toList.length = svs.length := by simpa using hcsz
  have hrun := store_run (P := P) ho hx hti (hsize.trans hcsz.symm) hone hh hi hnc hcs' (by rw [hul]; exact hfit)
  have hw' := hown.written (off := off) (nu := (a.eval y).cells.toList) hg hi (by rw [hul]; exact hfit) hh hcs' hnc
  generalize (a.eval y).cells.toList = nu at *
  rw [← hul] at hfit hf hnc0 hr
  have him : i < mbs.length := by rw [hin.1]; exact hi
  have hrow := hin.2 i (rows.getD i []) mbs[i] (getD_of_lt hi) (by simp)
  have hl1 : (ct.take off).length = off := by simp; omega
  have hnew := CellsH.spliceA (pre := ct.take off) (part := (ct.drop off).take nu.length) (suf := ct.drop (off + nu.length)) (by rw [three]; exact hrow) (by rw [three]; exact hf) hnc0
  rw [three, hl1] at hnew
  have hfresh := hc.fresh id _ hob
  have hnd := hfresh.1
  rw [hφ] at hnd
  have hgφ : g' ∈ φ id := tops_sub (hc.objs id _ hob) g' hgtop
  have hng : ∀ b ∈ mbs.flatten, b ≠ g' := by
    intro b hb e
    subst e
    rw [List.nodup_append] at hnd
    exact hnd.2.2 b (by simp [hg]) b hb rfl
  have hmid : ∀ b ∈ r.2.flatMap (muTops β), b ∉ φ id := by
    intro b hb hb2
    obtain ⟨k, hk, ob, hkob, hbk⟩ := hmt b hb
    exact hc.sep k id ob _ (fun e => hidn (e ▸ hk)) hkob hob b (tops_sub (hc.objs k ob hkob) b hbk) hb2
  have hng2 : ∀ b ∈ r.2.flatMap (muTops β), b ≠ g' := fun b hb e => hmid b hb (e ▸ hgφ)
  have hmem : ∀ j m', mbs[j]? = some m' → ∀ b ∈ m', b ∈ mbs.flatten := fun j m' hj b hb => List.mem_flatten.2 ⟨m', List.mem_of_getElem? hj, hb⟩
  have hhol : ∀ j, j ≠ i → (none : Option Value) = holeV β hl j := by
    intro j hj
    cases hl with
    | none => rfl
    | some q =>
      obtain ⟨k, nid⟩ := q
      have := Nat.eq_of_beq_eq_true hhole
      subst this
      simp [holeV, hj]
  have hin' := hin.set (w' := w.setRow g' (cur.toList.take (i * ct.length + off) ++ (nu ++ cur.toList.drop (i * ct.length + off + nu.length))).toArray) (hv' := fun _ => none) (by simp) hown.1 hi hfit
    (fun j _ m' hj b hb => setRow_other w g' b _ (hng b (hmem j m' hj b hb))) hhol
    (CellsH.mono (by simp) _ _ _ _ _ hnew (fun b hb => setRow_other w g' b _ (hng2 b hb)))
  have hnd2 : ((β.val id).ownBlock.toList ++ (mbs.set i (r.2.flatMap (muTops β))).flatten).Nodup := by
    rw [flatten_set him]
    have h3 := hnd
    rw [flatten_at him] at h3
    have h4 := nodup_insert (A := (β.val id).ownBlock.toList ++ (mbs.take i).flatten) (p1 := []) (p2 := mbs[i]) (p3 := []) (B := (mbs.drop (i + 1)).flatten) (n := r.2.flatMap (muTops β)) (by simpa using h3) hmn
      (fun b hb hb2 => hmid b hb (by rw [hφ, flatten_at him]; simpa using hb2))
    simpa using h4
  refine good_skip hR hd hrun (hR.kept.setRow (hfresh.2 g' hgφ).1 _) ⟨β.setNb id (mbs.set i (r.2.flatMap (muTops β))).flatten, upd φ id ((β.val id).ownBlock.toList ++ (mbs.set i (r.2.flatMap (muTops β))).flatten), ?_, by rw [hsv0]; simp [SVR]⟩
  rw [how, hcw]
  refine hc.regroup (t := t') (ct := ct) (ts := ts) (rows := rows.set i (splice (rows.getD i []) off r.1)) (hl := none) (G := fun k => k ∈ muIds r.2) hob (fun k hk e => hidn (e ▸ hk)) (by simp [fo, upd, fc]) (fun j hj x hx => ?_) (by simp) (fun b hb hb2 => setRow_other w g' b _ (fun e => hb2 (by rw [e, hg]; simp))) (fun b hb => by simp only [tops]; exact List.mem_append_left _ hb) (fun b hb => ?_) ?_ hnd2
  · simp only [fo, upd, hj, if_false, fc] at hx
    rw [fo_gone] at hx
    split at hx
    · cases hx
    · rename_i hk
      exact ⟨hx, hk⟩
  · rw [flatten_set him] at hb
    simp only [List.mem_append] at hb
    rcases hb with hb | hb | hb
    · left
      simp only [tops, hnb]
      rw [flatten_at him]
      simp [hb]
    · right
      obtain ⟨k, hk, ob, h3, h4⟩ := hmt b hb
      exact ⟨k, ob, hk, h3, h4⟩
    · left
      simp only [tops, hnb]
      rw [flatten_at him]
      simp [hb]
  · exact ⟨_, _, by simpa [Env.setNb] using hw', hin', by simp [Env.setNb, upd], by simp [Env.setNb]⟩

/-! ### New rows -/

theorem sound_newdeep (hR : Rel w0 S st a w) {d : Nat} (hdst : o.dst = some d) (hd : DstOk st.n d) (hfr : FreshAt st d) {t : TypeId} {ct : List CT} {ts : List TypeId} {rows : List (List DC)} {w' : World} {v : Value}
    (hrun : (execOp a.eval o).run P w = .ok (.value v) w') (hk : Kept S w0 w') (hs : w.heap.size ≤ w'.heap.size) (hw : ∀ b, b < w.heap.size → w'.heap[b]? = w.heap[b]?)
    (hB : ∀ b ∈ v.ownBlock.toList, b = w.heap.size) {vals : List Value} (hown : OwnR w' t ct.length false v rows.length vals)
    (hin : DeepR w' ct ts rows vals (fun _ => none) (List.replicate rows.length []))
    (hsv : e.sv = .own (newId d 0)) (hcw : e.cw = none) (how : e.ow = [(newId d 0, some (.deep t ct ts rows none))]) : Good P w0 S st o e a w := by
  obtain ⟨β, φ, hc⟩ := hR.core
  have hnew : newId d 0 / 64 = d := newId_div d 0 (by omega)
  have hle := hR.kept.size
  have hflat : (List.replicate rows.length ([] : List Nat)).flatten = [] := by simp
  have hval : (β.setD (newId d 0) v []).val (newId d 0) = v := by simp [Env.setD, upd]
  have hnbv : (β.setD (newId d 0) v []).nb (newId d 0) = [] := by simp [Env.setD, upd]
  have hvn : v.ownBlock.toList.Nodup := by cases v.ownBlock <;> simp
  refine good_value hR (fun d' h' => by rw [hdst] at h'; injection h' with h'; exact h' ▸ hd) hrun hk
    ⟨β.setD (newId d 0) v [], upd φ (newId d 0) v.ownBlock.toList, ?_, ?_⟩
  · rw [how, hcw]
    refine hc.create hs hw (fun i hi => hfr.slot i _ hi hnew) (fun j ob hj hi => (hfr.obj j ob hj).2 _ hi hnew) ?_ (fun j hj => ⟨by simp [Env.setD, upd, hj], rfl⟩) ?_ ?_ hvn ?_ rfl (fun j hj => by simp [Env.setD, upd, hj])
    · cases hn : st.obj (newId d 0) with
      | none => rfl
      | some ob => exact absurd hnew (hfr.obj _ ob hn).1
    · intro b hb
      simp only [tops, hval, hnbv, List.append_nil] at hb
      rw [hB b hb]
      exact Nat.le_refl _
    · exact ⟨vals, List.replicate rows.length [], by rw [hval]; exact hown, hin, by rw [hnbv, hflat], by rw [hval, hflat, List.append_nil]⟩
    · intro b hb
      have h1 := hB b hb
      subst h1
      refine ⟨⟨.inl hle, hown.lt _ hb⟩, fun j ob hj hbj => ?_⟩
      have := ((hc.fresh j ob hj).2 _ hbj).2
      omega
  · rw [hsv]
    unfold SVR
    exact ⟨hval.symm, hown.one⟩

theorem seg_replicate {α : Type} (z : List α) : ∀ (n k : Nat), k < n → (((List.replicate n z).flatten).drop (k * z.length)).take z.length = z
  | 0, k, h => by omega
  | n + 1, 0, _ => by simp [List.replicate_succ]
  | n + 1, k + 1, h => by
    rw [List.replicate_succ, List.flatten_cons, Nat.succ_mul, Nat.add_comm, List.drop_append, List.drop_of_length_le (by omega), List.nil_append]
    rw [show z.length + k * z.length - z.length = k * z.length by omega]
    exact seg_replicate z n k (by omega)

theorem DeepR.replicate {ct : List CT} {ts : List TypeId} {r : List DC} {z : List Value} (h : CellsH w none ct ts r z []) (hl : z.length = ct.length) (n : Nat) : DeepR w ct ts (List.replicate n r) (List.replicate n z).flatten (fun _ => none) (List.replicate n []) := by
  refine ⟨by simp, fun i r' m hi hm => ?_⟩
  have hin : i < n := by have := (List.getElem?_eq_some_iff.1 hi).1; simpa using this
  rw [List.getElem?_replicate_of_lt hin, Option.some.injEq] at hi hm
  subst hi hm
  rw [← hl, seg_replicate z n i hin]
  exact h

theorem mu_none : ∀ {U : List MU}, muIds U = [] → U.flatMap (muTops β) = []
  | [], _ => rfl
  | x :: l, h => by
    cases x <;> simp [muIds] at h
    simp [muTops, mu_none h]

theorem sound_makeD (hR : Rel w0 S st a w) {d : Nat} (hdst : o.dst = some d) (hd : DstOk st.n d) (hfr : FreshAt st d) {t et : TypeId} {l c : Operand} (ho : o.op = .makeSlice t l c) {n m : Int} {ct : List CT} {ts : List TypeId} {i : TypeInfo} {z : List SV} {r : List DC × List MU}
    (hl : (evM l).val st.get st.obj = some (.int .i64 n)) (hm : (evM c).val st.get st.obj = some (.int .i64 m)) (hu : P.underlying t = some (.slice et)) (hi : P.info? et = some i) (hsz : i.size = ct.length)
    (hz : (zeroM P et).val st.get st.obj = some z) (hr : (rowCellsM ct ts z).val st.get st.obj = some r) (hmu : muIds r.2 = [])
    (he : e = { sv := .own (newId d 0), ow := [(newId d 0, some (.deep et ct ts (List.replicate n.toNat r.1) none))], ok := decide (0 ≤ n) && decide (n ≤ m) && decide (m.toNat * i.bytes ≤ 140737488355328) && decide (m ≤ 9223372036854775807) })
    (hok : e.ok = true) : Good P w0 S st o e a w := by
  subst he
  simp only [Bool.and_eq_true, decide_eq_true_eq] at hok
  obtain ⟨⟨⟨h0, hnm⟩, hby⟩, hmx⟩ := hok
  obtain ⟨i', zv, hi', hzv, rfl, hone⟩ := zeroM_ok hz
  rw [hi] at hi'
  injection hi' with hi'
  subst hi'
  obtain ⟨β0, φ0, hc0⟩ := hR.core
  obtain ⟨hra, _⟩ := rowCells_ok hc0 ct ts _ _ r (ofConsts_ok zv.cells.toList) hr
  have hcl := RowsA.cells _ _ _ _ _ hra
  rw [mu_none hmu] at hcl
  have hzl : zv.cells.toList.length = ct.length := (CellsH.length _ _ _ _ _ hcl).1
  have hmade : (madeCells zv.cells (m.toNat * i.size)).toList = (List.replicate m.toNat zv.cells.toList).flatten := by
    have := made_eq zv.cells m.toNat
    rw [hsz, ← hzl]
    simpa using this
  have hx := hc0.ev hl
  have hy := hc0.ev hm
  simp only [SVR] at hx hy
  have hb : (i.bytes : Int) * m ≤ 281474976710656 := by
    have h1 : ((m.toNat * i.bytes : Nat) : Int) ≤ 140737488355328 := by omega
    rw [Int.natCast_mul, Int.toNat_of_nonneg (by omega), Int.mul_comm] at h1
    omega
  have hrun := run_make (P := P) w t et i zv hu hi hzv .i64 .i64 n m h0 hnm hb hmx
  refine sound_newdeep hR hdst hd hfr (vals := (List.replicate n.toNat zv.cells.toList).flatten) (v := .slice (some ⟨w.heap.size, 0, none⟩) n.toNat m.toNat)
    (w' := w.alloc (.cells (madeCells zv.cells (m.toNat * i.size)) et)) ?_ (hR.kept.alloc _) (by rw [alloc_size]; omega) (fun b hb => alloc_old _ b hb) (by simp [Value.ownBlock]) ?_ ?_ rfl rfl rfl
  · simp [execOp, ho, hx.1, hy.1, hrun]
  · refine ⟨by simp [hzl], .inr ⟨w.heap.size, m.toNat, _, by simp, by simpa using alloc_new _, by simp; omega, by simp only [maxLen]; omega, by rw [size_madeCells, hsz], ?_⟩⟩
    rw [hmade]
    have : List.replicate m.toNat zv.cells.toList = List.replicate n.toNat zv.cells.toList ++ List.replicate (m.toNat - n.toNat) zv.cells.toList := by
      rw [List.replicate_append_replicate]
      congr 1
      omega
    rw [this, List.flatten_append, List.take_append_of_le_length (by simp [hzl]), List.take_of_length_le (by simp [hzl])]
  · rw [List.length_replicate]
    exact DeepR.replicate (CellsH.mono (by rw [alloc_size]; omega) _ _ _ _ _ hcl (by simp)) hzl _

/-! ### A slice put back -/

theorem plug_core (hc : Core w0 S f h β φ tm w) {id nid i : Nat} {t t1 : TypeId} {ct e2 : List CT} {rows r : List (List DC)} {u : Bool} {h' : Nat → Option VObj} (hob : h id = some (.deep t ct [t1] rows (some (i, nid)))) (hn : h nid = some (.row t1 e2 r false u)) (hsl : ∃ e', ct[slPos ct]? = some (.sl e') ∧ e' = e2) (hcnt : slCount ct = 1)
    (hne : nid ≠ id) (hf : flatB e2 = true) (hh : h' id = some (.deep t ct [t1] (rows.set i (splice (rows.getD i []) (slPos ct) [.sl r])) none)) (hh2 : ∀ j, j ≠ id → h' j = if j = nid then none else h j) :
    ∃ β' φ', Core w0 S f h' β' φ' tm w := by
  obtain ⟨e', hsl, rfl⟩ := hsl
  obtain ⟨vals, mbs, hown, hin, hnb, hφ⟩ := hc.objs id _ hob
  obtain ⟨vals2, fps2, hown2, hin2, _, _⟩ := hc.objs nid _ hn
  have hnd := (hc.fresh id _ hob).1
  rw [hφ] at hnd
  have htn : tops β nid (.row t1 e' r false u) = (β.val nid).ownBlock.toList := rfl
  have hmid : ∀ b ∈ (β.val nid).ownBlock.toList, b ∉ φ id := fun b hb => hc.sep nid id _ _ hne hn hob b (tops_sub (hc.objs nid _ hn) b (htn ▸ hb))
  have hvn : (β.val nid).ownBlock.toList.Nodup := by cases (β.val nid).ownBlock <;> simp
  have hmem : ∀ b ∈ (mbs.set i (β.val nid).ownBlock.toList).flatten, b ∈ mbs.flatten ∨ b ∈ (β.val nid).ownBlock.toList := by
    intro b hb
    by_cases hi : i < mbs.length
    · rw [flatten_set hi] at hb
      rw [flatten_at hi]
      simp only [List.mem_append] at hb ⊢
      rcases hb with hb | hb | hb <;> simp [hb]
    · rw [List.set_eq_of_length_le (by omega)] at hb
      exact .inl hb
  have hnd2 : ((β.val id).ownBlock.toList ++ (mbs.set i (β.val nid).ownBlock.toList).flatten).Nodup := by
    by_cases hi : i < mbs.length
    · rw [flatten_set hi]
      have h3 := hnd
      rw [flatten_at hi] at h3
      have h4 := nodup_insert (A := (β.val id).ownBlock.toList ++ (mbs.take i).flatten) (p1 := []) (p2 := mbs[i]) (p3 := []) (B := (mbs.drop (i + 1)).flatten) (n := (β.val nid).ownBlock.toList) (by simpa using h3) hvn
        (fun b hb hb2 => hmid b hb (by rw [hφ, flatten_at hi]; simpa using hb2))
      simpa using h4
    · rw [List.set_eq_of_length_le (by omega)]
      exact hnd
  refine ⟨β.setNb id (mbs.set i (β.val nid).ownBlock.toList).flatten, upd φ id ((β.val id).ownBlock.toList ++ (mbs.set i (β.val nid).ownBlock.toList).flatten), ?_⟩
  refine hc.regroup (t := t) (ct := ct) (ts := [t1]) (rows := rows.set i (splice (rows.getD i []) (slPos ct) [.sl r])) (hl := none) (G := fun k => k = nid) hob (fun k hk e => hne (hk ▸ e)) hh (fun j hj x hx => ?_) (Nat.le_refl _) (fun _ _ _ => rfl) (fun b hb => by simp only [tops]; exact List.mem_append_left _ hb) (fun b hb => ?_) ?_ hnd2
  · rw [hh2 j hj] at hx
    split at hx
    · cases hx
    · rename_i hk
      exact ⟨hx, hk⟩
  · rcases hmem b hb with hb | hb
    · left
      simp only [tops, hnb]
      exact List.mem_append_right _ hb
    · exact .inr ⟨nid, _, rfl, hn, htn ▸ hb⟩
  · refine ⟨vals, mbs.set i (β.val nid).ownBlock.toList, by simpa [Env.setNb] using hown, ⟨by simp [hin.1], fun k r' m hk hm => ?_⟩, by simp [Env.setNb, upd], by simp [Env.setNb]⟩
    by_cases hki : k = i
    · subst hki
      have hkl : k < rows.length := by have := (List.getElem?_eq_some_iff.1 hk).1; simpa using this
      have hkm : k < mbs.length := by rw [hin.1]; exact hkl
      rw [List.getElem?_set_self hkl, Option.some.injEq] at hk
      rw [List.getElem?_set_self hkm, Option.some.injEq] at hm
      subst hk hm
      have h3 := hin.2 k (rows.getD k []) mbs[k] (getD_of_lt hkl) (by simp)
      simp only [holeV, if_true] at h3
      exact CellsH.back _ e' t1 _ _ mbs[k] hsl hcnt h3 ⟨vals2, fps2, hown2, hin2, rfl⟩
    · rw [List.getElem?_set_ne (Ne.symm hki)] at hk hm
      have := hin.2 k r' m hk hm
      simp only [holeV, hki, if_false] at this
      exact this

end

end Go.Proofs.YthpmalpdnnbkgaaGreat.Vm

/- The value machine: rows whose slices are rows of the call's own, put together out of others. Conditions: as each lemma says. -/
set_option linter.unusedVariables false
set_option linter.unusedSimpArgs false
namespace Go.Proofs.YthpmalpdnnbkgaaGreat.Vm

section
variable {P : Program} {Γ : Ctx} {w0 : World} {S : Own} {st : St} {o : Oper} {e : Eff} {a : Act} {w w' : World}
variable {f : Nat → SV} {h : Nat → Option VObj} {β : Env} {φ : Nat → List Nat} {tm : Array Value}

/-- A new row out of objects that it uses up. -/
theorem Core.compose (hc : Core w0 S f h β φ tm w) {id : Nat} {G : Nat → Prop} {h' : Nat → Option VObj} {v' : Value} {t : TypeId} {ct : List CT} {ts : List TypeId} {rows : List (List DC)} {vals : List Value} {mbs : List (List Nat)}
    (hslot : ∀ i, id ∉ svIds (f i)) (hids : ∀ j x, h j = some x → id ∉ objIds x) (hnone : h id = none)
    (hh : h' id = some (.deep t ct ts rows none)) (hh2 : ∀ j, j ≠ id → ∀ x, h' j = some x → h j = some x ∧ ¬ G j)
    (hs : w.heap.size ≤ w'.heap.size) (hk : w0.heap.size ≤ w.heap.size) (hw : ∀ b, b < w.heap.size → (∀ k x, G k → h k = some x → b ∉ tops β k x) → w'.heap[b]? = w.heap[b]?)
    (hbl : ∀ b ∈ v'.ownBlock.toList ++ mbs.flatten, (∃ k x, G k ∧ h k = some x ∧ b ∈ tops β k x) ∨ (b = w.heap.size ∧ b < w'.heap.size))
    (hown : OwnR w' t ct.length false v' rows.length vals) (hin : DeepR w' ct ts rows vals (fun _ => none) mbs) (hnd : (v'.ownBlock.toList ++ mbs.flatten).Nodup) :
    Core w0 S f h' (β.setD id v' mbs.flatten) (upd φ id (v'.ownBlock.toList ++ mbs.flatten)) tm w' := by
  have hval : (β.setD id v' mbs.flatten).val id = v' := by simp [Env.setD, upd]
  have hnbv : (β.setD id v' mbs.flatten).nb id = mbs.flatten := by simp [Env.setD, upd]
  have htop : ∀ j oj, j ≠ id → tops (β.setD id v' mbs.flatten) j oj = tops β j oj := by
    intro j oj hj
    cases oj <;> simp [tops, Env.setD, upd, hj]
  have hbnew : ∀ b ∈ v'.ownBlock.toList ++ mbs.flatten, ((w0.heap.size ≤ b ∨ S b) ∧ b < w'.heap.size) ∧ (Av h β b ∨ w.heap.size ≤ b) ∧ ∀ j oj, h j = some oj → ¬ G j → b ∉ φ j := by
    intro b hb
    rcases hbl b hb with ⟨k, x, hk1, hx, h1⟩ | ⟨h1, h2⟩
    · have h2 := tops_sub (hc.objs k x hx) b h1
      have h3 := (hc.fresh k x hx).2 b h2
      exact ⟨⟨h3.1, by omega⟩, .inl (.inl ⟨k, x, hx, h1⟩), fun j oj hjo hg => hc.sep k j x oj (fun e => hg (e ▸ hk1)) hx hjo b h2⟩
    · exact ⟨⟨.inl (by omega), h2⟩, .inr (by omega), fun j oj hjo _ hbj => by have := ((hc.fresh j oj hjo).2 b hbj).2; omega⟩
  refine hc.step' (fun j => j = id) hs (fun b hb hn => hw b hb (fun k x _ hx hbk => hn (.inl ⟨k, x, hx, hbk⟩))) ?_ (fun i j hj e => hslot i (e ▸ hj)) (fun j hj => ⟨by simp [Env.setD, upd, hj], rfl⟩) ?_ ?_
  · rintro b (⟨j, oj, hj, hbj⟩ | hb)
    case inr => exact .inl (.inr hb)
    by_cases hjj : j = id
    · subst hjj
      rw [hh, Option.some.injEq] at hj
      subst hj
      simp only [tops, hval, hnbv] at hbj
      exact (hbnew b hbj).2.1
    · rw [htop j oj hjj] at hbj
      exact .inl (.inl ⟨j, oj, (hh2 j hjj oj hj).1, hbj⟩)
  · intro j oj hj
    by_cases hjj : j = id
    · subst hjj
      rw [hh, Option.some.injEq] at hj
      subst hj
      refine .inr ⟨?_, by simpa [upd] using hnd, fun b hb => (hbnew b (by simpa [upd] using hb)).1⟩
      exact ⟨vals, mbs, by rw [hval]; exact hown, hin, hnbv, by rw [hval]; simp [upd]⟩
    · obtain ⟨h1, hg⟩ := hh2 j hjj oj hj
      refine .inl ⟨hjj, h1, by simp [Env.setD, upd, hjj], by simp [upd, hjj], fun k hk2 e => hids j oj h1 (e ▸ hk2), fun b hb => ?_⟩
      have hbφ := tops_sub (hc.objs j oj h1) b hb
      exact hw b ((hc.fresh j oj h1).2 b hbφ).2 (fun k x hk1 hx hbk => hc.sep k j x oj (fun e => hg (e ▸ hk1)) hx h1 b (tops_sub (hc.objs k x hx) b hbk) hbφ)
  · intro i j oi oj hne hi hj b hb
    by_cases hii : i = id
    · subst hii
      have hji : j ≠ i := Ne.symm hne
      simp only [upd, if_true] at hb
      simp only [upd, hji, if_false]
      obtain ⟨h1, h2⟩ := hh2 j hji oj hj
      exact (hbnew b hb).2.2 j oj h1 h2
    · simp only [upd, hii, if_false] at hb
      obtain ⟨h1, h2⟩ := hh2 i hii oi hi
      by_cases hjj : j = id
      · subst hjj
        simp only [upd, if_true]
        exact fun hb' => (hbnew b hb').2.2 i oi h1 h2 hb
      · simp only [upd, hjj, if_false]
        exact hc.sep i j oi oj hne h1 (hh2 j hjj oj hj).1 b hb

theorem DeepR.append {ct : List CT} {ts : List TypeId} {r1 r2 : List (List DC)} {v1 v2 : List Value} {m1 m2 : List (List Nat)} (h1 : DeepR w ct ts r1 v1 (fun _ => none) m1) (hl : v1.length = r1.length * ct.length) (h2 : DeepR w ct ts r2 v2 (fun _ => none) m2) :
    DeepR w ct ts (r1 ++ r2) (v1 ++ v2) (fun _ => none) (m1 ++ m2) := by
  refine ⟨by simp [h1.1, h2.1], fun i r m hi hm => ?_⟩
  rw [List.getElem?_append] at hi hm
  rw [h1.1] at hm
  by_cases hlt : i < r1.length
  · rw [if_pos hlt] at hi hm
    have hle : i * ct.length + ct.length ≤ v1.length := by rw [hl, ← Nat.succ_mul]; exact Nat.mul_le_mul_right _ hlt
    have := h1.2 i r m hi hm
    rw [List.drop_append_of_le_length (by omega), List.take_append_of_le_length (by simp; omega)]
    exact this
  · rw [if_neg hlt] at hi hm
    have := h2.2 (i - r1.length) r m hi hm
    have e1 : (v1 ++ v2).drop (i * ct.length) = v2.drop ((i - r1.length) * ct.length) := by
      have hge : v1.length ≤ i * ct.length := by rw [hl]; exact Nat.mul_le_mul_right _ (by omega)
      rw [List.drop_append, List.drop_of_length_le hge, List.nil_append, hl, Nat.sub_mul]
    rw [e1]
    exact this

theorem CellsH.one : ∀ (cs : List CT) (ts : List TypeId) (ds : List DC) (us : List Value) (mb : List Nat), CellsH w none cs ts ds us mb → ∀ u ∈ us, u.oneCell' = true
  | [], _, _, _, _, h => by
    simp only [CellsH] at h
    simp [h.2.2.1]
  | c :: cs, _, _, _, _, h => by
    rcases ct_cases c with ⟨e, rfl⟩ | hc
    · simp only [CellsH] at h
      obtain ⟨t, ts', rows, ds', v, us', m1, mb', rfl, rfl, rfl, _, ⟨vals, fps, g1, _⟩, h6, rfl⟩ := h
      intro u hu
      rcases List.mem_cons.1 hu with rfl | hu
      · exact g1.one
      · exact CellsH.one cs _ _ _ _ h6 u hu
    · rw [CellsH.flat hc] at h
      obtain ⟨d, ds', v, us', rfl, rfl, h3, h4⟩ := h
      intro u hu
      rcases List.mem_cons.1 hu with rfl | hu
      · exact h3.one
      · exact CellsH.one cs _ _ _ _ h4 u hu

theorem DeepR.one {ct : List CT} {ts : List TypeId} {rows : List (List DC)} {vals : List Value} {mbs : List (List Nat)} (h : DeepR w ct ts rows vals (fun _ => none) mbs) (hl : vals.length = rows.length * ct.length) (hp : 0 < ct.length) : ∀ u ∈ vals, u.oneCell' = true := by
  intro u hu
  obtain ⟨p, hpl, rfl⟩ := List.getElem_of_mem hu
  have hi : p / ct.length < rows.length := by rw [Nat.div_lt_iff_lt_mul hp]; omega
  have hj := Nat.mod_lt p hp
  have hm : p / ct.length < mbs.length := by rw [h.1]; exact hi
  have hc := h.2 (p / ct.length) rows[p / ct.length] mbs[p / ct.length] (by simp) (by simp)
  refine CellsH.one _ _ _ _ _ hc _ (List.mem_of_getElem? (i := p % ct.length) ?_)
  rw [List.getElem?_take, if_pos hj, List.getElem?_drop]
  have : p / ct.length * ct.length + p % ct.length = p := by rw [Nat.mul_comm]; exact Nat.div_add_mod p ct.length
  rw [this]
  simp [hpl]

/-- What a row to be used up is. -/
theorem deepM_ok (hc : Core w0 S f h β φ tm w) {et : TypeId} {ct : List CT} {ts : List TypeId} {s : SV} {v : Value} {q : List (List DC) × List Nat} (hs : SVR w (Av h β) β s v) (hq : (deepM et ct ts s).val f h = some q) :
    ∃ vals mbs, OwnR w et ct.length false v q.1.length vals ∧ DeepR w ct ts q.1 vals (fun _ => none) mbs ∧ (v.ownBlock.toList ++ mbs.flatten).Nodup ∧
      ((q.2 = [] ∧ v = .slice none 0 0 ∧ mbs = []) ∨ ∃ id, q.2 = [id] ∧ ∃ x, h id = some x ∧ tops β id x = v.ownBlock.toList ++ mbs.flatten) := by
  unfold deepM at hq
  split at hq
  · simp only [M.val_pure, Option.some.injEq] at hq
    subst hq
    simp only [SVR] at hs
    subst hs
    exact ⟨[], [], ⟨by simp, .inl ⟨rfl, rfl, rfl⟩⟩, ⟨rfl, by simp⟩, by simp [Value.ownBlock], .inl ⟨rfl, rfl, rfl⟩⟩
  · rename_i id
    simp only [M.val_obj, Option.bind_eq_some_iff] at hq
    obtain ⟨ob, hob, hq⟩ := hq
    simp only [SVR] at hs
    split at hq
    · rename_i t' e' ts' r
      cases hb : Nat.beq t' et && ctsBeq e' ct && tsBeq ts' ts
      · simp [hb] at hq
      simp only [hb, cond_true, M.val_pure, Option.some.injEq] at hq
      subst hq
      simp only [Bool.and_eq_true] at hb
      have b1 := Nat.eq_of_beq_eq_true hb.1.1
      have b2 := ctsBeq_eq _ _ hb.1.2
      have b3 := tsBeq_eq _ _ hb.2
      subst b1 b2 b3
      have hfr := (hc.fresh id _ hob).1
      obtain ⟨vals, mbs, g1, g2, g3, g4⟩ := hc.objs id _ hob
      rw [g4] at hfr
      rw [← hs.1] at g1 hfr
      exact ⟨vals, mbs, g1, g2, hfr, .inr ⟨id, rfl, _, hob, by simp only [tops, g3, hs.1]⟩⟩
    · simp at hq
  · simp at hq

theorem fo_ids : ∀ (ids : List Nat) (h : Nat → Option VObj) (j : Nat), fo (gone ids) h j = if j ∈ ids then none else h j
  | [], h, j => by simp [gone, fo]
  | i :: l, h, j => by
    have ih := fo_ids l h j
    show upd (fo (gone l) h) i none j = _
    simp only [upd, List.mem_cons]
    by_cases hj : j = i
    · simp [hj]
    · simp only [hj, if_false, false_or]
      exact ih

theorem nodupB_app {l m : List Nat} (hn : nodupB (l ++ m) = true) : ∀ i ∈ l, i ∉ m := by
  induction l with
  | nil => simp
  | cons x l ih =>
    obtain ⟨h1, h2⟩ := nodupB_cons (i := x) (l := l ++ m) hn
    intro i hi
    rcases List.mem_cons.1 hi with rfl | hi
    · exact fun hm => h1 (List.mem_append_right _ hm)
    · exact ih h2 i hi

theorem sound_appendD (hR : Rel w0 S st a w) {d : Nat} (hdst : o.dst = some d) (hd : DstOk st.n d) (hfr : FreshAt st d) {t et : TypeId} {s x : Operand} {c : Call} (ho : o.op = .call c) (hb : c.callee = .builtin .append) (hargs : c.args = #[s, x])
    (hat : c.argTypes = #[t, t]) {ss sx : SV} {ct : List CT} {ts : List TypeId} {p q : List (List DC) × List Nat} {z : List SV} (h1 : (evM s).val st.get st.obj = some ss) (h2 : (evM x).val st.get st.obj = some sx) (hu : P.underlying t = some (.slice et))
    (hsz : sizeB P et ct.length = true) (hp : 0 < ct.length) (hz : (zeroM P et).val st.get st.obj = some z) (hzl : z.length = ct.length) (hqp : (deepM et ct ts ss).val st.get st.obj = some p) (hqq : (deepM et ct ts sx).val st.get st.obj = some q) (hnd : nodupB (p.2 ++ q.2) = true)
    (hroom : roomB P et (p.1.length + q.1.length) = true) (hsv : e.sv = .own (newId d 0)) (hcw : e.cw = none)
    (how : e.ow = (newId d 0, some (.deep et ct ts (p.1 ++ q.1) none)) :: gone (p.2 ++ q.2)) : Good P w0 S st o e a w := by
  obtain ⟨i, hi, hsize⟩ := sizeB_size hsz
  obtain ⟨i', zv, hi', hzv, rfl, _⟩ := zeroM_ok hz
  rw [hi] at hi'
  injection hi' with hi'
  subst hi'
  obtain ⟨β, φ, hc⟩ := hR.core
  obtain ⟨vals1, mbs1, o1, d1, n1, k1⟩ := deepM_ok hc (hc.ev h1) hqp
  obtain ⟨vals2, mbs2, o2, d2, n2, k2⟩ := deepM_ok hc (hc.ev h2) hqq
  have hone := d2.one o2.1 hp
  obtain ⟨Q, cc, hxv, hqn, hcell⟩ : ∃ Q cc, a.eval x = .slice Q q.1.length cc ∧ (Q = none → q.1.length = 0) ∧ ∀ ad, Q = some ad → ∀ j u, vals2[j]? = some u → w.cell? (ad.add j) = some u := by
    rcases o2.2 with ⟨hv, h0, _⟩ | ⟨g, cap, cur, hv, _⟩
    · exact ⟨none, 0, by rw [hv, h0], fun _ => h0, by simp⟩
    · refine ⟨some ⟨g, 0, none⟩, cap, hv, by simp, fun ad had j u hj => ?_⟩
      simp only [Option.some.injEq] at had
      subst had
      rw [addr_add]
      have := o2.cell (g := g) (by rw [hv]; rfl) hj
      simpa using this
  obtain ⟨v', w', hrun, hown', hgrow, hblk⟩ := append_run (P := P) (ty := o.type) (c := cc) hu hi hzv hsize (by simpa using hzl) hp o1 o2.1 hqn hcell hone hroom
  have hnew : newId d 0 / 64 = d := newId_div d 0 (by omega)
  have hin1 : ∀ b ∈ (a.eval s).ownBlock.toList ++ mbs1.flatten, ∃ k y, k ∈ p.2 ∧ st.obj k = some y ∧ b ∈ tops β k y := by
    intro b hb'
    rcases k1 with ⟨_, hv, hm⟩ | ⟨id, hid, y, hy, ht⟩
    · rw [hv, hm] at hb'; simp [Value.ownBlock] at hb'
    · exact ⟨id, y, by rw [hid]; simp, hy, by rw [ht]; exact hb'⟩
  have hin2 : ∀ b ∈ (a.eval x).ownBlock.toList ++ mbs2.flatten, ∃ k y, k ∈ q.2 ∧ st.obj k = some y ∧ b ∈ tops β k y := by
    intro b hb'
    rcases k2 with ⟨_, hv, hm⟩ | ⟨id, hid, y, hy, ht⟩
    · rw [hv, hm] at hb'; simp [Value.ownBlock] at hb'
    · exact ⟨id, y, by rw [hid]; simp, hy, by rw [ht]; exact hb'⟩
  have hdis := nodupB_app hnd
  have hapart : ∀ b ∈ (a.eval s).ownBlock.toList ++ mbs1.flatten, b ∉ (a.eval x).ownBlock.toList ++ mbs2.flatten := by
    intro b h3 h4
    obtain ⟨k, y, hk, hy, hb1⟩ := hin1 b h3
    obtain ⟨k', y', hk', hy', hb2⟩ := hin2 b h4
    exact hc.sep k k' y y' (fun e => hdis k hk (e ▸ hk')) hy hy' b (tops_sub (hc.objs k y hy) b hb1) (tops_sub (hc.objs k' y' hy') b hb2)
  have hwsame : ∀ b, b < w.heap.size → (a.eval s).ownBlock ≠ some b → w'.heap[b]? = w.heap[b]? := fun b hb' hne => hgrow.block b hb' (fun e => hne e.symm)
  have hlt1 := d1.lt
  have hlt2 := d2.lt
  have hnm1 : ∀ b ∈ mbs1.flatten, (a.eval s).ownBlock ≠ some b := by
    intro b hb' e
    rw [List.nodup_append] at n1
    exact n1.2.2 b (by rw [e]; simp) b hb' rfl
  have hnm2 : ∀ b ∈ mbs2.flatten, (a.eval s).ownBlock ≠ some b := by
    intro b hb' e
    exact hapart b (List.mem_append_left _ (by rw [e]; simp)) (List.mem_append_right _ hb')
  have hvo : ∀ b ∈ v'.ownBlock.toList, b ∈ (a.eval s).ownBlock.toList ∨ b = w.heap.size := by
    intro b hb'
    rcases hblk with h3 | h3
    · rw [h3] at hb'; exact .inl hb'
    · rw [h3] at hb'; exact .inr (by simpa using hb')
  have hvn : v'.ownBlock.toList.Nodup := by cases v'.ownBlock <;> simp
  have hndall : (v'.ownBlock.toList ++ (mbs1 ++ mbs2).flatten).Nodup := by
    rw [List.flatten_append, List.nodup_append]
    rw [List.nodup_append] at n1 n2
    refine ⟨hvn, ?_, fun b h3 b' h4 e => ?_⟩
    · rw [List.nodup_append]
      refine ⟨n1.2.1, n2.2.1, fun b h3 b' h4 e => ?_⟩
      subst e
      exact hapart b (List.mem_append_right _ h3) (List.mem_append_right _ h4)
    · subst e
      rcases hvo b h3 with h5 | h5
      · rcases List.mem_append.1 h4 with h4 | h4
        · exact n1.2.2 b h5 b h4 rfl
        · exact hapart b (List.mem_append_left _ h5) (List.mem_append_right _ h4)
      · rcases List.mem_append.1 h4 with h4 | h4
        · have := hlt1 b h4; omega
        · have := hlt2 b h4; omega
  have hdeep : DeepR w' ct ts (p.1 ++ q.1) (vals1 ++ vals2) (fun _ => none) (mbs1 ++ mbs2) := by
    refine DeepR.append ?_ o1.1 ?_
    · exact d1.mono hgrow.size (fun b hb' => hwsame b (hlt1 b hb') (hnm1 b hb')) (fun _ => rfl)
    · exact d2.mono hgrow.size (fun b hb' => hwsame b (hlt2 b hb') (hnm2 b hb')) (fun _ => rfl)
  have hownl : OwnR w' et ct.length false v' (p.1 ++ q.1).length (vals1 ++ vals2) := by rw [List.length_append]; exact hown'
  have hkept : ∀ b, (a.eval s).ownBlock = some b → w0.heap.size ≤ b ∨ S b := by
    intro b hb'
    obtain ⟨k, y, _, hy, hbt⟩ := hin1 b (List.mem_append_left _ (by rw [hb']; simp))
    exact ((hc.fresh k y hy).2 b (tops_sub (hc.objs k y hy) b hbt)).1
  refine good_value hR (fun d' h' => by rw [hdst] at h'; injection h' with h'; exact h' ▸ hd) (v := v') (w' := w') ?_ (hR.kept.grown hgrow hkept)
    ⟨β.setD (newId d 0) v' (mbs1 ++ mbs2).flatten, upd φ (newId d 0) (v'.ownBlock.toList ++ (mbs1 ++ mbs2).flatten), ?_, ?_⟩
  · simp [execOp, ho, resolve, hb, hargs, hat, invoke, builtin, hxv, hrun]
  · rw [how, hcw]
    refine hc.compose (G := fun k => k ∈ p.2 ++ q.2) (fun i hi => hfr.slot i _ hi hnew) (fun j ob hj hi => (hfr.obj j ob hj).2 _ hi hnew) ?_ (by simp [fo, upd, fc]) (fun j hj y hy => ?_) hgrow.size hR.kept.size (fun b hb' hn => ?_) (fun b hb' => ?_) hownl hdeep hndall
    · cases hn : st.obj (newId d 0) with
      | none => rfl
      | some ob => exact absurd hnew (hfr.obj _ ob hn).1
    · simp only [fo, upd, hj, if_false, fc] at hy
      rw [fo_ids] at hy
      split at hy
      · cases hy
      · rename_i hk
        exact ⟨hy, hk⟩
    · refine hwsame b hb' (fun e => ?_)
      obtain ⟨k, y, hk, hy, hbt⟩ := hin1 b (List.mem_append_left _ (by rw [e]; simp))
      exact hn k y (List.mem_append_left _ hk) hy hbt
    · rcases List.mem_append.1 hb' with hb' | hb'
      · rcases hvo b hb' with h3 | h3
        · obtain ⟨k, y, hk, hy, hbt⟩ := hin1 b (List.mem_append_left _ h3)
          exact .inl ⟨k, y, List.mem_append_left _ hk, hy, hbt⟩
        · exact .inr ⟨h3, hown'.lt b hb'⟩
      · rw [List.flatten_append] at hb'
        rcases List.mem_append.1 hb' with hb' | hb'
        · obtain ⟨k, y, hk, hy, hbt⟩ := hin1 b (List.mem_append_right _ hb')
          exact .inl ⟨k, y, List.mem_append_left _ hk, hy, hbt⟩
        · obtain ⟨k, y, hk, hy, hbt⟩ := hin2 b (List.mem_append_right _ hb')
          exact .inl ⟨k, y, List.mem_append_right _ hk, hy, hbt⟩
  · rw [hsv]
    unfold SVR
    exact ⟨by simp [Env.setD, upd], hown'.one⟩

/-! ### Literals -/

theorem muIds_append : ∀ (U V : List MU), muIds (U ++ V) = muIds U ++ muIds V
  | [], V => rfl
  | x :: l, V => by cases x <;> simp [muIds, muIds_append l V]

theorem DeepR.cons {ct : List CT} {ts : List TypeId} {r : List DC} {l : List Value} {m : List Nat} {rows : List (List DC)} {vals : List Value} {mbs : List (List Nat)} (h1 : CellsH w none ct ts r l m) (hl : l.length = ct.length) (h2 : DeepR w ct ts rows vals (fun _ => none) mbs) :
    DeepR w ct ts (r :: rows) (l ++ vals) (fun _ => none) (m :: mbs) := by
  have := DeepR.append (r1 := [r]) (v1 := l) (m1 := [m]) ⟨rfl, fun i r' m' hi hm => by
    have hi0 : i = 0 := by
      have := (List.getElem?_eq_some_iff.1 hi).1
      simpa using this
    subst hi0
    simp only [List.getElem?_cons_zero, Option.some.injEq] at hi hm
    subst hi hm
    rw [Nat.zero_mul, List.drop_zero, List.take_of_length_le (by omega)]
    exact h1⟩ (by simp [hl]) h2
  simpa using this

theorem buildRowsD_ok (hc : Core w0 S st.get st.obj β φ a.tmps w) {ct : List CT} {ts : List TypeId} : ∀ (parts : List (Nat × Operand)) (k : Nat) (q : List (List DC) × List MU), (buildRowsD ct ts k parts).val st.get st.obj = some q →
    ∃ (vals : List Value) (mbs : List (List Nat)), vals.length = parts.length * ct.length ∧ q.1.length = parts.length ∧ DeepR w ct ts q.1 vals (fun _ => none) mbs ∧ mbs.flatten = q.2.flatMap (muTops β) ∧ MuOk st.obj q.2 ∧
      ∀ (pre suf : List Value), pre.length = k * ct.length → suf.length = parts.length * ct.length →
        Instr.fill (fun i => some (i * ct.length, ct.length)) (pre ++ suf).toArray (parts.map fun x => (x.1, a.eval x.2)) = some (pre ++ vals).toArray
  | [], k, q, hq => by
    simp only [buildRowsD, M.val_pure, Option.some.injEq] at hq
    subst hq
    refine ⟨[], [], by simp, rfl, ⟨rfl, by simp⟩, rfl, trivial, fun pre suf h1 h2 => ?_⟩
    have : suf = [] := by simpa using h2
    subst this
    simp [Instr.fill]
  | (i, x) :: rest, k, q, hq => by
    simp only [buildRowsD] at hq
    cases hik : Nat.beq i k
    · simp [hik] at hq
    have hik := Nat.eq_of_beq_eq_true hik
    subst hik
    simp only [Nat.beq_refl, cond_true, M.val_bind, Option.bind_eq_some_iff, M.val_pure, Option.some.injEq] at hq
    obtain ⟨s, hs, cs, hcs, r, hr, q2, hq2, rfl⟩ := hq
    obtain ⟨hsv, hone⟩ := cells_ok (hc.ev hs) hcs
    obtain ⟨hra, hmu1⟩ := rowCells_ok hc ct ts _ _ r hsv hr
    have hcl := RowsA.cells _ _ _ _ _ hra
    have hll := (CellsH.length _ _ _ _ _ hcl).1
    have hsize : (a.eval x).cells.size = ct.length := by simpa using hll
    obtain ⟨vals, mbs, hl2, hl3, hin2, hfl2, hmu2, hfill2⟩ := buildRowsD_ok hc rest (i + 1) q2 hq2
    refine ⟨(a.eval x).cells.toList ++ vals, (r.2.flatMap (muTops β)) :: mbs, ?_, by simp [hl3], DeepR.cons hcl hll hin2, by simp [hfl2], hmu1.append hmu2, ?_⟩
    · simp only [List.length_append, hl2, List.length_cons, Array.length_toList, hsize, Nat.succ_mul]
      omega
    · intro pre suf h1 h2
      simp only [List.length_cons, Nat.succ_mul] at h2
      simp only [List.map_cons]
      rw [fill_cons (off := i * ct.length) (by rw [hsize]) (by simp [h1, hsize]; omega)]
      have e1 : ((pre ++ suf).toArray.toList.take (i * ct.length) ++ ((a.eval x).cells.toList ++ (pre ++ suf).toArray.toList.drop (i * ct.length + (a.eval x).cells.size))) = (pre ++ (a.eval x).cells.toList) ++ suf.drop ct.length := by
        simp only [hsize, ← h1]
        simp [List.drop_append]
      rw [e1, hfill2 (pre ++ (a.eval x).cells.toList) (suf.drop ct.length) (by simp [h1, hsize, Nat.succ_mul]) (by simp [h2])]
      simp

theorem sound_buildD (hR : Rel w0 S st a w) {d : Nat} (hdst : o.dst = some d) (hd : DstOk st.n d) (hfr : FreshAt st d) {t et : TypeId} {len : Nat} {parts : Array (Nat × Operand)} (ho : o.op = .buildSlice t len parts) {ct : List CT} {ts : List TypeId} {q : List (List DC) × List MU}
    (hu : P.underlying t = some (.slice et)) (hsz : sizeB P et ct.length = true) (hpos : 0 < ct.length) (hlen : len = parts.toList.length) (hsm : len * ct.length ≤ 16777216) (hz : ∃ z, (zeroM P et).val st.get st.obj = some z)
    (hq : (buildRowsD ct ts 0 parts.toList).val st.get st.obj = some q) (hn : nodupB (muIds q.2) = true)
    (he : e = { sv := .own (newId d 0), ow := (newId d 0, some (.deep et ct ts q.1 none)) :: muGone q.2 }) : Good P w0 S st o e a w := by
  subst he
  obtain ⟨i, hi, hsize⟩ := sizeB_size hsz
  obtain ⟨β, φ, hc⟩ := hR.core
  obtain ⟨vals, mbs, hvl, hrl, hin, hfl, hmu, hfill⟩ := buildRowsD_ok hc parts.toList 0 q hq
  obtain ⟨z, hz⟩ := hz
  obtain ⟨i', zv, hi', hzv, _, _⟩ := zeroM_ok hz
  rw [hi] at hi'
  injection hi' with hi'
  subst hi'
  have hle : len ≤ maxLen := by
    have : len ≤ len * ct.length := Nat.le_mul_of_pos_right _ hpos
    simp only [maxLen]
    omega
  have hrun : (Instr.buildSlice t len (parts.map fun x => (x.1, a.eval x.2))).run P w = .ok (.slice (some ⟨w.heap.size, 0, none⟩) len len) (w.alloc (.cells vals.toArray et)) := by
    rcases Nat.eq_zero_or_pos len with h0 | h0
    · have hp : parts = #[] := by
        have : parts.toList.length = 0 := by omega
        simpa using this
      have hv : vals = [] := by
        have : vals.length = 0 := by rw [hvl, ← hlen, h0, Nat.zero_mul]
        simpa using this
      subst hp hv h0
      simp [Instr.buildSlice, run_underlying hu, sizeOf, typeInfo, hi, Instr.fill, newRow, Array.range_zero']
    · refine run_buildSlice (P := P) w t et len _ vals.toArray i zv hu hi hzv (by rw [hsize]; omega) (by rw [hsize]; exact Nat.ne_of_gt (Nat.mul_pos h0 hpos)) ?_
      have := hfill [] ((Array.range (len * ct.length)).map (zv.cells[· % zv.cells.size]!)).toList (by simp) (by simp [hlen])
      rw [hsize]
      generalize (Array.range (len * ct.length)).map (zv.cells[· % zv.cells.size]!) = A at this ⊢
      simpa using this
  have hnew : newId d 0 / 64 = d := newId_div d 0 (by omega)
  have hmn := mu_nodup hc hmu hn
  have hmt : ∀ b ∈ q.2.flatMap (muTops β), ∃ k ∈ muIds q.2, ∃ ob, st.obj k = some ob ∧ b ∈ tops β k ob := mu_top hmu
  have hlt := hin.lt
  have hown : OwnR (w.alloc (.cells vals.toArray et)) et ct.length false (.slice (some ⟨w.heap.size, 0, none⟩) len len) q.1.length vals := by
    refine ⟨by rw [hvl, hrl], .inr ⟨w.heap.size, len, vals.toArray, by rw [hrl, ← hlen], by simpa using alloc_new _, by rw [hrl, ← hlen]; exact Nat.le_refl _, hle, by simp [hvl, hlen], ?_⟩⟩
    rw [hrl, ← hvl]
    simp
  refine good_value hR (fun d' h' => by rw [hdst] at h'; injection h' with h'; exact h' ▸ hd) (v := .slice (some ⟨w.heap.size, 0, none⟩) len len) (w' := w.alloc (.cells vals.toArray et)) ?_ (hR.kept.alloc _)
    ⟨β.setD (newId d 0) (.slice (some ⟨w.heap.size, 0, none⟩) len len) mbs.flatten, upd φ (newId d 0) ([w.heap.size] ++ mbs.flatten), ?_, ?_⟩
  · simp [execOp, ho, hrun]
  · refine hc.compose (v' := .slice (some ⟨w.heap.size, 0, none⟩) len len) (G := fun k => k ∈ muIds q.2) (fun i hi => hfr.slot i _ hi hnew) (fun j ob hj hi => (hfr.obj j ob hj).2 _ hi hnew) ?_ (by simp [fo, upd, fc]) (fun j hj y hy => ?_) (by rw [alloc_size]; omega) hR.kept.size (fun b hb' _ => alloc_old _ b hb') (fun b hb' => ?_) hown (hin.mono (by rw [alloc_size]; omega) (fun b hb' => alloc_old _ b (hlt b hb')) (fun _ => rfl)) ?_
    · cases hn : st.obj (newId d 0) with
      | none => rfl
      | some ob => exact absurd hnew (hfr.obj _ ob hn).1
    · simp only [fo, upd, hj, if_false, fc] at hy
      rw [fo_gone] at hy
      split at hy
      · cases hy
      · rename_i hk
        exact ⟨hy, hk⟩
    · rcases List.mem_append.1 hb' with hb' | hb'
      · right
        have : b = w.heap.size := by simpa [Value.ownBlock] using hb'
        exact ⟨this, by rw [alloc_size]; omega⟩
      · left
        rw [hfl] at hb'
        obtain ⟨k, hk, ob, h3, h4⟩ := hmt b hb'
        exact ⟨k, ob, hk, h3, h4⟩
    · rw [List.nodup_append]
      refine ⟨by simp [Value.ownBlock], by rw [hfl]; exact hmn, fun b h3 b' h4 e => ?_⟩
      subst e
      have h5 : b = w.heap.size := by simpa [Value.ownBlock] using h3
      have := hlt b h4
      omega
  · unfold SVR
    exact ⟨by simp [Env.setD, upd], rfl⟩

end

end Go.Proofs.YthpmalpdnnbkgaaGreat.Vm

/- The value machine: every operation that it takes does in the model what it says. Conditions: the contracts of the context hold. -/
namespace Go.Proofs.YthpmalpdnnbkgaaGreat.Vm

theorem toList_one {α : Type} {l : Array α} {x : α} (h : l.toList = [x]) : l = #[x] := by
  cases l; simp at h; subst h; rfl
theorem toList_two {α : Type} {l : Array α} {x y : α} (h : l.toList = [x, y]) : l = #[x, y] := by
  cases l; simp at h; subst h; rfl

theorem op_sound {P : Program} {Γ : Ctx} {w0 : World} {S : Own} {st : St} {o : Oper} {e : Eff} {a : Act} {w : World} (hΓ : CtxHolds P Γ) (hR : Rel w0 S st a w)
    (hv : (evalOp P Γ o).val st.get st.obj = some e) (hok : e.ok = true) (hd : ∀ d, o.dst = some d → DstOk st.n d) (hfr : e.ow ≠ [] → ∀ d, o.dst = some d → FreshAt st d) : Good P w0 S st o e a w := by
  unfold evalOp at hv
  split at hv
  · rename_i x ho
    simp only [M.val_bind, Option.bind_eq_some_iff, M.val_pure, Option.some.injEq] at hv
    obtain ⟨s, h1, rfl⟩ := hv
    exact sound_move hR hd (.inl ho) h1 rfl
  · rename_i x ho
    simp only [M.val_bind, Option.bind_eq_some_iff, M.val_pure, Option.some.injEq] at hv
    obtain ⟨s, h1, rfl⟩ := hv
    exact sound_move hR hd (.inr ho) h1 rfl
  · rename_i c x y ho
    simp only [M.val_bind, Option.bind_eq_some_iff] at hv
    obtain ⟨sc, h0, sx, h1, sy, h2, hv⟩ := hv
    exact sound_pick hR hd ho h0 h1 h2 hv
  · rename_i t ho
    split at hv
    · rename_i d hdst
      simp only [M.val_bind, Option.bind_eq_some_iff, M.val_pure, Option.some.injEq] at hv
      obtain ⟨z, hz, rfl⟩ := hv
      exact sound_alloc hR hdst (hd d hdst) (hfr (by simp) d hdst) ho hz rfl
    · simp at hv
  · rename_i t x ho
    split at hv
    · rename_i d hdst
      simp only [M.val_bind, Option.bind_eq_some_iff, M.val_pure, Option.some.injEq] at hv
      obtain ⟨s, hs, cs, hcs, rfl⟩ := hv
      exact sound_box hR hdst (hd d hdst) (hfr (by simp) d hdst) ho hs hcs rfl
    · simp at hv
  · rename_i t parts ho
    split at hv
    · rename_i fs hu
      split at hv
      · rename_i places hp
        simp only [M.val_bind, Option.bind_eq_some_iff, M.val_pure, Option.some.injEq] at hv
        obtain ⟨z, hz, cs, hcs, rfl⟩ := hv
        exact sound_build hR hd ho hu hp hz hcs rfl
      · simp at hv
    · simp at hv
  · rename_i t len parts ho
    cases hann : annB Γ o.dst with
    | true =>
      simp only [hann, cond_true] at hv
      unfold emptyD at hv
      split at hv
      · rename_i et d hu hdst
        split at hv
        · rename_i ct ts hct hts
          cases hb : sizeB P et ct.length && Nat.blt 0 ct.length && Nat.beq len parts.toList.length && Nat.ble (len * ct.length) 16777216
          · simp only [hb, cond_false, M.val_fail, reduceCtorEq] at hv
          simp only [hb, cond_true, M.val_bind, Option.bind_eq_some_iff] at hv
          obtain ⟨z, hz, q, hq, hv⟩ := hv
          cases hn : nodupB (muIds q.2)
          · simp [hn] at hv
          simp only [hn, cond_true, M.val_pure, Option.some.injEq] at hv
          simp only [Bool.and_eq_true] at hb
          exact sound_buildD hR hdst (hd d hdst) (hfr (by rw [← hv]; simp) d hdst) ho hu hb.1.1.1 (Nat.le_of_ble_eq_true hb.1.1.2) (Nat.eq_of_beq_eq_true hb.1.2) (Nat.le_of_ble_eq_true hb.2) ⟨z, hz⟩ hq hn hv.symm
        · simp at hv
      · simp at hv
    | false =>
    simp only [hann, cond_false] at hv
    split at hv
    · rename_i et d hu hdst
      split at hv
      · rename_i ct hct
        cases hb : sizeB P et ct.length && Nat.blt 0 ct.length && Nat.beq len parts.toList.length && Nat.ble (len * ct.length) 16777216
        · simp only [hb, cond_false, M.val_fail, reduceCtorEq] at hv
        simp only [hb, cond_true, M.val_bind, Option.bind_eq_some_iff] at hv
        obtain ⟨z, hz, q, hq, hv⟩ := hv
        cases hn : metNodup q.2.1
        · simp [hn] at hv
        simp only [hn, cond_true, M.val_pure, Option.some.injEq] at hv
        simp only [Bool.and_eq_true] at hb
        exact sound_buildSlice hR hdst (hd d hdst) (hfr (by rw [← hv]; simp) d hdst) ho hu hb.1.1.1 (Nat.le_of_ble_eq_true hb.1.1.2) (Nat.eq_of_beq_eq_true hb.1.2) (Nat.le_of_ble_eq_true hb.2) hq ⟨z, hz⟩ hn hv.symm
      · simp at hv
    · simp at hv
  · rename_i t x ho
    simp only [M.val_bind, Option.bind_eq_some_iff] at hv
    obtain ⟨s, h1, hv⟩ := hv
    unfold loadX at hv
    split at hv
    · rename_i id i z off
      simp only [M.val_obj, Option.bind_eq_some_iff] at hv
      obtain ⟨ob, hob, hv⟩ := hv
      split at hv
      · rename_i t' ct ts rows hl
        cases hann : annB Γ o.dst with
        | false =>
          simp only [hann, cond_false] at hv
          exact sound_loadD hR hd ho h1 hob hv hok
        | true =>
          simp only [hann, cond_true] at hv
          unfold takeM at hv
          split at hv
          · rename_i e' t1 d hoff hdst
            cases hb : Nat.beq z ct.length && Nat.beq (slCount ct) 1 && !(isAggB P t) && (P.underlying t).isSome
            · simp [hb] at hv
            simp only [hb, cond_true, M.val_pure, Option.some.injEq] at hv
            simp only [Bool.and_eq_true, Bool.not_eq_true'] at hb
            obtain ⟨⟨⟨b1, b2⟩, b3⟩, b4⟩ := hb
            have b1 := Nat.eq_of_beq_eq_true b1
            subst b1
            obtain ⟨td, hu⟩ := Option.isSome_iff_exists.1 b4
            have hi : i < rows.length := by rw [← hv] at hok; simpa using hok
            exact sound_take hR hdst (hd d hdst) (hfr (by rw [← hv]; simp) d hdst) ho h1 hob hoff (Nat.eq_of_beq_eq_true b2) b3 hu hi (by rw [← hv]) (by rw [← hv]) (by rw [← hv])
          · simp at hv
      · exact sound_load hR hd ho h1 hv hok
    · exact sound_load hR hd ho h1 hv hok
  · rename_i t x y ho
    simp only [M.val_bind, Option.bind_eq_some_iff] at hv
    obtain ⟨sx, h1, sy, h2, hv⟩ := hv
    have plain : (storeM P t sx sy).val st.get st.obj = some e → Good P w0 S st o e a w := by
      clear hv
      intro hv
      unfold storeM at hv
      simp only [M.val_bind, Option.bind_eq_some_iff] at hv
      obtain ⟨svs, hcs, hv⟩ := hv
      cases hsz : sizeB P t svs.length
      · simp [hsz] at hv
      simp only [hsz, cond_true] at hv
      split at hv
      · rename_i id off
        simp only [M.val_obj, Option.bind_eq_some_iff] at hv
        obtain ⟨ob, hob, hv⟩ := hv
        split at hv
        · rename_i t' cells
          cases hfit : Nat.ble (off + svs.length) cells.length
          · simp [hfit] at hv
          simp only [hfit, cond_true, M.val_pure, Option.some.injEq] at hv
          exact sound_store_box hR hd ho h1 h2 hcs hsz hob (Nat.le_of_ble_eq_true hfit) hv.symm
        · simp at hv
      · rename_i id i z off
        simp only [M.val_obj, Option.bind_eq_some_iff] at hv
        obtain ⟨ob, hob, hv⟩ := hv
        split at hv
        · rename_i t' ct rows fz u
          cases hfit : Nat.beq z ct.length && Nat.ble (off + svs.length) ct.length
          · simp [hfit] at hv
          simp only [hfit, cond_true, M.val_bind, Option.bind_eq_some_iff] at hv
          obtain ⟨r, hr, hv⟩ := hv
          cases hm : metNot id r.2.1 && metNodup r.2.1
          · simp [hm] at hv
          simp only [hm, cond_true, M.val_pure, Option.some.injEq] at hv
          simp only [Bool.and_eq_true] at hfit hm
          have hz := Nat.eq_of_beq_eq_true hfit.1
          subst hz
          have hi : i < rows.length := by rw [← hv] at hok; simpa using hok
          exact sound_store_row hR hd ho h1 h2 hcs hsz hob (Nat.le_of_ble_eq_true hfit.2) hr hm.1 hm.2 hi (by rw [← hv]) (by rw [← hv]) (by rw [← hv])
        · simp at hv
      · simp at hv
    unfold storeX at hv
    split at hv
    · rename_i id i z off
      simp only [M.val_obj, Option.bind_eq_some_iff] at hv
      obtain ⟨ob, hob, hv⟩ := hv
      split at hv
      · rename_i t' ct ts rows hl
        unfold storeD at hv
        simp only [M.val_bind, Option.bind_eq_some_iff] at hv
        obtain ⟨svs, hcs, hv⟩ := hv
        cases hsz : sizeB P t svs.length && Nat.beq z ct.length && Nat.ble (off + svs.length) ct.length
        · simp [hsz] at hv
        simp only [hsz, cond_true] at hv
        simp only [Bool.and_eq_true] at hsz
        obtain ⟨⟨s1, s2⟩, s3⟩ := hsz
        have s2 := Nat.eq_of_beq_eq_true s2
        subst s2
        have s3 := Nat.le_of_ble_eq_true s3
        cases hf : flatB ((ct.drop off).take svs.length) with
        | true =>
          simp only [hf, cond_true, M.val_bind, Option.bind_eq_some_iff] at hv
          obtain ⟨r, hr, hv⟩ := hv
          cases hm : r.2.1.isEmpty
          · simp [hm] at hv
          simp only [hm, cond_true, M.val_pure, Option.some.injEq] at hv
          have hi : i < rows.length := by rw [← hv] at hok; simpa using hok
          exact sound_storeF hR hd ho h1 h2 hcs s1 hob s3 hf hr hi (by rw [← hv]) (by rw [← hv]) (by rw [← hv])
        | false =>
          simp only [hf, cond_false] at hv
          cases hcn : Nat.beq (slCount ((ct.drop off).take svs.length)) (slCount ct)
          · simp [hcn] at hv
          simp only [hcn, cond_true, M.val_bind, Option.bind_eq_some_iff] at hv
          obtain ⟨r, hr, hv⟩ := hv
          cases hm : nodupB (id :: muIds r.2)
          · simp [hm] at hv
          simp only [hm, cond_true, M.val_pure, Option.some.injEq] at hv
          have hi : i < rows.length ∧ holeOk hl i = true := by rw [← hv] at hok; simpa using hok
          exact sound_storeA hR hd ho h1 h2 hcs s1 hob s3 (Nat.eq_of_beq_eq_true hcn) hr hm hi.1 hi.2 (by rw [← hv]) (by rw [← hv]) (by rw [← hv])
      · exact plain hv
    · exact plain hv
  · rename_i x ho
    simp only [M.val_bind, Option.bind_eq_some_iff] at hv
    obtain ⟨s, h1, hv⟩ := hv
    exact sound_nilCheck hR hd ho h1 hv
  · rename_i op t x y t' ho
    simp only [M.val_bind, Option.bind_eq_some_iff] at hv
    obtain ⟨sx, h1, sy, h2, hv⟩ := hv
    exact sound_bin hR hd ho h1 h2 hv hok
  · rename_i op t x ho
    simp only [M.val_bind, Option.bind_eq_some_iff] at hv
    obtain ⟨sx, h1, hv⟩ := hv
    exact sound_un hR hd ho h1 hv
  · rename_i s t x ho
    simp only [M.val_bind, Option.bind_eq_some_iff] at hv
    obtain ⟨sx, h1, hv⟩ := hv
    exact sound_conv hR hd hfr ho h1 hv
  · rename_i t l c ho
    simp only [M.val_bind, Option.bind_eq_some_iff] at hv
    obtain ⟨sl, h1, sc, h2, hv⟩ := hv
    cases hann : annB Γ o.dst with
    | true =>
      simp only [hann, cond_true] at hv
      unfold makeD at hv
      split at hv
      · rename_i et n m d hu hdst
        split at hv
        · rename_i ct ts i hct hts hi
          cases hb : Nat.beq i.size ct.length && Nat.blt 0 ct.length
          · simp [hb] at hv
          simp only [hb, cond_true, M.val_bind, Option.bind_eq_some_iff] at hv
          obtain ⟨z, hz, r, hr, hv⟩ := hv
          cases hmu : (muIds r.2).isEmpty
          · simp [hmu] at hv
          simp only [hmu, cond_true, M.val_pure, Option.some.injEq] at hv
          simp only [Bool.and_eq_true] at hb
          exact sound_makeD hR hdst (hd d hdst) (hfr (by rw [← hv]; simp) d hdst) ho h1 h2 hu hi (Nat.eq_of_beq_eq_true hb.1) hz hr (by simpa using hmu) hv.symm hok
        · simp at hv
      · simp at hv
    | false =>
    simp only [hann, cond_false] at hv
    unfold makeM at hv
    split at hv
    · rename_i et n m d hu hdst
      split at hv
      · rename_i ct i hct hi
        cases hb : Nat.beq i.size ct.length && Nat.blt 0 ct.length
        · simp [hb] at hv
        simp only [hb, cond_true, M.val_bind, Option.bind_eq_some_iff, M.val_pure, Option.some.injEq] at hv
        obtain ⟨z, hz, r, hr, hv⟩ := hv
        simp only [Bool.and_eq_true] at hb
        exact sound_make hR hdst (hd d hdst) (hfr (by rw [← hv]; simp) d hdst) ho h1 h2 hu hi (Nat.eq_of_beq_eq_true hb.1) hz hr hv.symm hok
      · simp at hv
    · simp at hv
  · rename_i t x lo hi mx ho
    split at hv
    · simp only [M.val_bind, Option.bind_eq_some_iff] at hv
      obtain ⟨sx, h1, sl, h2, sh, h3, hv⟩ := hv
      cases hann : annB Γ o.dst
      · simp only [hann, cond_false] at hv
        exact sound_slice hR hd ho h1 h2 h3 hv hok
      · simp only [hann, cond_true] at hv
        exact sound_sliceO hR hd ho h1 h2 h3 hv hok
    · simp at hv
  · rename_i t x f ho
    split at hv
    · rename_i fs hu
      split at hv
      · rename_i fd hf
        cases hz : sizeB P fd.type 0
        · simp only [hz, cond_false] at hv
          split at hv
          · simp at hv
          · rename_i i hi
            simp only [M.val_bind, Option.bind_eq_some_iff] at hv
            obtain ⟨s, h1, hv⟩ := hv
            exact sound_fieldAddr hR hd ho hu hf hz hi h1 hv
        · simp [hz] at hv
      · simp at hv
    · simp at hv
  · rename_i t x i ho
    simp only [M.val_bind, Option.bind_eq_some_iff] at hv
    obtain ⟨sx, h1, si, h2, hv⟩ := hv
    exact sound_indexAddrX hR hd ho h1 h2 hv hok
  · rename_i t x i ho
    simp only [M.val_bind, Option.bind_eq_some_iff] at hv
    obtain ⟨sx, h1, si, h2, hv⟩ := hv
    exact sound_index hR hd ho h1 h2 hv hok
  · rename_i x i ho
    simp only [M.val_bind, Option.bind_eq_some_iff] at hv
    obtain ⟨sx, h1, hv⟩ := hv
    split at hv
    · rename_i vs
      split at hv
      · rename_i v hvi
        simp only [M.val_pure, Option.some.injEq] at hv
        exact sound_extract hR hd ho h1 hvi hv.symm
      · simp at hv
    · simp at hv
  · rename_i fn first captured ho
    split at hv
    · rename_i g hfirst
      simp only [M.val_bind, Option.bind_eq_some_iff, M.val_pure, Option.some.injEq] at hv
      obtain ⟨cs, hcs, hv⟩ := hv
      exact sound_makeFunc hR hd ho hfirst hcs hv.symm
    · simp at hv
  · rename_i c ho
    split at hv
    · rename_i g hg
      simp only [M.val_bind, Option.bind_eq_some_iff] at hv
      obtain ⟨l, hl, hv⟩ := hv
      cases hlk : lkS Γ g with
      | none =>
        unfold callM at hv
        rw [hlk] at hv
        simp at hv
      | some s =>
        cases hann : s.ann with
        | true =>
          unfold callM at hv
          rw [hlk] at hv
          simp only [hann, cond_true] at hv
          simp at hv
        | false =>
        cases hp : s.pt with
        | some q =>
          obtain ⟨t, cts⟩ := q
          cases hdst : o.dst with
          | none =>
            unfold callM at hv
            rw [hlk, hdst] at hv
            simp only [hann, cond_false, hp] at hv
            simp at hv
          | some d =>
            rw [hdst] at hv
            exact sound_callP hΓ hlk hann hp hR hdst (hd d hdst) (fun h => hfr h d hdst) ho hg hl hv hok
        | none =>
        cases hm : s.ms with
        | nil =>
          cases hdst : o.dst with
          | none =>
            unfold callM at hv
            rw [hlk, hdst] at hv
            simp only [hann, cond_false, hp, hm] at hv
            simp at hv
          | some d =>
            rw [hdst] at hv
            exact sound_call hΓ hlk hann hp hm hR hdst (hd d hdst) (fun h => hfr h d hdst) ho hg hl hv hok
        | cons m ms =>
          have hv' : (callMM s o.dst l).val st.get st.obj = some e := by
            unfold callM at hv
            rw [hlk] at hv
            simp only [hann, cond_false, hp, hm] at hv
            exact hv
          refine sound_callM hΓ hlk hann hp (by rw [hm]; simp) hR hd (fun d hdst h => hfr h d hdst) (us := c.args.toList.map a.eval) (fun fn hf hb hn => ?_) (fun β φ hc => evMs_ok hc _ l hl) hv' hok
          have hvals : c.args.map a.eval = (c.args.toList.map a.eval).toArray := by rw [← Array.toList_map, Array.toArray_toList]
          rw [← hvals]
          exact run_call ho hg hf hb hn
    · rename_i k hg
      simp only [M.val_bind, Option.bind_eq_some_iff] at hv
      obtain ⟨s, hk, hv⟩ := hv
      split at hv
      · rename_i g cs
        simp only [M.val_bind, Option.bind_eq_some_iff] at hv
        obtain ⟨l, hl, hv⟩ := hv
        unfold callC at hv
        split at hv
        · rename_i s hlk
          cases hann : s.ann with
          | true => simp [hann] at hv
          | false =>
            simp only [hann, cond_false] at hv
            split at hv
            · rename_i m ms hp hm
              exact sound_clo hΓ hlk hann hp (by rw [hm]; simp) hR hd (fun d hdst h => hfr h d hdst) ho hg hk hl hv hok
            · simp at hv
        · simp at hv
      · simp at hv
    · rename_i hb
      split at hv
      · rename_i x t hx ht
        simp only [M.val_bind, Option.bind_eq_some_iff] at hv
        obtain ⟨s, h1, hv⟩ := hv
        exact sound_lenX hR hd ho hb (toList_one hx) (toList_one ht) h1 hv
      · simp at hv
    · rename_i hb
      split at hv
      · rename_i x y hx
        simp only [M.val_bind, Option.bind_eq_some_iff] at hv
        obtain ⟨s, h1, s2, h2, hv⟩ := hv
        exact sound_minmax (mx := false) hR hd ho hb (toList_two hx) h1 h2 hv
      · simp at hv
    · rename_i hb
      split at hv
      · rename_i x y hx
        simp only [M.val_bind, Option.bind_eq_some_iff] at hv
        obtain ⟨s, h1, s2, h2, hv⟩ := hv
        exact sound_minmax (mx := true) hR hd ho hb (toList_two hx) h1 h2 hv
      · simp at hv
    · rename_i hb
      split at hv
      · rename_i s x t t' hx ht
        cases htt : Nat.beq t t'
        · simp [htt] at hv
        simp only [htt, cond_true] at hv
        have htt' := Nat.eq_of_beq_eq_true htt
        subst htt'
        simp only [M.val_bind, Option.bind_eq_some_iff] at hv
        obtain ⟨ss, h1, sx, h2, hv⟩ := hv
        cases hann : annB Γ o.dst with
        | true =>
          simp only [hann, cond_true] at hv
          unfold appendD at hv
          split at hv
          · rename_i et d hu hdst
            split at hv
            · rename_i ct ts hct hts
              cases hz1 : sizeB P et ct.length && Nat.blt 0 ct.length
              · simp [hz1] at hv
              simp only [hz1, cond_true, M.val_bind, Option.bind_eq_some_iff] at hv
              obtain ⟨z, hz, hv⟩ := hv
              cases hzl : Nat.beq z.length ct.length
              · simp [hzl] at hv
              simp only [hzl, cond_true, M.val_bind, Option.bind_eq_some_iff] at hv
              obtain ⟨p, hqp, q, hqq, hv⟩ := hv
              cases hn : nodupB (p.2 ++ q.2)
              · simp [hn] at hv
              simp only [hn, cond_true, M.val_pure, Option.some.injEq] at hv
              simp only [Bool.and_eq_true] at hz1
              have hroom : roomB P et (p.1.length + q.1.length) = true := by rw [← hv] at hok; exact hok
              exact sound_appendD hR hdst (hd d hdst) (hfr (by rw [← hv]; simp) d hdst) ho hb (toList_two hx) (toList_two ht) h1 h2 hu hz1.1 (Nat.le_of_ble_eq_true hz1.2) hz (Nat.eq_of_beq_eq_true hzl) hqp hqq hn hroom (by rw [← hv]) (by rw [← hv]) (by rw [← hv])
            · simp at hv
          · simp at hv
        | false =>
        simp only [hann, cond_false] at hv
        unfold appendM at hv
        split at hv
        · rename_i et d hu hdst
          split at hv
          · rename_i ct hct
            cases hz1 : sizeB P et ct.length && Nat.blt 0 ct.length
            · simp [hz1] at hv
            simp only [hz1, cond_true, M.val_bind, Option.bind_eq_some_iff] at hv
            obtain ⟨z, hz, hv⟩ := hv
            cases hzl : Nat.beq z.length ct.length
            · simp [hzl] at hv
            simp only [hzl, cond_true] at hv
            have hzl' := Nat.eq_of_beq_eq_true hzl
            simp only [Bool.and_eq_true] at hz1
            have hpos : 0 < ct.length := Nat.le_of_ble_eq_true hz1.2
            split at hv
            · simp only [M.val_bind, Option.bind_eq_some_iff, M.val_pure, Option.some.injEq] at hv
              obtain ⟨q, hq, hv⟩ := hv
              have hroom : roomB P et q.1.length = true := by rw [← hv] at hok; exact hok
              exact sound_append_nil hR hdst (hd d hdst) (hfr (by rw [← hv]; simp) d hdst) ho hb (toList_two hx) (toList_two ht) h1 h2 hu hz1.1 hpos hz hzl' hq hroom (by rw [← hv]) (by rw [← hv]) (by rw [← hv])
            · rename_i id
              simp only [M.val_obj, Option.bind_eq_some_iff] at hv
              obtain ⟨ob, hob, hv⟩ := hv
              split at hv
              · rename_i t' e' r u
                cases he : Nat.beq t' et && ctsBeq e' ct
                · simp [he] at hv
                simp only [he, cond_true, M.val_bind, Option.bind_eq_some_iff] at hv
                obtain ⟨q, hq, hv⟩ := hv
                cases hn : metNot id q.2.1
                · simp [hn] at hv
                simp only [hn, cond_true, M.val_pure, Option.some.injEq] at hv
                simp only [Bool.and_eq_true] at he
                have e1 := Nat.eq_of_beq_eq_true he.1
                have e2 := ctsBeq_eq _ _ he.2
                subst e1 e2
                have hroom : roomB P t' (r.length + q.1.length) = true := by rw [← hv] at hok; exact hok
                exact sound_append_own hR hdst (hd d hdst) (hfr (by rw [← hv]; simp) d hdst) ho hb (toList_two hx) (toList_two ht) h1 h2 hob hu hz1.1 hpos hz hzl' hq hn hroom (by rw [← hv]) (by rw [← hv]) (by rw [← hv])
              · simp at hv
            · rename_i id lo z0
              simp only [M.val_obj, Option.bind_eq_some_iff] at hv
              obtain ⟨ob, hob, hv⟩ := hv
              split at hv
              · rename_i t' e' r u
                cases he : Nat.beq t' et && ctsBeq e' ct && Nat.beq z0 ct.length && flatB ct
                · simp [he] at hv
                simp only [he, cond_true, M.val_bind, Option.bind_eq_some_iff] at hv
                obtain ⟨q, hq, hv⟩ := hv
                cases hn : metNot id q.2.1
                · simp [hn] at hv
                simp only [hn, cond_true, M.val_pure, Option.some.injEq] at hv
                simp only [Bool.and_eq_true] at he
                have e1 := Nat.eq_of_beq_eq_true he.1.1.1
                have e2 := ctsBeq_eq _ _ he.1.1.2
                have e3 := Nat.eq_of_beq_eq_true he.1.2
                subst e1 e2 e3
                have hroom : roomB P t' ((r.drop lo).length + q.1.length) = true ∧ lo ≤ r.length := by
                  rw [← hv] at hok
                  simp only [Bool.and_eq_true, decide_eq_true_eq] at hok
                  exact hok
                exact sound_appendO hR hd ho hb (toList_two hx) (toList_two ht) h1 h2 hob hu he.2 hz1.1 hpos hz hzl' hq hn hroom.2 hroom.1 (by rw [← hv]) (by rw [← hv]) (by rw [← hv])
              · simp at hv
            · simp at hv
          · simp at hv
        · simp at hv
      · simp at hv
    · rename_i hb
      split at hv
      · rename_i s x t t' hx ht
        simp only [M.val_bind, Option.bind_eq_some_iff] at hv
        obtain ⟨ss, h1, sx, h2, hv⟩ := hv
        exact sound_copy hR hd ho hb (toList_two hx) (toList_two ht) h1 h2 hv hok
      · simp at hv
    · simp at hv
  · simp at hv

end Go.Proofs.YthpmalpdnnbkgaaGreat.Vm

/- The value machine: what a run leaves alone; ways that meet. Conditions: as each lemma says. -/
namespace Go.Proofs.YthpmalpdnnbkgaaGreat.Vm

/-- What a piece of a run has not touched is as it was. -/
structure Tr (st st' : St) : Prop where
  n : st'.n = st.n
  ok : st.ok = true
  get : ∀ i, i ∉ st'.ls → st'.get i = st.get i
  ls : ∀ i ∈ st.ls, i ∈ st'.ls
  obj : ∀ id o, st.obj id = some o → id ∉ st'.lm → st'.obj id = some o
  lm : ∀ i ∈ st.lm, i ∈ st'.lm

theorem Tr.refl {st : St} (h : st.ok = true) : Tr st st := ⟨rfl, h, fun _ _ => rfl, fun _ h => h, fun _ _ h _ => h, fun _ h => h⟩

theorem Tr.trans {a b c : St} (h : Tr a b) (k : Tr b c) : Tr a c :=
  ⟨k.n.trans h.n, h.ok, fun i hi => (k.get i hi).trans (h.get i (fun h' => hi (k.ls i h'))), fun i hi => k.ls i (h.ls i hi),
    fun id o ho hi => k.obj id o (h.obj id o ho (fun h' => hi (k.lm id h'))) hi, fun i hi => k.lm i (h.lm i hi)⟩

theorem fo_other {ow : List (Nat × Option VObj)} {h : Nat → Option VObj} {j : Nat} (hj : j ∉ ow.map (·.1)) : fo ow h j = h j := by
  induction ow with
  | nil => rfl
  | cons x l ih =>
    obtain ⟨i, ob⟩ := x
    simp only [List.map_cons, List.mem_cons, not_or] at hj
    simp only [fo, upd, hj.1, if_false]
    exact ih hj.2

theorem tr_apply {st : St} {d : Option Nat} {e : Eff} (hok : (st.apply d e).ok = true) : Tr st (st.apply d e) := by
  have hok' : st.ok = true := by
    simp only [St.apply, andt_eq] at hok
    exact hok.1.1
  refine ⟨rfl, hok', fun i hi => ?_, fun i hi => ?_, fun id o ho hi => ?_, fun i hi => ?_⟩
  · cases d with
    | none => rfl
    | some d =>
      have hi' : i ≠ d := fun h => hi (by simp [St.apply, h])
      rw [apply_get]
      simp [upd, hi']
  · cases d <;> simp [St.apply, hi]
  · rw [apply_obj]
    simp only [St.apply, List.mem_append, not_or] at hi
    rw [fo_other hi.2.1]
    cases hcw : e.cw with
    | none => exact ho
    | some x =>
      obtain ⟨k, off, svs⟩ := x
      simp only [hcw, List.mem_singleton] at hi
      rw [← ho]
      simp only [fc]
      cases st.obj k with
      | none => rfl
      | some b => cases b <;> simp [upd, hi.1]
  · simp only [St.apply, List.mem_append]
    exact .inr (.inr hi)

theorem fail_ok {st : St} : st.fail.ok = false := rfl

theorem tr_doOp {P : Program} {Γ : Ctx} {st : St} {o : Oper} (hok : (st.doOp P Γ o).ok = true) : Tr st (st.doOp P Γ o) := by
  unfold St.doOp at hok ⊢
  split
  · rename_i e r hr
    simp only [hr] at hok
    cases hf : freshOk o.dst e st
    · simp [hf, fail_ok] at hok
    · simp only [hf, cond_true] at hok ⊢
      exact tr_apply hok
  · rename_i hr
    simp [hr, fail_ok] at hok

theorem know_get (st : St) (s : Nat) (b : Bool) : (st.know s b).get = upd st.get s (.kb b) := by
  funext i
  show lkV ((s, .kb b) :: st.sl) i = _
  simp only [lkV, upd, St.get]
  cases hk : Nat.beq s i
  · have e2 := Nat.ne_of_beq_eq_false hk
    rw [if_neg (fun h => e2 h.symm)]
    rfl
  · simp [(Nat.eq_of_beq_eq_true hk).symm]

theorem tr_know {st : St} {s : Nat} {b : Bool} (hok : st.ok = true) : Tr st (st.know s b) := by
  refine ⟨rfl, hok, fun i hi => ?_, fun i hi => by simp [St.know, hi], fun _ _ h _ => h, fun _ h => h⟩
  rw [know_get]
  have : i ≠ s := fun h => hi (by simp [St.know, h])
  simp [upd, this]

theorem memN_iff {i : Nat} {l : List Nat} : memN i l = true ↔ i ∈ l := by
  induction l with
  | nil => simp [memN]
  | cons k l ih =>
    simp only [memN, Bool.or_eq_true, List.mem_cons, ih]
    constructor
    · rintro (h | h)
      · exact .inl (Nat.eq_of_beq_eq_true h).symm
      · exact .inr h
    · rintro (rfl | h)
      · exact .inl (Nat.beq_refl i)
      · exact .inr h

theorem mem_dedup {i : Nat} {l : List Nat} : i ∈ dedup l ↔ i ∈ l := by
  induction l with
  | nil => simp [dedup]
  | cons k l ih =>
    simp only [dedup]
    cases hm : memN k l
    · simp [ih]
    · simp only [cond_true, List.mem_cons, ih]
      constructor
      · exact .inr
      · rintro (rfl | h)
        · exact memN_iff.1 hm
        · exact h

theorem lkV_mergeSl {g : Bool} {f h : Nat → SV} {l : List (Nat × SV)} : ∀ (r : List Nat) (i : Nat), lkV (mergeSl g f h r l) i = if i ∈ r then mergeSV g (f i) (h i) else lkV l i
  | [], i => by simp [mergeSl]
  | k :: r, i => by
    simp only [mergeSl, lkV]
    cases hk : Nat.beq k i
    · have e2 := Nat.ne_of_beq_eq_false hk
      simp only [cond_false, lkV_mergeSl r i, List.mem_cons]
      by_cases hi : i ∈ r
      · simp [hi]
      · rw [if_neg hi, if_neg (fun h => h.elim (fun h => e2 h.symm) hi)]
    · have e1 := Nat.eq_of_beq_eq_true hk
      subst e1
      simp

theorem untouched_not {hp : List (Nat × VObj)} {l : List Nat} (h : untouched hp l = true) : ∀ i o, lkO hp i = some o → i ∉ l := by
  induction l with
  | nil => simp
  | cons k l ih =>
    simp only [untouched, Bool.and_eq_true] at h
    intro i o ho hi
    rcases List.mem_cons.1 hi with rfl | hi
    · rw [ho] at h
      simp at h
    · exact ih h.2 i o ho hi

theorem mem_touched {hp : List (Nat × VObj)} : ∀ {l : List Nat} {i : Nat}, i ∈ touchedIds hp l ↔ i ∈ l ∧ ∃ o, lkO hp i = some o
  | [], i => by simp [touchedIds]
  | k :: l, i => by
    simp only [touchedIds]
    cases hk : lkO hp k with
    | none =>
      simp only [mem_touched (l := l), List.mem_cons]
      constructor
      · rintro ⟨h1, h2⟩
        exact ⟨.inr h1, h2⟩
      · rintro ⟨rfl | h1, h2⟩
        · rw [hk] at h2; obtain ⟨o, h2⟩ := h2; cases h2
        · exact ⟨h1, h2⟩
    | some o =>
      simp only [List.mem_cons, mem_touched (l := l)]
      constructor
      · rintro (rfl | ⟨h1, h2⟩)
        · exact ⟨.inl rfl, o, hk⟩
        · exact ⟨.inr h1, h2⟩
      · rintro ⟨rfl | h1, h2⟩
        · exact .inl rfl
        · exact .inr ⟨h1, h2⟩

theorem fo_mergeOw {g : Bool} {f k h : Nat → Option VObj} : ∀ (l : List Nat) (i : Nat), fo (mergeOw g f k l) h i = if i ∈ l then mergeO g (f i) (k i) else h i
  | [], i => by simp [mergeOw, fo]
  | j :: l, i => by
    simp only [mergeOw, fo, upd, List.mem_cons]
    by_cases hi : i = j
    · subst hi; simp
    · simp only [hi, if_false, false_or]
      exact fo_mergeOw l i

theorem merge_obj (pre : St) (g : Bool) (a b : St) (i : Nat) : (merge pre g a b).obj i = if i ∈ touchedIds pre.hp (dedup (a.lm ++ b.lm)) then mergeO g (a.obj i) (b.obj i) else pre.obj i := by
  show lkO (putO _ pre.hp) i = _
  rw [lkO_putO, fo_mergeOw]
  rfl

theorem tr_merge {pre a b : St} {g : Bool} (hp : pre.ok = true) (_hok : (merge pre g a b).ok = true) : Tr pre (merge pre g a b) := by
  refine ⟨rfl, hp, fun i hi => ?_, fun i hi => List.mem_append_right _ hi, fun i o h hi => ?_, fun i h => List.mem_append_right _ h⟩
  · have hi : i ∉ dedup (a.ls ++ b.ls) ∧ i ∉ pre.ls := by simpa only [merge, List.mem_append, not_or] using hi
    show lkV (mergeSl g a.get b.get (dedup (a.ls ++ b.ls)) pre.sl) i = lkV pre.sl i
    rw [lkV_mergeSl, if_neg hi.1]
  · have hi : i ∉ touchedIds pre.hp (dedup (a.lm ++ b.lm)) := fun h' => hi (List.mem_append_left _ h')
    rw [merge_obj, if_neg hi]
    exact h

/-- A smaller set of objects; slots and boxes that say less. -/
theorem Core.sub {w0 : World} {S : Own} {f f' : Nat → SV} {h h' : Nat → Option VObj} {β : Env} {φ : Nat → List Nat} {tm : Array Value} {w : World} (hc : Core w0 S f h β φ tm w)
    (hh : ∀ j o, h' j = some o → h j = some o ∨ ∃ t cs cs', o = .box t cs' ∧ h j = some (.box t cs) ∧ ∀ vs, SVRL w (Av h' β) β cs vs → SVRL w (Av h' β) β cs' vs)
    (hf : ∀ i v, SVR w (Av h' β) β (f i) v → SVR w (Av h' β) β (f' i) v) : Core w0 S f' h' β φ tm w := by
  have hsome : ∀ j o, h' j = some o → ∃ o', h j = some o' ∧ tops β j o = tops β j o' := by
    intro j o ho
    rcases hh j o ho with h1 | ⟨t, cs, cs', rfl, h1, _⟩
    · exact ⟨o, h1, rfl⟩
    · exact ⟨_, h1, rfl⟩
  have hav : ∀ b, Av h' β b → Av h β b := fun b hb => hb.imp (fun ⟨j, o, hj, hb⟩ => by
    obtain ⟨o', h1, h2⟩ := hsome j o hj
    exact ⟨j, o', h1, h2 ▸ hb⟩) id
  have hm := hc.step (h' := h') (β' := β) (φ' := φ) (w' := w) (fun _ => False) (Nat.le_refl _) (fun _ _ _ => rfl) (fun b hb => .inl (hav b hb)) (fun _ _ _ h => h) (fun _ _ => ⟨rfl, rfl⟩)
    (fun id o ho => by
      rcases hh id o ho with h1 | ⟨t, cs, cs', rfl, h1, h2⟩
      · exact .inl ⟨fun h => h, h1, rfl, fun _ _ h => h, fun _ _ => rfl⟩
      · refine .inr ⟨?_, hc.fresh id _ h1⟩
        have h3 := (hc.objs id _ h1).mono (w' := w) (av' := Av h' β) (β' := β) (Nat.le_refl _) (fun _ _ _ => rfl) (fun b hb => .inl (hav b hb)) (fun _ _ => ⟨rfl, rfl⟩) (fun _ _ => rfl) rfl
        obtain ⟨vs, e1, e2, e3, e4⟩ := h3
        exact ⟨vs, e1, h2 vs e2, e3, e4⟩)
    (fun i j o p hne hi hj b hb => by
      obtain ⟨o', h1, _⟩ := hsome i o hi
      obtain ⟨p', h2, _⟩ := hsome j p hj
      exact hc.sep i j o' p' hne h1 h2 b hb)
  exact ⟨fun i => hf i _ (hm.slots i), hm.objs, hm.fresh, hm.sep, hm.bar, hm.bars⟩

theorem mergeO_ok {w : World} {av : Nat → Prop} {β : Env} {g : Bool} {x y : Option VObj} {o : VObj} (h : mergeO g x y = some o) :
    (bif g then x else y) = some o ∨ ∃ t cs cs', o = .box t cs' ∧ (bif g then x else y) = some (.box t cs) ∧ ∀ vs, SVRL w av β cs vs → SVRL w av β cs' vs := by
  unfold mergeO at h
  split at h
  · rename_i t cs t' cs'
    cases hc : Nat.beq t t' && Nat.beq cs.length cs'.length
    · simp [hc] at h
    · simp only [hc, cond_true, Option.some.injEq] at h
      simp only [Bool.and_eq_true] at hc
      have ht := Nat.eq_of_beq_eq_true hc.1
      have hl := Nat.eq_of_beq_eq_true hc.2
      subst ht h
      refine .inr ⟨t, bif g then cs else cs', _, rfl, by cases g <;> rfl, fun vs hv => SVRL.merge g cs cs' vs hl hv⟩
  · rename_i t e r fz u t' e' r' fz' u'
    cases hc : Nat.beq t t' && ctsBeq e e' && (fz == fz') && (u == u')
    · simp [hc] at h
    · simp only [hc, cond_true, Option.some.injEq] at h
      simp only [Bool.and_eq_true] at hc
      have ht := Nat.eq_of_beq_eq_true hc.1.1.1
      have he := ctsBeq_eq _ _ hc.1.1.2
      have hf : fz = fz' := by simpa using hc.1.2
      have hu : u = u' := by simpa using hc.2
      subst ht he hf hu h
      refine .inl ?_
      cases g <;> rfl
  · cases h

/-- The way that was gone, seen from where the ways meet. -/
theorem rel_merge {w0 : World} {S : Own} {pre yes no : St} {g : Bool} {a : Act} {w : World} (hy : g = true → Tr pre.reset yes ∧ Rel w0 S yes a w) (hn : g = false → Tr pre.reset no ∧ Rel w0 S no a w)
    (_hok : (merge pre g yes no).ok = true) : Rel w0 S (merge pre g yes no) a w := by
  have key : ∀ r : St, Tr pre.reset r → Rel w0 S r a w → (∀ i ∈ r.ls, i ∈ yes.ls ++ no.ls) → (∀ i ∈ r.lm, i ∈ yes.lm ++ no.lm) → (∀ i v av β, SVR w av β (r.get i) v → SVR w av β (mergeSV g (yes.get i) (no.get i)) v) →
      (∀ i, (bif g then yes.obj i else no.obj i) = r.obj i) → Rel w0 S (merge pre g yes no) a w := by
    intro r ht hr hls hlm hmg hro
    obtain ⟨β, φ, hc⟩ := hr.core
    refine ⟨hr.size.trans (congrArg (· % 1099511627776) ht.n), fun x hx => by have h1 := hr.fx x hx; rw [ht.n] at h1; exact h1, hr.defers, hr.kept, β, φ, ?_⟩
    refine hc.sub (fun j o ho => ?_) (fun i v hv => ?_)
    · rw [merge_obj] at ho
      split at ho
      · have := mergeO_ok (w := w) (av := Av (merge pre g yes no).obj β) (β := β) ho
        rw [hro j] at this
        exact this
      · rename_i hj
        refine .inl (ht.obj j o ho (fun h => hj ?_))
        exact mem_touched.2 ⟨mem_dedup.2 (hlm j h), o, ho⟩
    · show SVR w _ β (lkV (mergeSl g yes.get no.get (dedup (yes.ls ++ no.ls)) pre.sl) i) v
      rw [lkV_mergeSl]
      split
      · exact hmg i v _ β hv
      · rename_i hi
        have : r.get i = pre.get i := ht.get i (fun h => hi (mem_dedup.2 (hls i h)))
        rw [this] at hv
        exact hv
  cases g with
  | true =>
    obtain ⟨ht, hr⟩ := hy rfl
    exact key yes ht hr (fun i hi => List.mem_append_left _ hi) (fun i hi => List.mem_append_left _ hi) (fun i v av β hv => SVR.merge true _ _ _ hv) (fun _ => rfl)
  | false =>
    obtain ⟨ht, hr⟩ := hn rfl
    exact key no ht hr (fun i hi => List.mem_append_right _ hi) (fun i hi => List.mem_append_right _ hi) (fun i v av β hv => SVR.merge false _ _ _ hv) (fun _ => rfl)

theorem Rel.reset {w0 : World} {S : Own} {st : St} {a : Act} {w : World} (h : Rel w0 S st a w) : Rel w0 S st.reset a w := ⟨h.size, h.fx, h.defers, h.kept, h.core⟩

theorem Rel.know {w0 : World} {S : Own} {st : St} {a : Act} {w : World} (h : Rel w0 S st a w) {s : Nat} {b : Bool} (hs : a.tmps.getD s undef = .bool b) : Rel w0 S (st.know s b) a w := by
  obtain ⟨β, φ, hc⟩ := h.core
  refine ⟨h.size, h.fx, h.defers, h.kept, β, φ, ?_⟩
  rw [know_get]
  exact ⟨fun i => by
    by_cases hi : i = s
    · subst hi
      simp only [upd, if_true, SVR]
      exact hs
    · have := hc.slots i
      show SVR w (Av st.obj β) β _ _
      simpa only [upd, hi, if_false] using this, hc.objs, hc.fresh, hc.sep, hc.bar, hc.bars⟩

theorem Rel.slot_bool {w0 : World} {S : Own} {st : St} {a : Act} {w : World} (h : Rel w0 S st a w) {s : Nat} {g : Bool} (hs : st.get s = .bool g) : a.tmps.getD s undef = .bool g := by
  obtain ⟨β, φ, hc⟩ := h.core
  have := hc.slots s
  rw [hs] at this
  simpa only [SVR] using this

theorem tr_execOps {P : Program} {Γ : Ctx} {ops : Array Oper} {gs : List Nat} {chk : List OpLog → Bool} : ∀ (rest : List Oper) (i : Nat) (acc : List OpLog) (st : St), (execOps P Γ ops gs chk rest i acc st).ok = true →
    Tr st (execOps P Γ ops gs chk rest i acc st)
  | [], i, acc, st, h => by
    simp only [execOps] at h ⊢
    simp only [andt_eq] at h
    exact ⟨rfl, h.1, fun _ _ => rfl, fun _ h => h, fun _ _ h _ => h, fun _ h => h⟩
  | o :: rest, i, acc, st, h => by
    rw [execOps] at h ⊢
    split
    · rename_i hw; simp [hw, fail_ok] at h
    · rename_i hw
      simp only [hw] at h
      have h1 := tr_execOps rest _ _ _ h
      exact (tr_apply h1.ok).trans h1
    · rename_i hw
      simp only [hw] at h
      have plain : (execOps P Γ ops gs chk rest (i + 1) (acc ++ [logOf P Γ ops i st o]) (st.doOp P Γ o)).ok = true → Tr st (execOps P Γ ops gs chk rest (i + 1) (acc ++ [logOf P Γ ops i st o]) (st.doOp P Γ o)) := by
        intro h'
        have h1 := tr_execOps rest _ _ _ h'
        exact (tr_doOp h1.ok).trans h1
      split
      · rename_i hd
        simp only [hd] at h
        exact plain h
      · rename_i s hd
        simp only [hd] at h
        cases hm : memN s gs
        · simp only [hm, cond_false] at h ⊢
          exact plain h
        · simp only [hm, cond_true] at h ⊢
          split
          · rename_i g hg
            simp only [hg] at h
            have hok1 : (st.doOp P Γ o).ok = true := by
              have h' := h
              simp only [merge, okm_eq] at h'
              cases g with
              | true => simp only [cond_true] at h'; exact (tr_execOps rest _ _ _ h').ok
              | false => simp only [cond_false] at h'; exact (tr_execOps rest _ _ _ h').ok
            exact (tr_doOp hok1).trans (tr_merge hok1 h)
          · rename_i hg
            have h' : (execOps P Γ ops gs chk rest (i + 1) (acc ++ [logOf P Γ ops i st o]) (st.doOp P Γ o)).ok = true := by
              revert h
              split
              · rename_i g hg'; exact absurd hg' (hg g)
              · exact id
            exact plain h'

end Go.Proofs.YthpmalpdnnbkgaaGreat.Vm

/- The value machine: a region in the order of its text. Conditions: the contracts of the context hold. -/
set_option linter.unusedVariables false
set_option linter.unusedSimpArgs false
namespace Go.Proofs.YthpmalpdnnbkgaaGreat.Vm

theorem noneOf_not {ds l : List Nat} (h : noneOf ds l = true) : ∀ i ∈ l, i / 64 ∉ ds := by
  induction l with
  | nil => simp
  | cons k l ih =>
    simp only [noneOf, Bool.and_eq_true, Bool.not_eq_true'] at h
    intro i hi
    rcases List.mem_cons.1 hi with rfl | hi
    · intro hm
      rw [memN_iff.2 hm] at h
      simp at h
    · exact ih h.2 i hi

theorem lkV_mem {l : List (Nat × SV)} {i : Nat} : lkV l i = .unk ∨ ∃ x ∈ l, lkV l i = x.2 := by
  induction l with
  | nil => exact .inl rfl
  | cons y l ih =>
    obtain ⟨k, s⟩ := y
    simp only [lkV]
    cases Nat.beq k i
    · rcases ih with h | ⟨x, hx, h⟩
      · exact .inl h
      · exact .inr ⟨x, List.mem_cons_of_mem _ hx, h⟩
    · exact .inr ⟨_, List.mem_cons_self .., rfl⟩

theorem lkO_mem {l : List (Nat × VObj)} {i : Nat} {ob : VObj} (h : lkO l i = some ob) : (i, ob) ∈ l := by
  induction l with
  | nil => simp [lkO] at h
  | cons y l ih =>
    obtain ⟨k, s⟩ := y
    simp only [lkO] at h
    cases hk : Nat.beq k i
    · simp only [hk, cond_false] at h
      exact List.mem_cons_of_mem _ (ih h)
    · simp only [hk, cond_true, Option.some.injEq] at h
      rw [Nat.eq_of_beq_eq_true hk, h]
      exact List.mem_cons_self ..

theorem fresh_of {ds : List Nat} {st : St} (h : freshFor ds st = true) : ∀ d ∈ ds, FreshAt st d := by
  intro d hd
  simp only [freshFor, Bool.and_eq_true, List.all_eq_true] at h
  constructor
  · intro i j hj
    rcases lkV_mem (l := st.sl) (i := i) with h0 | ⟨x, hx, h0⟩
    · have : st.get i = .unk := h0
      rw [this] at hj
      simp [svIds] at hj
    · have : st.get i = x.2 := h0
      rw [this] at hj
      exact fun e => noneOf_not (h.1 x hx) j hj (e ▸ hd)
  · intro j ob hj
    have hm := h.2 _ (lkO_mem hj)
    refine ⟨fun e => noneOf_not hm j (List.mem_cons_self ..) (e ▸ hd), fun k hk e => noneOf_not hm k (List.mem_cons_of_mem _ hk) (e ▸ hd)⟩

section
variable {P : Program} {Γ : Ctx} {w0 : World} {S : Own} {ops : Array Oper} {gs : List Nat}

theorem doOp_eff {st : St} {o : Oper} (h : (st.doOp P Γ o).ok = true) : ∃ e s r, (evalOp P Γ o).run st.get st.obj = some (e, s, r) ∧ freshOk o.dst e st = true ∧ st.doOp P Γ o = st.apply o.dst e := by
  unfold St.doOp at h ⊢
  split at h
  · rename_i e r hr
    obtain ⟨s, r⟩ := r
    cases hf : freshOk o.dst e st
    · simp [hf, fail_ok] at h
    · exact ⟨e, s, r, hr, hf, by simp [hr, hf]⟩
  · simp [fail_ok] at h

theorem doOp_good (hΓ : CtxHolds P Γ) {st : St} {o : Oper} {a : Act} {w : World} (hR : Rel w0 S st a w) (h : (st.doOp P Γ o).ok = true) (Q : Exit → Act → World → Prop) :
    o.wp P a w (fun a' w' => ∃ v, a' = a.put o.dst v ∧ Rel w0 S (st.doOp P Γ o) a' w') Q := by
  obtain ⟨e, s, r, hr, hf, he⟩ := doOp_eff h
  rw [he] at h ⊢
  simp only [St.apply, andt_eq] at h
  refine op_sound hΓ hR (M.val_of_run _ hr) h.1.2 (fun d hd => ?_) (fun how d hd => ?_) Q
  · have := h.2
    rw [hd] at this
    exact dstB_ok this
  · unfold freshOk at hf
    rw [hd] at hf
    split at hf
    · rename_i d' _ hd'
      injection hd' with hd'
      subst hd'
      exact fresh_of hf d (List.mem_singleton.2 rfl)
    · rename_i hno
      cases hw : e.ow with
      | nil => exact absurd hw how
      | cons x l => exact (hno x l d hw rfl).elim

theorem wanted_of {st : St} {o : Oper} {a : Act} {w : World} {b : Bool} (hR : Rel w0 S st a w) (h : wantB ops st o = some b) : Region.wanted o (yielded ops a.tmps) = b := by
  obtain ⟨β, φ, hc⟩ := hR.core
  unfold wantB at h
  unfold Region.wanted
  split at h
  · rename_i hg
    simp only [hg]
    simpa using h
  · rename_i j want hg
    simp only [hg]
    split at h
    · cases h
    · rename_i s hs
      have hsl := hc.slots s
      split at h
      · rename_i b' hb'
        rw [hb'] at hsl
        simp only [SVR] at hsl
        have : a.tmps[s]? = some (.bool b') := by
          rw [Array.getD_eq_getD_getElem?] at hsl
          cases hq : a.tmps[s]? with
          | none => rw [hq] at hsl; simp [undef] at hsl
          | some v => rw [hq] at hsl; simpa using hsl
        simp only [yielded, hs, Option.bind_some, this]
        have h := Option.some.inj h
        rw [← h]
        rfl
      · rename_i hb'
        rw [hb'] at hsl
        simp only [SVR] at hsl
        have : ∀ c, a.tmps[s]? ≠ some (.bool c) := by
          intro c hq
          rw [Array.getD_eq_getD_getElem?, hq] at hsl
          simp [undef] at hsl
        have hy : yielded ops a.tmps j = none := by
          unfold yielded
          rw [hs]
          simp only [Option.bind_some]
        rw [hy]
        have h := Option.some.inj h
        rw [← h]
        rfl
      · cases h

theorem skip_rel {st : St} {o : Oper} {a : Act} {w : World} (hR : Rel w0 S st a w) (h : (st.skip o.dst).ok = true) : Rel w0 S (st.skip o.dst) (a.put o.dst undef) w := by
  obtain ⟨β, φ, hc⟩ := hR.core
  refine rel_put hR (fun d hd => ?_) hR.kept ⟨β, φ, hc, by simp [SVR]⟩
  simp only [St.skip, St.apply, andt_eq] at h
  have := h.2
  rw [hd] at this
  exact dstB_ok this

theorem Rel.okIrr {st : St} {a : Act} {w : World} (hR : Rel w0 S st a w) (b : Bool) : Rel w0 S { st with ok := b } a w := ⟨hR.size, hR.fx, hR.defers, hR.kept, hR.core⟩

theorem merge_ok_split {pre a b : St} {g : Bool} (h : (merge pre g a b).ok = true) : (g = true → a.ok = true) ∧ (g = false → b.ok = true) := by
  simp only [merge, okm_eq] at h
  cases g
  · exact ⟨by simp, fun _ => h⟩
  · exact ⟨fun _ => h, by simp⟩

theorem execOps_seq (hΓ : CtxHolds P Γ) {chk : List OpLog → Bool} {Q : Exit → Act → World → Prop} : ∀ (rest : List Oper) (i : Nat) (acc : List OpLog) (st : St) (a : Act) (w : World), Rel w0 S st a w →
    (execOps P Γ ops gs chk rest i acc st).ok = true → (∀ a' w', Rel w0 S (execOps P Γ ops gs chk rest i acc st) a' w' → Q .normal a' w') → wpList P ops Q rest a w
  | [], i, acc, st, a, w, hR, hok, hQ => by
    simp only [execOps] at hQ
    exact hQ a w (hR.okIrr _)
  | o :: rest, i, acc, st, a, w, hR, hok, hQ => by
    rw [execOps] at hok hQ
    cases hw : wantB ops st o with
    | none => simp [hw, fail_ok] at hok
    | some b =>
      simp only [hw] at hok hQ
      have hwant := wanted_of hR hw
      unfold wpList
      cases b with
      | false =>
        rw [if_neg (by rw [hwant]; simp)]
        simp only at hok hQ
        exact execOps_seq hΓ rest _ _ _ _ w (skip_rel hR (tr_execOps rest _ _ _ hok).ok) hok hQ
      | true =>
        rw [if_pos hwant]
        simp only at hok hQ
        refine .inl ?_
        have plain : (execOps P Γ ops gs chk rest (i + 1) (acc ++ [logOf P Γ ops i st o]) (st.doOp P Γ o)).ok = true →
            (∀ a' w', Rel w0 S (execOps P Γ ops gs chk rest (i + 1) (acc ++ [logOf P Γ ops i st o]) (st.doOp P Γ o)) a' w' → Q .normal a' w') → o.wp P a w (wpList P ops Q rest) Q := by
          intro h1 h2
          have hd := (tr_execOps rest _ _ _ h1).ok
          refine Oper.wp_mono ?_ (doOp_good hΓ hR hd Q)
          rintro a' w' ⟨v, rfl, hR'⟩
          exact execOps_seq hΓ rest _ _ _ _ w' hR' h1 h2
        split at hok
        · rename_i hd
          simp only [hd] at hQ
          exact plain hok hQ
        · rename_i s hd
          simp only [hd] at hQ
          cases hm : memN s gs
          · simp only [hm, cond_false] at hok hQ
            exact plain hok hQ
          · simp only [hm, cond_true] at hok hQ
            split at hok
            · rename_i g hg
              simp only [hg] at hQ
              have hsp := merge_ok_split hok
              have hok1 : (st.doOp P Γ o).ok = true := by
                cases g with
                | true => exact (tr_execOps rest _ _ _ (hsp.1 rfl)).ok
                | false => exact (tr_execOps rest _ _ _ (hsp.2 rfl)).ok
              refine Oper.wp_mono ?_ (doOp_good hΓ hR hok1 Q)
              rintro a' w' ⟨v, rfl, hR'⟩
              have hslot := hR'.slot_bool hg
              cases g with
              | true =>
                have hy := hsp.1 rfl
                refine execOps_seq hΓ rest (i + 1) (acc ++ [logOf P Γ ops i st o]) ((st.doOp P Γ o).reset.know s true) _ w' (hR'.reset.know hslot) hy ?_
                intro a'' w'' h''
                exact hQ a'' w'' (rel_merge (fun _ => ⟨(tr_know (st := (st.doOp P Γ o).reset) hok1).trans (tr_execOps rest _ _ _ hy), h''⟩) (by simp) hok)
              | false =>
                have hn := hsp.2 rfl
                refine execOps_seq hΓ rest (i + 1) (acc ++ [logOf P Γ ops i st o]) ((st.doOp P Γ o).reset.know s false) _ w' (hR'.reset.know hslot) hn ?_
                intro a'' w'' h''
                exact hQ a'' w'' (rel_merge (by simp) (fun _ => ⟨(tr_know (st := (st.doOp P Γ o).reset) hok1).trans (tr_execOps rest _ _ _ hn), h''⟩) hok)
            · rename_i hg
              have hQ' : ∀ a' w', Rel w0 S (execOps P Γ ops gs chk rest (i + 1) (acc ++ [logOf P Γ ops i st o]) (st.doOp P Γ o)) a' w' → Q .normal a' w' := by
                revert hQ
                split
                · rename_i g hg'; exact absurd hg' (hg g)
                · exact id
              exact plain hok hQ'

theorem tr_region {draw : Bool} {st : St} (h : (execRegion P Γ ops draw st).ok = true) : Tr st (execRegion P Γ ops draw st) := by
  unfold execRegion at h ⊢
  cases draw
  · simp only [cond_false] at h ⊢
    exact tr_execOps _ _ _ _ h
  · simp only [cond_true] at h ⊢
    cases hf : freshFor (dsts ops.toList) st && edgesOk ops.toList 0 && P.follows .mixedOrders
    · simp [hf, fail_ok] at h
    · simp only [hf, cond_true] at h ⊢
      exact tr_execOps _ _ _ _ h

theorem region_seq (hΓ : CtxHolds P Γ) {st : St} {a : Act} {w : World} {id : Nat} {Q : Exit → Act → World → Prop} (hR : Rel w0 S st a w) (h : (execRegion P Γ ops false st).ok = true)
    (hQ : ∀ a' w', Rel w0 S (execRegion P Γ ops false st) a' w' → Q .normal a' w') : (Code.region id ops false).wp P Q a w := by
  unfold execRegion at h hQ
  simp only [cond_false] at h hQ
  exact wp_region_list (execOps_seq hΓ _ _ _ _ a w hR h hQ)

end

end Go.Proofs.YthpmalpdnnbkgaaGreat.Vm

/- The value machine: a region whose order is drawn: whatever the order, it ends as in the order of its text. Conditions: the contracts of the context hold; what may not be exchanged is ordered by the region's edges. -/
set_option linter.unusedVariables false
set_option linter.unusedSimpArgs false
namespace Go.Proofs.YthpmalpdnnbkgaaGreat.Vm

theorem M.run_congr {α : Type} {f f' : Nat → SV} {h h' : Nat → Option VObj} : ∀ (m : M α) {a : α} {s o : List Nat}, m.run f h = some (a, s, o) → (∀ i ∈ s, f' i = f i) → (∀ i ∈ o, h' i = h i) → m.run f' h' = some (a, s, o)
  | .pure a, _, _, _, e, _, _ => by simpa [M.run] using e
  | .fail, _, _, _, e, _, _ => by simp [M.run] at e
  | .slot i k, a, s, o, e, hs, ho => by
    simp only [M.run] at e ⊢
    split at e
    · rename_i b s' o' hk
      simp only [Option.some.injEq, Prod.mk.injEq] at e
      obtain ⟨rfl, rfl, rfl⟩ := e
      rw [hs i (List.mem_cons_self ..), M.run_congr (k (f i)) hk (fun j hj => hs j (List.mem_cons_of_mem _ hj)) ho]
    · cases e
  | .obj i k, a, s, o, e, hs, ho => by
    simp only [M.run] at e ⊢
    split at e
    · rename_i x hx
      split at e
      · rename_i b s' o' hk
        simp only [Option.some.injEq, Prod.mk.injEq] at e
        obtain ⟨rfl, rfl, rfl⟩ := e
        rw [ho i (List.mem_cons_self ..), hx]
        simp only
        rw [M.run_congr (k x) hk hs (fun j hj => ho j (List.mem_cons_of_mem _ hj))]
      · cases e
    · cases e

/-- One step of the way that is gone. -/
structure PS where
  i : Nat
  o : Oper
  run : Bool
  st : St
  e : Eff
  log : OpLog

def PS.f (p : PS) (s : Nat) (v : SV) : SV := if p.o.dst = some s then p.e.sv else v

def lkW : List (Nat × Option VObj) → Nat → Option (Option VObj)
  | [], _ => none
  | (i, x) :: l, j => if j = i then some x else lkW l j

def cwAt (cw : Option (Nat × Nat × List SV)) (id : Nat) (v : Option VObj) : Option VObj :=
  match cw with
  | some (i, off, svs) => if id = i then (match v with | some (.box t cells) => some (.box t (writeCells cells off svs)) | o => o) else v
  | none => v

def PS.h (p : PS) (id : Nat) (v : Option VObj) : Option VObj :=
  match lkW p.e.ow id with
  | some x => x
  | none => cwAt p.e.cw id v

theorem fc_at (cw : Option (Nat × Nat × List SV)) (h : Nat → Option VObj) (id : Nat) : fc cw h id = cwAt cw id (h id) := by
  cases cw with
  | none => rfl
  | some x =>
    obtain ⟨i, off, svs⟩ := x
    simp only [fc, cwAt]
    by_cases hi : id = i
    · subst hi
      rw [if_pos rfl]
      cases hh : h id with
      | none => simp [hh]
      | some b => cases b <;> simp [upd, hh]
    · rw [if_neg hi]
      cases h i with
      | none => rfl
      | some b => cases b <;> simp [upd, hi]

theorem fo_at (ow : List (Nat × Option VObj)) (h : Nat → Option VObj) (id : Nat) : fo ow h id = match lkW ow id with | some x => x | none => h id := by
  induction ow with
  | nil => rfl
  | cons x l ih =>
    obtain ⟨i, ob⟩ := x
    simp only [fo, upd, lkW]
    split
    · rfl
    · exact ih

theorem apply_h (st : St) (p : PS) (id : Nat) : (st.apply p.o.dst p.e).obj id = p.h id (st.obj id) := by
  rw [apply_obj, fo_at]
  unfold PS.h
  rw [fc_at]

theorem apply_f (st : St) (p : PS) (s : Nat) : (st.apply p.o.dst p.e).get s = p.f s (st.get s) := by
  unfold PS.f
  cases hd : p.o.dst with
  | none => simp [apply_get_none]
  | some d =>
    rw [apply_get]
    simp only [upd, Option.some.injEq]
    by_cases hs : s = d
    · simp [hs]
    · rw [if_neg hs, if_neg (fun h : d = s => hs h.symm)]

/-- The way through a region that the guards' values pick. -/
inductive Path (P : Program) (Γ : Ctx) (ops : Array Oper) (gs : List Nat) : List Oper → Nat → St → List PS → St → Prop where
  | nil (i : Nat) (st : St) : Path P Γ ops gs [] i st [] st
  | skip (o : Oper) (rest : List Oper) (i : Nat) (st : St) (l : List PS) (fin : St) (hw : wantB ops st o = some false) (hok : (st.skip o.dst).ok = true) (h : Path P Γ ops gs rest (i + 1) (st.skip o.dst) l fin) :
      Path P Γ ops gs (o :: rest) i st (⟨i, o, false, st, { sv := .undef }, skipLog ops i o⟩ :: l) fin
  | op (o : Oper) (rest : List Oper) (i : Nat) (st : St) (l : List PS) (fin : St) (e : Eff) (hw : wantB ops st o = some true) (hok : (st.doOp P Γ o).ok = true) (he : st.doOp P Γ o = st.apply o.dst e)
      (hr : ∃ s r, (evalOp P Γ o).run st.get st.obj = some (e, s, r)) (h : Path P Γ ops gs rest (i + 1) (st.doOp P Γ o) l fin) :
      Path P Γ ops gs (o :: rest) i st (⟨i, o, true, st, e, logOf P Γ ops i st o⟩ :: l) fin
  | opk (o : Oper) (rest : List Oper) (i : Nat) (st : St) (l : List PS) (fin : St) (e : Eff) (s : Nat) (g : Bool) (hw : wantB ops st o = some true) (hok : (st.doOp P Γ o).ok = true) (he : st.doOp P Γ o = st.apply o.dst e)
      (hr : ∃ s r, (evalOp P Γ o).run st.get st.obj = some (e, s, r)) (hd : o.dst = some s) (hg : e.sv = .bool g) (h : Path P Γ ops gs rest (i + 1) ((st.doOp P Γ o).reset.know s g) l fin) :
      Path P Γ ops gs (o :: rest) i st (⟨i, o, true, st, { e with sv := .kb g }, logOf P Γ ops i st o⟩ :: l) fin

section
variable {P : Program} {Γ : Ctx} {w0 : World} {S : Own} {ops : Array Oper} {gs : List Nat}

theorem execOps_path {chk : List OpLog → Bool} : ∀ (rest : List Oper) (i : Nat) (acc : List OpLog) (st : St), (execOps P Γ ops gs chk rest i acc st).ok = true →
    ∃ l fin, Path P Γ ops gs rest i st l fin ∧ fin.ok = true ∧ chk (acc ++ l.map (·.log)) = true ∧ ∀ (w0 : World) (S : Own) (a : Act) (w : World), Rel w0 S fin a w → Rel w0 S (execOps P Γ ops gs chk rest i acc st) a w
  | [], i, acc, st, hok => by
    simp only [execOps, andt_eq] at hok ⊢
    exact ⟨[], st, .nil i st, hok.1, by simpa using hok.2, fun w0 S a w h => h.okIrr _⟩
  | o :: rest, i, acc, st, hok => by
    rw [execOps] at hok ⊢
    cases hw : wantB ops st o with
    | none => simp [hw, fail_ok] at hok
    | some b =>
      simp only [hw] at hok ⊢
      cases b with
      | false =>
        simp only at hok ⊢
        obtain ⟨l, fin, h1, h2, h3, h4⟩ := execOps_path rest _ _ _ hok
        exact ⟨_, fin, .skip o rest i st l fin hw (tr_execOps rest _ _ _ hok).ok h1, h2, by simpa using h3, h4⟩
      | true =>
        simp only at hok ⊢
        have plain : (execOps P Γ ops gs chk rest (i + 1) (acc ++ [logOf P Γ ops i st o]) (st.doOp P Γ o)).ok = true →
            ∃ l fin, Path P Γ ops gs (o :: rest) i st l fin ∧ fin.ok = true ∧ chk (acc ++ l.map (·.log)) = true ∧ ∀ (w0 : World) (S : Own) (a : Act) (w : World), Rel w0 S fin a w →
              Rel w0 S (execOps P Γ ops gs chk rest (i + 1) (acc ++ [logOf P Γ ops i st o]) (st.doOp P Γ o)) a w := by
          intro h1
          have hd := (tr_execOps rest _ _ _ h1).ok
          obtain ⟨l, fin, g1, g2, g3, g4⟩ := execOps_path rest _ _ _ h1
          obtain ⟨e, s, r, hr, _, he⟩ := doOp_eff hd
          exact ⟨_, fin, .op o rest i st l fin e hw hd he ⟨s, r, hr⟩ g1, g2, by simpa using g3, g4⟩
        split at hok
        · rename_i hd
          exact plain hok
        · rename_i s hd
          cases hm : memN s gs
          · simp only [hm, cond_false] at hok ⊢
            exact plain hok
          · simp only [hm, cond_true] at hok ⊢
            split at hok
            · rename_i g hg
              have hsp := merge_ok_split hok
              have hbr : ∀ b : Bool, g = b → (execOps P Γ ops gs chk rest (i + 1) (acc ++ [logOf P Γ ops i st o]) ((st.doOp P Γ o).reset.know s b)).ok = true := by
                rintro b rfl
                cases g with
                | true => exact hsp.1 rfl
                | false => exact hsp.2 rfl
              have hd1 := (tr_execOps rest _ _ _ (hbr g rfl)).ok
              have hd2 : (st.doOp P Γ o).ok = true := hd1
              obtain ⟨l, fin, g1, g2, g3, g4⟩ := execOps_path rest (i + 1) (acc ++ [logOf P Γ ops i st o]) _ (hbr g rfl)
              obtain ⟨e, s', r, hr, _, he⟩ := doOp_eff hd2
              have hsv : e.sv = .bool g := by
                rw [he, hd, apply_get] at hg
                simpa [upd] using hg
              refine ⟨_, fin, .opk o rest i st l fin e s g hw hd2 he ⟨s', r, hr⟩ hd hsv g1, g2, by simpa using g3, fun w0 S a w hR => ?_⟩
              have hR' := g4 w0 S a w hR
              refine rel_merge (fun hgt => ?_) (fun hgf => ?_) hok
              · subst hgt
                exact ⟨(tr_know (st := (st.doOp P Γ o).reset) hd2).trans (tr_execOps rest _ _ _ (hbr true rfl)), hR'⟩
              · subst hgf
                exact ⟨(tr_know (st := (st.doOp P Γ o).reset) hd2).trans (tr_execOps rest _ _ _ (hbr false rfl)), hR'⟩
            · rename_i hg
              exact plain hok

/-- The slot, the object as a set of steps leaves them, the steps taken in the order of the text. -/
def foldF (L : Nat → Bool) (l : List PS) (s : Nat) (v : SV) : SV := l.foldl (fun v p => if L p.i then p.f s v else v) v
def foldH (L : Nat → Bool) (l : List PS) (id : Nat) (v : Option VObj) : Option VObj := l.foldl (fun v p => if L p.i then p.h id v else v) v

def PS.tF (p : PS) (s : Nat) : Prop := p.o.dst = some s
def PS.tH (p : PS) (id : Nat) : Prop := id ∈ p.e.ow.map (·.1) ∨ ∃ off svs, p.e.cw = some (id, off, svs)

theorem PS.f_id {p : PS} {s : Nat} (h : ¬ p.tF s) (v : SV) : p.f s v = v := by unfold PS.f PS.tF at *; rw [if_neg h]

theorem lkW_none {ow : List (Nat × Option VObj)} {id : Nat} (h : id ∉ ow.map (·.1)) : lkW ow id = none := by
  induction ow with
  | nil => rfl
  | cons x l ih =>
    obtain ⟨i, ob⟩ := x
    simp only [List.map_cons, List.mem_cons, not_or] at h
    simp only [lkW]
    rw [if_neg h.1]
    exact ih h.2

theorem PS.h_id {p : PS} {id : Nat} (h : ¬ p.tH id) (v : Option VObj) : p.h id v = v := by
  unfold PS.tH at h
  simp only [not_or] at h
  unfold PS.h
  rw [lkW_none h.1]
  simp only
  unfold cwAt
  split
  · rename_i i off svs hcw
    by_cases hi : id = i
    · subst hi
      exact absurd ⟨off, svs, hcw⟩ h.2
    · rw [if_neg hi]
  · rfl

theorem fold_none {α : Type} (step : PS → α → α) {L : Nat → Bool} : ∀ (l : List PS) (v : α), (∀ q ∈ l, L q.i = false) → l.foldl (fun v q => if L q.i then step q v else v) v = v
  | [], v, _ => rfl
  | z :: l, v, h => by
    simp only [List.foldl_cons, h z (List.mem_cons_self ..), Bool.false_eq_true, if_false]
    exact fold_none step l v (fun q hq => h q (List.mem_cons_of_mem _ hq))

section folds
variable {α : Type} (step : PS → α → α) (T : PS → Prop)

theorem fold_congr (hid : ∀ p v, ¬ T p → step p v = v) {L L' : Nat → Bool} : ∀ (l : List PS) (v : α), (∀ p ∈ l, T p → L p.i = L' p.i) →
    l.foldl (fun v p => if L p.i then step p v else v) v = l.foldl (fun v p => if L' p.i then step p v else v) v
  | [], v, _ => rfl
  | p :: l, v, h => by
    simp only [List.foldl_cons]
    have : (if L p.i then step p v else v) = if L' p.i then step p v else v := by
      by_cases ht : T p
      · rw [h p (List.mem_cons_self ..) ht]
      · rw [hid p v ht]
        simp
    rw [this]
    exact fold_congr hid l _ (fun q hq => h q (List.mem_cons_of_mem _ hq))

/-- One step more, behind which no step that was taken touches the place. -/
theorem fold_insert (hid : ∀ p v, ¬ T p → step p v = v) {L : Nat → Bool} {q : PS} : ∀ (l : List PS) (v : α), q ∈ l → (l.map (·.i)).Nodup → L q.i = false → l.Pairwise (fun a b => a.i < b.i) → (∀ p ∈ l, q.i < p.i → T q → T p → L p.i = false) →
    l.foldl (fun v p => if (L p.i || p.i == q.i) then step p v else v) v = step q (l.foldl (fun v p => if L p.i then step p v else v) v)
  | [], v, hq, _, _, _, _ => by simp at hq
  | p :: l, v, hq, hn, hL, hp, hno => by
    simp only [List.foldl_cons]
    simp only [List.map_cons, List.nodup_cons] at hn
    rw [List.pairwise_cons] at hp
    rcases List.mem_cons.1 hq with rfl | hql
    · simp only [hL, beq_self_eq_true, Bool.or_true, if_true, Bool.false_eq_true, if_false]
      have e1 : l.foldl (fun v p => if (L p.i || p.i == q.i) then step p v else v) (step q v) = l.foldl (fun v p => if L p.i then step p v else v) (step q v) := by
        refine fold_congr step T hid (L := fun k => L k || k == q.i) (L' := L) l _ (fun r hr _ => ?_)
        have : r.i ≠ q.i := fun e => hn.1 (e ▸ List.mem_map_of_mem hr)
        simp [this]
      rw [e1]
      by_cases ht : T q
      · have e2 : ∀ u, l.foldl (fun v p => if L p.i then step p v else v) u = u := by
          intro u
          have := fold_congr step T hid (L := L) (L' := fun _ => false) l u (fun r hr hrt => hno r (List.mem_cons_of_mem _ hr) (hp.1 r hr) ht hrt)
          rw [this]
          exact fold_none step (L := fun _ => false) l u (fun _ _ => rfl)
        rw [e2, e2]
      · rw [hid q v ht, hid q _ ht]
    · have hne : p.i ≠ q.i := fun e => hn.1 (e ▸ List.mem_map_of_mem hql)
      have : (if (L p.i || p.i == q.i) then step p v else v) = if L p.i then step p v else v := by simp [hne]
      rw [this]
      exact fold_insert hid l _ hql hn.2 hL hp.2 (fun r hr => hno r (List.mem_cons_of_mem _ hr))
end folds

theorem path_index : ∀ {rest : List Oper} {i : Nat} {st : St} {l : List PS} {fin : St}, Path P Γ ops gs rest i st l fin → l.map (·.i) = List.range' i rest.length ∧ l.map (·.o) = rest ∧ (∀ p ∈ l, p.log.i = p.i ∧ p.log.d = p.o.dst) := by
  intro rest i st l fin h
  induction h with
  | nil => exact ⟨rfl, rfl, by simp⟩
  | skip o rest i st l fin hw hok h ih =>
    refine ⟨by simp [ih.1, List.range'_succ], by simp [ih.2.1], fun p hp => ?_⟩
    rcases List.mem_cons.1 hp with rfl | hp
    · exact ⟨rfl, rfl⟩
    · exact ih.2.2 p hp
  | op o rest i st l fin e hw hok he hr h ih =>
    refine ⟨by simp [ih.1, List.range'_succ], by simp [ih.2.1], fun p hp => ?_⟩
    rcases List.mem_cons.1 hp with rfl | hp
    · obtain ⟨s, r, hr⟩ := hr
      simp [logOf, hr]
    · exact ih.2.2 p hp
  | opk o rest i st l fin e s g hw hok he hr hd hg h ih =>
    refine ⟨by simp [ih.1, List.range'_succ], by simp [ih.2.1], fun p hp => ?_⟩
    rcases List.mem_cons.1 hp with rfl | hp
    · obtain ⟨s, r, hr⟩ := hr
      simp [logOf, hr]
    · exact ih.2.2 p hp

/-- What a place of the path says: the states along the way. -/
def Along (st : St) (l : List PS) (fin : St) : Prop :=
  (∀ p ∈ l, (∀ s, p.st.get s = foldF (fun k => decide (k < p.i)) l s (st.get s)) ∧ (∀ id, p.st.obj id = foldH (fun k => decide (k < p.i)) l id (st.obj id)) ∧ p.st.n = st.n) ∧
    (∀ s, fin.get s = foldF (fun _ => true) l s (st.get s)) ∧ (∀ id, fin.obj id = foldH (fun _ => true) l id (st.obj id)) ∧ fin.n = st.n

theorem along_cons (p0 : PS) {st st1 : St} {rest' : List Oper} {l' : List PS} {fin' : St} {i : Nat} (hi : p0.i = i) (hst : p0.st = st) (hf : ∀ s, st1.get s = p0.f s (st.get s)) (hh : ∀ id, st1.obj id = p0.h id (st.obj id)) (hn : st1.n = st.n)
    (hpath : Path P Γ ops gs rest' (i + 1) st1 l' fin') (ih : Along st1 l' fin') : Along st (p0 :: l') fin' := by
  have hidx := (path_index hpath).1
  have hge : ∀ p ∈ l', i + 1 ≤ p.i := by
    intro p hp
    have : p.i ∈ l'.map (·.i) := List.mem_map_of_mem hp
    rw [hidx] at this
    exact (List.mem_range'_1.1 this).1
  refine ⟨fun p hp => ?_, fun s => ?_, fun id => ?_, ih.2.2.2.trans hn⟩
  · rcases List.mem_cons.1 hp with rfl | hp
    · have none_lt : ∀ q ∈ p :: l', decide (q.i < p.i) = false := by
        intro q hq
        rcases List.mem_cons.1 hq with rfl | hq
        · simp
        · have := hge q hq
          simp
          omega
      refine ⟨fun s => ?_, fun id => ?_, by rw [hst]⟩
      · have := fold_none (fun q v => PS.f q s v) (L := fun k => decide (k < p.i)) (p :: l') (st.get s) none_lt
        rw [hst]
        exact this.symm
      · have := fold_none (fun q v => PS.h q id v) (L := fun k => decide (k < p.i)) (p :: l') (st.obj id) none_lt
        rw [hst]
        exact this.symm
    · have h0 := hge p hp
      have hlt : decide (p0.i < p.i) = true := by simp; omega
      obtain ⟨g1, g2, g3⟩ := ih.1 p hp
      refine ⟨fun s => ?_, fun id => ?_, g3.trans hn⟩
      · rw [g1 s, hf s]
        unfold foldF
        simp only [List.foldl_cons, hlt, if_true]
      · rw [g2 id, hh id]
        unfold foldH
        simp only [List.foldl_cons, hlt, if_true]
  · rw [ih.2.1 s, hf s]
    unfold foldF
    simp only [List.foldl_cons, if_true]
  · rw [ih.2.2.1 id, hh id]
    unfold foldH
    simp only [List.foldl_cons, if_true]

theorem know_f {st : St} {o : Oper} {e : Eff} {s : Nat} {g : Bool} (hd : o.dst = some s) (p : PS) (hp : p.o = o) (hpe : p.e = { e with sv := .kb g }) (k : Nat) : (((st.apply o.dst e).reset).know s g).get k = p.f k (st.get k) := by
  rw [know_get]
  have e1 : (st.apply o.dst e).reset.get = (st.apply o.dst e).get := rfl
  rw [e1, hd, apply_get]
  unfold PS.f
  rw [hp, hd, hpe]
  simp only [upd, Option.some.injEq]
  by_cases hk : k = s
  · simp [hk]
  · rw [if_neg hk, if_neg hk, if_neg (fun h : s = k => hk h.symm)]

theorem know_h {st : St} {o : Oper} {e : Eff} {s : Nat} {g : Bool} (p : PS) (hp : p.o = o) (hpe : p.e = { e with sv := .kb g }) (id : Nat) : (((st.apply o.dst e).reset).know s g).obj id = p.h id (st.obj id) := by
  have e1 : (((st.apply o.dst e).reset).know s g).obj id = (st.apply p.o.dst p.e).obj id := by
    rw [apply_obj, hpe]
    show (st.apply o.dst e).obj id = _
    rw [apply_obj]
  rw [e1]
  exact apply_h st p id

theorem path_states {rest : List Oper} {i : Nat} {st : St} {l : List PS} {fin : St} (h : Path P Γ ops gs rest i st l fin) : Along st l fin := by
  induction h with
  | nil => exact ⟨by simp, fun _ => rfl, fun _ => rfl, rfl⟩
  | skip o rest i st l fin hw hok h ih =>
    exact along_cons ⟨i, o, false, st, { sv := .undef }, skipLog ops i o⟩ rfl rfl (fun s => apply_f st ⟨i, o, false, st, { sv := .undef }, skipLog ops i o⟩ s) (fun id => apply_h st ⟨i, o, false, st, { sv := .undef }, skipLog ops i o⟩ id) rfl h ih
  | op o rest i st l fin e hw hok he hr h ih =>
    refine along_cons ⟨i, o, true, st, e, logOf P Γ ops i st o⟩ rfl rfl (fun s => ?_) (fun id => ?_) ?_ h ih
    · rw [he]; exact apply_f st ⟨i, o, true, st, e, logOf P Γ ops i st o⟩ s
    · rw [he]; exact apply_h st ⟨i, o, true, st, e, logOf P Γ ops i st o⟩ id
    · rw [he]; rfl
  | opk o rest i st l fin e s g hw hok he hr hd hg h ih =>
    refine along_cons ⟨i, o, true, st, { e with sv := .kb g }, logOf P Γ ops i st o⟩ rfl rfl (fun s => ?_) (fun id => ?_) ?_ h ih
    · rw [he]; exact know_f hd ⟨i, o, true, st, { e with sv := .kb g }, logOf P Γ ops i st o⟩ rfl rfl s
    · rw [he]; exact know_h ⟨i, o, true, st, { e with sv := .kb g }, logOf P Γ ops i st o⟩ rfl rfl id
    · rw [he]; rfl

/-- What a step is. -/
def StepIs (P : Program) (Γ : Ctx) (ops : Array Oper) (p : PS) : Prop :=
  (wantB ops p.st p.o = some false ∧ p.e = { sv := .undef } ∧ (p.st.skip p.o.dst).ok = true ∧ p.log = skipLog ops p.i p.o) ∨
  (wantB ops p.st p.o = some true ∧ ∃ e s r, (evalOp P Γ p.o).run p.st.get p.st.obj = some (e, s, r) ∧ (p.st.apply p.o.dst e).ok = true ∧ p.log = logOf P Γ ops p.i p.st p.o ∧
    (p.e = e ∨ ∃ d g, p.o.dst = some d ∧ e.sv = .bool g ∧ p.e = { e with sv := .kb g }))

theorem path_steps {rest : List Oper} {i : Nat} {st : St} {l : List PS} {fin : St} (h : Path P Γ ops gs rest i st l fin) : ∀ p ∈ l, StepIs P Γ ops p := by
  induction h with
  | nil => simp
  | skip o rest i st l fin hw hok h ih =>
    intro p hp
    rcases List.mem_cons.1 hp with rfl | hp
    · exact .inl ⟨hw, rfl, hok, rfl⟩
    · exact ih p hp
  | op o rest i st l fin e hw hok he hr h ih =>
    intro p hp
    rcases List.mem_cons.1 hp with rfl | hp
    · obtain ⟨s, r, hr⟩ := hr
      exact .inr ⟨hw, e, s, r, hr, by rw [← he]; exact hok, rfl, .inl rfl⟩
    · exact ih p hp
  | opk o rest i st l fin e s g hw hok he hr hd hg h ih =>
    intro p hp
    rcases List.mem_cons.1 hp with rfl | hp
    · obtain ⟨s', r, hr⟩ := hr
      exact .inr ⟨hw, e, s', r, hr, by rw [← he]; exact hok, rfl, .inr ⟨s, g, hd, hg, rfl⟩⟩
    · exact ih p hp

end

end Go.Proofs.YthpmalpdnnbkgaaGreat.Vm
