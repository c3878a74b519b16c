/- The value machine: reading lemmas, and the operations that make and turn nothing. Conditions: as each lemma says. -/
import Derived.Test.YtjknoknkbfhelaaVmE
set_option linter.unusedVariables false
set_option linter.unusedSimpArgs false
namespace Go.Proofs.Ytjknoknkbfhelaa.Vm

theorem ofDC_ok {w : World} {av : Nat → Prop} {β : Env} {c : CT} {d : DC} {v : Value} {fp : List Nat} (h : RdC w c d v fp) (ha : ∀ b ∈ fp, ¬ av b) : SVR w av β (ofDC c d) v := by
  cases c with
  | int k =>
    simp only [RdC] at h
    obtain ⟨n, rfl, rfl, hi, _⟩ := h
    simp [ofDC, DC.asInt, SVR, hi]
  | bool =>
    simp only [RdC] at h
    obtain ⟨b, rfl, rfl, _⟩ := h
    simp [ofDC, DC.asBool, SVR]
  | str =>
    simp only [RdC] at h
    obtain ⟨s, rfl, rfl, hl, _⟩ := h
    simp [ofDC, DC.asStr, SVR, hl]
  | sl e =>
    have h' := h
    simp only [RdC] at h
    obtain ⟨rows, a, n, cp, rfl, _⟩ := h
    simp only [ofDC, DC.asRows, SVR]
    exact ⟨fp, h', ha⟩

theorem RdC.one {w : World} {c : CT} {d : DC} {v : Value} {fp : List Nat} (h : RdC w c d v fp) : v.oneCell' = true := by
  cases c with
  | int k => simp only [RdC] at h; obtain ⟨n, _, rfl, _⟩ := h; rfl
  | bool => simp only [RdC] at h; obtain ⟨b, _, rfl, _⟩ := h; rfl
  | str => simp only [RdC] at h; obtain ⟨s, _, rfl, _⟩ := h; rfl
  | sl e => simp only [RdC] at h; obtain ⟨rows, a, n, cp, _, rfl, _⟩ := h; rfl

theorem RdL.get {w : World} : ∀ (cs : List CT) (r : List DC) (f : Nat → Option Value) (fp : List Nat) (i : Nat) (c : CT), RdL w cs r f fp → cs[i]? = some c →
    ∃ v fp', f i = some v ∧ RdC w c (r.getD i default) v fp' ∧ ∀ b ∈ fp', b ∈ fp
  | [], _, _, _, _, _, _, hi => by simp at hi
  | c :: cs, _, _, _, i, x, h, hi => by
    simp only [RdL] at h
    obtain ⟨d, r', v, f1, f2, rfl, h0, h1, h2, rfl⟩ := h
    cases i with
    | zero =>
      simp at hi
      subst hi
      exact ⟨v, f1, h0, by simpa using h1, fun b hb => by simp [hb]⟩
    | succ i =>
      obtain ⟨v', fp', e1, e2, e3⟩ := RdL.get cs r' _ f2 i x h2 (by simpa using hi)
      exact ⟨v', fp', e1, by simpa using e2, fun b hb => by simp [e3 b hb]⟩

/-- The cells from the k-th on, as many as there are types. -/
theorem RdL.svs {w : World} {av : Nat → Prop} {β : Env} {cs : List CT} {r : List DC} {f : Nat → Option Value} {fp : List Nat} (h : RdL w cs r f fp) (ha : ∀ b ∈ fp, ¬ av b) :
    ∀ (n k : Nat), k + n ≤ cs.length → ∃ vs : List Value, vs.length = n ∧ (∀ j v, vs[j]? = some v → f (k + j) = some v) ∧ SVRL w av β (ofDCs ((cs.drop k).take n) r k) vs ∧ ∀ x ∈ vs, x.oneCell' = true
  | 0, k, _ => ⟨[], rfl, by simp, by simp [ofDCs, SVRL], by simp⟩
  | n + 1, k, hk => by
    have hlt : k < cs.length := by omega
    obtain ⟨v, fp', e1, e2, e3⟩ := RdL.get cs r f fp k cs[k] h (by simp)
    obtain ⟨vs, l1, l2, l3, l4⟩ := RdL.svs (β := β) h ha n (k + 1) (by omega)
    refine ⟨v :: vs, by simp [l1], ?_, ?_, ?_⟩
    · intro j u hj
      cases j with
      | zero => simp at hj; subst hj; simpa using e1
      | succ j => have := l2 j u (by simpa using hj); rw [← this]; congr 1; omega
    · have : (cs.drop k).take (n + 1) = cs[k] :: (cs.drop (k + 1)).take n := by
        rw [List.drop_eq_getElem_cons hlt, List.take_succ_cons]
      rw [this]
      simp only [ofDCs, SVRL]
      exact ⟨v, vs, rfl, ofDC_ok e2 (fun b hb => ha b (e3 b hb)), l3⟩
    · intro x hx
      rcases List.mem_cons.1 hx with rfl | hx
      · exact e2.one
      · exact l4 x hx

theorem addr_add (b o n : Nat) : (⟨b, o, none⟩ : Addr).add n = ⟨b, o + n, none⟩ := by
  unfold Addr.add
  split
  · rename_i h; subst h; rfl
  · rfl

theorem run_isAgg {P : Program} {w : World} {t : TypeId} {d : TypeDesc} (h : P.underlying t = some d) : (isAgg t).run P w = .ok (isAggB P t) w := by
  simp only [isAgg, Sem.run_bind, run_underlying h, Result.andThen_ok, isAggB, h]
  cases d <;> rfl

theorem isAgg_under {P : Program} {t : TypeId} (h : isAggB P t = true) : ∃ d, P.underlying t = some d := by
  unfold isAggB at h
  split at h <;> first | exact ⟨_, by assumption⟩ | cases h

theorem info_under {P : Program} {t : TypeId} {d : TypeDesc} (h : P.underlying t = some d) : True := trivial

theorem run_loadAt_agg {P : Program} {w : World} {t : TypeId} {i : TypeInfo} {b o : Nat} {vs : List Value} (ha : isAggB P t = true) (hi : P.info? t = some i)
    (hl : vs.length = i.size) (hc : ∀ j v, vs[j]? = some v → w.cell? ⟨b, o + j, none⟩ = some v) :
    (Instr.loadAt t (.pointer (some ⟨b, o, none⟩))).run P w = .ok (.agg vs.toArray) w := by
  obtain ⟨d, hd⟩ := isAgg_under ha
  have := run_loadCells_list (P := P) (w := w) ⟨b, o, none⟩ vs (fun j v hj => by rw [addr_add]; exact hc j v hj)
  rw [hl] at this
  simp only [Instr.loadAt, Instr.sureAddr, loadVar, Sem.run_bind, Sem.run_pure, Result.andThen_ok, run_isAgg hd, ha, if_true, sizeOf, typeInfo, run_program, hi, this]

theorem run_loadAt_one {P : Program} {w : World} {t : TypeId} {d : TypeDesc} {b o : Nat} {v : Value} (ha : isAggB P t = false) (hd : P.underlying t = some d)
    (hc : w.cell? ⟨b, o, none⟩ = some v) : (Instr.loadAt t (.pointer (some ⟨b, o, none⟩))).run P w = .ok v w := by
  simp [Instr.loadAt, Instr.sureAddr, loadVar, run_isAgg hd, ha, hc]

section
variable {P : Program} {Γ : Ctx} {w0 : World} {S : Own} {st : St} {o : Oper} {e : Eff} {a : Act} {w : World}

theorem sound_move (hR : Rel w0 S st a w) (hd : ∀ d, o.dst = some d → DstOk st.n d) {x : Operand} (ho : o.op = .move x ∨ o.op = .assign x) {s : SV}
    (h1 : (evM x).val st.get st.obj = some s) (he : e = { sv := s }) : Good P w0 S st o e a w := by
  subst he
  refine good_pure hR hd rfl rfl fun β φ hc => ⟨a.eval x, ?_, hc.ev h1⟩
  rcases ho with ho | ho <;> simp [execOp, ho]

theorem sound_pick (hR : Rel w0 S st a w) (hd : ∀ d, o.dst = some d → DstOk st.n d) {c x y : Operand} (ho : o.op = .pick c x y) {sc sx sy : SV}
    (h0 : (evM c).val st.get st.obj = some sc) (h1 : (evM x).val st.get st.obj = some sx) (h2 : (evM y).val st.get st.obj = some sy)
    (he : (match sc with | .kb t => M.pure ({ sv := bif t then sx else sy } : Eff) | .bool g => .pure { sv := mergeSV g sx sy } | _ => .fail).val st.get st.obj = some e) : Good P w0 S st o e a w := by
  split at he
  · rename_i t
    simp only [M.val_pure, Option.some.injEq] at he
    subst he
    refine good_pure hR hd rfl rfl fun β φ hc => ⟨if t then a.eval x else a.eval y, ?_, ?_⟩
    · have hv := hc.ev h0
      simp only [SVR] at hv
      simp [execOp, ho, hv, asBool]
    · cases t
      · exact hc.ev h2
      · exact hc.ev h1
  · rename_i t
    simp only [M.val_pure, Option.some.injEq] at he
    subst he
    refine good_pure hR hd rfl rfl fun β φ hc => ⟨if t then a.eval x else a.eval y, ?_, ?_⟩
    · have hv := hc.ev h0
      simp only [SVR] at hv
      simp [execOp, ho, hv, asBool]
    · refine SVR.merge _ _ _ _ ?_
      cases t
      · exact hc.ev h2
      · exact hc.ev h1
  · simp at he

theorem sound_nilCheck (hR : Rel w0 S st a w) (hd : ∀ d, o.dst = some d → DstOk st.n d) {x : Operand} (ho : o.op = .nilCheck x) {s : SV} (h1 : (evM x).val st.get st.obj = some s)
    (he : (match s with | .ptr .. => M.pure ({ sv := s } : Eff) | .eimm .. => .pure { sv := s } | .eown .. => .pure { sv := s } | _ => .fail).val st.get st.obj = some e) : Good P w0 S st o e a w := by
  split at he
  · simp only [M.val_pure, Option.some.injEq] at he
    subst he
    refine good_pure hR hd rfl rfl fun β φ hc => ⟨a.eval x, ?_, hc.ev h1⟩
    have hv := hc.ev h1
    simp only [SVR] at hv
    simp [execOp, ho, hv]
  · simp only [M.val_pure, Option.some.injEq] at he
    subst he
    refine good_pure hR hd rfl rfl fun β φ hc => ⟨a.eval x, ?_, hc.ev h1⟩
    have hv := hc.ev h1
    simp only [SVR] at hv
    obtain ⟨b, o', fp, hv, _⟩ := hv
    simp [execOp, ho, hv]
  · simp only [M.val_pure, Option.some.injEq] at he
    subst he
    refine good_pure hR hd rfl rfl fun β φ hc => ⟨a.eval x, ?_, hc.ev h1⟩
    have hv := hc.ev h1
    simp only [SVR] at hv
    obtain ⟨g, _, hv⟩ := hv
    simp [execOp, ho, hv]
  · simp at he

theorem sound_fieldAddr (hR : Rel w0 S st a w) (hd : ∀ d, o.dst = some d → DstOk st.n d) {t : TypeId} {x : Operand} {f : Nat} (ho : o.op = .fieldAddr t x f) {fs : Array Field} {fd : Field} {i : TypeInfo}
    (hu : P.underlying t = some (.struct fs)) (hf : fs[f]? = some fd) (hz : sizeB P fd.type 0 = false) (hi : P.info? fd.type = some i) {s : SV} (h1 : (evM x).val st.get st.obj = some s)
    (he : (match s with
          | .ptr id off => M.pure ({ sv := .ptr id (off + fd.offset) } : Eff)
          | .eimm e r off => .pure { sv := .eimm e r (off + fd.offset) }
          | .eown id i z off => .pure { sv := .eown id i z (off + fd.offset) }
          | _ => .fail).val st.get st.obj = some e) : Good P w0 S st o e a w := by
  have hsz : i.size ≠ 0 := by
    simp only [sizeB, hi] at hz
    exact Nat.ne_of_beq_eq_false hz
  have run : ∀ b off, a.eval x = .pointer (some ⟨b, off, none⟩) → (execOp a.eval o).run P w = .ok (.value (.pointer (some ⟨b, off + fd.offset, none⟩))) w := by
    intro b off hv
    simp [execOp, ho, hv, Instr.fieldAt, run_underlying hu, hf, Instr.sureAddr, fieldPlace, sizeOf, typeInfo, hi, hsz, addr_add]
  split at he
  · simp only [M.val_pure, Option.some.injEq] at he
    subst he
    refine good_pure hR hd rfl rfl fun β φ hc => ?_
    have hv := hc.ev h1
    simp only [SVR] at hv
    exact ⟨_, run _ _ hv, by simp [SVR]⟩
  · simp only [M.val_pure, Option.some.injEq] at he
    subst he
    refine good_pure hR hd rfl rfl fun β φ hc => ?_
    have hv := hc.ev h1
    simp only [SVR] at hv
    obtain ⟨b, o', fp, hv, hlt, hav, hr⟩ := hv
    exact ⟨_, run _ _ hv, by simp only [SVR]; exact ⟨b, o', fp, by rw [Nat.add_assoc], hlt, hav, hr⟩⟩
  · simp only [M.val_pure, Option.some.injEq] at he
    subst he
    refine good_pure hR hd rfl rfl fun β φ hc => ?_
    have hv := hc.ev h1
    simp only [SVR] at hv
    obtain ⟨g, hg, hv⟩ := hv
    exact ⟨_, run _ _ hv, by simp only [SVR]; exact ⟨g, hg, by rw [Nat.add_assoc]⟩⟩
  · simp at he

theorem sound_extract (hR : Rel w0 S st a w) (hd : ∀ d, o.dst = some d → DstOk st.n d) {x : Operand} {i : Nat} (ho : o.op = .extract x i) {vs : List SV} {v : SV}
    (h1 : (evM x).val st.get st.obj = some (.tup vs)) (hv : vs[i]? = some v) (he : e = { sv := v }) : Good P w0 S st o e a w := by
  subst he
  refine good_pure hR hd rfl rfl fun β φ hc => ?_
  have hx := hc.ev h1
  simp only [SVR] at hx
  obtain ⟨l, hl, hr⟩ := hx
  obtain ⟨u, hu, hs⟩ := SVRL.get _ _ _ _ hr hv
  exact ⟨u, by simp [execOp, ho, hl, Instr.extract, hu], hs⟩

theorem str_toList (s : List UInt8) : (⟨s.toArray⟩ : ByteArray).toList = s := by rw [Lib.toList_data]
theorem str_size (s : List UInt8) : (⟨s.toArray⟩ : ByteArray).size = s.length := by simp [ByteArray.size]
theorem str_append (s t : List UInt8) : (⟨s.toArray⟩ : ByteArray) ++ (⟨t.toArray⟩ : ByteArray) = ⟨(s ++ t).toArray⟩ := by
  apply ByteArray.ext
  simp

theorem sound_bin (hR : Rel w0 S st a w) (hd : ∀ d, o.dst = some d → DstOk st.n d) {op : BinOp} {t t' : TypeId} {x y : Operand} (ho : o.op = .binOp op t x y t') {sx sy : SV}
    (h1 : (evM x).val st.get st.obj = some sx) (h2 : (evM y).val st.get st.obj = some sy) (he : (binM P t op sx sy).val st.get st.obj = some e) (hok : e.ok = true) : Good P w0 S st o e a w := by
  have bools : ∀ b c : Bool, (∀ β φ, Core w0 S st.get st.obj β φ a.tmps w → a.eval x = .bool b ∧ a.eval y = .bool c) →
      ((boolM P t op b c).val st.get st.obj = some e) → Good P w0 S st o e a w := by
    intro b c hbc he
    unfold boolM at he
    cases ht : isBoolT P t
    · simp [ht] at he
    have hu : P.underlying t = some .bool := by
      unfold isBoolT at ht
      split at ht
      · assumption
      · cases ht
    simp only [ht, cond_true] at he
    split at he
    · simp only [M.val_pure, Option.some.injEq] at he
      subst he
      refine good_pure hR hd rfl rfl fun β φ hc => ⟨_, ?_, by simp [SVR]; rfl⟩
      have := hbc β φ hc
      simp [execOp, ho, this.1, this.2, eqGuard, binOp, run_equal_bool w t b c hu]
    · simp only [M.val_pure, Option.some.injEq] at he
      subst he
      refine good_pure hR hd rfl rfl fun β φ hc => ⟨_, ?_, by simp [SVR]; rfl⟩
      have := hbc β φ hc
      simp [execOp, ho, this.1, this.2, eqGuard, binOp, run_equal_bool w t b c hu]
    · simp at he
  unfold binM at he
  split at he
  · rename_i k n k' m
    split at he
    · simp only [M.val_pure, Option.some.injEq] at he
      subst he
      have hm : 0 ≤ m := by simpa using hok
      refine good_pure hR hd rfl rfl fun β φ hc => ?_
      have hx := hc.ev h1
      have hy := hc.ev h2
      simp only [SVR] at hx hy
      refine ⟨_, ?_, by simp only [SVR]; exact ⟨rfl, inR_wrap _ _⟩⟩
      simp [execOp, ho, hx.1, hy.1, eqGuard, binOp, Op.shift, Int.not_lt.2 hm]
    · simp only [M.val_pure, Option.some.injEq] at he
      subst he
      have hm : 0 ≤ m := by simpa using hok
      refine good_pure hR hd rfl rfl fun β φ hc => ?_
      have hx := hc.ev h1
      have hy := hc.ev h2
      simp only [SVR] at hx hy
      refine ⟨_, ?_, by simp only [SVR]; exact ⟨rfl, inR_fdiv _ hx.2⟩⟩
      simp [execOp, ho, hx.1, hy.1, eqGuard, binOp, Op.shift, Int.not_lt.2 hm]
    · by_cases hk : k = k'
      · subst hk
        simp only [decide_true, cond_true] at he
        split at he
        · rename_i s c hi
          simp only [M.val_pure, Option.some.injEq] at he
          subst he
          refine good_pure hR hd rfl rfl fun β φ hc => ?_
          have hx := hc.ev h1
          have hy := hc.ev h2
          simp only [SVR] at hx hy
          obtain ⟨v, hrun, hs⟩ := run_intOp (P := P) (w := w) (t := t) (av := Av st.obj β) (β := β) hi hok hx.2
          refine ⟨v, ?_, hs⟩
          simp [execOp, ho, hx.1, hy.1, eqGuard, hrun]
        · simp at he
      · simp [hk] at he
  · rename_i s1 s2
    split at he
    · simp only [M.val_pure, Option.some.injEq] at he
      subst he
      have hm : s1.length + s2.length ≤ 9223372036854775807 := by simpa using hok
      refine good_pure hR hd rfl rfl fun β φ hc => ?_
      have hx := hc.ev h1
      have hy := hc.ev h2
      simp only [SVR] at hx hy
      refine ⟨.string ⟨(s1 ++ s2).toArray⟩, ?_, by unfold SVR; exact ⟨rfl, by simp only [List.length_append, maxLen]; omega⟩⟩
      have hn : ¬ (((s1.length + s2.length : Nat) : Int) > IntKind.i64.max) := by
        have : IntKind.i64.max = 9223372036854775807 := by decide
        omega
      simp only [execOp, ho, hx.1, hy.1, eqGuard, binOp, Op.stringOp, str_size, str_append]
      rw [if_neg hn]
      rfl
    · simp only [M.val_pure, Option.some.injEq] at he
      subst he
      refine good_pure hR hd rfl rfl fun β φ hc => ?_
      have hx := hc.ev h1
      have hy := hc.ev h2
      simp only [SVR] at hx hy
      refine ⟨.bool (s1 == s2), ?_, by simp [SVR]⟩
      simp [execOp, ho, hx.1, hy.1, eqGuard, binOp, Op.stringOp, str_toList]
    · simp only [M.val_pure, Option.some.injEq] at he
      subst he
      refine good_pure hR hd rfl rfl fun β φ hc => ?_
      have hx := hc.ev h1
      have hy := hc.ev h2
      simp only [SVR] at hx hy
      refine ⟨.bool (!(s1 == s2)), ?_, by simp [SVR]⟩
      simp [execOp, ho, hx.1, hy.1, eqGuard, binOp, Op.stringOp, str_toList]
    · simp at he
  · refine bools _ _ (fun β φ hc => ?_) he
    have hx := hc.ev h1
    have hy := hc.ev h2
    simp only [SVR] at hx hy
    exact ⟨hx, hy⟩
  · refine bools _ _ (fun β φ hc => ?_) he
    have hx := hc.ev h1
    have hy := hc.ev h2
    simp only [SVR] at hx hy
    exact ⟨hx, hy⟩
  · refine bools _ _ (fun β φ hc => ?_) he
    have hx := hc.ev h1
    have hy := hc.ev h2
    simp only [SVR] at hx hy
    exact ⟨hx, hy⟩
  · simp at he

theorem sound_un (hR : Rel w0 S st a w) (hd : ∀ d, o.dst = some d → DstOk st.n d) {op : UnOp} {t : TypeId} {x : Operand} (ho : o.op = .unOp op t x) {sx : SV}
    (h1 : (evM x).val st.get st.obj = some sx) (he : (unM op sx).val st.get st.obj = some e) : Good P w0 S st o e a w := by
  unfold unM at he
  split at he <;> simp only [M.val_pure, M.val_fail, Option.some.injEq, reduceCtorEq] at he
  all_goals
    subst he
    refine good_pure hR hd rfl rfl fun β φ hc => ?_
    have hx := hc.ev h1
    simp only [SVR] at hx
  · exact ⟨_, by simp [execOp, ho, hx, Op.unary]; rfl, by simp [SVR]⟩
  · exact ⟨_, by simp [execOp, ho, hx, Op.unary]; rfl, by simp [SVR]⟩
  · exact ⟨_, by simp [execOp, ho, hx.1, Op.unary, Op.intArith]; rfl, by simp only [Int.zero_sub]; unfold SVR; exact ⟨rfl, inR_wrap _ _⟩⟩
  · refine ⟨_, by simp only [execOp, ho, hx.1, Op.unary, intBits_xor]; rfl, by unfold SVR; exact ⟨rfl, inR_bits _ _ _ _⟩⟩

end

end Go.Proofs.Ytjknoknkbfhelaa.Vm
