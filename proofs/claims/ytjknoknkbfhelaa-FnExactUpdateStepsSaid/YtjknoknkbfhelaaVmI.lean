/- The value machine: cuts of strings and slices, conversions, struct literals; a row that is no longer written. Conditions: as each lemma says. -/
import Derived.Test.YtjknoknkbfhelaaVmH
namespace Go.Proofs.Ytjknoknkbfhelaa.Vm

theorem sl_sub {w : World} {e : List CT} {r : List (List DC)} {q : Option Addr} {n c : Nat} {fp : List Nat} (h : RdC w (.sl e) (.sl r) (.slice q n c) fp) {l m : Nat} (hl : l ≤ m) (hm : m ≤ r.length) :
    ∃ fp', RdC w (.sl e) (.sl ((r.take m).drop l)) (.slice (if c = l then q else q.map (·.add (l * e.length))) (m - l) (c - l)) fp' ∧ ∀ b ∈ fp', b ∈ fp := by
  obtain ⟨q', n', c', hv, hn, hc, hmx, hcase⟩ := sl_form h
  injection hv with h1 h2 h3
  subst h1 h2 h3
  have hlen : ((r.take m).drop l).length = m - l := by simp; omega
  rcases Nat.eq_zero_or_pos (m - l) with h0 | h0
  · exact ⟨[], sl_mk hlen (by omega) (by omega) (.inl ⟨h0, rfl⟩), by simp⟩
  · rcases hcase with ⟨h00, _⟩ | ⟨_, b, o, fps, rfl, hlt, hfl, rfl, hrow⟩
    · omega
    · rw [if_neg (by omega)]
      refine ⟨b :: ((fps.take m).drop l).flatten, sl_mk hlen (by omega) (by omega) (.inr ⟨h0, b, o + l * e.length, (fps.take m).drop l, ?_, hlt, by simp; omega, rfl, fun i r' f hi hf => ?_⟩), ?_⟩
      · simp [addr_add]
      · have hi' : r[l + i]? = some r' := by
          rw [List.getElem?_drop, List.getElem?_take] at hi
          split at hi
          · exact hi
          · cases hi
        have hf' : fps[l + i]? = some f := by
          rw [List.getElem?_drop, List.getElem?_take] at hf
          split at hf
          · exact hf
          · cases hf
        have := hrow (l + i) r' f hi' hf'
        have e1 : ∀ j, o + ((l + i) * e.length + j) = o + l * e.length + (i * e.length + j) := by intro j; rw [Nat.add_mul]; omega
        simpa only [e1] using this
      · intro x hx
        rcases List.mem_cons.1 hx with rfl | hx
        · simp
        · obtain ⟨f, hf, hx⟩ := List.mem_flatten.1 hx
          exact List.mem_cons_of_mem _ (List.mem_flatten.2 ⟨f, List.mem_of_mem_take (List.mem_of_mem_drop hf), hx⟩)

section
variable {P : Program} {Γ : Ctx} {w0 : World} {S : Own} {st : St} {o : Oper} {e : Eff} {a : Act} {w : World}

/-- A row is written no more. -/
theorem Core.freeze {f : Nat → SV} {h : Nat → Option VObj} {β : Env} {φ : Nat → List Nat} {tm : Array Value} (hc : Core w0 S f h β φ tm w) {id t : Nat} {ct : List CT} {r : List (List DC)} {fz u : Bool}
    (hid : h id = some (.row t ct r fz u)) : Core w0 S f (upd h id (some (.imm ct r))) β (upd φ id []) tm w := by
  have hav : ∀ b, Av (upd h id (some (.imm ct r))) β b → Av h β b := by
    rintro b (⟨i, ob, hi, hb⟩ | hb)
    case inr => exact .inr hb
    by_cases hii : i = id
    · subst hii
      simp only [upd, if_true, Option.some.injEq] at hi
      subst hi
      simp [tops] at hb
    · simp only [upd, hii, if_false] at hi
      exact .inl ⟨i, ob, hi, hb⟩
  have hobj := hc.objs id _ hid
  refine hc.step (fun _ => False) (Nat.le_refl _) (fun _ _ _ => rfl) (fun b hb => .inl (hav b hb)) (fun _ _ _ h => h) (fun _ _ => ⟨rfl, rfl⟩) ?_ ?_
  · intro i ob hi
    by_cases hii : i = id
    · subst hii
      simp only [upd, if_true, Option.some.injEq] at hi
      subst hi
      refine .inr ⟨⟨?_, by simp [upd]⟩, by simp [upd], by simp [upd]⟩
      obtain ⟨fp, h1, h2, _⟩ := row_reads hobj
      simp only [SVR]
      refine ⟨fp, h1, fun b hb hx => ?_⟩
      rcases h2 b hb with hown | hn
      · rcases hx with ⟨j, ob', hj, hbj⟩ | hx
        case inr => exact hc.not_bar hid (tops_sub hobj b hown) hx
        have hne : j ≠ i := by
          rintro rfl
          simp only [upd, if_true, Option.some.injEq] at hj
          subst hj
          simp [tops] at hbj
        simp only [upd, hne, if_false] at hj
        exact hc.sep i j _ _ (Ne.symm hne) hid hj b (tops_sub hobj b hown) (tops_sub (hc.objs j _ hj) b hbj)
      · exact hn (hav b hx)
    · simp only [upd, hii, if_false] at hi
      exact .inl ⟨fun h => h, hi, by simp [upd, hii], fun _ _ h => h, fun _ _ => rfl⟩
  · intro i j oi oj hne hi hj b hb
    by_cases hii : i = id
    · subst hii; simp [upd] at hb
    · by_cases hjj : j = id
      · subst hjj; simp [upd]
      · simp only [upd, hii, hjj, if_false] at hi hj hb ⊢
        exact hc.sep i j oi oj hne hi hj b hb

def MetOk (h : Nat → Option VObj) (m : Met) : Prop := ∀ x ∈ m, ∃ t fz, h x.1 = some (.row t x.2.1 x.2.2.1 fz x.2.2.2)

def frozenφ (φ : Nat → List Nat) : Met → Nat → List Nat
  | [] => φ
  | x :: l => upd (frozenφ φ l) x.1 []

theorem metNot_mem {id : Nat} {m : Met} (h : metNot id m = true) : ∀ x ∈ m, x.1 ≠ id := by
  induction m with
  | nil => simp
  | cons y l ih =>
    obtain ⟨i, q⟩ := y
    simp only [metNot, Bool.and_eq_true, Bool.not_eq_true'] at h
    intro x hx
    rcases List.mem_cons.1 hx with rfl | hx
    · exact Nat.ne_of_beq_eq_false h.1
    · exact ih h.2 x hx

theorem fo_frozen_other {h : Nat → Option VObj} {m : Met} {id : Nat} (hn : ∀ x ∈ m, x.1 ≠ id) : fo (metFreeze m) h id = h id := by
  induction m with
  | nil => rfl
  | cons y l ih =>
    obtain ⟨i, e', r, u⟩ := y
    simp only [metFreeze, fo, upd]
    rw [if_neg (fun e => hn _ (List.mem_cons_self ..) e.symm)]
    exact ih (fun x hx => hn x (List.mem_cons_of_mem _ hx))

theorem frozenφ_other {φ : Nat → List Nat} {m : Met} {id : Nat} (hn : ∀ x ∈ m, x.1 ≠ id) : frozenφ φ m id = φ id := by
  induction m with
  | nil => rfl
  | cons y l ih =>
    simp only [frozenφ, upd]
    rw [if_neg (fun e => hn _ (List.mem_cons_self ..) e.symm)]
    exact ih (fun x hx => hn x (List.mem_cons_of_mem _ hx))

theorem Core.freezes {f : Nat → SV} {h : Nat → Option VObj} {β : Env} {φ : Nat → List Nat} {tm : Array Value} (hc : Core w0 S f h β φ tm w) : ∀ (m : Met), MetOk h m → metNodup m = true →
    Core w0 S f (fo (metFreeze m) h) β (frozenφ φ m) tm w
  | [], _, _ => hc
  | (id, e', r, u) :: l, hm, hn => by
    simp only [metNodup, Bool.and_eq_true] at hn
    have ih := Core.freezes hc l (fun x hx => hm x (List.mem_cons_of_mem _ hx)) hn.2
    obtain ⟨t, fz, hid⟩ := hm _ (List.mem_cons_self ..)
    have hoth := metNot_mem hn.1
    exact ih.freeze (id := id) (t := t) (ct := e') (r := r) (fz := fz) (u := u) (by rw [fo_frozen_other hoth]; exact hid)

theorem str_extract (s : List UInt8) (l m : Nat) : (⟨s.toArray⟩ : ByteArray).extract l m = ⟨((s.take m).drop l).toArray⟩ := by
  apply ByteArray.ext
  apply Array.toList_inj.1
  rw [Lib.extract_data]
  simp [List.drop_take]


theorem ends_ok {n : Nat} {slo shi : Option SV} {l m : Nat} {c : Bool} (h : sliceEnds n slo shi = some (l, m, c)) (hc : c = true) :
    l ≤ m ∧ m ≤ n ∧ ((slo = none ∧ l = 0) ∨ ∃ k, slo = some (.int k l)) ∧ ((shi = none ∧ m = n) ∨ ∃ k, shi = some (.int k m)) := by
  unfold sliceEnds at h
  split at h
  · simp only [Option.some.injEq, Prod.mk.injEq] at h
    obtain ⟨rfl, rfl, _⟩ := h
    exact ⟨Nat.zero_le _, Nat.le_refl _, .inl ⟨rfl, rfl⟩, .inl ⟨rfl, rfl⟩⟩
  · rename_i k z
    simp only [Option.some.injEq, Prod.mk.injEq] at h
    obtain ⟨rfl, rfl, rfl⟩ := h
    simp only [Bool.and_eq_true, decide_eq_true_eq] at hc
    exact ⟨by omega, Nat.le_refl _, .inr ⟨k, by rw [Int.toNat_of_nonneg hc.1]⟩, .inl ⟨rfl, rfl⟩⟩
  · rename_i k z
    simp only [Option.some.injEq, Prod.mk.injEq] at h
    obtain ⟨rfl, rfl, rfl⟩ := h
    simp only [Bool.and_eq_true, decide_eq_true_eq] at hc
    exact ⟨Nat.zero_le _, by omega, .inl ⟨rfl, rfl⟩, .inr ⟨k, by rw [Int.toNat_of_nonneg hc.1]⟩⟩
  · rename_i k z k' z'
    simp only [Option.some.injEq, Prod.mk.injEq] at h
    obtain ⟨rfl, rfl, rfl⟩ := h
    simp only [Bool.and_eq_true, decide_eq_true_eq] at hc
    exact ⟨by omega, by omega, .inr ⟨k, by rw [Int.toNat_of_nonneg hc.1.1]⟩, .inr ⟨k', by rw [Int.toNat_of_nonneg (by omega)]⟩⟩
  · cases h

theorem evMo_some {f : Nat → SV} {h : Nat → Option VObj} {x : Option Operand} {s : SV} (e : (evMo x).val f h = some (some s)) : ∃ y, x = some y ∧ (evM y).val f h = some s := by
  cases x with
  | none => simp [evMo] at e
  | some y =>
    simp only [evMo, M.val_bind, Option.bind_eq_some_iff, M.val_pure, Option.some.injEq] at e
    obtain ⟨s', h1, rfl⟩ := e
    exact ⟨y, rfl, h1⟩

theorem evMo_none {f : Nat → SV} {h : Nat → Option VObj} {x : Option Operand} (e : (evMo x).val f h = some none) : x = none := by
  cases x with
  | none => rfl
  | some y => simp [evMo, Option.bind_eq_some_iff] at e

theorem run_bound {x : Nat} {k : IntKind} {y : Nat} {code : BoundsCode} (h : x ≤ y) : (Instr.sliceBound (.int k x) y code).run P w = .ok x w := by
  simp [Instr.sliceBound, asIntOf, h]

theorem run_bounds {lo hi : Option Operand} {slo shi : Option SV} {n cap l m : Nat} {c isS : Bool} {β : Env} {φ : Nat → List Nat} (hcap : n ≤ cap) (hC : Core w0 S st.get st.obj β φ a.tmps w)
    (h1 : (evMo lo).val st.get st.obj = some slo) (h2 : (evMo hi).val st.get st.obj = some shi) (h : sliceEnds n slo shi = some (l, m, c)) (hc : c = true) :
    (Instr.sliceBounds isS n cap (lo.map a.eval) (hi.map a.eval) none).run P w = .ok (l, m, cap) w := by
  obtain ⟨hlm, hmn, hl, hm⟩ := ends_ok h hc
  rcases hl with ⟨rfl, rfl⟩ | ⟨k, rfl⟩ <;> rcases hm with ⟨rfl, rfl⟩ | ⟨k', rfl⟩
  · simp [evMo_none h1, evMo_none h2, Instr.sliceBounds]
  · obtain ⟨y, rfl, hy⟩ := evMo_some h2
    have hy := hC.ev hy
    simp only [SVR] at hy
    simp [evMo_none h1, Instr.sliceBounds, hy.1, run_bound (P := P) (w := w) (k := k') (by omega : m ≤ cap)]
  · obtain ⟨y, rfl, hy⟩ := evMo_some h1
    have hy := hC.ev hy
    simp only [SVR] at hy
    simp [evMo_none h2, Instr.sliceBounds, hy.1, run_bound (P := P) (w := w) (k := k) hlm]
  · obtain ⟨y, rfl, hy⟩ := evMo_some h1
    have hy := hC.ev hy
    obtain ⟨z, rfl, hz⟩ := evMo_some h2
    have hz := hC.ev hz
    simp only [SVR] at hy hz
    simp [Instr.sliceBounds, hy.1, hz.1, run_bound (P := P) (w := w) (k := k) hlm, run_bound (P := P) (w := w) (k := k') (by omega : m ≤ cap)]

theorem sound_slice (hR : Rel w0 S st a w) (hd : ∀ d, o.dst = some d → DstOk st.n d) {t : TypeId} {x : Operand} {lo hi : Option Operand} (ho : o.op = .slice t x lo hi none) {sx : SV} {slo shi : Option SV}
    (h1 : (evM x).val st.get st.obj = some sx) (h2 : (evMo lo).val st.get st.obj = some slo) (h3 : (evMo hi).val st.get st.obj = some shi)
    (he : (sliceM P t sx slo shi).val st.get st.obj = some e) (hok : e.ok = true) : Good P w0 S st o e a w := by
  unfold sliceM at he
  split at he
  · rename_i hu
    split at he
    · rename_i s
      split at he
      · rename_i l m c hends
        simp only [M.val_pure, Option.some.injEq] at he
        subst he
        have hok : c = true := hok
        refine good_pure hR hd rfl rfl fun β φ hc => ?_
        have hx := hc.ev h1
        simp only [SVR] at hx
        have hb := run_bounds (P := P) (isS := false) (Nat.le_refl _) hc h2 h3 hends hok
        refine ⟨.string ⟨((s.take m).drop l).toArray⟩, ?_, ?_⟩
        · simp [execOp, ho, hx.1, Instr.sliceAt, Instr.slice, run_underlying hu, str_size, hb, str_extract]
        · unfold SVR
          refine ⟨rfl, ?_⟩
          simp only [List.length_drop, List.length_take]
          omega
      · simp at he
    · simp at he
  · rename_i et hu
    have run : ∀ (q : Option Addr) (n cap l m : Nat) (c : Bool) (i : TypeInfo) (β : Env) (φ : Nat → List Nat), Core w0 S st.get st.obj β φ a.tmps w → n ≤ cap → P.info? et = some i → sliceEnds n slo shi = some (l, m, c) → c = true →
        a.eval x = .slice q n cap → (execOp a.eval o).run P w = .ok (.value (.slice (if cap = l then q else q.map (·.add (l * i.size))) (m - l) (cap - l))) w := by
      intro q n cap l m c i β φ hc hcap hi hends hcc hx
      have hb := run_bounds (P := P) (isS := true) hcap hc h2 h3 hends hcc
      simp [execOp, ho, hx, Instr.sliceAt, Instr.slice, run_underlying hu, hb, sizeOf, typeInfo, hi]
    split at he
    · rename_i ct r
      cases hz : sizeB P et ct.length
      · simp [hz] at he
      simp only [hz, cond_true] at he
      obtain ⟨i, hi, hsz⟩ := sizeB_size hz
      split at he
      · rename_i l m c hends
        simp only [M.val_pure, Option.some.injEq] at he
        subst he
        have hok : c = true := hok
        refine good_pure hR hd rfl rfl fun β φ hc => ?_
        have hx := hc.ev h1
        simp only [SVR] at hx
        obtain ⟨fp, hr, hav⟩ := hx
        obtain ⟨q, n, cap, hv, hn, hcap, _, _⟩ := sl_form hr
        obtain ⟨hlm, hmn, _⟩ := ends_ok hends hok
        rw [hv] at hr
        obtain ⟨fp', hsub, hss⟩ := sl_sub hr hlm hmn
        refine ⟨_, run q n cap l m c i β φ hc hcap hi (by rw [← hn]; exact hends) hok hv, ?_⟩
        simp only [SVR]
        rw [hsz]
        exact ⟨fp', hsub, fun b hb => hav b (hss b hb)⟩
      · simp at he
    · rename_i id
      simp only [M.val_obj, Option.bind_eq_some_iff] at he
      obtain ⟨ob, hob, he⟩ := he
      split at he
      · rename_i t' ct r u
        cases hz : Nat.beq t' et && sizeB P et ct.length
        · simp [hz] at he
        simp only [hz, cond_true] at he
        simp only [Bool.and_eq_true] at hz
        obtain ⟨i, hi, hsz⟩ := sizeB_size hz.2
        split at he
        · rename_i l m c hends
          simp only [M.val_pure, Option.some.injEq] at he
          subst he
          have hok : c = true := hok
          obtain ⟨β, φ, hc⟩ := hR.core
          have hx := hc.ev h1
          simp only [SVR] at hx
          have hcf := hc.freeze hob
          have himm := (hcf.objs id (.imm ct r) (by simp [upd])).1
          simp only [SVR] at himm
          obtain ⟨fp, hr, hav⟩ := himm
          obtain ⟨q, n, cap, hv, hn, hcap, _, _⟩ := sl_form hr
          obtain ⟨hlm, hmn, _⟩ := ends_ok hends hok
          rw [hv] at hr
          obtain ⟨fp', hsub, hss⟩ := sl_sub hr hlm hmn
          refine good_value hR hd (run q n cap l m c i β φ hc hcap hi (by rw [← hn]; exact hends) hok (hx.1.trans hv)) hR.kept ⟨β, _, hcf, ?_⟩
          simp only [SVR]
          rw [hsz]
          exact ⟨fp', hsub, fun b hb => hav b (hss b hb)⟩
        · simp at he
      · rename_i ct r
        cases hz : sizeB P et ct.length
        · simp [hz] at he
        simp only [hz, cond_true] at he
        obtain ⟨i, hi, hsz⟩ := sizeB_size hz
        split at he
        · rename_i l m c hends
          simp only [M.val_pure, Option.some.injEq] at he
          subst he
          have hok : c = true := hok
          refine good_pure hR hd rfl rfl fun β φ hc => ?_
          have hx := hc.ev h1
          simp only [SVR] at hx
          have himm := (hc.objs id _ hob).1
          simp only [SVR] at himm
          obtain ⟨fp, hr, hav⟩ := himm
          obtain ⟨q, n, cap, hv, hn, hcap, _, _⟩ := sl_form hr
          obtain ⟨hlm, hmn, _⟩ := ends_ok hends hok
          rw [hv] at hr
          obtain ⟨fp', hsub, hss⟩ := sl_sub hr hlm hmn
          refine ⟨_, run q n cap l m c i β φ hc hcap hi (by rw [← hn]; exact hends) hok (hx.1.trans hv), ?_⟩
          simp only [SVR]
          rw [hsz]
          exact ⟨fp', hsub, fun b hb => hav b (hss b hb)⟩
        · simp at he
      · simp at he
    · simp at he
  · simp at he

end

end Go.Proofs.Ytjknoknkbfhelaa.Vm
