/- The value machine: slices, structs, new objects, appending, contracts. Conditions: as each lemma says. -/
import Derived.Test.YthpmalpdnnbkgaaGreatVa
import Derived.Laws.Tables
import Derived.Great.BuildSlice
import Derived.Laws.CopyRow

/- The value machine: cuts of strings and slices, conversions, struct literals; a row that is no longer written. Conditions: as each lemma says. -/
namespace Go.Proofs.YthpmalpdnnbkgaaGreat.Vm

theorem sl_sub {w : World} {e : List CT} {r : List (List DC)} {q : Option Addr} {n c : Nat} {fp : List Nat} (h : RdC w (.sl e) (.sl r) (.slice q n c) fp) {l m : Nat} (hl : l ≤ m) (hm : m ≤ r.length) :
    ∃ fp', RdC w (.sl e) (.sl ((r.take m).drop l)) (.slice (if c = l then q else q.map (·.add (l * e.length))) (m - l) (c - l)) fp' ∧ ∀ b ∈ fp', b ∈ fp := by
  obtain ⟨q', n', c', hv, hn, hc, hmx, hcase⟩ := sl_form h
  injection hv with h1 h2 h3
  subst h1 h2 h3
  have hlen : ((r.take m).drop l).length = m - l := by simp; omega
  rcases Nat.eq_zero_or_pos (m - l) with h0 | h0
  · exact ⟨[], sl_mk hlen (by omega) (by omega) (.inl ⟨h0, rfl⟩), by simp⟩
  · rcases hcase with ⟨h00, _⟩ | ⟨_, b, o, fps, rfl, hlt, hfl, rfl, hrow⟩
    · omega
    · rw [if_neg (by omega)]
      refine ⟨b :: ((fps.take m).drop l).flatten, sl_mk hlen (by omega) (by omega) (.inr ⟨h0, b, o + l * e.length, (fps.take m).drop l, ?_, hlt, by simp; omega, rfl, fun i r' f hi hf => ?_⟩), ?_⟩
      · simp [addr_add]
      · have hi' : r[l + i]? = some r' := by
          rw [List.getElem?_drop, List.getElem?_take] at hi
          split at hi
          · exact hi
          · cases hi
        have hf' : fps[l + i]? = some f := by
          rw [List.getElem?_drop, List.getElem?_take] at hf
          split at hf
          · exact hf
          · cases hf
        have := hrow (l + i) r' f hi' hf'
        have e1 : ∀ j, o + ((l + i) * e.length + j) = o + l * e.length + (i * e.length + j) := by intro j; rw [Nat.add_mul]; omega
        simpa only [e1] using this
      · intro x hx
        rcases List.mem_cons.1 hx with rfl | hx
        · simp
        · obtain ⟨f, hf, hx⟩ := List.mem_flatten.1 hx
          exact List.mem_cons_of_mem _ (List.mem_flatten.2 ⟨f, List.mem_of_mem_take (List.mem_of_mem_drop hf), hx⟩)

section
variable {P : Program} {Γ : Ctx} {w0 : World} {S : Own} {st : St} {o : Oper} {e : Eff} {a : Act} {w : World}

/-- A row is written no more. -/
theorem Core.freeze {f : Nat → SV} {h : Nat → Option VObj} {β : Env} {φ : Nat → List Nat} {tm : Array Value} (hc : Core w0 S f h β φ tm w) {id : Nat} {ob0 : VObj} {ct : List CT} {r : List (List DC)} {u : Bool}
    (hid : h id = some ob0) (hob0 : MetObj ob0 ct r u) : Core w0 S f (upd h id (some (.imm ct r))) β (upd φ id []) tm w := by
  have hav : ∀ b, Av (upd h id (some (.imm ct r))) β b → Av h β b := by
    rintro b (⟨i, ob, hi, hb⟩ | hb)
    case inr => exact .inr hb
    by_cases hii : i = id
    · subst hii
      simp only [upd, if_true, Option.some.injEq] at hi
      subst hi
      simp [tops] at hb
    · simp only [upd, hii, if_false] at hi
      exact .inl ⟨i, ob, hi, hb⟩
  have hobj := hc.objs id _ hid
  refine hc.step (fun _ => False) (Nat.le_refl _) (fun _ _ _ => rfl) (fun b hb => .inl (hav b hb)) (fun _ _ _ h => h) (fun _ _ => ⟨rfl, rfl⟩) ?_ ?_
  · intro i ob hi
    by_cases hii : i = id
    · subst hii
      simp only [upd, if_true, Option.some.injEq] at hi
      subst hi
      refine .inr ⟨⟨?_, by simp [upd]⟩, by simp [upd], by simp [upd]⟩
      obtain ⟨fp, h1, h2, _⟩ := met_reads hobj hob0
      simp only [SVR]
      refine ⟨fp, h1, fun b hb hx => ?_⟩
      rcases h2 b hb with hown | hn
      · rcases hx with ⟨j, ob', hj, hbj⟩ | hx
        case inr => exact hc.not_bar hid (tops_sub hobj b hown) hx
        have hne : j ≠ i := by
          rintro rfl
          simp only [upd, if_true, Option.some.injEq] at hj
          subst hj
          simp [tops] at hbj
        simp only [upd, hne, if_false] at hj
        exact hc.sep i j _ _ (Ne.symm hne) hid hj b (tops_sub hobj b hown) (tops_sub (hc.objs j _ hj) b hbj)
      · exact hn (hav b hx)
    · simp only [upd, hii, if_false] at hi
      exact .inl ⟨fun h => h, hi, by simp [upd, hii], fun _ _ h => h, fun _ _ => rfl⟩
  · intro i j oi oj hne hi hj b hb
    by_cases hii : i = id
    · subst hii; simp [upd] at hb
    · by_cases hjj : j = id
      · subst hjj; simp [upd]
      · simp only [upd, hii, hjj, if_false] at hi hj hb ⊢
        exact hc.sep i j oi oj hne hi hj b hb

def MetOk (h : Nat → Option VObj) (m : Met) : Prop := ∀ x ∈ m, ∃ o, h x.1 = some o ∧ MetObj o x.2.1 x.2.2.1 x.2.2.2
/-- The blocks of an object that may be written. -/
def topsAt (h : Nat → Option VObj) (β : Env) (i : Nat) : List Nat :=
  match h i with
  | some o => tops β i o
  | none => []
theorem topsAt_eq {h : Nat → Option VObj} {β : Env} {i : Nat} {o : VObj} (hi : h i = some o) : topsAt h β i = tops β i o := by simp only [topsAt, hi]

def frozenφ (φ : Nat → List Nat) : Met → Nat → List Nat
  | [] => φ
  | x :: l => upd (frozenφ φ l) x.1 []

theorem metNot_mem {id : Nat} {m : Met} (h : metNot id m = true) : ∀ x ∈ m, x.1 ≠ id := by
  induction m with
  | nil => simp
  | cons y l ih =>
    obtain ⟨i, q⟩ := y
    simp only [metNot, Bool.and_eq_true, Bool.not_eq_true'] at h
    intro x hx
    rcases List.mem_cons.1 hx with rfl | hx
    · exact Nat.ne_of_beq_eq_false h.1
    · exact ih h.2 x hx

theorem fo_frozen_other {h : Nat → Option VObj} {m : Met} {id : Nat} (hn : ∀ x ∈ m, x.1 ≠ id) : fo (metFreeze m) h id = h id := by
  induction m with
  | nil => rfl
  | cons y l ih =>
    obtain ⟨i, e', r, u⟩ := y
    simp only [metFreeze, fo, upd]
    rw [if_neg (fun e => hn _ (List.mem_cons_self ..) e.symm)]
    exact ih (fun x hx => hn x (List.mem_cons_of_mem _ hx))

theorem frozenφ_other {φ : Nat → List Nat} {m : Met} {id : Nat} (hn : ∀ x ∈ m, x.1 ≠ id) : frozenφ φ m id = φ id := by
  induction m with
  | nil => rfl
  | cons y l ih =>
    simp only [frozenφ, upd]
    rw [if_neg (fun e => hn _ (List.mem_cons_self ..) e.symm)]
    exact ih (fun x hx => hn x (List.mem_cons_of_mem _ hx))

theorem Core.freezes {f : Nat → SV} {h : Nat → Option VObj} {β : Env} {φ : Nat → List Nat} {tm : Array Value} (hc : Core w0 S f h β φ tm w) : ∀ (m : Met), MetOk h m → metNodup m = true →
    Core w0 S f (fo (metFreeze m) h) β (frozenφ φ m) tm w
  | [], _, _ => hc
  | (id, e', r, u) :: l, hm, hn => by
    simp only [metNodup, Bool.and_eq_true] at hn
    have ih := Core.freezes hc l (fun x hx => hm x (List.mem_cons_of_mem _ hx)) hn.2
    obtain ⟨o, hid, hob⟩ := hm _ (List.mem_cons_self ..)
    have hoth := metNot_mem hn.1
    exact ih.freeze (id := id) (ct := e') (r := r) (u := u) (by rw [fo_frozen_other hoth]; exact hid) hob

theorem str_extract (s : List UInt8) (l m : Nat) : (⟨s.toArray⟩ : ByteArray).extract l m = ⟨((s.take m).drop l).toArray⟩ := by
  apply ByteArray.ext
  apply Array.toList_inj.1
  rw [Lib.extract_data]
  simp [List.drop_take]


theorem ends_ok {n : Nat} {slo shi : Option SV} {l m : Nat} {c : Bool} (h : sliceEnds n slo shi = some (l, m, c)) (hc : c = true) :
    l ≤ m ∧ m ≤ n ∧ ((slo = none ∧ l = 0) ∨ ∃ k, slo = some (.int k l)) ∧ ((shi = none ∧ m = n) ∨ ∃ k, shi = some (.int k m)) := by
  unfold sliceEnds at h
  split at h
  · simp only [Option.some.injEq, Prod.mk.injEq] at h
    obtain ⟨rfl, rfl, _⟩ := h
    exact ⟨Nat.zero_le _, Nat.le_refl _, .inl ⟨rfl, rfl⟩, .inl ⟨rfl, rfl⟩⟩
  · rename_i k z
    simp only [Option.some.injEq, Prod.mk.injEq] at h
    obtain ⟨rfl, rfl, rfl⟩ := h
    simp only [Bool.and_eq_true, decide_eq_true_eq] at hc
    exact ⟨by omega, Nat.le_refl _, .inr ⟨k, by rw [Int.toNat_of_nonneg hc.1]⟩, .inl ⟨rfl, rfl⟩⟩
  · rename_i k z
    simp only [Option.some.injEq, Prod.mk.injEq] at h
    obtain ⟨rfl, rfl, rfl⟩ := h
    simp only [Bool.and_eq_true, decide_eq_true_eq] at hc
    exact ⟨Nat.zero_le _, by omega, .inl ⟨rfl, rfl⟩, .inr ⟨k, by rw [Int.toNat_of_nonneg hc.1]⟩⟩
  · rename_i k z k' z'
    simp only [Option.some.injEq, Prod.mk.injEq] at h
    obtain ⟨rfl, rfl, rfl⟩ := h
    simp only [Bool.and_eq_true, decide_eq_true_eq] at hc
    exact ⟨by omega, by omega, .inr ⟨k, by rw [Int.toNat_of_nonneg hc.1.1]⟩, .inr ⟨k', by rw [Int.toNat_of_nonneg (by omega)]⟩⟩
  · cases h

theorem evMo_some {f : Nat → SV} {h : Nat → Option VObj} {x : Option Operand} {s : SV} (e : (evMo x).val f h = some (some s)) : ∃ y, x = some y ∧ (evM y).val f h = some s := by
  cases x with
  | none => simp [evMo] at e
  | some y =>
    simp only [evMo, M.val_bind, Option.bind_eq_some_iff, M.val_pure, Option.some.injEq] at e
    obtain ⟨s', h1, rfl⟩ := e
    exact ⟨y, rfl, h1⟩

theorem evMo_none {f : Nat → SV} {h : Nat → Option VObj} {x : Option Operand} (e : (evMo x).val f h = some none) : x = none := by
  cases x with
  | none => rfl
  | some y => simp [evMo, Option.bind_eq_some_iff] at e

theorem run_bound {x : Nat} {k : IntKind} {y : Nat} {code : BoundsCode} (h : x ≤ y) : (Instr.sliceBound (.int k x) y code).run P w = .ok x w := by
  simp [Instr.sliceBound, asIntOf, h]

theorem run_bounds {lo hi : Option Operand} {slo shi : Option SV} {n cap l m : Nat} {c isS : Bool} {β : Env} {φ : Nat → List Nat} (hcap : n ≤ cap) (hC : Core w0 S st.get st.obj β φ a.tmps w)
    (h1 : (evMo lo).val st.get st.obj = some slo) (h2 : (evMo hi).val st.get st.obj = some shi) (h : sliceEnds n slo shi = some (l, m, c)) (hc : c = true) :
    (Instr.sliceBounds isS n cap (lo.map a.eval) (hi.map a.eval) none).run P w = .ok (l, m, cap) w := by
  obtain ⟨hlm, hmn, hl, hm⟩ := ends_ok h hc
  rcases hl with ⟨rfl, rfl⟩ | ⟨k, rfl⟩ <;> rcases hm with ⟨rfl, rfl⟩ | ⟨k', rfl⟩
  · simp [evMo_none h1, evMo_none h2, Instr.sliceBounds]
  · obtain ⟨y, rfl, hy⟩ := evMo_some h2
    have hy := hC.ev hy
    simp only [SVR] at hy
    simp [evMo_none h1, Instr.sliceBounds, hy.1, run_bound (P := P) (w := w) (k := k') (by omega : m ≤ cap)]
  · obtain ⟨y, rfl, hy⟩ := evMo_some h1
    have hy := hC.ev hy
    simp only [SVR] at hy
    simp [evMo_none h2, Instr.sliceBounds, hy.1, run_bound (P := P) (w := w) (k := k) hlm]
  · obtain ⟨y, rfl, hy⟩ := evMo_some h1
    have hy := hC.ev hy
    obtain ⟨z, rfl, hz⟩ := evMo_some h2
    have hz := hC.ev hz
    simp only [SVR] at hy hz
    simp [Instr.sliceBounds, hy.1, hz.1, run_bound (P := P) (w := w) (k := k) hlm, run_bound (P := P) (w := w) (k := k') (by omega : m ≤ cap)]

theorem sound_slice (hR : Rel w0 S st a w) (hd : ∀ d, o.dst = some d → DstOk st.n d) {t : TypeId} {x : Operand} {lo hi : Option Operand} (ho : o.op = .slice t x lo hi none) {sx : SV} {slo shi : Option SV}
    (h1 : (evM x).val st.get st.obj = some sx) (h2 : (evMo lo).val st.get st.obj = some slo) (h3 : (evMo hi).val st.get st.obj = some shi)
    (he : (sliceM P t sx slo shi).val st.get st.obj = some e) (hok : e.ok = true) : Good P w0 S st o e a w := by
  unfold sliceM at he
  split at he
  · rename_i hu
    split at he
    · rename_i s
      split at he
      · rename_i l m c hends
        simp only [M.val_pure, Option.some.injEq] at he
        subst he
        have hok : c = true := hok
        refine good_pure hR hd rfl rfl fun β φ hc => ?_
        have hx := hc.ev h1
        simp only [SVR] at hx
        have hb := run_bounds (P := P) (isS := false) (Nat.le_refl _) hc h2 h3 hends hok
        refine ⟨.string ⟨((s.take m).drop l).toArray⟩, ?_, ?_⟩
        · simp [execOp, ho, hx.1, Instr.sliceAt, Instr.slice, run_underlying hu, str_size, hb, str_extract]
        · unfold SVR
          refine ⟨rfl, ?_⟩
          simp only [List.length_drop, List.length_take]
          omega
      · simp at he
    · simp at he
  · rename_i et hu
    have run : ∀ (q : Option Addr) (n cap l m : Nat) (c : Bool) (i : TypeInfo) (β : Env) (φ : Nat → List Nat), Core w0 S st.get st.obj β φ a.tmps w → n ≤ cap → P.info? et = some i → sliceEnds n slo shi = some (l, m, c) → c = true →
        a.eval x = .slice q n cap → (execOp a.eval o).run P w = .ok (.value (.slice (if cap = l then q else q.map (·.add (l * i.size))) (m - l) (cap - l))) w := by
      intro q n cap l m c i β φ hc hcap hi hends hcc hx
      have hb := run_bounds (P := P) (isS := true) hcap hc h2 h3 hends hcc
      simp [execOp, ho, hx, Instr.sliceAt, Instr.slice, run_underlying hu, hb, sizeOf, typeInfo, hi]
    split at he
    · rename_i ct r
      cases hz : sizeB P et ct.length
      · simp [hz] at he
      simp only [hz, cond_true] at he
      obtain ⟨i, hi, hsz⟩ := sizeB_size hz
      split at he
      · rename_i l m c hends
        simp only [M.val_pure, Option.some.injEq] at he
        subst he
        have hok : c = true := hok
        refine good_pure hR hd rfl rfl fun β φ hc => ?_
        have hx := hc.ev h1
        simp only [SVR] at hx
        obtain ⟨fp, hr, hav⟩ := hx
        obtain ⟨q, n, cap, hv, hn, hcap, _, _⟩ := sl_form hr
        obtain ⟨hlm, hmn, _⟩ := ends_ok hends hok
        rw [hv] at hr
        obtain ⟨fp', hsub, hss⟩ := sl_sub hr hlm hmn
        refine ⟨_, run q n cap l m c i β φ hc hcap hi (by rw [← hn]; exact hends) hok hv, ?_⟩
        simp only [SVR]
        rw [hsz]
        exact ⟨fp', hsub, fun b hb => hav b (hss b hb)⟩
      · simp at he
    · rename_i id
      simp only [M.val_obj, Option.bind_eq_some_iff] at he
      obtain ⟨ob, hob, he⟩ := he
      split at he
      · rename_i t' ct r u
        cases hz : Nat.beq t' et && sizeB P et ct.length
        · simp [hz] at he
        simp only [hz, cond_true] at he
        simp only [Bool.and_eq_true] at hz
        obtain ⟨i, hi, hsz⟩ := sizeB_size hz.2
        split at he
        · rename_i l m c hends
          simp only [M.val_pure, Option.some.injEq] at he
          subst he
          have hok : c = true := hok
          obtain ⟨β, φ, hc⟩ := hR.core
          have hx := hc.ev h1
          simp only [SVR] at hx
          have hcf := hc.freeze hob (.inl ⟨_, _, rfl⟩)
          have himm := (hcf.objs id (.imm ct r) (by simp [upd])).1
          simp only [SVR] at himm
          obtain ⟨fp, hr, hav⟩ := himm
          obtain ⟨q, n, cap, hv, hn, hcap, _, _⟩ := sl_form hr
          obtain ⟨hlm, hmn, _⟩ := ends_ok hends hok
          rw [hv] at hr
          obtain ⟨fp', hsub, hss⟩ := sl_sub hr hlm hmn
          refine good_value hR hd (run q n cap l m c i β φ hc hcap hi (by rw [← hn]; exact hends) hok (hx.1.trans hv)) hR.kept ⟨β, _, hcf, ?_⟩
          simp only [SVR]
          rw [hsz]
          exact ⟨fp', hsub, fun b hb => hav b (hss b hb)⟩
        · simp at he
      · rename_i ct r
        cases hz : sizeB P et ct.length
        · simp [hz] at he
        simp only [hz, cond_true] at he
        obtain ⟨i, hi, hsz⟩ := sizeB_size hz
        split at he
        · rename_i l m c hends
          simp only [M.val_pure, Option.some.injEq] at he
          subst he
          have hok : c = true := hok
          refine good_pure hR hd rfl rfl fun β φ hc => ?_
          have hx := hc.ev h1
          simp only [SVR] at hx
          have himm := (hc.objs id _ hob).1
          simp only [SVR] at himm
          obtain ⟨fp, hr, hav⟩ := himm
          obtain ⟨q, n, cap, hv, hn, hcap, _, _⟩ := sl_form hr
          obtain ⟨hlm, hmn, _⟩ := ends_ok hends hok
          rw [hv] at hr
          obtain ⟨fp', hsub, hss⟩ := sl_sub hr hlm hmn
          refine ⟨_, run q n cap l m c i β φ hc hcap hi (by rw [← hn]; exact hends) hok (hx.1.trans hv), ?_⟩
          simp only [SVR]
          rw [hsz]
          exact ⟨fp', hsub, fun b hb => hav b (hss b hb)⟩
        · simp at he
      · simp at he
    · simp at he
  · simp at he

end

end Go.Proofs.YthpmalpdnnbkgaaGreat.Vm

/- The value machine: struct literals and conversions that make nothing. Conditions: as each lemma says. -/
namespace Go.Proofs.YthpmalpdnnbkgaaGreat.Vm

theorem set_run (off : Nat) : ∀ (vs : List Value) (k : Nat) (cs : Array Value), off + k + vs.length ≤ cs.size →
    ((vs.zipIdx k).foldl (fun cs (x : Value × Nat) => cs.setIfInBounds (off + x.2) x.1) cs).toList = cs.toList.take (off + k) ++ (vs ++ cs.toList.drop (off + k + vs.length))
  | [], k, cs, h => by simp
  | v :: vs, k, cs, h => by
    simp only [List.zipIdx_cons, List.foldl_cons]
    simp only [List.length_cons] at h
    rw [set_run off vs (k + 1) _ (by simp; omega)]
    have e1 : (cs.setIfInBounds (off + k) v).toList = cs.toList.set (off + k) v := by simp
    have hl : off + k < cs.toList.length := by simp; omega
    rw [e1]
    have e2 : (cs.toList.set (off + k) v).take (off + (k + 1)) = cs.toList.take (off + k) ++ [v] := by
      rw [← Nat.add_assoc, List.take_succ_eq_append_getElem (by simpa using hl), List.take_set_of_le (Nat.le_refl _)]
      simp
    have e3 : (cs.toList.set (off + k) v).drop (off + (k + 1) + vs.length) = cs.toList.drop (off + k + (vs.length + 1)) := by
      rw [List.drop_set_of_lt (by omega)]
      congr 1
      omega
    rw [e2, e3]
    simp

theorem fill_cons {place : Nat → Option (Nat × Nat)} {cells : Array Value} {i off : Nat} {v : Value} {rest : List (Nat × Value)} (hp : place i = some (off, v.cells.size)) (hl : off + v.cells.size ≤ cells.size) :
    Instr.fill place cells ((i, v) :: rest) = Instr.fill place (cells.toList.take off ++ (v.cells.toList ++ cells.toList.drop (off + v.cells.size))).toArray rest := by
  have h1 : (v.cells.zipIdx.foldl (fun cs (x : Value × Nat) => cs.setIfInBounds (off + x.2) x.1) cells) = (cells.toList.take off ++ (v.cells.toList ++ cells.toList.drop (off + v.cells.size))).toArray := by
    apply Array.toList_inj.1
    rw [← Array.foldl_toList, Array.toList_zipIdx]
    have := set_run off v.cells.toList 0 cells (by simpa using hl)
    simpa using this
  simp only [Instr.fill, hp]
  rw [if_neg (by simp; omega)]
  exact congrArg (fun x => Instr.fill place x rest) h1

section
variable {P : Program} {Γ : Ctx} {w0 : World} {S : Own} {st : St} {o : Oper} {e : Eff} {a : Act} {w : World}

/-- The cells of a value, as the machine and as the model have them. -/
theorem cells_ok {av : Nat → Prop} {β : Env} {f : Nat → SV} {h : Nat → Option VObj} {s : SV} {v : Value} {cs : List SV} (hs : SVR w av β s v) (hc : (cellsOfSV s).val f h = some cs) :
    SVRL w av β cs v.cells.toList ∧ ∀ x ∈ v.cells.toList, x.oneCell' = true := by
  have single : v.oneCell' = true → cs = [s] → SVRL w av β cs v.cells.toList ∧ ∀ x ∈ v.cells.toList, x.oneCell' = true := by
    intro hone hcs
    have hcells : v.cells = #[v] := by cases v <;> first | rfl | (simp [Value.oneCell'] at hone)
    rw [hcells, hcs]
    simp only [List.mem_singleton, forall_eq, SVRL]
    exact ⟨⟨v, [], rfl, hs, rfl⟩, hone⟩
  cases s with
  | unk => simp [cellsOfSV] at hc
  | undef => simp [cellsOfSV] at hc
  | tup l => simp [cellsOfSV] at hc
  | clo g l => simp [cellsOfSV] at hc
  | osl id lo z => simp [cellsOfSV] at hc
  | agg l =>
    simp only [cellsOfSV, M.val_pure, Option.some.injEq] at hc
    subst hc
    simp only [SVR] at hs
    obtain ⟨vs, rfl, h1, h2⟩ := hs
    simpa [Value.cells] using ⟨h1, h2⟩
  | kb b => simp only [cellsOfSV, M.val_pure, Option.some.injEq] at hc; exact single (by simp only [SVR] at hs; subst hs; rfl) hc.symm
  | int k n => simp only [cellsOfSV, M.val_pure, Option.some.injEq] at hc; exact single (by simp only [SVR] at hs; rw [hs.1]; rfl) hc.symm
  | bool b => simp only [cellsOfSV, M.val_pure, Option.some.injEq] at hc; exact single (by simp only [SVR] at hs; subst hs; rfl) hc.symm
  | str b => simp only [cellsOfSV, M.val_pure, Option.some.injEq] at hc; exact single (by simp only [SVR] at hs; rw [hs.1]; rfl) hc.symm
  | sl e r => simp only [cellsOfSV, M.val_pure, Option.some.injEq] at hc; exact single (by simp only [SVR] at hs; obtain ⟨fp, hr, _⟩ := hs; exact hr.one) hc.symm
  | nil => simp only [cellsOfSV, M.val_pure, Option.some.injEq] at hc; exact single (by simp only [SVR] at hs; subst hs; rfl) hc.symm
  | own id => simp only [cellsOfSV, M.val_pure, Option.some.injEq] at hc; exact single (by simp only [SVR] at hs; exact hs.2) hc.symm
  | ptr id off => simp only [cellsOfSV, M.val_pure, Option.some.injEq] at hc; exact single (by simp only [SVR] at hs; subst hs; rfl) hc.symm
  | eimm e r off => simp only [cellsOfSV, M.val_pure, Option.some.injEq] at hc; exact single (by simp only [SVR] at hs; obtain ⟨b, o, fp, hv, _⟩ := hs; subst hv; rfl) hc.symm
  | eown id i z off => simp only [cellsOfSV, M.val_pure, Option.some.injEq] at hc; exact single (by simp only [SVR] at hs; obtain ⟨g, _, hv⟩ := hs; subst hv; rfl) hc.symm

theorem ofConsts_ok {av : Nat → Prop} {β : Env} : ∀ (l : List Value), SVRL w av β (l.map ofConst) l
  | [] => by simp [SVRL]
  | v :: l => by
    simp only [List.map_cons, SVRL]
    exact ⟨v, l, rfl, ofConst_ok v, ofConsts_ok l⟩

theorem places_at {fs : Array Field} {places : List (Nat × Nat)} (h : fs.toList.mapM (fun f => (P.info? f.type).map fun i => (f.offset, i.size)) = some places) {i : Nat} {f : Field} (hf : fs[i]? = some f) :
    ∃ ti, P.info? f.type = some ti ∧ places.toArray[i]? = some (f.offset, ti.size) := by
  have hf' : fs.toList[i]? = some f := by simpa using hf
  clear hf
  generalize fs.toList = l at h hf'
  induction l generalizing places i with
  | nil => simp at hf'
  | cons g l ih =>
    simp only [List.mapM_cons, Option.bind_eq_bind, Option.pure_def] at h
    cases hi : P.info? g.type with
    | none => simp [hi] at h
    | some ti =>
      cases hr : l.mapM (fun f => (P.info? f.type).map fun i => (f.offset, i.size)) with
      | none => simp [hi, hr] at h
      | some rest =>
        simp [hi, hr] at h
        subst h
        cases i with
        | zero =>
          simp at hf'
          subst hf'
          exact ⟨ti, hi, by simp⟩
        | succ i =>
          obtain ⟨tj, h1, h2⟩ := ih hr (by simpa using hf')
          exact ⟨tj, h1, by simpa using h2⟩

theorem buildM_ok {β : Env} {φ : Nat → List Nat} (hc : Core w0 S st.get st.obj β φ a.tmps w) {fs : Array Field} {places : List (Nat × Nat)}
    (hp : fs.toList.mapM (fun f => (P.info? f.type).map fun i => (f.offset, i.size)) = some places) :
    ∀ (parts : List (Nat × Operand)) (cells : List SV) (cs : List SV) (vs : List Value), (buildM P fs parts cells).val st.get st.obj = some cs → SVRL w (Av st.obj β) β cells vs → (∀ x ∈ vs, x.oneCell' = true) →
    ∃ us : List Value, Instr.fill (places.toArray[·]?) vs.toArray (parts.map fun x => (x.1, a.eval x.2)) = some us.toArray ∧ SVRL w (Av st.obj β) β cs us ∧ ∀ x ∈ us, x.oneCell' = true
  | [], cells, cs, vs, hb, hr, h1 => by
    simp only [buildM, M.val_pure, Option.some.injEq] at hb
    subst hb
    exact ⟨vs, by simp [Instr.fill], hr, h1⟩
  | (i, x) :: rest, cells, cs, vs, hb, hr, h1 => by
    simp only [buildM] at hb
    split at hb
    · rename_i f hf
      simp only [M.val_bind, Option.bind_eq_some_iff] at hb
      obtain ⟨s, hs, ccs, hcc, hb⟩ := hb
      cases hz : sizeB P f.type ccs.length && Nat.ble (f.offset + ccs.length) cells.length
      · simp [hz] at hb
      simp only [hz, cond_true] at hb
      simp only [Bool.and_eq_true] at hz
      obtain ⟨ti, hti, hpl⟩ := places_at hp hf
      obtain ⟨ti', hti', hsz⟩ := sizeB_size hz.1
      rw [hti] at hti'
      injection hti' with hti'
      subst hti'
      have hle := Nat.le_of_ble_eq_true hz.2
      obtain ⟨hcs, hone⟩ := cells_ok (hc.ev hs) hcc
      have hlen := SVRL.length _ _ hr
      have hlen2 := SVRL.length _ _ hcs
      have hsize : (a.eval x).cells.size = ti.size := by simpa [hsz] using hlen2
      have hfit : f.offset + (a.eval x).cells.size ≤ vs.toArray.size := by simp; omega
      have hnew : SVRL w (Av st.obj β) β (cells.take f.offset ++ (ccs ++ cells.drop (f.offset + ccs.length))) (vs.take f.offset ++ ((a.eval x).cells.toList ++ vs.drop (f.offset + (a.eval x).cells.size))) := by
        refine SVRL.append _ _ _ _ (SVRL.take _ _ _ hr) (SVRL.append _ _ _ _ hcs ?_)
        have : ccs.length = (a.eval x).cells.size := by simpa using hlen2.symm
        rw [this]
        exact SVRL.drop _ _ _ hr
      obtain ⟨us, hfill, hus, hone'⟩ := buildM_ok hc hp rest _ cs _ hb hnew (by
        intro y hy
        simp only [List.mem_append] at hy
        rcases hy with hy | hy | hy
        · exact h1 y (List.mem_of_mem_take hy)
        · exact hone y hy
        · exact h1 y (List.mem_of_mem_drop hy))
      refine ⟨us, ?_, hus, hone'⟩
      simp only [List.map_cons]
      rw [fill_cons (off := f.offset) (by rw [hsize]; exact hpl) hfit]
      simpa using hfill
    · simp at hb

theorem zeroM_ok {f : Nat → SV} {h : Nat → Option VObj} {t : TypeId} {z : List SV} (hz : (zeroM P t).val f h = some z) :
    ∃ i zv, P.info? t = some i ∧ i.zero = some zv ∧ z = zv.cells.toList.map ofConst ∧ ∀ x ∈ zv.cells.toList, x.oneCell' = true := by
  unfold zeroM at hz
  split at hz
  · rename_i i hi
    split at hz
    · rename_i zv hzv
      cases ha : zv.cells.toList.all (·.oneCell')
      · simp [ha] at hz
      · simp only [ha, cond_true, M.val_pure, Option.some.injEq] at hz
        exact ⟨i, zv, hi, hzv, hz.symm, fun x hx => List.all_eq_true.1 ha x hx⟩
    · simp at hz
  · simp at hz

theorem sound_build (hR : Rel w0 S st a w) (hd : ∀ d, o.dst = some d → DstOk st.n d) {t : TypeId} {parts : Array (Nat × Operand)} (ho : o.op = .build t parts) {fs : Array Field} {places : List (Nat × Nat)} {z cs : List SV}
    (hu : P.underlying t = some (.struct fs)) (hp : fs.toList.mapM (fun f => (P.info? f.type).map fun i => (f.offset, i.size)) = some places)
    (hz : (zeroM P t).val st.get st.obj = some z) (hb : (buildM P fs parts.toList z).val st.get st.obj = some cs) (he : e = { sv := .agg cs }) : Good P w0 S st o e a w := by
  subst he
  refine good_pure hR hd rfl rfl fun β φ hc => ?_
  obtain ⟨i, zv, hi, hzv, rfl, hone⟩ := zeroM_ok hz
  obtain ⟨us, hfill, hus, hone'⟩ := buildM_ok hc hp parts.toList _ cs _ hb (ofConsts_ok zv.cells.toList) hone
  refine ⟨.agg us.toArray, ?_, by unfold SVR; exact ⟨us, rfl, hus, hone'⟩⟩
  have hbuilt : P.built t (parts.map fun x => (x.1, a.eval x.2)).toList = some us.toArray := by
    simp only [Program.built, hi, hu, hzv, hp]
    simpa using hfill
  have := run_build (P := P) w t (parts.map fun x => (x.1, a.eval x.2)) us.toArray hbuilt
  simp [execOp, ho, this]

end

end Go.Proofs.YthpmalpdnnbkgaaGreat.Vm

/- The value machine: new objects: boxes, rows. Conditions: as each lemma says. -/
namespace Go.Proofs.YthpmalpdnnbkgaaGreat.Vm

def Env.setB (β : Env) (id b : Nat) : Env := ⟨upd β.blk id b, β.val, β.bar, β.nb⟩
def Env.setV (β : Env) (id : Nat) (v : Value) : Env := ⟨β.blk, upd β.val id v, β.bar, β.nb⟩

theorem metNot_append {i : Nat} {m n : Met} : metNot i (m ++ n) = (metNot i m && metNot i n) := by
  induction m with
  | nil => simp [metNot]
  | cons x l ih => obtain ⟨j, q⟩ := x; simp [metNot, ih, Bool.and_assoc]

theorem metNodup_append {m n : Met} (h : metNodup (m ++ n) = true) : metNodup m = true ∧ metNodup n = true ∧ ∀ x ∈ m, ∀ y ∈ n, x.1 ≠ y.1 := by
  induction m with
  | nil => exact ⟨rfl, by simpa using h, by simp⟩
  | cons x l ih =>
    obtain ⟨j, q⟩ := x
    simp only [List.cons_append, metNodup, metNot_append, Bool.and_eq_true] at h
    obtain ⟨h1, h2, h3⟩ := ih h.2
    refine ⟨by simp [metNodup, h.1.1, h1], h2, fun x hx y hy => ?_⟩
    rcases List.mem_cons.1 hx with rfl | hx
    · exact fun e => metNot_mem h.1.2 y hy e.symm
    · exact h3 x hx y hy

section
variable {P : Program} {Γ : Ctx} {w0 : World} {S : Own} {st : St} {o : Oper} {e : Eff} {a : Act} {w : World}
variable {f : Nat → SV} {h : Nat → Option VObj} {β : Env} {φ : Nat → List Nat} {tm : Array Value}

theorem av_frozen {m : Met} {b : Nat} (hb : Av (fo (metFreeze m) h) β b) : Av h β b := by
  induction m generalizing b with
  | nil => exact hb
  | cons x l ih =>
    obtain ⟨i, e', r, u⟩ := x
    rcases hb with ⟨j, ob, hj, hbj⟩ | hb
    case inr => exact .inr hb
    simp only [metFreeze, fo, upd] at hj
    split at hj
    · injection hj with hj
      subst hj
      simp [tops] at hbj
    · exact ih (.inl ⟨j, ob, hj, hbj⟩)

theorem not_av_met (hc : Core w0 S f h β φ tm w) {m : Met} (hm : MetOk h m) {x : Nat × List CT × List (List DC) × Bool} (hx : x ∈ m) {b : Nat} (hb : b ∈ topsAt h β x.1) : ¬ Av (fo (metFreeze m) h) β b := by
  rintro (⟨j, ob, hj, hbj⟩ | hbar)
  case inr =>
    obtain ⟨o, hid, _⟩ := hm x hx
    rw [topsAt_eq hid] at hb
    exact hc.not_bar hid (tops_sub (hc.objs _ _ hid) b hb) hbar
  obtain ⟨o, hid, _⟩ := hm x hx
  rw [topsAt_eq hid] at hb
  have frozen : ∀ (l : Met) (j : Nat), (∃ y ∈ l, y.1 = j) → ∃ e' r, fo (metFreeze l) h j = some (.imm e' r) := by
    intro l
    induction l with
    | nil => rintro j ⟨y, hy, _⟩; simp at hy
    | cons z l ih =>
      obtain ⟨i, e', r, u⟩ := z
      rintro j ⟨y, hy, rfl⟩
      simp only [metFreeze, fo, upd]
      by_cases hyi : y.1 = i
      · rw [if_pos hyi]; exact ⟨e', r, rfl⟩
      · rw [if_neg hyi]
        rcases List.mem_cons.1 hy with rfl | hy
        · exact absurd rfl hyi
        · exact ih y.1 ⟨y, hy, rfl⟩
  by_cases hjm : ∃ y ∈ m, y.1 = j
  · obtain ⟨e', r, hfr⟩ := frozen m j hjm
    rw [hfr] at hj
    injection hj with hj
    subst hj
    simp [tops] at hbj
  · have hj' : h j = some ob := by rw [fo_frozen_other (fun y hy e => hjm ⟨y, hy, e⟩)] at hj; exact hj
    have hne : x.1 ≠ j := fun e => hjm ⟨x, hx, e⟩
    exact hc.sep x.1 j _ _ hne hid hj' b (tops_sub (hc.objs x.1 _ hid) b hb) (tops_sub (hc.objs j _ hj') b hbj)

/-- One cell as a datum. -/
theorem toDC_ok (hc : Core w0 S f h β φ tm w) {ct : CT} {s : SV} {v : Value} {q : DC × Met × Bool} (hs : SVR w (Av h β) β s v) (hq : (toDC ct s).val f h = some q) :
    ∃ fp, RdC w ct q.1 v fp ∧ MetOk h q.2.1 ∧ metNodup q.2.1 = true ∧ (∀ b ∈ fp, (¬ Av h β b) ∨ ∃ x ∈ q.2.1, b ∈ topsAt h β x.1) ∧
      (q.2.2 = true → (∀ b ∈ fp, ∃ x ∈ q.2.1, b ∈ φ x.1) ∧ fp.Nodup) := by
  have plain : ∀ (d : DC) (fr : Bool) (fp : List Nat), q = (d, [], fr) → RdC w ct d v fp → (∀ b ∈ fp, ¬ Av h β b) → (fr = true → fp = []) →
      ∃ fp, RdC w ct q.1 v fp ∧ MetOk h q.2.1 ∧ metNodup q.2.1 = true ∧ (∀ b ∈ fp, (¬ Av h β b) ∨ ∃ x ∈ q.2.1, b ∈ topsAt h β x.1) ∧ (q.2.2 = true → (∀ b ∈ fp, ∃ x ∈ q.2.1, b ∈ φ x.1) ∧ fp.Nodup) := by
    rintro d fr fp rfl hr hav hfr
    refine ⟨fp, hr, by simp [MetOk], rfl, fun b hb => .inl (hav b hb), fun hf => ?_⟩
    rw [hfr hf]
    simp
  unfold toDC at hq
  split at hq
  · rename_i k n
    split at hq
    · rename_i k'
      by_cases hk : k = k'
      · subst hk
        simp only [decide_true, cond_true, M.val_pure, Option.some.injEq] at hq
        simp only [SVR] at hs
        exact plain _ _ [] hq.symm (by unfold RdC; exact ⟨n, rfl, hs.1, hs.2, rfl⟩) (by simp) (by simp)
      · simp [hk] at hq
    · simp at hq
  · split at hq
    · simp only [M.val_pure, Option.some.injEq] at hq
      simp only [SVR] at hs
      exact plain _ _ [] hq.symm (by unfold RdC; exact ⟨_, rfl, hs, rfl⟩) (by simp) (by simp)
    · simp at hq
  · split at hq
    · simp only [M.val_pure, Option.some.injEq] at hq
      simp only [SVR] at hs
      exact plain _ _ [] hq.symm (by unfold RdC; exact ⟨_, rfl, hs, rfl⟩) (by simp) (by simp)
    · simp at hq
  · split at hq
    · simp only [M.val_pure, Option.some.injEq] at hq
      simp only [SVR] at hs
      exact plain _ _ [] hq.symm (by unfold RdC; exact ⟨_, rfl, hs.1, hs.2, rfl⟩) (by simp) (by simp)
    · simp at hq
  · rename_i e' r
    split at hq
    · rename_i e''
      cases hb : ctsBeq e' e''
      · simp [hb] at hq
      · simp only [hb, cond_true, M.val_pure, Option.some.injEq] at hq
        have := ctsBeq_eq _ _ hb
        subst this
        simp only [SVR] at hs
        obtain ⟨fp, hr, hav⟩ := hs
        exact plain _ _ fp hq.symm hr hav (by simp)
    · simp at hq
  · split at hq
    · simp only [M.val_pure, Option.some.injEq] at hq
      simp only [SVR] at hs
      subst hs
      exact plain _ _ [] hq.symm (sl_mk rfl (Nat.le_refl _) (Nat.zero_le _) (.inl ⟨rfl, rfl⟩)) (by simp) (by simp)
    · simp at hq
  · rename_i id
    split at hq
    · rename_i e'
      simp only [SVR] at hs
      obtain ⟨hs, _⟩ := hs
      subst hs
      simp only [M.val_obj, Option.bind_eq_some_iff] at hq
      obtain ⟨ob, hob, hq⟩ := hq
      split at hq
      · rename_i t' e'' r fz u
        cases hb : ctsBeq e'' e'
        · simp [hb] at hq
        · simp only [hb, cond_true, M.val_pure, Option.some.injEq] at hq
          have := ctsBeq_eq _ _ hb
          subst this hq
          obtain ⟨fp, h1, h2, h3⟩ := row_reads (hc.objs id _ hob)
          refine ⟨fp, h1, ?_, rfl, fun b hb => ?_, fun hu => ⟨fun b hb => ⟨_, List.mem_singleton.2 rfl, (h3 hu).1 b hb⟩, (h3 hu).2 (hc.fresh id _ hob).1⟩⟩
          · intro x hx
            rw [List.mem_singleton] at hx
            subst hx
            exact ⟨_, hob, .inl ⟨t', fz, rfl⟩⟩
          · rcases h2 b hb with hx | hx
            · exact .inr ⟨_, List.mem_singleton.2 rfl, by rw [topsAt_eq hob]; exact hx⟩
            · exact .inl hx
      · rename_i e'' r
        cases hb : ctsBeq e'' e'
        · simp [hb] at hq
        · simp only [hb, cond_true, M.val_pure, Option.some.injEq] at hq
          have := ctsBeq_eq _ _ hb
          subst this
          obtain ⟨h1, _⟩ := hc.objs id _ hob
          simp only [SVR] at h1
          obtain ⟨fp, hr, hav⟩ := h1
          exact plain _ _ fp hq.symm hr hav (by simp)
      · rename_i t' e'' ts r
        cases hb : ctsBeq e'' e'
        · simp [hb] at hq
        · simp only [hb, cond_true, M.val_pure, Option.some.injEq] at hq
          have := ctsBeq_eq _ _ hb
          subst this hq
          have hmo : MetObj (.deep t' e'' ts r none) e'' r true := .inr ⟨t', ts, rfl, rfl⟩
          obtain ⟨fp, h1, h2, h3⟩ := met_reads (hc.objs id _ hob) hmo
          refine ⟨fp, h1, ?_, rfl, fun b hb => ?_, fun hu => ⟨fun b hb => ⟨_, List.mem_singleton.2 rfl, (h3 hu).1 b hb⟩, (h3 hu).2 (hc.fresh id _ hob).1⟩⟩
          · intro x hx
            rw [List.mem_singleton] at hx
            subst hx
            exact ⟨_, hob, hmo⟩
          · rcases h2 b hb with hx | hx
            · exact .inr ⟨_, List.mem_singleton.2 rfl, by rw [topsAt_eq hob]; exact hx⟩
            · exact .inl hx
      · simp at hq
    · simp at hq
  · simp at hq

theorem metOk_append {m n : Met} (h1 : MetOk h m) (h2 : MetOk h n) : MetOk h (m ++ n) := fun x hx => by
  rcases List.mem_append.1 hx with hx | hx
  · exact h1 x hx
  · exact h2 x hx

/-- Two footprints of rows that differ are apart. -/
theorem apart (hc : Core w0 S f h β φ tm w) {m n : Met} (hm : MetOk h m) (hn : MetOk h n) (hne : ∀ x ∈ m, ∀ y ∈ n, x.1 ≠ y.1) {p q : List Nat}
    (hp : ∀ b ∈ p, ∃ x ∈ m, b ∈ φ x.1) (hq : ∀ b ∈ q, ∃ x ∈ n, b ∈ φ x.1) (np : p.Nodup) (nq : q.Nodup) : (p ++ q).Nodup := by
  rw [List.nodup_append]
  refine ⟨np, nq, fun b hb c hc' hbc => ?_⟩
  subst hbc
  obtain ⟨x, hx, hbx⟩ := hp b hb
  obtain ⟨y, hy, hby⟩ := hq b hc'
  obtain ⟨_, h1, _⟩ := hm x hx
  obtain ⟨_, h2, _⟩ := hn y hy
  exact hc.sep x.1 y.1 _ _ (hne x hx y hy) h1 h2 b hbx hby

/-- The cells of one element as data. -/
theorem toDCs_ok (hc : Core w0 S f h β φ tm w) : ∀ (cts : List CT) (svs : List SV) (vs : List Value) (q : List DC × Met × Bool), SVRL w (Av h β) β svs vs → (toDCs cts svs).val f h = some q →
    ∃ fp, RdL w cts q.1 (fun j => vs[j]?) fp ∧ MetOk h q.2.1 ∧ (∀ b ∈ fp, (¬ Av h β b) ∨ ∃ x ∈ q.2.1, b ∈ topsAt h β x.1) ∧
      (q.2.2 = true → (∀ b ∈ fp, ∃ x ∈ q.2.1, b ∈ φ x.1) ∧ (metNodup q.2.1 = true → fp.Nodup))
  | [], [], vs, q, hs, hq => by
    simp only [toDCs, M.val_pure, Option.some.injEq] at hq
    subst hq
    exact ⟨[], by simp [RdL], by simp [MetOk], by simp, by simp⟩
  | [], _ :: _, vs, q, hs, hq => by simp [toDCs] at hq
  | _ :: _, [], vs, q, hs, hq => by simp [toDCs] at hq
  | c :: cs, s :: ss, vs, q, hs, hq => by
    simp only [SVRL] at hs
    obtain ⟨v, l, rfl, h1, h2⟩ := hs
    simp only [toDCs, M.val_bind, Option.bind_eq_some_iff, M.val_pure, Option.some.injEq] at hq
    obtain ⟨q1, hq1, q2, hq2, rfl⟩ := hq
    obtain ⟨f1, r1, m1, n1, a1, u1⟩ := toDC_ok hc h1 hq1
    obtain ⟨f2, r2, m2, a2, u2⟩ := toDCs_ok hc cs ss l q2 h2 hq2
    refine ⟨f1 ++ f2, ?_, metOk_append m1 m2, ?_, ?_⟩
    · simp only [RdL]
      exact ⟨q1.1, q2.1, v, f1, f2, rfl, by simp, r1, by simpa using r2, rfl⟩
    · intro b hb
      rcases List.mem_append.1 hb with hb | hb
      · rcases a1 b hb with hx | ⟨x, hx, hbx⟩
        · exact .inl hx
        · exact .inr ⟨x, List.mem_append_left _ hx, hbx⟩
      · rcases a2 b hb with hx | ⟨x, hx, hbx⟩
        · exact .inl hx
        · exact .inr ⟨x, List.mem_append_right _ hx, hbx⟩
    · intro hu
      simp only [Bool.and_eq_true] at hu
      refine ⟨fun b hb => ?_, fun hn => ?_⟩
      · rcases List.mem_append.1 hb with hb | hb
        · obtain ⟨x, hx, hbx⟩ := (u1 hu.1).1 b hb
          exact ⟨x, List.mem_append_left _ hx, hbx⟩
        · obtain ⟨x, hx, hbx⟩ := (u2 hu.2).1 b hb
          exact ⟨x, List.mem_append_right _ hx, hbx⟩
      · obtain ⟨_, hn2, hne⟩ := metNodup_append hn
        exact apart hc m1 m2 hne (u1 hu.1).1 (u2 hu.2).1 (u1 hu.1).2 ((u2 hu.2).2 hn2)

/-- A new object beside the old ones. -/
theorem Core.create (hc : Core w0 S f h β φ tm w) {w' : World} {β' : Env} {id : Nat} {ob : VObj} {φn : List Nat} (hs : w.heap.size ≤ w'.heap.size) (hw : ∀ b, b < w.heap.size → w'.heap[b]? = w.heap[b]?)
    (hf : ∀ i, id ∉ svIds (f i)) (ho : ∀ j o, h j = some o → id ∉ objIds o) (hn : h id = none) (hβ : ∀ j, j ≠ id → β'.val j = β.val j ∧ β'.blk j = β.blk j)
    (htop : ∀ b ∈ tops β' id ob, w.heap.size ≤ b) (hobj : ObjR w' (Av (upd h id (some ob)) β') β' id ob φn) (hnd : φn.Nodup)
    (hal : ∀ b ∈ φn, ((w0.heap.size ≤ b ∨ S b) ∧ b < w'.heap.size) ∧ ∀ j o, h j = some o → b ∉ φ j) (hbar : β'.bar = β.bar := by rfl) (hnb : ∀ j, j ≠ id → β'.nb j = β.nb j := by intro _ _; rfl) : Core w0 S f (upd h id (some ob)) β' (upd φ id φn) tm w' := by
  have tops_eq : ∀ j o, j ≠ id → tops β' j o = tops β j o := by
    intro j o hj
    cases o <;> simp [tops, hβ j hj, hnb j hj]
  refine hc.step' (fun i => i = id) hs (fun b hb _ => hw b hb) ?_ (fun i j hj e => hf i (e ▸ hj)) hβ ?_ ?_ hbar
  · rintro b (⟨j, oj, hj, hbj⟩ | hb)
    case inr => exact .inl (.inr (hbar ▸ hb))
    by_cases hjj : j = id
    · subst hjj
      simp only [upd, if_true, Option.some.injEq] at hj
      subst hj
      exact .inr (htop b hbj)
    · simp only [upd, hjj, if_false] at hj
      rw [tops_eq j oj hjj] at hbj
      exact .inl (.inl ⟨j, oj, hj, hbj⟩)
  · intro j oj hj
    by_cases hjj : j = id
    · subst hjj
      simp only [upd, if_true, Option.some.injEq] at hj
      subst hj
      exact .inr ⟨by simpa [upd] using hobj, by simpa [upd] using hnd, fun b hb => (hal b (by simpa [upd] using hb)).1⟩
    · simp only [upd, hjj, if_false] at hj
      refine .inl ⟨hjj, hj, hnb j hjj, by simp [upd, hjj], fun i hi e => ho j oj hj (e ▸ hi), fun b hb => hw b ?_⟩
      exact ((hc.fresh j oj hj).2 b (tops_sub (hc.objs j oj hj) b hb)).2
  · intro i j oi oj hne hi hj b hb
    by_cases hii : i = id
    · subst hii
      have hji : j ≠ i := Ne.symm hne
      simp only [upd, hji, if_false] at hj
      simp only [upd, if_true] at hb
      simp only [upd, hji, if_false]
      exact (hal b hb).2 j oj hj
    · simp only [upd, hii, if_false] at hi hb
      by_cases hjj : j = id
      · subst hjj
        simp only [upd, if_true]
        exact fun hb' => (hal b hb').2 i oi hi hb
      · simp only [upd, hjj, if_false] at hj ⊢
        exact hc.sep i j oi oj hne hi hj b hb

/-- What is read stays read beside a new object. -/
theorem SVRL.beside {w' : World} {β' : Env} {id : Nat} {ob : VObj} (hs : w.heap.size ≤ w'.heap.size) (hw : ∀ b, b < w.heap.size → w'.heap[b]? = w.heap[b]?)
    (hβ : ∀ j, j ≠ id → β'.val j = β.val j ∧ β'.blk j = β.blk j) (htop : ∀ b ∈ tops β' id ob, w.heap.size ≤ b) {ss : List SV} {vs : List Value} (hr : SVRL w (Av h β) β ss vs) (hi : id ∉ svIdsL ss) (hbar : β'.bar = β.bar := by rfl) (hnb : ∀ j, j ≠ id → β'.nb j = β.nb j := by intro _ _; rfl) :
    SVRL w' (Av (upd h id (some ob)) β') β' ss vs := by
  refine SVRL.mono hs (fun b hb _ => hw b hb) ?_ ss vs hr (fun j hj => hβ j (fun e => hi (e ▸ hj)))
  rintro b (⟨j, oj, hj, hbj⟩ | hb)
  case inr => exact .inl (.inr (hbar ▸ hb))
  by_cases hjj : j = id
  · subst hjj
    simp only [upd, if_true, Option.some.injEq] at hj
    subst hj
    exact .inr (htop b hbj)
  · simp only [upd, hjj, if_false] at hj
    refine .inl (.inl ⟨j, oj, hj, ?_⟩)
    cases oj <;> simp only [tops, hβ j hjj, hnb j hjj] at hbj ⊢ <;> exact hbj

structure FreshAt (st : St) (d : Nat) : Prop where
  slot : ∀ i, ∀ j ∈ svIds (st.get i), j / 64 ≠ d
  obj : ∀ j ob, st.obj j = some ob → j / 64 ≠ d ∧ ∀ k ∈ objIds ob, k / 64 ≠ d

theorem newId_div (d k : Nat) (hk : k < 64) : newId d k / 64 = d := by unfold newId; omega

theorem Kept.alloc (hk : Kept S w0 w) (ob : Obj) : Kept S w0 (w.alloc ob) :=
  ⟨hk.os, hk.tape, hk.output, by have := hk.size; simp; omega, fun k h1 h2 => (by show (w.heap.push ob)[k]? = _; rw [Array.getElem?_push, if_neg (by have := hk.size; omega)]; exact hk.block k h1 h2)⟩
theorem Kept.drew (hk : Kept S w0 w) : Kept S w0 w.drew := ⟨hk.os, hk.tape, hk.output, hk.size, hk.block⟩

theorem alloc_size (ob : Obj) : (w.alloc ob).heap.size = w.heap.size + 1 := by simp
theorem alloc_new (ob : Obj) : (w.alloc ob).heap[w.heap.size]? = some ob := heap_alloc_new w ob
theorem alloc_old (ob : Obj) (b : Nat) (hb : b < w.heap.size) : (w.alloc ob).heap[b]? = w.heap[b]? := by
  show (w.heap.push ob)[b]? = _
  rw [Array.getElem?_push, if_neg (by omega)]

theorem ofConst_ids (v : Value) : svIds (ofConst v) = [] := by
  unfold ofConst
  split
  · rfl
  · cases inR _ _ <;> rfl
  · generalize Nat.ble _ _ = c
    cases c <;> rfl
  · rfl
  · rfl

theorem ofConsts_ids : ∀ (l : List Value), svIdsL (l.map ofConst) = []
  | [] => rfl
  | v :: l => by simp [svIdsL, ofConst_ids, ofConsts_ids l]

theorem svIds_ev {d : Nat} (hf : FreshAt st d) {x : Operand} {s : SV} (hx : (evM x).val st.get st.obj = some s) : ∀ j ∈ svIds s, j / 64 ≠ d := by
  have := evM_val hx
  subst this
  cases x with
  | tmp t => exact hf.slot t
  | const v => simp [evS, ofConst_ids]
  | global g => intro j hj; simp [evS, svIds] at hj
  | func g => intro j hj; simp [evS, svIds] at hj

theorem svIds_cells {s : SV} {cs : List SV} (hc : (cellsOfSV s).val f h = some cs) : svIdsL cs = svIds s := by
  cases s <;> simp [cellsOfSV] at hc <;> subst hc <;> simp [svIds, svIdsL]

/-! ### Boxes -/

theorem sound_newbox (hR : Rel w0 S st a w) {d : Nat} (hdst : o.dst = some d) (hd : DstOk st.n d) (hfr : FreshAt st d) {t : TypeId} {cells : List SV} {vs : List Value}
    (hrun : (execOp a.eval o).run P w = .ok (.value (.pointer (some ⟨w.heap.size, 0, none⟩))) (w.alloc (.cells vs.toArray t)))
    (hcells : ∀ β φ, Core w0 S st.get st.obj β φ a.tmps w → SVRL w (Av st.obj β) β cells vs) (hone : ∀ x ∈ vs, x.oneCell' = true) (hids : ∀ j ∈ svIdsL cells, j / 64 ≠ d)
    (he : e = { sv := .ptr (newId d 0) 0, ow := [(newId d 0, some (.box t cells))] }) : Good P w0 S st o e a w := by
  subst he
  obtain ⟨β, φ, hc⟩ := hR.core
  have hnew : newId d 0 / 64 = d := newId_div d 0 (by omega)
  have hβ : ∀ j, j ≠ newId d 0 → (β.setB (newId d 0) w.heap.size).val j = β.val j ∧ (β.setB (newId d 0) w.heap.size).blk j = β.blk j := by
    intro j hj
    exact ⟨rfl, by simp [Env.setB, upd, hj]⟩
  have hblk : (β.setB (newId d 0) w.heap.size).blk (newId d 0) = w.heap.size := by simp [Env.setB, upd]
  have htop : ∀ b ∈ tops (β.setB (newId d 0) w.heap.size) (newId d 0) (.box t cells), w.heap.size ≤ b := by
    intro b hb
    simp only [tops, hblk, List.mem_singleton] at hb
    omega
  have hle := hR.kept.size
  refine good_value hR (fun d' h' => by rw [hdst] at h'; injection h' with h'; exact h' ▸ hd) hrun (hR.kept.alloc _) ⟨β.setB (newId d 0) w.heap.size, upd φ (newId d 0) [w.heap.size], ?_, ?_⟩
  · refine hc.create (by rw [alloc_size]; omega) (fun b hb => alloc_old _ b hb) (fun i hi => hfr.slot i _ hi hnew) (fun j ob hj hi => (hfr.obj j ob hj).2 _ hi hnew) ?_ hβ htop ?_ (by simp) ?_
    · cases hn : st.obj (newId d 0) with
      | none => rfl
      | some ob => exact absurd hnew (hfr.obj _ ob hn).1
    · refine ⟨vs, by rw [hblk]; exact alloc_new _, ?_, hone, by rw [hblk]⟩
      exact SVRL.beside (by rw [alloc_size]; omega) (fun b hb => alloc_old _ b hb) hβ htop (hcells β φ hc) (fun hi => hids _ hi hnew)
    · intro b hb
      rw [List.mem_singleton] at hb
      subst hb
      refine ⟨⟨.inl hle, by rw [alloc_size]; omega⟩, fun j ob hj hb => ?_⟩
      have := ((hc.fresh j ob hj).2 _ hb).2
      omega
  · simp only [SVR, hblk]

theorem sound_alloc (hR : Rel w0 S st a w) {d : Nat} (hdst : o.dst = some d) (hd : DstOk st.n d) (hfr : FreshAt st d) {t : TypeId} (ho : o.op = .alloc t) {z : List SV} (hz : (zeroM P t).val st.get st.obj = some z)
    (he : e = { sv := .ptr (newId d 0) 0, ow := [(newId d 0, some (.box t z))] }) : Good P w0 S st o e a w := by
  obtain ⟨i, zv, hi, hzv, rfl, hone⟩ := zeroM_ok hz
  refine sound_newbox hR hdst hd hfr (vs := zv.cells.toList) ?_ (fun β φ hc => ofConsts_ok _) hone (by simp [ofConsts_ids]) he
  simp [execOp, ho, Instr.alloc, zeroValue, typeInfo, hi, hzv, newVar, newRow]

theorem sound_box (hR : Rel w0 S st a w) {d : Nat} (hdst : o.dst = some d) (hd : DstOk st.n d) (hfr : FreshAt st d) {t : TypeId} {x : Operand} (ho : o.op = .box t x) {s : SV} {cs : List SV}
    (hx : (evM x).val st.get st.obj = some s) (hcs : (cellsOfSV s).val st.get st.obj = some cs)
    (he : e = { sv := .ptr (newId d 0) 0, ow := [(newId d 0, some (.box t cs))] }) : Good P w0 S st o e a w := by
  obtain ⟨β0, φ0, hc0⟩ := hR.core
  refine sound_newbox hR hdst hd hfr (vs := (a.eval x).cells.toList) ?_ (fun β φ hc => (cells_ok (hc.ev hx) hcs).1) (cells_ok (hc0.ev hx) hcs).2 ?_ he
  · simp [execOp, ho, Instr.box, newVar, newRow]
  · rw [svIds_cells hcs]
    exact svIds_ev hfr hx

end

end Go.Proofs.YthpmalpdnnbkgaaGreat.Vm

/- The value machine: new rows. Conditions: as each lemma says. -/
namespace Go.Proofs.YthpmalpdnnbkgaaGreat.Vm

section
variable {P : Program} {Γ : Ctx} {w0 : World} {S : Own} {st : St} {o : Oper} {e : Eff} {a : Act} {w : World}
variable {f : Nat → SV} {h : Nat → Option VObj} {β : Env} {φ : Nat → List Nat} {tm : Array Value}

theorem InR.cons {ct : List CT} {r : List DC} {l : List Value} {g : List Nat} {rows : List (List DC)} {vals : List Value} {fps : List (List Nat)} (h1 : RdL w ct r (fun j => l[j]?) g) (hl : l.length = ct.length)
    (h2 : InR w ct rows vals fps) : InR w ct (r :: rows) (l ++ vals) (g :: fps) := by
  refine ⟨by simp [h2.1], fun i r' f' hi hf => ?_⟩
  cases i with
  | zero =>
    simp at hi hf
    subst hi hf
    refine row_reads.RdL.ofSub (fun j u hj => ?_) h1
    simp only [Nat.zero_mul, Nat.zero_add]
    rw [List.getElem?_append_left (by have := List.getElem?_eq_some_iff.1 hj; exact this.1)]
    exact hj
  | succ i =>
    have := h2.2 i r' f' (by simpa using hi) (by simpa using hf)
    refine row_reads.RdL.ofSub (fun j u hj => ?_) this
    rw [List.getElem?_append_right (by rw [hl, Nat.succ_mul]; omega)]
    rw [← hj]
    congr 1
    rw [hl, Nat.succ_mul]
    omega

theorem InR.nil {ct : List CT} {vals : List Value} : InR w ct [] vals [] := ⟨rfl, by simp⟩

theorem InR.append {ct : List CT} {rows rows' : List (List DC)} {vals vals' : List Value} {fps fps' : List (List Nat)} (h1 : InR w ct rows vals fps) (hl : vals.length = rows.length * ct.length)
    (h2 : InR w ct rows' vals' fps') : InR w ct (rows ++ rows') (vals ++ vals') (fps ++ fps') := by
  refine ⟨by simp [h1.1, h2.1], fun i r f hi hf => ?_⟩
  rcases Nat.lt_or_ge i rows.length with hlt | hge
  · rw [List.getElem?_append_left hlt] at hi
    rw [List.getElem?_append_left (by rw [h1.1]; exact hlt)] at hf
    refine row_reads.RdL.ofSub (fun j u hj => ?_) (h1.2 i r f hi hf)
    rw [List.getElem?_append_left (by have := List.getElem?_eq_some_iff.1 hj; exact this.1)]
    exact hj
  · rw [List.getElem?_append_right hge] at hi
    rw [List.getElem?_append_right (by rw [h1.1]; exact hge), h1.1] at hf
    refine row_reads.RdL.ofSub (fun j u hj => ?_) (h2.2 _ r f hi hf)
    have e1 : i * ct.length + j = rows.length * ct.length + ((i - rows.length) * ct.length + j) := by
      have : i * ct.length = rows.length * ct.length + (i - rows.length) * ct.length := by rw [← Nat.add_mul]; congr 1; omega
      omega
    rw [List.getElem?_append_right (by omega)]
    rw [← hj]
    congr 1
    omega

theorem frozen_obj {m : Met} {j : Nat} {ob : VObj} (hj : fo (metFreeze m) h j = some ob) : (h j = some ob) ∨ (∃ e' r, ob = .imm e' r ∧ ∃ y ∈ m, y.1 = j) := by
  induction m with
  | nil => exact .inl hj
  | cons x l ih =>
    obtain ⟨i, e', r, u⟩ := x
    simp only [metFreeze, fo, upd] at hj
    split at hj
    · rename_i hji
      injection hj with hj
      exact .inr ⟨e', r, hj.symm, _, List.mem_cons_self .., hji.symm⟩
    · rcases ih hj with h1 | ⟨e'', r', h1, y, hy, h2⟩
      · exact .inl h1
      · exact .inr ⟨e'', r', h1, y, List.mem_cons_of_mem _ hy, h2⟩

theorem frozenφ_in {m : Met} {j : Nat} (hjm : ∃ y ∈ m, y.1 = j) : frozenφ φ m j = [] := by
  induction m with
  | nil => obtain ⟨y, hy, _⟩ := hjm; simp at hy
  | cons z l ih =>
    obtain ⟨y, hy, rfl⟩ := hjm
    simp only [frozenφ, upd]
    by_cases hyz : y.1 = z.1
    · rw [if_pos hyz]
    · rw [if_neg hyz]
      rcases List.mem_cons.1 hy with rfl | hy
      · exact absurd rfl hyz
      · exact ih ⟨y, hy, rfl⟩

/-- A new row beside rows that are written no more. -/
theorem sound_newrow (hR : Rel w0 S st a w) {d : Nat} (hdst : o.dst = some d) (hd : DstOk st.n d) (hfr : FreshAt st d) {t : TypeId} {ct : List CT} {rows : List (List DC)} {fz u : Bool} {m : Met} {w' : World} {v : Value}
    (hrun : (execOp a.eval o).run P w = .ok (.value v) w') (hk : Kept S w0 w') (hs : w.heap.size ≤ w'.heap.size) (hw : ∀ b, b < w.heap.size → w'.heap[b]? = w.heap[b]?)
    (hB : ∀ b ∈ v.ownBlock.toList, b = w.heap.size) (hm : MetOk st.obj m) (hmn : metNodup m = true) {vals : List Value} (hown : OwnR w' t ct.length fz v rows.length vals)
    (hin : ∀ β φ, Core w0 S st.get st.obj β φ a.tmps w → ∃ fps, InR w ct rows vals fps ∧ (∀ b ∈ fps.flatten, (¬ Av st.obj β b) ∨ ∃ x ∈ m, b ∈ topsAt st.obj β x.1) ∧
      (u = true → (∀ b ∈ fps.flatten, ∃ x ∈ m, b ∈ φ x.1) ∧ fps.flatten.Nodup))
    (hsv : e.sv = .own (newId d 0)) (hcw : e.cw = none) (how : e.ow = (newId d 0, some (.row t ct rows fz u)) :: metFreeze m) : Good P w0 S st o e a w := by
  obtain ⟨β, φ, hc⟩ := hR.core
  obtain ⟨fps, hin, hav, hu⟩ := hin β φ hc
  have hc1 := hc.freezes m hm hmn
  have hnew : newId d 0 / 64 = d := newId_div d 0 (by omega)
  have hβ : ∀ j, j ≠ newId d 0 → (β.setV (newId d 0) v).val j = β.val j ∧ (β.setV (newId d 0) v).blk j = β.blk j := by
    intro j hj
    exact ⟨by simp [Env.setV, upd, hj], rfl⟩
  have hval : (β.setV (newId d 0) v).val (newId d 0) = v := by simp [Env.setV, upd]
  have htop : ∀ b ∈ tops (β.setV (newId d 0) v) (newId d 0) (.row t ct rows fz u), w.heap.size ≤ b := by
    intro b hb
    simp only [tops, hval] at hb
    rw [hB b hb]
    exact Nat.le_refl _
  have hlt := hin.lt
  have hle := hR.kept.size
  have hav1 : ∀ b ∈ fps.flatten, ¬ Av (fo (metFreeze m) st.obj) β b := by
    intro b hb
    rcases hav b hb with h1 | ⟨x, hx, hbx⟩
    · exact fun h2 => h1 (av_frozen h2)
    · exact not_av_met hc hm hx hbx
  refine good_value hR (fun d' h' => by rw [hdst] at h'; injection h' with h'; exact h' ▸ hd) hrun hk
    ⟨β.setV (newId d 0) v, upd (frozenφ φ m) (newId d 0) (v.ownBlock.toList ++ (bif u then fps.flatten else [])), ?_, ?_⟩
  · rw [how, hcw]
    refine hc1.create hs hw (fun i hi => hfr.slot i _ hi hnew) (fun j ob hj hi => ?_) ?_ hβ htop ?_ ?_ ?_
    · rcases frozen_obj hj with h1 | ⟨e', r, rfl, _⟩
      · exact (hfr.obj j ob h1).2 _ hi hnew
      · simp [objIds] at hi
    · cases hn : fo (metFreeze m) st.obj (newId d 0) with
      | none => rfl
      | some ob =>
        rcases frozen_obj hn with h1 | ⟨e', r, rfl, y, hy, h2⟩
        · exact absurd hnew (hfr.obj _ ob h1).1
        · obtain ⟨_, h3, _⟩ := hm y hy
          rw [h2] at h3
          exact absurd hnew (hfr.obj _ _ h3).1
    · refine ⟨vals, fps, by rw [hval]; exact hown, hin.mono hs (fun b hb => hw b (hlt b hb)), fun b hb hx => ?_, by rw [hval]⟩
      rcases hx with ⟨j, oj, hj, hbj⟩ | hx
      case inr => exact hav1 b hb (.inr hx)
      by_cases hjj : j = newId d 0
      · subst hjj
        simp only [upd, if_true, Option.some.injEq] at hj
        subst hj
        have := htop b hbj
        have := hlt b hb
        omega
      · simp only [upd, hjj, if_false] at hj
        refine hav1 b hb (.inl ⟨j, oj, hj, ?_⟩)
        cases oj <;> simp only [tops, hβ j hjj] at hbj ⊢ <;> exact hbj
    · have hnd1 : v.ownBlock.toList.Nodup := by cases v.ownBlock <;> simp
      cases u with
      | false => simpa using hnd1
      | true =>
        rw [cond_true, List.nodup_append]
        refine ⟨hnd1, (hu rfl).2, fun b hb c hc' hbc => ?_⟩
        have h1 := hB b hb
        have h2 := hlt c hc'
        omega
    · intro b hb
      rcases List.mem_append.1 hb with hb | hb
      · have h1 := hB b hb
        subst h1
        refine ⟨⟨.inl hle, ?_⟩, fun j ob hj hbj => ?_⟩
        · have := hown.lt _ hb
          exact this
        · have := ((hc1.fresh j ob hj).2 _ hbj).2
          omega
      · cases u with
        | false => simp at hb
        | true =>
          simp only [cond_true] at hb
          obtain ⟨x, hx, hbx⟩ := (hu rfl).1 b hb
          obtain ⟨_, h3, _⟩ := hm x hx
          have h4 := (hc.fresh x.1 _ h3).2 b hbx
          refine ⟨⟨h4.1, by omega⟩, fun j ob hj hbj => ?_⟩
          by_cases hjm : ∃ y ∈ m, y.1 = j
          · rw [frozenφ_in hjm] at hbj
            simp at hbj
          · have hno : ∀ y ∈ m, y.1 ≠ j := fun y hy e => hjm ⟨y, hy, e⟩
            rw [fo_frozen_other hno] at hj
            rw [frozenφ_other hno] at hbj
            exact hc.sep x.1 j _ _ (hno x hx) h3 hj b hbx hbj
  · rw [hsv]
    unfold SVR
    exact ⟨hval.symm, hown.one⟩

/-! ### Constants as data -/

theorem toDC_const {ct : CT} {v : Value} {q : DC × Met × Bool} (hq : (toDC ct (ofConst v)).val f h = some q) : q.2.1 = [] ∧ q.2.2 = true := by
  unfold ofConst at hq
  split at hq
  · simp only [toDC] at hq
    split at hq <;> simp at hq
    subst hq; exact ⟨rfl, rfl⟩
  · rename_i k n
    cases hi : inR k n
    · simp [hi, toDC] at hq
    · simp only [hi, cond_true, toDC] at hq
      split at hq
      · rename_i k'
        by_cases hk : k = k'
        · simp [hk] at hq; subst hq; exact ⟨rfl, rfl⟩
        · simp [hk] at hq
      · simp at hq
  · generalize Nat.ble _ _ = c at hq
    cases c
    · simp [toDC] at hq
    · simp only [cond_true, toDC] at hq
      split at hq <;> simp at hq
      subst hq; exact ⟨rfl, rfl⟩
  · simp only [toDC] at hq
    split at hq <;> simp at hq
    subst hq; exact ⟨rfl, rfl⟩
  · simp [toDC] at hq

theorem toDCs_const : ∀ (cts : List CT) (l : List Value) (q : List DC × Met × Bool), (toDCs cts (l.map ofConst)).val f h = some q → q.2.1 = [] ∧ q.2.2 = true
  | [], [], q, hq => by simp [toDCs] at hq; subst hq; exact ⟨rfl, rfl⟩
  | [], _ :: _, q, hq => by simp [toDCs] at hq
  | _ :: _, [], q, hq => by simp [toDCs] at hq
  | c :: cs, v :: l, q, hq => by
    simp only [List.map_cons, toDCs, M.val_bind, Option.bind_eq_some_iff, M.val_pure, Option.some.injEq] at hq
    obtain ⟨q1, hq1, q2, hq2, rfl⟩ := hq
    obtain ⟨h1, h2⟩ := toDC_const hq1
    obtain ⟨h3, h4⟩ := toDCs_const cs l q2 hq2
    simp [h1, h2, h3, h4]

theorem toDCs_length : ∀ (cts : List CT) (l : List SV) (q : List DC × Met × Bool), (toDCs cts l).val f h = some q → l.length = cts.length
  | [], [], q, hq => rfl
  | [], _ :: _, q, hq => by simp [toDCs] at hq
  | _ :: _, [], q, hq => by simp [toDCs] at hq
  | c :: cs, v :: l, q, hq => by
    simp only [toDCs, M.val_bind, Option.bind_eq_some_iff, M.val_pure, Option.some.injEq] at hq
    obtain ⟨q1, hq1, q2, hq2, rfl⟩ := hq
    simp [toDCs_length cs l q2 hq2]

theorem InR.replicate {ct : List CT} {r : List DC} {z : List Value} (h1 : RdL w ct r (fun j => z[j]?) []) (hl : z.length = ct.length) : ∀ n, InR w ct (List.replicate n r) (List.replicate n z).flatten (List.replicate n [])
  | 0 => InR.nil
  | n + 1 => by
    simp only [List.replicate_succ, List.flatten_cons]
    exact InR.cons h1 hl (InR.replicate h1 hl n)

theorem made_eq (z : Array Value) : ∀ n, (madeCells z (n * z.size)).toList = (List.replicate n z.toList).flatten := by
  intro n
  apply List.ext_getElem?
  intro i
  simp only [madeCells]
  rcases Nat.eq_zero_or_pos z.size with h0 | hp
  · have hz : z = #[] := by simpa using h0
    subst hz
    simp
  · rcases Nat.lt_or_ge i (n * z.size) with hi | hi
    · have hr : (List.replicate n z.toList).flatten[i]? = z.toList[i % z.size]? := by
        have key : ∀ n i, i < n * z.size → (List.replicate n z.toList).flatten[i]? = z.toList[i % z.size]? := by
          intro n
          induction n with
          | zero => intro i hi; simp at hi
          | succ n ih =>
            intro i hi
            simp only [List.replicate_succ, List.flatten_cons]
            rcases Nat.lt_or_ge i z.size with h1 | h1
            · rw [List.getElem?_append_left (by simpa using h1), Nat.mod_eq_of_lt h1]
            · rw [List.getElem?_append_right (by simpa using h1)]
              have h2 : i - z.toList.length < n * z.size := by simp; rw [Nat.succ_mul] at hi; omega
              rw [ih _ h2]
              congr 1
              simp only [Array.length_toList]
              rw [← Nat.mod_eq_sub_mod h1]
        exact key n i hi
      rw [hr]
      have hm : i % z.size < z.size := Nat.mod_lt _ hp
      simp [hi, hm]
    · rw [List.getElem?_eq_none (by simp; omega), List.getElem?_eq_none (by simp; omega)]

theorem sound_make (hR : Rel w0 S st a w) {d : Nat} (hdst : o.dst = some d) (hd : DstOk st.n d) (hfr : FreshAt st d) {t et : TypeId} {l c : Operand} (ho : o.op = .makeSlice t l c) {n m : Int} {ct : List CT} {i : TypeInfo} {z : List SV} {r : List DC × Met × Bool}
    (hl : (evM l).val st.get st.obj = some (.int .i64 n)) (hm : (evM c).val st.get st.obj = some (.int .i64 m)) (hu : P.underlying t = some (.slice et)) (hi : P.info? et = some i) (hsz : i.size = ct.length)
    (hz : (zeroM P et).val st.get st.obj = some z) (hr : (toDCs ct z).val st.get st.obj = some r)
    (he : e = { sv := .own (newId d 0), ow := [(newId d 0, some (.row et ct (List.replicate n.toNat r.1) false true))], ok := decide (0 ≤ n) && decide (n ≤ m) && decide (m.toNat * i.bytes ≤ 140737488355328) && decide (m ≤ 9223372036854775807) })
    (hok : e.ok = true) : Good P w0 S st o e a w := by
  subst he
  simp only [Bool.and_eq_true, decide_eq_true_eq] at hok
  obtain ⟨⟨⟨h0, hnm⟩, hby⟩, hmx⟩ := hok
  obtain ⟨i', zv, hi', hzv, rfl, hone⟩ := zeroM_ok hz
  rw [hi] at hi'
  injection hi' with hi'
  subst hi'
  obtain ⟨hmet, hfrz⟩ := toDCs_const _ _ _ hr
  have hzl : zv.cells.toList.length = ct.length := by simpa using toDCs_length _ _ _ hr
  have hmade : (madeCells zv.cells (m.toNat * i.size)).toList = (List.replicate m.toNat zv.cells.toList).flatten := by
    have := made_eq zv.cells m.toNat
    rw [hsz, ← hzl]
    simpa using this
  obtain ⟨β0, φ0, hc0⟩ := hR.core
  have hx := hc0.ev hl
  have hy := hc0.ev hm
  simp only [SVR] at hx hy
  have hb : (i.bytes : Int) * m ≤ 281474976710656 := by
    have h1 : ((m.toNat * i.bytes : Nat) : Int) ≤ 140737488355328 := by omega
    rw [Int.natCast_mul, Int.toNat_of_nonneg (by omega), Int.mul_comm] at h1
    omega
  have hrun := run_make (P := P) w t et i zv hu hi hzv .i64 .i64 n m h0 hnm hb hmx
  refine sound_newrow hR hdst hd hfr (m := []) (fz := false) (u := true) (vals := (List.replicate n.toNat zv.cells.toList).flatten) (v := .slice (some ⟨w.heap.size, 0, none⟩) n.toNat m.toNat)
    (w' := w.alloc (.cells (madeCells zv.cells (m.toNat * i.size)) et)) ?_ (hR.kept.alloc _) (by rw [alloc_size]; omega) (fun b hb => alloc_old _ b hb) (by simp [Value.ownBlock]) (by simp [MetOk]) rfl ?_ ?_ rfl rfl rfl
  · simp [execOp, ho, hx.1, hy.1, hrun]
  · refine ⟨by simp [hzl], .inr ⟨w.heap.size, m.toNat, _, by simp, by simpa using alloc_new _, by simp; omega, by simp only [maxLen]; omega, by rw [size_madeCells, hsz], ?_⟩⟩
    rw [hmade]
    have : List.replicate m.toNat zv.cells.toList = List.replicate n.toNat zv.cells.toList ++ List.replicate (m.toNat - n.toNat) zv.cells.toList := by
      rw [List.replicate_append_replicate]
      congr 1
      omega
    rw [this, List.flatten_append, List.take_append_of_le_length (by simp [hzl]), List.take_of_length_le (by simp [hzl])]
  · intro β φ hc
    obtain ⟨fp, hrd, _, _, hfp⟩ := toDCs_ok hc ct _ _ r (ofConsts_ok zv.cells.toList) hr
    have hnil : fp = [] := by
      have := (hfp hfrz).1
      cases fp with
      | nil => rfl
      | cons b l =>
        obtain ⟨x, hx, _⟩ := this b (List.mem_cons_self ..)
        rw [hmet] at hx
        simp at hx
    subst hnil
    refine ⟨List.replicate n.toNat [], InR.replicate hrd hzl n.toNat, ?_, ?_⟩
    · intro b hb
      simp at hb
    · intro _
      constructor
      · intro b hb; simp at hb
      · have : (List.replicate n.toNat ([] : List Nat)).flatten = [] := by simp
        rw [this]
        simp

/-! ### Slice literals -/

theorem buildRowsM_ok (hc : Core w0 S st.get st.obj β φ a.tmps w) {ct : List CT} : ∀ (parts : List (Nat × Operand)) (k : Nat) (q : List (List DC) × Met × Bool), (buildRowsM ct k parts).val st.get st.obj = some q →
    ∃ (vals : List Value) (fps : List (List Nat)), vals.length = parts.length * ct.length ∧ q.1.length = parts.length ∧ (∀ x ∈ vals, x.oneCell' = true) ∧ InR w ct q.1 vals fps ∧ MetOk st.obj q.2.1 ∧
      (∀ b ∈ fps.flatten, (¬ Av st.obj β b) ∨ ∃ x ∈ q.2.1, b ∈ topsAt st.obj β x.1) ∧ (q.2.2 = true → (∀ b ∈ fps.flatten, ∃ x ∈ q.2.1, b ∈ φ x.1) ∧ (metNodup q.2.1 = true → fps.flatten.Nodup)) ∧
      ∀ (pre suf : List Value), pre.length = k * ct.length → suf.length = parts.length * ct.length →
        Instr.fill (fun i => some (i * ct.length, ct.length)) (pre ++ suf).toArray (parts.map fun x => (x.1, a.eval x.2)) = some (pre ++ vals).toArray
  | [], k, q, hq => by
    simp only [buildRowsM, M.val_pure, Option.some.injEq] at hq
    subst hq
    refine ⟨[], [], by simp, rfl, by simp, InR.nil, by simp [MetOk], by simp, by simp, fun pre suf h1 h2 => ?_⟩
    have : suf = [] := by simpa using h2
    subst this
    simp [Instr.fill]
  | (i, x) :: rest, k, q, hq => by
    simp only [buildRowsM] at hq
    cases hik : Nat.beq i k
    · simp [hik] at hq
    have hik := Nat.eq_of_beq_eq_true hik
    subst hik
    simp only [Nat.beq_refl, cond_true, M.val_bind, Option.bind_eq_some_iff, M.val_pure, Option.some.injEq] at hq
    obtain ⟨s, hs, cs, hcs, r, hr, q2, hq2, rfl⟩ := hq
    obtain ⟨hsv, hone⟩ := cells_ok (hc.ev hs) hcs
    have hcl := toDCs_length _ _ _ hr
    have hvl := SVRL.length _ _ hsv
    have hsize : (a.eval x).cells.size = ct.length := by simpa [hcl] using hvl
    obtain ⟨fp, hrd, hm1, ha1, hu1⟩ := toDCs_ok hc ct cs _ r hsv hr
    obtain ⟨vals, fps, hl2, hl3, hone2, hin2, hm2, ha2, hu2, hfill2⟩ := buildRowsM_ok hc rest (i + 1) q2 hq2
    refine ⟨(a.eval x).cells.toList ++ vals, fp :: fps, ?_, by simp [hl3], ?_, InR.cons hrd (by simpa using hsize) hin2, metOk_append hm1 hm2, ?_, ?_, ?_⟩
    · simp only [List.length_append, hl2, List.length_cons, Array.length_toList, hsize, Nat.succ_mul]
      omega
    · intro y hy
      rcases List.mem_append.1 hy with hy | hy
      · exact hone y hy
      · exact hone2 y hy
    · intro b hb
      simp only [List.flatten_cons, List.mem_append] at hb
      rcases hb with hb | hb
      · rcases ha1 b hb with h1 | ⟨y, hy, h1⟩
        · exact .inl h1
        · exact .inr ⟨y, List.mem_append_left _ hy, h1⟩
      · rcases ha2 b hb with h1 | ⟨y, hy, h1⟩
        · exact .inl h1
        · exact .inr ⟨y, List.mem_append_right _ hy, h1⟩
    · intro hu
      simp only [Bool.and_eq_true] at hu
      refine ⟨fun b hb => ?_, fun hn => ?_⟩
      · simp only [List.flatten_cons, List.mem_append] at hb
        rcases hb with hb | hb
        · obtain ⟨y, hy, h1⟩ := (hu1 hu.1).1 b hb
          exact ⟨y, List.mem_append_left _ hy, h1⟩
        · obtain ⟨y, hy, h1⟩ := (hu2 hu.2).1 b hb
          exact ⟨y, List.mem_append_right _ hy, h1⟩
      · obtain ⟨hn1, hn2, hne⟩ := metNodup_append hn
        simp only [List.flatten_cons]
        exact apart hc hm1 hm2 hne (hu1 hu.1).1 (hu2 hu.2).1 ((hu1 hu.1).2 hn1) ((hu2 hu.2).2 hn2)
    · intro pre suf h1 h2
      simp only [List.length_cons, Nat.succ_mul] at h2
      simp only [List.map_cons]
      rw [fill_cons (off := i * ct.length) (by rw [hsize]) (by simp [h1, hsize]; omega)]
      have e1 : ((pre ++ suf).toArray.toList.take (i * ct.length) ++ ((a.eval x).cells.toList ++ (pre ++ suf).toArray.toList.drop (i * ct.length + (a.eval x).cells.size))) = (pre ++ (a.eval x).cells.toList) ++ suf.drop ct.length := by
        simp only [hsize, ← h1]
        simp [List.drop_append]
      rw [e1, hfill2 (pre ++ (a.eval x).cells.toList) (suf.drop ct.length) (by simp [h1, hsize, Nat.succ_mul]) (by simp [h2])]
      simp

theorem sound_buildSlice (hR : Rel w0 S st a w) {d : Nat} (hdst : o.dst = some d) (hd : DstOk st.n d) (hfr : FreshAt st d) {t et : TypeId} {len : Nat} {parts : Array (Nat × Operand)} (ho : o.op = .buildSlice t len parts) {ct : List CT} {q : List (List DC) × Met × Bool}
    (hu : P.underlying t = some (.slice et)) (hsz : sizeB P et ct.length = true) (hpos : 0 < ct.length) (hlen : len = parts.toList.length) (hsm : len * ct.length ≤ 16777216)
    (hq : (buildRowsM ct 0 parts.toList).val st.get st.obj = some q) (hz : ∃ z, (zeroM P et).val st.get st.obj = some z) (hn : metNodup q.2.1 = true)
    (he : e = { sv := .own (newId d 0), ow := (newId d 0, some (.row et ct q.1 false q.2.2)) :: metFreeze q.2.1 }) : Good P w0 S st o e a w := by
  subst he
  obtain ⟨i, hi, hsize⟩ := sizeB_size hsz
  obtain ⟨β0, φ0, hc0⟩ := hR.core
  obtain ⟨vals, _, hvl, hrl, hone, _, hm, _, _, hfill⟩ := buildRowsM_ok hc0 parts.toList 0 q hq
  obtain ⟨z, hz⟩ := hz
  obtain ⟨i', zv, hi', hzv, _, _⟩ := zeroM_ok hz
  rw [hi] at hi'
  injection hi' with hi'
  subst hi'
  have hle : len ≤ maxLen := by
    have : len ≤ len * ct.length := Nat.le_mul_of_pos_right _ hpos
    simp only [maxLen]
    omega
  have hrun : (Instr.buildSlice t len (parts.map fun x => (x.1, a.eval x.2))).run P w = .ok (.slice (some ⟨w.heap.size, 0, none⟩) len len) (w.alloc (.cells vals.toArray et)) := by
    rcases Nat.eq_zero_or_pos len with h0 | h0
    · have hp : parts = #[] := by
        have : parts.toList.length = 0 := by omega
        simpa using this
      have hv : vals = [] := by
        have : vals.length = 0 := by rw [hvl, ← hlen, h0, Nat.zero_mul]
        simpa using this
      subst hp hv h0
      simp [Instr.buildSlice, run_underlying hu, sizeOf, typeInfo, hi, Instr.fill, newRow, Array.range_zero']
    · refine run_buildSlice (P := P) w t et len _ vals.toArray i zv hu hi hzv (by rw [hsize]; omega) (by rw [hsize]; exact Nat.ne_of_gt (Nat.mul_pos h0 hpos)) ?_
      have := hfill [] ((Array.range (len * ct.length)).map (zv.cells[· % zv.cells.size]!)).toList (by simp) (by simp [hlen])
      rw [hsize]
      generalize (Array.range (len * ct.length)).map (zv.cells[· % zv.cells.size]!) = A at this ⊢
      simpa using this
  refine sound_newrow hR hdst hd hfr (m := q.2.1) (fz := false) (u := q.2.2) (vals := vals) (v := .slice (some ⟨w.heap.size, 0, none⟩) len len) (w' := w.alloc (.cells vals.toArray et)) ?_ (hR.kept.alloc _)
    (by rw [alloc_size]; omega) (fun b hb => alloc_old _ b hb) (by simp [Value.ownBlock]) hm hn ?_ ?_ rfl rfl rfl
  · simp [execOp, ho, hrun]
  · refine ⟨by rw [hvl, hrl], .inr ⟨w.heap.size, len, vals.toArray, by rw [hrl, ← hlen], by simpa using alloc_new _, by rw [hrl, ← hlen]; exact Nat.le_refl _, hle, by simp [hvl, hlen], ?_⟩⟩
    rw [hrl, ← hvl]
    simp
  · intro β φ hc
    obtain ⟨vals', fps, hvl', hrl', hone', hin, hm', hav, huu, hfill'⟩ := buildRowsM_ok hc parts.toList 0 q hq
    have hvv : vals' = vals := by
      have h1 := hfill [] (List.replicate (parts.toList.length * ct.length) undef) (by simp) (by simp)
      have h2 := hfill' [] (List.replicate (parts.toList.length * ct.length) undef) (by simp) (by simp)
      rw [h1] at h2
      simpa using h2.symm
    subst hvv
    exact ⟨fps, hin, hav, fun h => ⟨(huu h).1, (huu h).2 hn⟩⟩

end

end Go.Proofs.YthpmalpdnnbkgaaGreat.Vm

/- The value machine: stores. Conditions: as each lemma says. -/
namespace Go.Proofs.YthpmalpdnnbkgaaGreat.Vm

theorem run_storeCells_free (P : Program) (g o : Nat) (t : TypeId) (fz : Nat × Nat) : ∀ (vs : List Value) (i : Nat) (cur : Array Value) (w : World), w.heap[g]? = some (.cells cur t fz) → (∀ j, j < cur.size → ¬ (fz.1 ≤ j ∧ j < fz.2)) →
    o + i + vs.length ≤ cur.size → (∀ v ∈ vs, v.oneCell' = true) →
    (storeCells ⟨g, o, none⟩ vs i).run P w = .ok () (w.setRow g (cur.toList.take (o + i) ++ (vs ++ cur.toList.drop (o + i + vs.length))).toArray)
  | [], i, cur, w, hg, _, _, _ => by
    simp only [storeCells, List.nil_append, List.length_nil, Nat.add_zero, List.take_append_drop, Array.toArray_toList]
    rw [setRow_self w g cur t fz hg]
    rfl
  | v :: rest, i, cur, w, hg, hfz, hl, h1 => by
    have hi : o + i < cur.size := by simp at hl; omega
    have hcell : w.cell? ⟨g, o + i, none⟩ = some cur[o + i] := by simp [World.cell?, hg, hi]
    have hfro : w.frozen? ⟨g, o + i, none⟩ = false := by
      have := hfz (o + i) hi
      obtain ⟨lo, hi'⟩ := fz
      simp only [World.frozen?, hg, Bool.and_eq_false_iff, decide_eq_false_iff_not]
      simp only at this
      omega
    have hst : (store ((⟨g, o, none⟩ : Addr).add i) v).run P w = .ok () (w.setRow g (cur.setIfInBounds (o + i) v)) := by
      rw [addr_add, run_store P w _ v _ (h1 v (by simp)), hcell]
      simp [hfro, setCell_eq_setRow w g (o + i) cur t fz v hg]
    have ih := run_storeCells_free P g o t fz rest (i + 1) (cur.setIfInBounds (o + i) v) (w.setRow g (cur.setIfInBounds (o + i) v)) (setRow_heap w g cur _ t _ hg) (by simpa using hfz) (by simp at hl ⊢; omega) (fun x hx => h1 x (by simp [hx]))
    simp only [storeCells, Sem.run_bind, hst, Result.andThen_ok, ih, setRow_setRow]
    congr 3
    have := list_seg_step cur.toList (o + i) v rest (by simp at hl ⊢; omega)
    simp only [Array.toList_setIfInBounds, List.length_cons]
    rw [← Nat.add_assoc]
    simpa [List.append_assoc] using this

theorem RdL.split {w : World} : ∀ (cs1 cs2 : List CT) (r : List DC) (f : Nat → Option Value) (fp : List Nat), RdL w (cs1 ++ cs2) r f fp →
    ∃ fp1 fp2, RdL w cs1 (r.take cs1.length) f fp1 ∧ RdL w cs2 (r.drop cs1.length) (fun j => f (cs1.length + j)) fp2 ∧ fp = fp1 ++ fp2
  | [], cs2, r, f, fp, h => ⟨[], fp, by simp [RdL], by simpa using h, rfl⟩
  | c :: cs, cs2, r, f, fp, h => by
    simp only [List.cons_append, RdL] at h
    obtain ⟨d, r', v, f1, f2, rfl, h0, h1, h2, rfl⟩ := h
    obtain ⟨p1, p2, e1, e2, rfl⟩ := RdL.split cs cs2 r' _ f2 h2
    refine ⟨f1 ++ p1, p2, ?_, ?_, by simp⟩
    · simp only [List.length_cons, List.take_succ_cons, RdL]
      exact ⟨d, _, v, f1, p1, rfl, h0, h1, e1, rfl⟩
    · simp only [List.length_cons, List.drop_succ_cons]
      have : ∀ j, cs.length + 1 + j = cs.length + j + 1 := by intro j; omega
      simpa only [this] using e2

theorem RdL.join {w : World} : ∀ (cs1 cs2 : List CT) (r1 r2 : List DC) (f : Nat → Option Value) (fp1 fp2 : List Nat), RdL w cs1 r1 f fp1 → RdL w cs2 r2 (fun j => f (cs1.length + j)) fp2 →
    RdL w (cs1 ++ cs2) (r1 ++ r2) f (fp1 ++ fp2)
  | [], cs2, r1, r2, f, fp1, fp2, h1, h2 => by
    simp only [RdL] at h1
    obtain ⟨rfl, rfl⟩ := h1
    simpa using h2
  | c :: cs, cs2, r1, r2, f, fp1, fp2, h1, h2 => by
    simp only [RdL] at h1
    obtain ⟨d, r', v, f1, f2, rfl, h0, h3, h4, rfl⟩ := h1
    simp only [List.cons_append, RdL]
    refine ⟨d, r' ++ r2, v, f1, f2 ++ fp2, rfl, h0, h3, RdL.join cs cs2 r' r2 _ f2 fp2 h4 ?_, by simp⟩
    have : ∀ j, (c :: cs).length + j = cs.length + j + 1 := by intro j; simp only [List.length_cons]; omega
    simpa only [this] using h2

section
variable {P : Program} {Γ : Ctx} {w0 : World} {S : Own} {st : St} {o : Oper} {e : Eff} {a : Act} {w : World}
variable {f : Nat → SV} {h : Nat → Option VObj} {β : Env} {φ : Nat → List Nat} {tm : Array Value}

theorem Kept.setRow (hk : Kept S w0 w) {g : Nat} (hg : w0.heap.size ≤ g ∨ S g) (cs : Array Value) : Kept S w0 (w.setRow g cs) :=
  ⟨hk.os, hk.tape, hk.output, by simpa using hk.size, fun k h1 h2 => by
    rw [setRow_other w g k cs (fun e => by subst e; rcases hg with h | h; omega; exact h2 h)]
    exact hk.block k h1 h2⟩

/-- An object is written anew in its own block. -/
theorem Core.rewrite (hc : Core w0 S f h β φ tm w) {id : Nat} {ob ob' : VObj} {g : Nat} {cs : Array Value} {φn : List Nat} (hid : h id = some ob) (hg : g ∈ tops β id ob) (ht : ∀ b ∈ tops β id ob', b ∈ tops β id ob)
    (hobj : ObjR (w.setRow g cs) (Av (upd h id (some ob')) β) β id ob' φn) (hnd : φn.Nodup) (hal : ∀ b ∈ φn, ((w0.heap.size ≤ b ∨ S b) ∧ b < w.heap.size) ∧ ∀ j o, j ≠ id → h j = some o → b ∉ φ j) :
    Core w0 S f (upd h id (some ob')) β (upd φ id φn) tm (w.setRow g cs) := by
  have hgφ := tops_sub (hc.objs id ob hid) g hg
  refine hc.step (fun _ => False) (by simp) (fun b _ hb => setRow_other w g b cs (fun e => hb (e ▸ .inl ⟨id, ob, hid, hg⟩))) ?_ (fun _ _ _ h => h) (fun _ _ => ⟨rfl, rfl⟩) ?_ ?_
  · rintro b (⟨j, oj, hj, hbj⟩ | hb)
    case inr => exact .inl (.inr hb)
    by_cases hjj : j = id
    · subst hjj
      simp only [upd, if_true, Option.some.injEq] at hj
      subst hj
      exact .inl (.inl ⟨j, ob, hid, ht b hbj⟩)
    · simp only [upd, hjj, if_false] at hj
      exact .inl (.inl ⟨j, oj, hj, hbj⟩)
  · intro j oj hj
    by_cases hjj : j = id
    · subst hjj
      simp only [upd, if_true, Option.some.injEq] at hj
      subst hj
      exact .inr ⟨by simpa [upd] using hobj, by simpa [upd] using hnd, fun b hb => by simpa using (hal b (by simpa [upd] using hb)).1⟩
    · simp only [upd, hjj, if_false] at hj
      refine .inl ⟨fun h => h, hj, by simp [upd, hjj], fun _ _ h => h, fun b hb => setRow_other w g b cs (fun e => ?_)⟩
      subst e
      exact hc.sep id j _ _ (Ne.symm hjj) hid hj b hgφ (tops_sub (hc.objs j oj hj) b hb)
  · intro i j oi oj hne hi hj b hb
    by_cases hii : i = id
    · subst hii
      have hji : j ≠ i := Ne.symm hne
      simp only [upd, hji, if_false] at hj
      simp only [upd, if_true] at hb
      simp only [upd, hji, if_false]
      exact (hal b hb).2 j oj hji hj
    · simp only [upd, hii, if_false] at hi hb
      by_cases hjj : j = id
      · subst hjj
        simp only [upd, if_true]
        exact fun hb' => (hal b hb').2 i oi hii hi hb
      · simp only [upd, hjj, if_false] at hj ⊢
        exact hc.sep i j oi oj hne hi hj b hb

theorem av_rewrite {id : Nat} {ob ob' : VObj} (hid : h id = some ob) (ht : ∀ b ∈ tops β id ob', b ∈ tops β id ob) {b : Nat} (hb : Av (upd h id (some ob')) β b) : Av h β b := by
  rcases hb with ⟨j, oj, hj, hbj⟩ | hb
  case inr => exact .inr hb
  by_cases hjj : j = id
  · subst hjj
    simp only [upd, if_true, Option.some.injEq] at hj
    subst hj
    exact .inl ⟨j, ob, hid, ht b hbj⟩
  · simp only [upd, hjj, if_false] at hj
    exact .inl ⟨j, oj, hj, hbj⟩

theorem run_storeAt {t : TypeId} {b off : Nat} {x : Value} {i : TypeInfo} (hi : P.info? t = some i) (hsz : i.size = x.cells.size) {w' : World} (hrun : (storeCells ⟨b, off, none⟩ x.cells.toList 0).run P w = .ok () w') :
    (Instr.storeAt t (.pointer (some ⟨b, off, none⟩)) x).run P w = .ok () w' := by
  simp [Instr.storeAt, Instr.sureAddr, storeVar, sizeOf, typeInfo, hi, hsz, hrun]

theorem writeCells_ok {av : Nat → Prop} {cells svs : List SV} {vs us : List Value} {off : Nat} (h1 : SVRL w av β cells vs) (h2 : SVRL w av β svs us) (hl : us.length = svs.length) :
    SVRL w av β (writeCells cells off svs) (vs.take off ++ (us ++ vs.drop (off + us.length))) := by
  unfold writeCells
  refine SVRL.append _ _ _ _ (SVRL.take _ _ _ h1) (SVRL.append _ _ _ _ h2 ?_)
  rw [hl]
  exact SVRL.drop _ _ _ h1

theorem sound_store_box (hR : Rel w0 S st a w) (hd : ∀ d, o.dst = some d → DstOk st.n d) {t t' : TypeId} {x y : Operand} (ho : o.op = .store t x y) {id off : Nat} {sy : SV} {svs cells : List SV}
    (h1 : (evM x).val st.get st.obj = some (.ptr id off)) (h2 : (evM y).val st.get st.obj = some sy) (hcs : (cellsOfSV sy).val st.get st.obj = some svs) (hsz : sizeB P t svs.length = true)
    (hob : st.obj id = some (.box t' cells)) (hfit : off + svs.length ≤ cells.length) (he : e = { sv := .undef, cw := some (id, off, svs) }) : Good P w0 S st o e a w := by
  subst he
  obtain ⟨i, hi, hsize⟩ := sizeB_size hsz
  obtain ⟨β, φ, hc⟩ := hR.core
  have hx := hc.ev h1
  simp only [SVR] at hx
  obtain ⟨hsv, hone⟩ := cells_ok (hc.ev h2) hcs
  obtain ⟨vs, hh, hr, hone', hφ⟩ := hc.objs id _ hob
  have hl := SVRL.length _ _ hr
  have hl2 := SVRL.length _ _ hsv
  have hcsz : (a.eval y).cells.size = svs.length := by simpa using hl2
  have hrun := run_storeCells_free P (β.blk id) off t' (0, 0) (a.eval y).cells.toList 0 vs.toArray w hh (by simp) (by simp; omega) hone
  simp only [Nat.add_zero] at hrun
  have hfc : fc (some (id, off, svs)) st.obj = upd st.obj id (some (.box t' (writeCells cells off svs))) := by simp only [fc, hob]
  have hsame := hc.fresh id _ hob
  have hav : ∀ b, Av (upd st.obj id (some (.box t' (writeCells cells off svs)))) β b → Av st.obj β b := fun b hb => av_rewrite hob (by simp [tops]) hb
  have hmono : ∀ (ss : List SV) (us : List Value), SVRL w (Av st.obj β) β ss us → ∀ cs, SVRL (w.setRow (β.blk id) cs) (Av (upd st.obj id (some (.box t' (writeCells cells off svs)))) β) β ss us := by
    intro ss us hss cs
    exact SVRL.mono (by simp) (fun b _ hb => setRow_other w _ b cs (fun e => hb (e ▸ .inl ⟨id, _, hob, by simp [tops]⟩))) (fun b hb => .inl (hav b hb)) ss us hss (fun _ _ => ⟨rfl, rfl⟩)
  refine good_skip hR hd (w' := w.setRow (β.blk id) (vs.take off ++ ((a.eval y).cells.toList ++ vs.drop (off + (a.eval y).cells.toList.length))).toArray) ?_ (hR.kept.setRow (hsame.2 (β.blk id) (by rw [hφ]; simp)).1 _) ⟨β, upd φ id [β.blk id], ?_, by simp [SVR]⟩
  · simp [execOp, ho, hx, run_storeAt hi (hsize.trans hcsz.symm) hrun]
  · show Core w0 S st.get (fo [] (fc (some (id, off, svs)) st.obj)) _ _ _ _
    simp only [fo, hfc]
    refine hc.rewrite hob (by simp [tops]) (by simp [tops]) ?_ (by simp) ?_
    · refine ⟨_, setRow_heap w _ _ _ _ _ hh, writeCells_ok (hmono _ _ hr _) (hmono _ _ hsv _) hl2, ?_, rfl⟩
      intro z hz
      simp only [List.mem_append] at hz
      rcases hz with hz | hz | hz
      · exact hone' z (List.mem_of_mem_take hz)
      · exact hone z hz
      · exact hone' z (List.mem_of_mem_drop hz)
    · intro b hb
      have hb' : b ∈ φ id := by rw [hφ]; exact hb
      exact ⟨hsame.2 b hb', fun j oj hj hjo => hc.sep id j _ _ (Ne.symm hj) hob hjo b hb'⟩

theorem flatten_set {fps : List (List Nat)} {i : Nat} (hi : i < fps.length) (x : List Nat) : (fps.set i x).flatten = (fps.take i).flatten ++ (x ++ (fps.drop (i + 1)).flatten) := by
  rw [List.set_eq_take_append_cons_drop, if_pos hi]
  simp

theorem flatten_at {fps : List (List Nat)} {i : Nat} (hi : i < fps.length) : fps.flatten = (fps.take i).flatten ++ (fps[i] ++ (fps.drop (i + 1)).flatten) := by
  have := flatten_set hi fps[i]
  rwa [List.set_getElem_self] at this

theorem InR.set {ct : List CT} {rows : List (List DC)} {vals : List Value} {fps : List (List Nat)} (hin : InR w ct rows vals fps) (hl : vals.length = rows.length * ct.length) {i : Nat} (hi : i < rows.length)
    {off : Nat} {ds : List DC} {us : List Value} {fp : List Nat} (hoff : off + us.length ≤ ct.length) (hrd : RdL w ((ct.drop off).take us.length) ds (fun j => us[j]?) fp) :
    ∃ p1 p2 p3, fps[i]? = some (p1 ++ (p2 ++ p3)) ∧ InR w ct (rows.set i (splice (rows.getD i []) off ds)) (vals.take (i * ct.length + off) ++ (us ++ vals.drop (i * ct.length + off + us.length))) (fps.set i (p1 ++ (fp ++ p3))) := by
  have hif : i < fps.length := by rw [hin.1]; exact hi
  have hrow := hin.2 i (rows.getD i []) fps[i] (getD_of_lt hi) (by simp)
  generalize rows.getD i [] = r at hrow ⊢
  have hct : ct = ct.take off ++ ((ct.drop off).take us.length ++ ct.drop (off + us.length)) := by
    rw [← List.drop_drop, List.take_append_drop, List.take_append_drop]
  have hl1 : (ct.take off).length = off := by simp; omega
  have hl2 : ((ct.drop off).take us.length).length = us.length := by simp; omega
  have hdl : ds.length = us.length := by rw [RdL.length _ _ _ _ hrd, hl2]
  have hrow' : RdL w (ct.take off ++ ((ct.drop off).take us.length ++ ct.drop (off + us.length))) r (fun j => vals[i * ct.length + j]?) fps[i] := by
    rw [← hct]
    exact hrow
  obtain ⟨p1, q, r1, r2, hq⟩ := RdL.split _ _ _ _ _ hrow'
  obtain ⟨p2, p3, r3, r4, rfl⟩ := RdL.split _ _ _ _ _ r2
  rw [hl1] at r1 r2 r3 r4
  rw [hl2] at r3 r4
  have hi1 : i * ct.length + ct.length ≤ vals.length := by
    rw [hl, ← Nat.succ_mul]
    exact Nat.mul_le_mul_right _ hi
  refine ⟨p1, p2, p3, by rw [List.getElem?_eq_getElem hif, hq], by simp [hin.1], fun k r' f' hk hf => ?_⟩
  have get_new : ∀ j, (vals.take (i * ct.length + off) ++ (us ++ vals.drop (i * ct.length + off + us.length)))[j]? =
      if j < i * ct.length + off then vals[j]? else if j < i * ct.length + off + us.length then us[j - (i * ct.length + off)]? else vals[j]? := by
    intro j
    have ht : (vals.take (i * ct.length + off)).length = i * ct.length + off := by simp; omega
    split
    · rename_i hj
      rw [List.getElem?_append_left (by omega), List.getElem?_take, if_pos hj]
    · rename_i hj
      rw [List.getElem?_append_right (by omega), ht]
      split
      · rw [List.getElem?_append_left (by omega)]
      · rw [List.getElem?_append_right (by omega), List.getElem?_drop]
        congr 1
        omega
  by_cases hki : k = i
  · subst hki
    rw [List.getElem?_set_self hi] at hk
    rw [List.getElem?_set_self hif] at hf
    simp only [Option.some.injEq] at hk hf
    subst hk hf
    have := RdL.join (w := w) (ct.take off) ((ct.drop off).take us.length ++ ct.drop (off + us.length)) (r.take off) (ds ++ r.drop (off + ds.length))
      (fun j => (vals.take (k * ct.length + off) ++ (us ++ vals.drop (k * ct.length + off + us.length)))[k * ct.length + j]?) p1 (fp ++ p3) ?_ ?_
    · rw [← hct] at this
      exact this
    · refine row_reads.RdL.ofSub' ?_ r1
      intro j u hj hju
      rw [hl1] at hj
      simp only [get_new]
      rw [if_pos (by omega)]
      exact hju
    · refine RdL.join _ _ _ _ _ _ _ ?_ ?_
      · refine row_reads.RdL.ofSub' ?_ hrd
        intro j u hj hju
        rw [hl2] at hj
        simp only [hl1, get_new]
        rw [if_neg (by omega), if_pos (by omega), ← hju]
        congr 1
        omega
      · rw [hdl]
        simp only [List.drop_drop] at r4
        refine row_reads.RdL.ofSub ?_ r4
        intro j u hju
        simp only [hl1, hl2, get_new]
        rw [if_neg (by omega), if_neg (by omega)]
        rw [← hju]
  · rw [List.getElem?_set_ne (Ne.symm hki)] at hk hf
    refine row_reads.RdL.ofSub' ?_ (hin.2 k r' f' hk hf)
    intro j u hj hju
    have hkl : k < rows.length := (List.getElem?_eq_some_iff.1 hk).1
    rw [get_new]
    rcases Nat.lt_or_ge k i with hlt | hge
    · have : k * ct.length + ct.length ≤ i * ct.length := by rw [← Nat.succ_mul]; exact Nat.mul_le_mul_right _ hlt
      rw [if_pos (by omega)]
      exact hju
    · have : i * ct.length + ct.length ≤ k * ct.length := by rw [← Nat.succ_mul]; exact Nat.mul_le_mul_right _ (by omega)
      rw [if_neg (by omega), if_neg (by omega)]
      exact hju

end

end Go.Proofs.YthpmalpdnnbkgaaGreat.Vm

/- The value machine: stores into rows, append, conversions. Conditions: as each lemma says. -/
namespace Go.Proofs.YthpmalpdnnbkgaaGreat.Vm

theorem take_splice {α : Type} (l us : List α) (o m : Nat) (h1 : o + us.length ≤ m) (h2 : m ≤ l.length) :
    (l.take o ++ (us ++ l.drop (o + us.length))).take m = (l.take m).take o ++ (us ++ (l.take m).drop (o + us.length)) := by
  rw [List.take_append, List.take_append]
  have e1 : (l.take o).length = o := by simp; omega
  rw [e1]
  have e2 : (l.take o).take m = (l.take m).take o := by rw [List.take_take, List.take_take, Nat.min_comm]
  have e3 : us.take (m - o) = us := List.take_of_length_le (by omega)
  rw [e2, e3]
  congr 2
  rw [List.drop_take]
  congr 1
  omega

section
variable {P : Program} {Γ : Ctx} {w0 : World} {S : Own} {st : St} {o : Oper} {e : Eff} {a : Act} {w : World}
variable {f : Nat → SV} {h : Nat → Option VObj} {β : Env} {φ : Nat → List Nat} {tm : Array Value}

theorem nodup_insert {A p1 p2 p3 B n : List Nat} (h : (A ++ ((p1 ++ (p2 ++ p3)) ++ B)).Nodup) (hn : n.Nodup) (hd : ∀ b ∈ n, b ∉ A ++ ((p1 ++ (p2 ++ p3)) ++ B)) : (A ++ ((p1 ++ (n ++ p3)) ++ B)).Nodup := by
  have h1 : ((A ++ p1) ++ (p3 ++ B)).Nodup := by
    refine List.Sublist.nodup ?_ h
    simp only [List.append_assoc]
    refine List.Sublist.append (List.Sublist.refl _) (List.Sublist.append (List.Sublist.refl _) ?_)
    exact List.sublist_append_right _ _
  have h2 : (n ++ ((A ++ p1) ++ (p3 ++ B))).Nodup := by
    rw [List.nodup_append]
    refine ⟨hn, h1, fun b hb c hc' hbc => ?_⟩
    subst hbc
    refine hd b hb ?_
    simp only [List.mem_append] at hc' ⊢
    rcases hc' with (hc' | hc') | hc' | hc' <;> simp [hc']
  refine (List.Perm.nodup_iff ?_).1 h2
  have : A ++ ((p1 ++ (n ++ p3)) ++ B) = (A ++ p1) ++ (n ++ (p3 ++ B)) := by simp
  rw [this]
  exact (List.perm_append_comm_assoc _ _ _)

theorem sound_store_row (hR : Rel w0 S st a w) (hd : ∀ d, o.dst = some d → DstOk st.n d) {t t' : TypeId} {x y : Operand} (ho : o.op = .store t x y) {id i off : Nat} {sy : SV} {svs : List SV} {ct : List CT} {rows : List (List DC)} {fz u : Bool} {r : List DC × Met × Bool}
    (h1 : (evM x).val st.get st.obj = some (.eown id i ct.length off)) (h2 : (evM y).val st.get st.obj = some sy) (hcs : (cellsOfSV sy).val st.get st.obj = some svs) (hsz : sizeB P t svs.length = true)
    (hob : st.obj id = some (.row t' ct rows fz u)) (hfit : off + svs.length ≤ ct.length) (hr : (toDCs ((ct.drop off).take svs.length) svs).val st.get st.obj = some r) (hmn : metNot id r.2.1 = true) (hnd : metNodup r.2.1 = true)
    (hi : i < rows.length) (hcw : e.cw = none) (hsv0 : e.sv = .undef)
    (how : e.ow = (id, some (.row t' ct (rows.set i (splice (rows.getD i []) off r.1)) fz (u && r.2.2))) :: metFreeze r.2.1) : Good P w0 S st o e a w := by
  obtain ⟨ti, hti, hsize⟩ := sizeB_size hsz
  obtain ⟨β, φ, hc⟩ := hR.core
  have hx := hc.ev h1
  simp only [SVR] at hx
  obtain ⟨g, hg, hx⟩ := hx
  obtain ⟨hsv, hone⟩ := cells_ok (hc.ev h2) hcs
  have hl2 := SVRL.length _ _ hsv
  have hcsz : (a.eval y).cells.size = svs.length := by simpa using hl2
  obtain ⟨fp, hrd, hmet, hfpav, hfpu⟩ := toDCs_ok hc _ _ _ r hsv hr
  have hc1 := hc.freezes r.2.1 hmet hnd
  have hno := metNot_mem hmn
  have hob1 : fo (metFreeze r.2.1) st.obj id = some (.row t' ct rows fz u) := by rw [fo_frozen_other hno]; exact hob
  have hav1 : ∀ b ∈ fp, ¬ Av (fo (metFreeze r.2.1) st.obj) β b := by
    intro b hb
    rcases hfpav b hb with h1 | ⟨z, hz, hbz⟩
    · exact fun h2 => h1 (av_frozen h2)
    · exact not_av_met hc hmet hz hbz
  obtain ⟨vals, fps, hown, hin, hfav, hφ⟩ := hc1.objs id _ hob1
  have hgtop : g ∈ tops β id (.row t' ct rows fz u) := by simp [tops, hg]
  rcases hown.2 with ⟨hv, h0, _⟩ | ⟨g', cap, cur, hv, hh, hnc, hcm, hcs', htk⟩
  · omega
  have hgg : g' = g := by simpa [hv, Value.ownBlock] using hg
  subst hgg
  have hlen : i * ct.length + ct.length ≤ rows.length * ct.length := by rw [← Nat.succ_mul]; exact Nat.mul_le_mul_right _ hi
  have hlen2 : rows.length * ct.length ≤ cap * ct.length := Nat.mul_le_mul_right _ hnc
  have hfree : ∀ j, j < cur.size → ¬ ((bif fz then (cur.size, cur.size + 1) else ((0, 0) : Nat × Nat)).1 ≤ j ∧ j < (bif fz then (cur.size, cur.size + 1) else ((0, 0) : Nat × Nat)).2) := by
    intro j hj
    cases fz <;> simp <;> omega
  have hul : (a.eval y).cells.toList.length = svs.length := by simpa using hcsz
  have hrun := run_storeCells_free P g' (i * ct.length + off) t' _ (a.eval y).cells.toList 0 cur w hh hfree (by rw [hul, hcs']; omega) hone
  simp only [Nat.add_zero] at hrun
  generalize hus : (a.eval y).cells.toList = us at *
  rw [← hul] at hfit hrd
  obtain ⟨p1, p2, p3, hfpi, hin'⟩ := hin.set hown.1 hi hfit hrd
  have hif : i < fps.length := by rw [hin.1]; exact hi
  have hfpi' : fps[i] = p1 ++ (p2 ++ p3) := by simpa [hif] using hfpi
  have hmemset : ∀ b ∈ (fps.set i (p1 ++ (fp ++ p3))).flatten, b ∈ fps.flatten ∨ b ∈ fp := by
    intro b hb
    rw [flatten_set hif] at hb
    rw [flatten_at hif, hfpi']
    simp only [List.mem_append] at hb ⊢
    rcases hb with hb | (hb | hb | hb) | hb <;> simp [hb]
  have hav2 : ∀ b ∈ (fps.set i (p1 ++ (fp ++ p3))).flatten, ¬ Av (fo (metFreeze r.2.1) st.obj) β b := by
    intro b hb
    rcases hmemset b hb with hb | hb
    · exact hfav b hb
    · exact hav1 b hb
  have hfresh := hc1.fresh id _ hob1
  have hcurl : (cur.toList.take (i * ct.length + off) ++ (us ++ cur.toList.drop (i * ct.length + off + us.length))).length = cur.size := by
    simp only [List.length_append, List.length_take, List.length_drop, Array.length_toList]
    rw [hcs']
    omega
  have htops : ∀ b ∈ tops β id (.row t' ct (rows.set i (splice (rows.getD i []) off r.1)) fz (u && r.2.2)), b ∈ tops β id (.row t' ct rows fz u) := fun b hb => hb
  refine good_skip hR hd (w' := w.setRow g' (cur.toList.take (i * ct.length + off) ++ (us ++ cur.toList.drop (i * ct.length + off + us.length))).toArray) ?_
    (hR.kept.setRow (hfresh.2 g' (tops_sub (hc1.objs id _ hob1) g' hgtop)).1 _)
    ⟨β, upd (frozenφ φ r.2.1) id ((β.val id).ownBlock.toList ++ (bif (u && r.2.2) then (fps.set i (p1 ++ (fp ++ p3))).flatten else [])), ?_, by rw [hsv0]; simp [SVR]⟩
  · have := run_storeAt (P := P) (t := t) (b := g') (off := i * ct.length + off) (x := a.eval y) hti (hsize.trans hcsz.symm) (by rw [hus]; exact hrun)
    simp [execOp, ho, hx, this]
  · rw [how, hcw]
    show Core w0 S st.get (upd (fo (metFreeze r.2.1) st.obj) id (some (.row t' ct (rows.set i (splice (rows.getD i []) off r.1)) fz (u && r.2.2)))) _ _ _ _
    refine hc1.rewrite hob1 hgtop htops ?_ ?_ ?_
    · refine ⟨vals.take (i * ct.length + off) ++ (us ++ vals.drop (i * ct.length + off + us.length)), fps.set i (p1 ++ (fp ++ p3)), ⟨?_, .inr ⟨g', cap, (cur.toList.take (i * ct.length + off) ++ (us ++ cur.toList.drop (i * ct.length + off + us.length))).toArray, by simpa using hv, ?_, by simpa using hnc, hcm, by simpa [hcurl] using hcs', ?_⟩⟩, ?_, ?_, rfl⟩
      · have := hown.1
        simp only [List.length_append, List.length_take, List.length_drop, List.length_set]
        omega
      · rw [setRow_heap w _ _ _ _ _ hh]
        simp only [List.size_toArray, hcurl]
      · simp only [List.length_set]
        rw [take_splice _ _ _ _ (by omega) (by simp only [Array.length_toList]; omega), htk]
      · refine hin'.mono (by simp) (fun b hb => setRow_other w g' b _ (fun e => hav2 b hb (e ▸ .inl ⟨id, _, hob1, hgtop⟩)))
      · exact fun b hb hx => hav2 b hb (av_rewrite hob1 htops hx)
    · have hnd1 : (β.val id).ownBlock.toList.Nodup := by cases (β.val id).ownBlock <;> simp
      cases huu : (u && r.2.2) with
      | false => simpa using hnd1
      | true =>
        simp only [Bool.and_eq_true] at huu
        have hφ' : frozenφ φ r.2.1 id = (β.val id).ownBlock.toList ++ fps.flatten := by rw [hφ, huu.1]; rfl
        have hn0 := hfresh.1
        rw [hφ', flatten_at hif, hfpi', List.nodup_append] at hn0
        obtain ⟨hn1, hn2, hn3⟩ := hn0
        have hfpn := (hfpu huu.2).2 hnd
        have hfpd : ∀ b ∈ fp, b ∉ frozenφ φ r.2.1 id := by
          intro b hb hbi
          obtain ⟨z, hz, hbz⟩ := (hfpu huu.2).1 b hb
          obtain ⟨_, h3, _⟩ := hmet z hz
          rw [frozenφ_other hno] at hbi
          exact hc.sep z.1 id _ _ (hno z hz) h3 hob b hbz hbi
        rw [hφ', flatten_at hif, hfpi'] at hfpd
        simp only [cond_true]
        rw [flatten_set hif, List.nodup_append]
        refine ⟨hn1, nodup_insert hn2 hfpn (fun b hb hb' => hfpd b hb (List.mem_append_right _ hb')), fun b hb c hc' hbc => ?_⟩
        subst hbc
        simp only [List.mem_append] at hc'
        rcases hc' with hc' | (hc' | hc' | hc') | hc'
        · exact hn3 b hb b (by simp [hc']) rfl
        · exact hn3 b hb b (by simp [hc']) rfl
        · exact hfpd b hc' (List.mem_append_left _ hb)
        · exact hn3 b hb b (by simp [hc']) rfl
        · exact hn3 b hb b (by simp [hc']) rfl
    · intro b hb
      have old : b ∈ frozenφ φ r.2.1 id → ((w0.heap.size ≤ b ∨ S b) ∧ b < w.heap.size) ∧ ∀ j oj, j ≠ id → fo (metFreeze r.2.1) st.obj j = some oj → b ∉ frozenφ φ r.2.1 j := fun hb' =>
        ⟨hfresh.2 b hb', fun j oj hj hjo => hc1.sep id j _ _ (Ne.symm hj) hob1 hjo b hb'⟩
      rcases List.mem_append.1 hb with hb | hb
      · exact old (by rw [hφ]; exact List.mem_append_left _ hb)
      · cases huu : (u && r.2.2) with
        | false => simp [huu] at hb
        | true =>
          simp only [huu, cond_true] at hb
          simp only [Bool.and_eq_true] at huu
          rcases hmemset b hb with hb | hb
          · exact old (by rw [hφ, huu.1]; exact List.mem_append_right _ hb)
          · obtain ⟨z, hz, hbz⟩ := (hfpu huu.2).1 b hb
            obtain ⟨_, h3, _⟩ := hmet z hz
            refine ⟨(hc.fresh z.1 _ h3).2 b hbz, fun j oj hj hjo => ?_⟩
            by_cases hjm : ∃ k ∈ r.2.1, k.1 = j
            · rw [frozenφ_in hjm]; simp
            · have hno' : ∀ k ∈ r.2.1, k.1 ≠ j := fun k hk e => hjm ⟨k, hk, e⟩
              rw [fo_frozen_other hno'] at hjo
              rw [frozenφ_other hno']
              exact hc.sep z.1 j _ _ (hno' z hz) h3 hjo b hbz

end

end Go.Proofs.YthpmalpdnnbkgaaGreat.Vm

/- The value machine: append. Conditions: as each lemma says. -/
namespace Go.Proofs.YthpmalpdnnbkgaaGreat.Vm

theorem flat_fp {w : World} : ∀ (ct : List CT) (r : List DC) (f : Nat → Option Value) (fp : List Nat), flatB ct = true → RdL w ct r f fp → fp = []
  | [], _, _, _, _, h => by simp only [RdL] at h; exact h.2
  | c :: cs, _, _, _, hf, h => by
    simp only [RdL] at h
    obtain ⟨d, r', v, f1, f2, rfl, _, h1, h2, rfl⟩ := h
    have h0 : f1 = [] ∧ flatB cs = true := by
      cases c with
      | int k => simp only [RdC] at h1; obtain ⟨n, _, _, _, e⟩ := h1; exact ⟨e, by simpa [flatB] using hf⟩
      | bool => simp only [RdC] at h1; obtain ⟨n, _, _, e⟩ := h1; exact ⟨e, by simpa [flatB] using hf⟩
      | str => simp only [RdC] at h1; obtain ⟨n, _, _, _, e⟩ := h1; exact ⟨e, by simpa [flatB] using hf⟩
      | sl e => simp [flatB] at hf
    rw [h0.1, flat_fp cs _ _ _ h0.2 h2]
    rfl

theorem InR.flat {w : World} {ct : List CT} {rows : List (List DC)} {vals : List Value} {fps : List (List Nat)} (h : InR w ct rows vals fps) (hf : flatB ct = true) : fps.flatten = [] := by
  rw [List.flatten_eq_nil_iff]
  intro l hl
  obtain ⟨i, hi, rfl⟩ := List.getElem_of_mem hl
  have hi' : i < rows.length := by have := h.1; omega
  exact flat_fp ct _ _ _ hf (h.2 i rows[i] fps[i] (by simp) (by simp))

/-- The cells of a slice that is read. -/
theorem src_cells {w : World} {ct : List CT} {r : List (List DC)} {q : Option Addr} {m c : Nat} {fp : List Nat} (h : RdC w (.sl ct) (.sl r) (.slice q m c) fp) (hp : 0 < ct.length) :
    m = r.length ∧ ∃ (news : List Value) (fps : List (List Nat)), news.length = m * ct.length ∧ (q = none → m = 0) ∧ (∀ ad, q = some ad → ∀ j u, news[j]? = some u → w.cell? (ad.add j) = some u) ∧ (∀ x ∈ news, x.oneCell' = true) ∧
      InR w ct r news fps ∧ (∀ b ∈ fps.flatten, b ∈ fp) ∧ (fp.Nodup → fps.flatten.Nodup) := by
  obtain ⟨q', m', c', hv, hn, hc, hm, hcase⟩ := sl_form h
  injection hv with e1 e2 e3
  subst e1 e2 e3
  refine ⟨hn.symm, ?_⟩
  rcases hcase with ⟨h0, rfl⟩ | ⟨hpos, b, o, fps, rfl, hlt, hfl, rfl, hrow⟩
  · have hr : r = [] := by simpa [h0] using hn
    subst hr
    exact ⟨[], [], by simp [h0], fun _ => h0, by simp, by simp, InR.nil, by simp, by simp⟩
  · have cellAt : ∀ j, j < m * ct.length → ∃ u, w.cell? ⟨b, o + j, none⟩ = some u ∧ u.oneCell' = true := by
      intro j hj
      have h1 : j / ct.length < r.length := by rw [hn]; exact Nat.div_lt_of_lt_mul (by rw [Nat.mul_comm]; exact hj)
      have h2 : j % ct.length < ct.length := Nat.mod_lt _ hp
      have hf : j / ct.length < fps.length := by omega
      obtain ⟨u, fp', e1, e2, _⟩ := RdL.get _ _ _ _ (j % ct.length) ct[j % ct.length] (hrow (j / ct.length) r[j / ct.length] fps[j / ct.length] (by simp) (by simp)) (by simp)
      refine ⟨u, ?_, e2.one⟩
      have : j / ct.length * ct.length + j % ct.length = j := by rw [Nat.mul_comm]; exact Nat.div_add_mod j ct.length
      rw [this] at e1
      exact e1
    refine ⟨(List.range (m * ct.length)).map (fun j => (w.cell? ⟨b, o + j, none⟩).getD undef), fps, by simp, by simp, ?_, ?_, ⟨by omega, ?_⟩, fun x hx => List.mem_cons_of_mem _ hx, fun hn => (List.nodup_cons.1 hn).2⟩
    · intro ad had j u hj
      injection had with had
      subst had
      rw [addr_add]
      have hjl : j < m * ct.length := by
        have := (List.getElem?_eq_some_iff.1 hj).1
        simpa using this
      obtain ⟨u', hu', _⟩ := cellAt j hjl
      simp [hjl, hu'] at hj
      rw [hu', hj]
    · intro x hx
      simp only [List.mem_map, List.mem_range] at hx
      obtain ⟨j, hj, rfl⟩ := hx
      obtain ⟨u', hu', ho⟩ := cellAt j hj
      rw [hu']
      exact ho
    · intro i r' f' hi hf
      refine row_reads.RdL.ofSub' ?_ (hrow i r' f' hi hf)
      intro j u hj hju
      have hil : i < m := by have := (List.getElem?_eq_some_iff.1 hi).1; omega
      have : i * ct.length + j < m * ct.length := by
        have : i * ct.length + ct.length ≤ m * ct.length := by rw [← Nat.succ_mul]; exact Nat.mul_le_mul_right _ hil
        omega
      simp [this, hju]

section
variable {P : Program} {Γ : Ctx} {w0 : World} {S : Own} {st : St} {o : Oper} {e : Eff} {a : Act} {w : World}
variable {f : Nat → SV} {h : Nat → Option VObj} {β : Env} {φ : Nat → List Nat} {tm : Array Value}

theorem run_append_nil (base : Nat) (t ty et : TypeId) (i : TypeInfo) (size : Nat) (ht : P.underlying t = some (.slice et)) (hi : P.info? et = some i)
    (v : Value) (n : Nat) (xs : List Value) (hown : w.ownsRow base et size v n xs) (c : Nat) : (Builtin.append_ #[t, t] ty #[v, .slice none 0 c]).run P w = .ok v w := by
  rcases hown.2 with ⟨rfl, rfl⟩ | ⟨g, cap, cur, rfl, _, _, hnc, _⟩
  · simp [Builtin.append_, run_underlying ht, sizeOf, typeInfo, hi, Builtin.lenOf, Builtin.firstCells]
  · simp [Builtin.append_, run_underlying ht, sizeOf, typeInfo, hi, Builtin.lenOf, Builtin.firstCells, hnc, storeCells]

theorem roomB_ok {t : TypeId} {i : TypeInfo} {n : Nat} (hi : P.info? t = some i) (h : roomB P t n = true) : n * i.bytes ≤ 140737488355328 ∧ n ≤ maxLen := by
  simp only [roomB, hi, Bool.and_eq_true, decide_eq_true_eq] at h
  exact ⟨h.1, by simp only [maxLen]; omega⟩

theorem append_run {t ty et : TypeId} {i : TypeInfo} {zv : Value} {ct : List CT} (ht : P.underlying t = some (.slice et)) (hi : P.info? et = some i) (hz : i.zero = some zv) (hsz : i.size = ct.length) (hzs : zv.cells.size = ct.length) (hp : 0 < ct.length)
    {v : Value} {n : Nat} {vals : List Value} (hown : OwnR w et ct.length false v n vals) {q : Option Addr} {m c : Nat} {news : List Value} (hl : news.length = m * ct.length) (hq : q = none → m = 0)
    (hnews : ∀ ad, q = some ad → ∀ j u, news[j]? = some u → w.cell? (ad.add j) = some u) (h1 : ∀ x ∈ news, x.oneCell' = true) (hroom : roomB P et (n + m) = true) :
    ∃ v' w', (Builtin.append_ #[t, t] ty #[v, .slice q m c]).run P w = .ok v' w' ∧ OwnR w' et ct.length false v' (n + m) (vals ++ news) ∧ w.grownBy w' v.ownBlock ∧ (v'.ownBlock = v.ownBlock ∨ v'.ownBlock = some w.heap.size) := by
  obtain ⟨hb, hm⟩ := roomB_ok hi hroom
  cases q with
  | none =>
    have hm0 := hq rfl
    subst hm0
    have hn : news = [] := by simpa using hl
    subst hn
    exact ⟨v, w, run_append_nil 0 t ty et i ct.length ht hi v n vals hown.owns c, by simpa using hown, ⟨rfl, rfl, rfl, Nat.le_refl _, fun _ _ _ => rfl⟩, .inl rfl⟩
  | some ad =>
    obtain ⟨v', w', hr, h2, h3, _, h5⟩ := run_append_own_at (P := P) w 0 t ty et i zv ct.length i.bytes ht hi hz hsz rfl hzs hp v n vals hown.owns ad m c news hl (hnews ad rfl) h1 hm hb (Nat.zero_le _)
    exact ⟨v', w', hr, OwnR.ofOwns h2, h3, h5⟩

theorem Kept.grown (hk : Kept S w0 w) {w' : World} {row : Option Nat} (hg : w.grownBy w' row) (hr : ∀ b, row = some b → w0.heap.size ≤ b ∨ S b) : Kept S w0 w' :=
  ⟨hg.os.trans hk.os, hg.tape.trans hk.tape, hg.output.trans hk.output, Nat.le_trans hk.size hg.size, fun k h1 h2 => by
    rw [hg.block k (by have := hk.size; omega) (fun e => by rcases hr k e.symm with h | h; omega; exact h2 h)]
    exact hk.block k h1 h2⟩

mutual
theorem ctBeq_refl : ∀ (a : CT), ctBeq a a = true
  | .int k => by simp [ctBeq]
  | .bool => rfl
  | .str => rfl
  | .sl e => by simp only [ctBeq]; exact ctsBeq_refl e
theorem ctsBeq_refl : ∀ (a : List CT), ctsBeq a a = true
  | [] => rfl
  | a :: l => by simp only [ctsBeq, Bool.and_eq_true]; exact ⟨ctBeq_refl a, ctsBeq_refl l⟩
end

theorem rowsM_toDC {ct : List CT} {s : SV} {q : List (List DC) × Met × Bool} (hq : (rowsM ct s).val f h = some q) : (toDC (.sl ct) s).val f h = some (.sl q.1, q.2) := by
  unfold rowsM at hq
  split at hq
  · simp only [M.val_pure, Option.some.injEq] at hq
    subst hq
    simp [toDC]
  · rename_i e' r
    cases hb : ctsBeq ct e'
    · simp [hb] at hq
    · simp only [hb, cond_true, M.val_pure, Option.some.injEq] at hq
      have := ctsBeq_eq _ _ hb
      subst this hq
      simp [toDC, ctsBeq_refl]
  · rename_i id
    simp only [M.val_obj, Option.bind_eq_some_iff] at hq
    obtain ⟨ob, hob, hq⟩ := hq
    split at hq
    · rename_i t' e' r fz u
      cases hb : ctsBeq ct e'
      · simp [hb] at hq
      · simp only [hb, cond_true, M.val_pure, Option.some.injEq] at hq
        have := ctsBeq_eq _ _ hb
        subst this hq
        simp [toDC, hob, ctsBeq_refl]
    · rename_i e' r
      cases hb : ctsBeq ct e'
      · simp [hb] at hq
      · simp only [hb, cond_true, M.val_pure, Option.some.injEq] at hq
        have := ctsBeq_eq _ _ hb
        subst this hq
        simp [toDC, hob, ctsBeq_refl]
    · simp at hq
  · simp at hq

theorem rowsM_ok (hc : Core w0 S f h β φ tm w) {ct : List CT} {s : SV} {v : Value} {q : List (List DC) × Met × Bool} (hs : SVR w (Av h β) β s v) (hq : (rowsM ct s).val f h = some q) :
    ∃ fp, RdC w (.sl ct) (.sl q.1) v fp ∧ MetOk h q.2.1 ∧ metNodup q.2.1 = true ∧ (∀ b ∈ fp, (¬ Av h β b) ∨ ∃ x ∈ q.2.1, b ∈ topsAt h β x.1) ∧
      (q.2.2 = true → (∀ b ∈ fp, ∃ x ∈ q.2.1, b ∈ φ x.1) ∧ fp.Nodup) := toDC_ok hc hs (rowsM_toDC hq)

/-- What is put behind a row: as little as can be frozen is. -/
theorem src_met {ct : List CT} {m : Met} (hm : MetOk h m) (hn : metNodup m = true) : MetOk h (bif flatB ct then [] else m) ∧ metNodup (bif flatB ct then [] else m) = true := by
  cases flatB ct
  · exact ⟨hm, hn⟩
  · exact ⟨by simp [MetOk], rfl⟩

theorem freeze_cond {ct : List CT} {m : Met} : (bif flatB ct then [] else metFreeze m) = metFreeze (bif flatB ct then [] else m) := by cases flatB ct <;> rfl

theorem sound_append_nil (hR : Rel w0 S st a w) {d : Nat} (hdst : o.dst = some d) (hd : DstOk st.n d) (hfr : FreshAt st d) {t et : TypeId} {s x : Operand} {c : Call} (ho : o.op = .call c) (hb : c.callee = .builtin .append) (hargs : c.args = #[s, x])
    (hat : c.argTypes = #[t, t]) {sx : SV} {ct : List CT} {q : List (List DC) × Met × Bool} {z : List SV} (h1 : (evM s).val st.get st.obj = some .nil) (h2 : (evM x).val st.get st.obj = some sx) (hu : P.underlying t = some (.slice et))
    (hsz : sizeB P et ct.length = true) (hp : 0 < ct.length) (hz : (zeroM P et).val st.get st.obj = some z) (hzl : z.length = ct.length) (hq : (rowsM ct sx).val st.get st.obj = some q) (hroom : roomB P et q.1.length = true)
    (hsv : e.sv = .own (newId d 0)) (hcw : e.cw = none) (how : e.ow = (newId d 0, some (.row et ct q.1 false (flatB ct || q.2.2))) :: (bif flatB ct then [] else metFreeze q.2.1)) : Good P w0 S st o e a w := by
  obtain ⟨i, hi, hsize⟩ := sizeB_size hsz
  obtain ⟨i', zv, hi', hzv, rfl, _⟩ := zeroM_ok hz
  rw [hi] at hi'
  injection hi' with hi'
  subst hi'
  obtain ⟨β0, φ0, hc0⟩ := hR.core
  obtain ⟨fp0, hrd0, hmet0, hmn0, _, _⟩ := rowsM_ok hc0 (hc0.ev h2) hq
  obtain ⟨Q, m, cc, hxv, hml, _, _, _⟩ := sl_form hrd0
  rw [hxv] at hrd0
  obtain ⟨hmr, news, fps0, hnl, hqn, hcell, hone, hin0, _, _⟩ := src_cells hrd0 hp
  have hs0 := hc0.ev h1
  simp only [SVR] at hs0
  have hown0 : OwnR w et ct.length false (.slice none 0 0) 0 [] := ⟨by simp, .inl ⟨rfl, rfl, rfl⟩⟩
  obtain ⟨v', w', hrun, hown', hgrow, hblk⟩ := append_run (P := P) (ty := o.type) (c := cc) hu hi hzv hsize (by simpa using hzl) hp hown0 hnl hqn hcell hone (by rw [hmr, Nat.zero_add]; exact hroom)
  obtain ⟨hmm, hmmn⟩ := src_met (ct := ct) hmet0 hmn0
  refine sound_newrow hR hdst hd hfr (m := bif flatB ct then [] else q.2.1) (fz := false) (u := flatB ct || q.2.2) (vals := news) (v := v') (w' := w') ?_ (hR.kept.grown hgrow (by simp [Value.ownBlock])) hgrow.size
    (fun b hb => hgrow.block b hb (by simp [Value.ownBlock])) ?_ hmm hmmn ?_ ?_ hsv hcw (by rw [how, freeze_cond])
  · simp [execOp, ho, resolve, hb, hargs, hat, invoke, builtin, hs0, hxv, hrun]
  · intro b hb'
    rcases hblk with h3 | h3
    · rw [h3] at hb'; simp [Value.ownBlock] at hb'
    · rw [h3] at hb'; simpa using hb'
  · rw [← hmr]
    simpa using hown'
  · intro β φ hc
    obtain ⟨fp, hrd, hmet, hmn, hfav, hfu⟩ := rowsM_ok hc (hc.ev h2) hq
    rw [hxv] at hrd
    obtain ⟨_, news', fps, hnl', _, hcell', _, hin, hsub, hnod⟩ := src_cells hrd hp
    have hnn : InR w ct q.1 news fps := by
      refine ⟨hin.1, fun k r' f' hk hf => ?_⟩
      refine row_reads.RdL.ofSub' ?_ (hin.2 k r' f' hk hf)
      intro j u hj hju
      have hidx : k * ct.length + j < news'.length := (List.getElem?_eq_some_iff.1 hju).1
      cases Q with
      | none =>
        have : m = 0 := hqn rfl
        subst this
        simp at hnl'
        simp [hnl'] at hju
      | some ad =>
        have e1 := hcell' ad rfl _ _ hju
        have hlt : k * ct.length + j < news.length := by omega
        have e2 := hcell ad rfl (k * ct.length + j) news[k * ct.length + j] (by simp)
        rw [e1] at e2
        injection e2 with e2
        rw [List.getElem?_eq_getElem hlt, ← e2]
    refine ⟨fps, hnn, ?_, ?_⟩
    · intro b hb'
      cases hfl : flatB ct with
      | true => rw [hin.flat hfl] at hb'; simp at hb'
      | false => simpa using hfav b (hsub b hb')
    · intro hu'
      cases hfl : flatB ct with
      | true => rw [hin.flat hfl]; simp
      | false =>
        rw [hfl, Bool.false_or] at hu'
        exact ⟨fun b hb' => by simpa using (hfu hu').1 b (hsub b hb'), hnod (hfu hu').2⟩

theorem sound_append_own (hR : Rel w0 S st a w) {d : Nat} (hdst : o.dst = some d) (hd : DstOk st.n d) (hfr : FreshAt st d) {t et : TypeId} {s x : Operand} {c : Call} (ho : o.op = .call c) (hb : c.callee = .builtin .append) (hargs : c.args = #[s, x])
    (hat : c.argTypes = #[t, t]) {id : Nat} {u : Bool} {r : List (List DC)} {sx : SV} {ct : List CT} {q : List (List DC) × Met × Bool} {z : List SV} (h1 : (evM s).val st.get st.obj = some (.own id)) (h2 : (evM x).val st.get st.obj = some sx)
    (hob : st.obj id = some (.row et ct r false u)) (hu : P.underlying t = some (.slice et))
    (hsz : sizeB P et ct.length = true) (hp : 0 < ct.length) (hz : (zeroM P et).val st.get st.obj = some z) (hzl : z.length = ct.length) (hq : (rowsM ct sx).val st.get st.obj = some q) (hnot : metNot id q.2.1 = true)
    (hroom : roomB P et (r.length + q.1.length) = true) (hsv : e.sv = .own (newId d 0)) (hcw : e.cw = none)
    (how : e.ow = (newId d 0, some (.row et ct (r ++ q.1) false (u && (flatB ct || q.2.2)))) :: (id, none) :: (bif flatB ct then [] else metFreeze q.2.1)) : Good P w0 S st o e a w := by
  obtain ⟨i, hi, hsize⟩ := sizeB_size hsz
  obtain ⟨i', zv, hi', hzv, rfl, _⟩ := zeroM_ok hz
  rw [hi] at hi'
  injection hi' with hi'
  subst hi'
  obtain ⟨β, φ, hc⟩ := hR.core
  obtain ⟨fp, hrd, hmet0, hmn0, hfav, hfu⟩ := rowsM_ok hc (hc.ev h2) hq
  obtain ⟨Q, m, cc, hxv, hml, _, _, _⟩ := sl_form hrd
  rw [hxv] at hrd
  obtain ⟨hmr, news, fps2, hnl, hqn, hcell, hone, hin2, hsub, hnod⟩ := src_cells hrd hp
  obtain ⟨hmm, hmmn⟩ := src_met (ct := ct) hmet0 hmn0
  have hno0 := metNot_mem hnot
  have hno : ∀ y ∈ (bif flatB ct then [] else q.2.1), y.1 ≠ id := by
    cases flatB ct
    · exact hno0
    · simp
  generalize hM : (bif flatB ct then [] else q.2.1) = M' at hmm hmmn hno
  have hc1 := hc.freezes M' hmm hmmn
  have hob1 : fo (metFreeze M') st.obj id = some (.row et ct r false u) := by rw [fo_frozen_other hno]; exact hob
  obtain ⟨vals, fps, hown, hin, hiav, hφ⟩ := hc1.objs id _ hob1
  have hs0 := hc.ev h1
  simp only [SVR] at hs0
  obtain ⟨v', w', hrun, hown', hgrow, hblk⟩ := append_run (P := P) (ty := o.type) (c := cc) hu hi hzv hsize (by simpa using hzl) hp hown hnl hqn hcell hone (by rw [hmr]; exact hroom)
  have hnew : newId d 0 / 64 = d := newId_div d 0 (by omega)
  have hidne : id ≠ newId d 0 := fun e => (hfr.obj id _ hob).1 (e ▸ hnew)
  have hβ : ∀ j, j ≠ newId d 0 → (β.setV (newId d 0) v').val j = β.val j ∧ (β.setV (newId d 0) v').blk j = β.blk j := by
    intro j hj
    exact ⟨by simp [Env.setV, upd, hj], rfl⟩
  have hval : (β.setV (newId d 0) v').val (newId d 0) = v' := by simp [Env.setV, upd]
  have hsub1 := tops_sub (hc1.objs id _ hob1)
  have hfresh := hc1.fresh id _ hob1
  have hlt1 := hin.lt
  have hlt2 := hin2.lt
  -- inner blocks of what is put behind are not written any more
  have hav2 : ∀ b ∈ fps2.flatten, ¬ Av (fo (metFreeze M') st.obj) β b := by
    intro b hb'
    cases hfl : flatB ct with
    | true => rw [hin2.flat hfl] at hb'; simp at hb'
    | false =>
      rw [hfl, cond_false] at hM
      subst hM
      rcases hfav b (hsub b hb') with h3 | ⟨y, hy, hby⟩
      · exact fun h4 => h3 (av_frozen h4)
      · exact not_av_met hc hmm hy hby
  have hmoved : (u && (flatB ct || q.2.2)) = true → ∀ b ∈ fps2.flatten, ∃ y ∈ M', b ∈ φ y.1 := by
    intro huu b hb'
    cases hfl : flatB ct with
    | true => rw [hin2.flat hfl] at hb'; simp at hb'
    | false =>
      rw [hfl, cond_false] at hM
      subst hM
      rw [hfl, Bool.false_or, Bool.and_eq_true] at huu
      exact (hfu huu.2).1 b (hsub b hb')
  have hnod2 : (u && (flatB ct || q.2.2)) = true → fps2.flatten.Nodup := by
    intro huu
    cases hfl : flatB ct with
    | true => rw [hin2.flat hfl]; simp
    | false =>
      rw [hfl, Bool.false_or, Bool.and_eq_true] at huu
      exact hnod (hfu huu.2).2
  have hob' : ∀ j oj, upd (upd (fo (metFreeze M') st.obj) id none) (newId d 0) (some (.row et ct (r ++ q.1) false (u && (flatB ct || q.2.2)))) j = some oj → j ≠ newId d 0 → j ≠ id ∧ fo (metFreeze M') st.obj j = some oj := by
    intro j oj hj hjn
    simp only [upd, hjn, if_false] at hj
    split at hj
    · cases hj
    · exact ⟨by assumption, hj⟩
  have hown_top : ∀ b, (β.val id).ownBlock = some b → b ∈ frozenφ φ M' id := fun b hb' => hsub1 b (by simp [tops, hb'])
  have hvout : ∀ b ∈ v'.ownBlock.toList, b ∈ frozenφ φ M' id ∨ b = w.heap.size := by
    intro b hb'
    rcases hblk with h3 | h3
    · rw [h3] at hb'
      exact .inl (hsub1 b (by simpa [tops] using hb'))
    · rw [h3] at hb'
      exact .inr (by simpa using hb')
  have hφu : u = true → ∀ b ∈ fps.flatten, b ∈ frozenφ φ M' id := by
    intro huu b hb'
    rw [hφ, huu]
    exact List.mem_append_right _ hb'
  have hsep2 : ∀ b, b ∈ v'.ownBlock.toList ++ (bif (u && (flatB ct || q.2.2)) then (fps ++ fps2).flatten else []) → ∀ j oj, j ≠ id → fo (metFreeze M') st.obj j = some oj → b ∉ frozenφ φ M' j := by
    intro b hb' j oj hj hjo hbj
    have old : b ∈ frozenφ φ M' id → False := fun h3 => hc1.sep id j _ _ (Ne.symm hj) hob1 hjo b h3 hbj
    rcases List.mem_append.1 hb' with hb' | hb'
    · rcases hvout b hb' with h3 | h3
      · exact old h3
      · have := ((hc1.fresh j oj hjo).2 b hbj).2
        omega
    · cases huu : (u && (flatB ct || q.2.2)) with
      | false => simp [huu] at hb'
      | true =>
        simp only [huu, cond_true, List.flatten_append, List.mem_append] at hb'
        rcases hb' with hb' | hb'
        · rw [Bool.and_eq_true] at huu
          exact old (hφu huu.1 b hb')
        · obtain ⟨y, hy, hby⟩ := hmoved huu b hb'
          obtain ⟨_, h3, _⟩ := hmm y hy
          by_cases hjm : ∃ k ∈ M', k.1 = j
          · rw [frozenφ_in hjm] at hbj
            simp at hbj
          · have hno' : ∀ k ∈ M', k.1 ≠ j := fun k hk e => hjm ⟨k, hk, e⟩
            rw [fo_frozen_other hno'] at hjo
            rw [frozenφ_other hno'] at hbj
            exact hc.sep y.1 j _ _ (hno' y hy) h3 hjo b hby hbj
  have hwsame : ∀ b, b < w.heap.size → (β.val id).ownBlock ≠ some b → w'.heap[b]? = w.heap[b]? := fun b hb' hne => hgrow.block b hb' (fun e => hne e.symm)
  have hinner : ∀ b ∈ (fps ++ fps2).flatten, ¬ Av (fo (metFreeze M') st.obj) β b ∧ b < w.heap.size := by
    intro b hb'
    simp only [List.flatten_append, List.mem_append] at hb'
    rcases hb' with hb' | hb'
    · exact ⟨hiav b hb', hlt1 b hb'⟩
    · exact ⟨hav2 b hb', hlt2 b hb'⟩
  have havnew : ∀ b, Av (upd (upd (fo (metFreeze M') st.obj) id none) (newId d 0) (some (.row et ct (r ++ q.1) false (u && (flatB ct || q.2.2))))) (β.setV (newId d 0) v') b → Av (fo (metFreeze M') st.obj) β b ∨ w.heap.size ≤ b := by
    rintro b (⟨j, oj, hj, hbj⟩ | hb)
    case inr => exact .inl (.inr hb)
    by_cases hjj : j = newId d 0
    · subst hjj
      simp only [upd, if_true, Option.some.injEq] at hj
      subst hj
      simp only [tops, hval] at hbj
      rcases hblk with h3 | h3
      · rw [h3] at hbj
        exact .inl (.inl ⟨id, _, hob1, by simpa [tops] using hbj⟩)
      · rw [h3] at hbj
        right
        have : b = w.heap.size := by simpa using hbj
        omega
    · obtain ⟨_, hj'⟩ := hob' j oj hj hjj
      refine .inl (.inl ⟨j, oj, hj', ?_⟩)
      cases oj <;> simp only [tops, hβ j hjj] at hbj ⊢ <;> exact hbj
  refine good_value hR (fun d' h' => by rw [hdst] at h'; injection h' with h'; exact h' ▸ hd) (v := v') (w' := w') ?_ (hR.kept.grown hgrow (fun b hb' => (hfresh.2 b (hown_top b hb')).1))
    ⟨β.setV (newId d 0) v', upd (frozenφ φ M') (newId d 0) (v'.ownBlock.toList ++ (bif (u && (flatB ct || q.2.2)) then (fps ++ fps2).flatten else [])), ?_, ?_⟩
  · simp [execOp, ho, resolve, hb, hargs, hat, invoke, builtin, hs0.1, hxv, hrun]
  · rw [how, hcw, freeze_cond, hM]
    show Core w0 S st.get (upd (upd (fo (metFreeze M') st.obj) id none) (newId d 0) (some (.row et ct (r ++ q.1) false (u && (flatB ct || q.2.2))))) _ _ _ _
    refine hc1.step (fun j => j = newId d 0) hgrow.size (fun b hb' hn => hwsame b hb' (fun e => hn (.inl ⟨id, _, hob1, by simp [tops, e]⟩))) havnew
      (fun k j hj e => hfr.slot k j hj (by rw [e]; exact hnew)) hβ ?_ ?_
    · intro j oj hj
      by_cases hjj : j = newId d 0
      · subst hjj
        have hj' := hj
        simp only [upd, if_true, Option.some.injEq] at hj'
        subst hj'
        refine .inr ⟨?_, ?_, ?_⟩
        · refine ⟨vals ++ news, fps ++ fps2, ?_, ?_, ?_, ?_⟩
          · rw [hval]
            have : (r ++ q.1).length = r.length + m := by simp [hmr]
            rw [this]
            exact hown'
          · exact (hin.append hown.1 hin2).mono hgrow.size (fun b hb' => hwsame b (hinner b hb').2 (fun e => (hinner b hb').1 (.inl ⟨id, _, hob1, by simp [tops, e]⟩)))
          · intro b hb' hx
            rcases havnew b hx with h3 | h3
            · exact (hinner b hb').1 h3
            · have := (hinner b hb').2
              omega
          · rw [hval]
            simp [upd]
        · simp only [upd, if_true]
          have hnd1 : v'.ownBlock.toList.Nodup := by cases v'.ownBlock <;> simp
          cases huu : (u && (flatB ct || q.2.2)) with
          | false => simpa using hnd1
          | true =>
            have hu1 : u = true := by rw [Bool.and_eq_true] at huu; exact huu.1
            have hn0 := hfresh.1
            rw [hφ, hu1, cond_true, List.nodup_append] at hn0
            obtain ⟨_, hn2, hn3⟩ := hn0
            have hfn : ((fps ++ fps2).flatten).Nodup := by
              rw [List.flatten_append, List.nodup_append]
              refine ⟨hn2, hnod2 huu, fun b hb' c' hc' hbc => ?_⟩
              subst hbc
              obtain ⟨y, hy, hby⟩ := hmoved huu b hc'
              obtain ⟨_, h3, _⟩ := hmm y hy
              have h4 := hφu hu1 b hb'
              rw [frozenφ_other hno] at h4
              exact hc.sep y.1 id _ _ (hno y hy) h3 hob b hby h4
            rw [cond_true, List.nodup_append]
            refine ⟨hnd1, hfn, fun b hb' c' hc' hbc => ?_⟩
            subst hbc
            rcases hblk with h3 | h3
            · rw [h3] at hb'
              exact (hinner b hc').1 (.inl ⟨id, _, hob1, by simpa [tops] using hb'⟩)
            · rw [h3] at hb'
              have h4 : b = w.heap.size := by simpa using hb'
              have := (hinner b hc').2
              omega
        · simp only [upd, if_true]
          intro b hb'
          rcases List.mem_append.1 hb' with hb' | hb'
          · rcases hvout b hb' with h3 | h3
            · have := hfresh.2 b h3
              exact ⟨this.1, by have := hgrow.size; omega⟩
            · subst h3
              refine ⟨.inl hR.kept.size, hown'.lt _ hb'⟩
          · cases huu : (u && (flatB ct || q.2.2)) with
            | false => simp [huu] at hb'
            | true =>
              simp only [huu, cond_true, List.flatten_append, List.mem_append] at hb'
              have hsz' := hgrow.size
              rcases hb' with hb' | hb'
              · have hu1 : u = true := by rw [Bool.and_eq_true] at huu; exact huu.1
                have := hfresh.2 b (hφu hu1 b hb')
                exact ⟨this.1, by omega⟩
              · obtain ⟨y, hy, hby⟩ := hmoved huu b hb'
                obtain ⟨_, h3, _⟩ := hmm y hy
                have := (hc.fresh y.1 _ h3).2 b hby
                exact ⟨this.1, by omega⟩
      · obtain ⟨hji, hj'⟩ := hob' j oj hj hjj
        refine .inl ⟨hjj, hj', by simp [upd, hjj], ?_, ?_⟩
        · intro k hk e
          rcases frozen_obj hj' with h3 | ⟨e', r', rfl, _⟩
          · exact (hfr.obj j oj h3).2 k hk (by rw [e]; exact hnew)
          · simp [objIds] at hk
        · intro b hb'
          have hbφ := tops_sub (hc1.objs j oj hj') b hb'
          refine hwsame b ((hc1.fresh j oj hj').2 b hbφ).2 (fun e => ?_)
          exact hc1.sep id j _ _ (Ne.symm hji) hob1 hj' b (hown_top b e) hbφ
    · intro k j ok oj hne hk hj b hb'
      by_cases hkk : k = newId d 0
      · subst hkk
        have hjn : j ≠ newId d 0 := Ne.symm hne
        obtain ⟨hji, hj'⟩ := hob' j oj hj hjn
        simp only [upd, if_true] at hb'
        simp only [upd, hjn, if_false]
        exact hsep2 b hb' j oj hji hj'
      · obtain ⟨hki, hk'⟩ := hob' k ok hk hkk
        simp only [upd, hkk, if_false] at hb'
        by_cases hjj : j = newId d 0
        · subst hjj
          simp only [upd, if_true]
          exact fun h3 => hsep2 b h3 k ok hki hk' hb'
        · obtain ⟨hji, hj'⟩ := hob' j oj hj hjj
          simp only [upd, hjj, if_false]
          exact hc1.sep k j ok oj hne hk' hj' b hb'
  · rw [hsv]
    unfold SVR
    exact ⟨hval.symm, hown'.one⟩

end

end Go.Proofs.YthpmalpdnnbkgaaGreat.Vm

/- The value machine: conversions. Conditions: as each lemma says. -/
namespace Go.Proofs.YthpmalpdnnbkgaaGreat.Vm

theorem push_all : ∀ (ns : List Int) (l : List UInt8), ns.foldl (fun (r : ByteArray) n => r.push (UInt8.ofNat n.toNat)) ⟨l.toArray⟩ = ⟨(l ++ ns.map (fun n => UInt8.ofNat n.toNat)).toArray⟩
  | [], l => by simp
  | n :: ns, l => by
    simp only [List.foldl_cons, List.map_cons]
    have : (⟨l.toArray⟩ : ByteArray).push (UInt8.ofNat n.toNat) = ⟨(l ++ [UInt8.ofNat n.toNat]).toArray⟩ := by
      apply ByteArray.ext
      simp [ByteArray.push]
    rw [this, push_all ns]
    simp

section
variable {P : Program} {Γ : Ctx} {w0 : World} {S : Own} {st : St} {o : Oper} {e : Eff} {a : Act} {w : World}
variable {f : Nat → SV} {h : Nat → Option VObj} {β : Env} {φ : Nat → List Nat} {tm : Array Value}

theorem run_toString {rows : List (List DC)} {v : Value} {fp : List Nat} (hr : RdC w (.sl [.int .u8]) (.sl rows) v fp) :
    (Conv.bytesToString v).run P w = .ok (.string ⟨(rows.map byteOf).toArray⟩) w := by
  obtain ⟨q, m, c, rfl, hn, _, _, hcase⟩ := sl_form hr
  cases q with
  | none =>
    have hm : m = 0 := by
      rcases hcase with ⟨h0, _⟩ | ⟨_, b, o, fps, h1, _⟩
      · exact h0
      · cases h1
    have : rows = [] := by simpa [hm] using hn
    subst this
    simp [Conv.bytesToString]
    rfl
  | some ad =>
    have hload : (loadCells ad m).run P w = .ok ((rows.map fun r => (r.headD default).asInt).map (Value.int .u8)).toArray w := by
      have := run_loadCells_list (P := P) (w := w) ad ((rows.map fun r => (r.headD default).asInt).map (Value.int .u8)) ?_
      · simpa [hn] using this
      · intro j u hj
        rcases hcase with ⟨h0, _⟩ | ⟨_, b, o, fps, h1, hlt, hfl, _, hrow⟩
        · have : rows = [] := by simpa [h0] using hn
          subst this
          simp at hj
        · injection h1 with h1
          subst h1
          rw [addr_add]
          have hjl : j < rows.length := by
            have := (List.getElem?_eq_some_iff.1 hj).1
            simpa using this
          have hfj : j < fps.length := by omega
          have := hrow j rows[j] fps[j] (by simp) (by simp)
          simp only [RdL, RdC, List.length_singleton, Nat.mul_one, Nat.add_zero] at this
          obtain ⟨d, r', v', f1, f2, e1, e2, ⟨n, rfl, rfl, _, _⟩, ⟨rfl, _⟩, _⟩ := this
          rw [e2]
          simp only [List.map_map, List.getElem?_map, List.getElem?_eq_getElem hjl, e1, Option.map_some, Option.some.injEq] at hj
          simpa [DC.asInt] using hj
    rw [run_bytesToString w ad m c _ hload]
    have := push_all (rows.map fun r => (r.headD default).asInt) []
    have e0 : ByteArray.empty = ⟨([] : List UInt8).toArray⟩ := rfl
    rw [e0, this]
    simp [byteOf, Function.comp_def]

theorem sound_conv (hR : Rel w0 S st a w) (hd : ∀ d, o.dst = some d → DstOk st.n d) (hfr : e.ow ≠ [] → ∀ d, o.dst = some d → FreshAt st d) {s t : TypeId} {x : Operand} (ho : o.op = .convert s t x) {sx : SV}
    (h1 : (evM x).val st.get st.obj = some sx) (he : (convM P o.dst s t sx).val st.get st.obj = some e) : Good P w0 S st o e a w := by
  unfold convM at he
  split at he
  · rename_i k src hk hs
    split at he
    · rename_i k' n
      simp only [M.val_pure, Option.some.injEq] at he
      subst he
      refine good_pure hR hd rfl rfl fun β φ hc => ?_
      have hx := hc.ev h1
      simp only [SVR] at hx
      refine ⟨.int k (k.wrap n), ?_, by unfold SVR; exact ⟨rfl, inR_wrap _ _⟩⟩
      simp [execOp, ho, hx.1, convert, run_underlying hk, run_underlying hs, Conv.intToInt]
    · simp at he
  · rename_i hk hs
    split at he
    · rename_i l
      simp only [M.val_pure, Option.some.injEq] at he
      subst he
      refine good_pure hR hd rfl rfl fun β φ hc => ?_
      have hx := hc.ev h1
      simp only [SVR] at hx
      refine ⟨.string ⟨l.toArray⟩, ?_, by unfold SVR; exact ⟨rfl, hx.2⟩⟩
      simp [execOp, ho, hx.1, convert, run_underlying hk, run_underlying hs]
    · simp at he
  · rename_i et hk hs
    split at he
    · rename_i het
      simp only [M.val_bind, Option.bind_eq_some_iff, M.val_pure, Option.some.injEq] at he
      obtain ⟨q, hq, rfl⟩ := he
      refine good_pure hR hd rfl rfl fun β φ hc => ?_
      obtain ⟨fp, hrd, _⟩ := rowsM_ok hc (hc.ev h1) hq
      have hrun := run_toString (P := P) hrd
      obtain ⟨qa, m, c, hv, hn, hcc, hm, _⟩ := sl_form hrd
      refine ⟨.string ⟨(q.1.map byteOf).toArray⟩, ?_, by unfold SVR; exact ⟨rfl, by simp; omega⟩⟩
      rw [hv] at hrun
      have := run_convert_bytes_string (P := P) w s t et qa m c hs het hk
      simp [execOp, ho, hv, this, hrun]
    · simp at he
  · rename_i et hk hs
    split at he
    · rename_i l d het hdst
      cases hz : sizeB P et 1
      · simp [hz] at he
      simp only [hz, cond_true, M.val_pure, Option.some.injEq] at he
      subst he
      obtain ⟨β0, φ0, hc0⟩ := hR.core
      have hx := hc0.ev h1
      simp only [SVR] at hx
      have hlen : l.length ≤ 9223372036854775807 := by have := hx.2; simp only [maxLen] at this; omega
      generalize hcap : Question.cut (.appendCap l.length 0 et) (w.tape w.drawn (.appendCap l.length 0 et)) = cap
      have hcap1 : l.length ≤ cap := by rw [← hcap]; simp [Question.cut]
      have hcap2 : cap ≤ maxLen := by
        rw [← hcap]
        simp only [Question.cut, maxLen]
        have := Nat.mod_lt (w.tape w.drawn (.appendCap l.length 0 et)) (show 0 < 2 ^ 63 - l.length by omega)
        omega
      let cells : Array Value := (l.map fun b => Value.int .u8 b.toNat).toArray ++ Array.replicate (cap - l.length) (.int .u8 0)
      have hcs : cells.size = cap := by simp [cells]; omega
      have hw' : ∀ b, b < w.heap.size → (World.freeze (w.drew.alloc (.cells cells et)) ⟨w.heap.size, cap, none⟩ 1).heap[b]? = w.heap[b]? := by
        intro b hb
        simp only [World.freeze, Nat.one_ne_zero, if_false, Array.getElem?_modify]
        rw [if_neg (by omega)]
        exact alloc_old (w := w.drew) _ b hb
      have hnew : (World.freeze (w.drew.alloc (.cells cells et)) ⟨w.heap.size, cap, none⟩ 1).heap[w.heap.size]? = some (.cells cells et (cells.size, cells.size + 1)) := by
        simp only [World.freeze, Nat.one_ne_zero, if_false, Array.getElem?_modify, if_true]
        have := alloc_new (w := w.drew) (.cells cells et)
        have e1 : w.drew.heap.size = w.heap.size := rfl
        rw [e1] at this
        rw [this]
        simp [hcs]
      have hs' : (World.freeze (w.drew.alloc (.cells cells et)) ⟨w.heap.size, cap, none⟩ 1).heap.size = w.heap.size + 1 := by simp [World.freeze]
      refine sound_newrow hR hdst (hd d hdst) (hfr (by simp) d hdst) (m := []) (fz := true) (u := true) (vals := l.map fun b => Value.int .u8 b.toNat) (v := .slice (some ⟨w.heap.size, 0, none⟩) l.length cap)
        (w' := World.freeze (w.drew.alloc (.cells cells et)) ⟨w.heap.size, cap, none⟩ 1) ?_ ?_ (by rw [hs']; omega) hw' (by simp [Value.ownBlock]) (by simp [MetOk]) rfl ?_ ?_ rfl rfl rfl
      · have hsh : (w.drew.alloc (.cells cells et)).shape? w.heap.size = some (et, cap) := by
          have := alloc_new (w := w.drew) (.cells cells et)
          have e1 : w.drew.heap.size = w.heap.size := rfl
          rw [e1] at this
          unfold World.shape?
          rw [this]
          simp [hcs]
        simp only [execOp, ho, hx.1, convert, Sem.run_bind, run_underlying hk, run_underlying hs, run_underlying het, Result.andThen_ok, Conv.stringToBytes, run_choose]
        simp only [Question.forced, Bool.false_eq_true, if_false, Result.andThen_ok, str_size, hcap, newRow, Sem.run_bind, run_newObj, World.drew_eq, World.alloc_eq]
        have hcc : (Array.map (fun b : UInt8 => Value.int IntKind.u8 ↑b.toNat) l.toArray ++ Array.replicate (cap - l.length) (Value.int IntKind.u8 0)) = cells := by simp [cells]
        rw [hcc]
        simp [markStringish, hsh]
      · refine ⟨hR.kept.os, hR.kept.tape, hR.kept.output, by rw [hs']; have := hR.kept.size; omega, fun k h2 h3 => ?_⟩
        rw [hw' k (by have := hR.kept.size; omega)]
        exact hR.kept.block k h2 h3
      · refine ⟨by simp, .inr ⟨w.heap.size, cap, cells, by simp, by simpa using hnew, by simpa using hcap1, hcap2, by simp [hcs], ?_⟩⟩
        simp [cells]
      · intro β φ hc
        refine ⟨List.replicate l.length [], ⟨by simp, fun i r' f' hi hf => ?_⟩, by simp, by simp⟩
        have hil : i < l.length := by
          have := (List.getElem?_eq_some_iff.1 hi).1
          simpa using this
        have hr' : r' = ofByte l[i] := by simpa [hil] using hi.symm
        have hf' : f' = [] := by
          have := hf
          rw [List.getElem?_replicate, if_pos hil] at this
          injection this with this
          exact this.symm
        subst hr' hf'
        unfold ofByte
        simp only [RdL, RdC]
        refine ⟨.int l[i].toNat, [], .int .u8 l[i].toNat, [], [], rfl, ?_, ⟨_, rfl, rfl, ?_, rfl⟩, ⟨rfl, rfl⟩, rfl⟩
        · simp [hil]
        · rw [inR_iff]
          have h1 : IntKind.u8.min = 0 := by decide
          have h2 : IntKind.u8.max = 255 := by decide
          have := l[i].toNat_lt
          omega
    · simp at he
  · simp at he

end

end Go.Proofs.YthpmalpdnnbkgaaGreat.Vm

/- The value machine: contracts, and calls by contract. Conditions: as each lemma says. -/
set_option linter.unusedVariables false
set_option linter.unusedSimpArgs false
namespace Go.Proofs.YthpmalpdnnbkgaaGreat.Vm

/-- One argument reads as its cells' data. -/
def ArgR (w : World) (k : AK) (ds : List DC) (v : Value) (fp : List Nat) : Prop :=
  ∃ vs : List Value, (bif k.agg then v = .agg vs.toArray else (vs = [v] ∧ v.oneCell' = true)) ∧ (∀ x ∈ vs, x.oneCell' = true) ∧ RdL w k.cts ds (fun j => vs[j]?) fp ∧ vs.length = k.cts.length

def ArgsR (w : World) : List AK → List DC → List Value → List Nat → Prop
  | [], ds, vs, fp => ds = [] ∧ vs = [] ∧ fp = []
  | k :: ks, ds, vs, fp => ∃ d1 d2 v vs' f1 f2, ds = d1 ++ d2 ∧ vs = v :: vs' ∧ ArgR w k d1 v f1 ∧ ArgsR w ks d2 vs' f2 ∧ fp = f1 ++ f2

/-- The cells of one result: their data; the blocks of the rows that are the call's own; the blocks behind what is only read; the rows' own blocks. -/
def ResL (w : World) : List RC → List DC → List Value → List Nat → List Nat → List Nat → Prop
  | [], ds, vs, φ, im, tp => ds = [] ∧ vs = [] ∧ φ = [] ∧ im = [] ∧ tp = []
  | .imm c :: cs, ds, vs, φ, im, tp => ∃ d ds' v vs' f1 im', ds = d :: ds' ∧ vs = v :: vs' ∧ RdC w c d v f1 ∧ ResL w cs ds' vs' φ im' tp ∧ im = f1 ++ im'
  | .own t e :: cs, ds, vs, φ, im, tp => ∃ rows ds' v vs' vals fps φ' tp', ds = .sl rows :: ds' ∧ vs = v :: vs' ∧ OwnR w t e.length false v rows.length vals ∧ InR w e rows vals fps ∧
      ResL w cs ds' vs' φ' im tp' ∧ φ = (v.ownBlock.toList ++ fps.flatten) ++ φ' ∧ tp = v.ownBlock.toList ++ tp'
  | .deep t e ts :: cs, ds, vs, φ, im, tp => ∃ rows ds' v vs' vals mbs φ' tp', ds = .sl rows :: ds' ∧ vs = v :: vs' ∧ OwnR w t e.length false v rows.length vals ∧ DeepR w e ts rows vals (fun _ => none) mbs ∧
      ResL w cs ds' vs' φ' im tp' ∧ φ = (v.ownBlock.toList ++ mbs.flatten) ++ φ' ∧ tp = (v.ownBlock.toList ++ mbs.flatten) ++ tp'

def ResV (w : World) : List RK → List DC → List Value → List Nat → List Nat → List Nat → Prop
  | [], ds, vs, φ, im, tp => ds = [] ∧ vs = [] ∧ φ = [] ∧ im = [] ∧ tp = []
  | k :: ks, ds, vs, φ, im, tp => ∃ d1 d2 v vs' us φ1 φ2 i1 i2 t1 t2, ds = d1 ++ d2 ∧ vs = v :: vs' ∧ (bif k.agg then v = .agg us.toArray else us = [v]) ∧ (∀ x ∈ us, x.oneCell' = true) ∧ ResL w k.cells d1 us φ1 i1 t1 ∧
      ResV w ks d2 vs' φ2 i2 t2 ∧ φ = φ1 ++ φ2 ∧ im = i1 ++ i2 ∧ tp = t1 ++ t2

def pack : List Value → Value
  | [x] => x
  | l => .tuple l.toArray

/-- What a contract says of a function. -/
def Holds (P : Program) (g : Nat) (s : Sum) : Prop :=
  (∃ fn, P.funcs[g]? = some fn ∧ fn.body.isSome = true ∧ (fn.name == "runtime.NumGoroutine") = false) ∧
  ∀ (w : World) (ds : List DC) (vals : List Value) (fp : List Nat), ArgsR w s.ps ds vals fp → (s.fn ds).1 = true →
    Calls P g vals.toArray w fun e w' => ∃ vs φ im tp, e = .returned (pack vs) ∧ Kept Own.none w w' ∧ ResV w' s.rs (s.fn ds).2 vs φ im tp ∧ φ.Nodup ∧
      (∀ b ∈ φ, w.heap.size ≤ b ∧ b < w'.heap.size) ∧ ∀ b ∈ im, (b ∈ fp ∨ w.heap.size ≤ b) ∧ b ∉ tp

/-- The cells of an argument whose rows are written in place: what they hold; the rows' blocks. -/
def RowsA (w : World) : List CT → List TypeId → List DC → List Value → List Nat → Prop
  | [], ts, ds, us, mb => ts = [] ∧ ds = [] ∧ us = [] ∧ mb = []
  | .sl e :: cs, ts, ds, us, mb => ∃ t ts' rows ds' v us' vals fps mb', ts = t :: ts' ∧ ds = .sl rows :: ds' ∧ us = v :: us' ∧ flatB e = true ∧ OwnR w t e.length false v rows.length vals ∧ InR w e rows vals fps ∧
      RowsA w cs ts' ds' us' mb' ∧ mb = v.ownBlock.toList ++ mb'
  | c :: cs, ts, ds, us, mb => ∃ d ds' v us', ds = d :: ds' ∧ us = v :: us' ∧ RdC w c d v [] ∧ RowsA w cs ts ds' us' mb

/-- A slice that a call may write in place: what it holds, its blocks. -/
def CellA (w : World) (t : TT) (e : List CT) (rows : List (List DC)) (v : Value) (mb : List Nat) : Prop :=
  match t with
  | .flat t => flatB e = true ∧ ∃ vals fps, OwnR w t e.length false v rows.length vals ∧ InR w e rows vals fps ∧ mb = v.ownBlock.toList
  | .deep t its => ∃ vals mbs, OwnR w t e.length false v rows.length vals ∧ DeepR w e its rows vals (fun _ => none) mbs ∧ mb = v.ownBlock.toList ++ mbs.flatten

/-- The cells of an argument whose slices are written in place; their blocks. -/
def ArgA (w : World) : List CT → List TT → List DC → List Value → List Nat → Prop
  | [], ts, ds, us, mb => ts = [] ∧ ds = [] ∧ us = [] ∧ mb = []
  | .sl e :: cs, ts, ds, us, mb => ∃ t ts' rows ds' v us' m1 mb', ts = t :: ts' ∧ ds = .sl rows :: ds' ∧ us = v :: us' ∧ CellA w t e rows v m1 ∧ ArgA w cs ts' ds' us' mb' ∧ mb = m1 ++ mb'
  | c :: cs, ts, ds, us, mb => ∃ d ds' v us', ds = d :: ds' ∧ us = v :: us' ∧ RdC w c d v [] ∧ ArgA w cs ts ds' us' mb

/-- What the slices hold behind the call; their blocks. -/
def OutA (w : World) : List CT → List TT → List DC → List Value → List Nat → Prop
  | [], _, ds, us, mb => ds = [] ∧ us = [] ∧ mb = []
  | .sl e :: cs, ts, ds, us, mb => ∃ t ts' rows ds' v us' m1 mb', ts = t :: ts' ∧ ds = .sl rows :: ds' ∧ us = v :: us' ∧ CellA w t e rows v m1 ∧ OutA w cs ts' ds' us' mb' ∧ mb = m1 ++ mb'
  | _ :: cs, ts, ds, us, mb => ∃ v us', us = v :: us' ∧ OutA w cs ts ds us' mb

def MArg (w : World) (k : AK) : Option MK → List DC → Value → List Nat → List Nat → Prop
  | none, d, v, f, b => ArgR w k d v f ∧ b = []
  | some (.box t), d, v, f, b => ∃ (g : Nat) (us : List Value), v = .pointer (some ⟨g, 0, none⟩) ∧ w.heap[g]? = some (.cells us.toArray t (0, 0)) ∧ (∀ x ∈ us, x.oneCell' = true) ∧ RdL w k.cts d (fun j => us[j]?) f ∧ us.length = k.cts.length ∧ b = [g]
  | some (.rows ts), d, v, f, b => ∃ us : List Value, (bif k.agg then v = .agg us.toArray else (us = [v] ∧ v.oneCell' = true)) ∧ (∀ x ∈ us, x.oneCell' = true) ∧ ArgA w k.cts ts d us b ∧ f = []

def MArgs (w : World) : List AK → List (Option MK) → List DC → List Value → List Nat → List Nat → Prop
  | [], ms, ds, vs, fp, mb => ms = [] ∧ ds = [] ∧ vs = [] ∧ fp = [] ∧ mb = []
  | k :: ks, ms, ds, vs, fp, mb => ∃ m ms' d1 d2 v vs' f1 f2 b1 b2, ms = m :: ms' ∧ ds = d1 ++ d2 ∧ vs = v :: vs' ∧ MArg w k m d1 v f1 b1 ∧ MArgs w ks ms' d2 vs' f2 b2 ∧ fp = f1 ++ f2 ∧ mb = b1 ++ b2

def MOut (w : World) (k : AK) : Option MK → List DC → Value → List Nat → List Nat → Prop
  | none, d, _, im, b => d = [] ∧ im = [] ∧ b = []
  | some (.box t), d, v, im, b => ∃ (g : Nat) (us : List Value), v = .pointer (some ⟨g, 0, none⟩) ∧ w.heap[g]? = some (.cells us.toArray t (0, 0)) ∧ (∀ x ∈ us, x.oneCell' = true) ∧ RdL w k.cts d (fun j => us[j]?) im ∧ us.length = k.cts.length ∧ b = [g]
  | some (.rows ts), d, v, im, b => ∃ us : List Value, (bif k.agg then v = .agg us.toArray else us = [v]) ∧ OutA w k.cts ts d us b ∧ im = []

def MOuts (w : World) : List AK → List (Option MK) → List DC → List Value → List Nat → List Nat → Prop
  | [], _, ds, vs, im, mb => ds = [] ∧ vs = [] ∧ im = [] ∧ mb = []
  | k :: ks, ms, ds, vs, im, mb => ∃ m ms' d1 d2 v vs' i1 i2 b1 b2, ms = m :: ms' ∧ ds = d1 ++ d2 ∧ vs = v :: vs' ∧ MOut w k m d1 v i1 b1 ∧ MOuts w ks ms' d2 vs' i2 b2 ∧ im = i1 ++ i2 ∧ mb = b1 ++ b2

/-- What a contract says of a function that writes through parameters. -/
def HoldsM (P : Program) (g : Nat) (s : Sum) : Prop :=
  (∃ fn, P.funcs[g]? = some fn ∧ fn.body.isSome = true ∧ (fn.name == "runtime.NumGoroutine") = false) ∧
  ∀ (w : World) (ds : List DC) (vals : List Value) (fp mb : List Nat), MArgs w s.ps s.ms ds vals fp mb → mb.Nodup → (∀ b ∈ mb, b ∉ fp) → (s.fn ds).1 = true →
    Calls P g vals.toArray w fun e w' => ∃ vs φ im tp im2 rd od ψ, e = .returned (pack vs) ∧ (s.fn ds).2 = rd ++ od ∧ rd.length = resCount s.rs ∧ Kept ⟨fun b => b ∈ mb, fun _ => False, []⟩ w w' ∧ ResV w' s.rs rd vs φ im tp ∧ φ.Nodup ∧
      (∀ b ∈ φ, w.heap.size ≤ b ∧ b < w'.heap.size) ∧ MOuts w' s.ps s.ms od vals im2 ψ ∧ ψ.Nodup ∧ (∀ b ∈ ψ, (b ∈ mb ∨ w.heap.size ≤ b) ∧ b < w'.heap.size ∧ b ∉ φ) ∧ ∀ b ∈ im2, (b ∈ fp ∨ w.heap.size ≤ b) ∧ b ∉ tp ∧ b ∉ ψ

/-- What a contract says of a function that hands back a pointer to a new variable. -/
def HoldsP (P : Program) (g : Nat) (s : Sum) (t : TypeId) (cts : List CT) : Prop :=
  (∃ fn, P.funcs[g]? = some fn ∧ fn.body.isSome = true ∧ (fn.name == "runtime.NumGoroutine") = false) ∧
  ∀ (w : World) (ds : List DC) (vals : List Value) (fp : List Nat), ArgsR w s.ps ds vals fp → (s.fn ds).1 = true →
    Calls P g vals.toArray w fun e w' => ∃ (b : Nat) (us : List Value) (im : List Nat), e = .returned (.pointer (some ⟨b, 0, none⟩)) ∧ Kept Own.none w w' ∧ w.heap.size ≤ b ∧ b < w'.heap.size ∧
      w'.heap[b]? = some (.cells us.toArray t (0, 0)) ∧ (∀ x ∈ us, x.oneCell' = true) ∧ RdL w' cts (s.fn ds).2 (fun j => us[j]?) im ∧ us.length = cts.length ∧ ∀ x ∈ im, (x ∈ fp ∨ w.heap.size ≤ x) ∧ x ≠ b

def HoldsAny (P : Program) (g : Nat) (s : Sum) : Prop :=
  bif s.ann then True else
  match s.pt with
  | some (t, cts) => HoldsP P g s t cts
  | none =>
    match s.ms with
    | [] => Holds P g s
    | _ :: _ => HoldsM P g s

def CtxHolds (P : Program) (Γ : Ctx) : Prop := ∀ g s, lkS Γ g = some s → HoldsAny P g s

section
variable {P : Program} {Γ : Ctx} {w0 : World} {S : Own} {st : St} {o : Oper} {e : Eff} {a : Act} {w : World}
variable {f : Nat → SV} {h : Nat → Option VObj} {β : Env} {φ : Nat → List Nat} {tm : Array Value}

theorem argsM_ok (hc : Core w0 S f h β φ tm w) : ∀ (ks : List AK) (ss : List SV) (vs : List Value) (q : List DC × Met), SVRL w (Av h β) β ss vs → (argsM ks ss).val f h = some q →
    ∃ fp, ArgsR w ks q.1 vs fp ∧ MetOk h q.2 ∧ ∀ b ∈ fp, (¬ Av h β b) ∨ ∃ x ∈ q.2, b ∈ topsAt h β x.1
  | [], [], vs, q, hs, hq => by
    simp only [argsM, M.val_pure, Option.some.injEq] at hq
    subst hq
    simp only [SVRL] at hs
    exact ⟨[], ⟨rfl, hs, rfl⟩, by simp [MetOk], by simp⟩
  | [], _ :: _, vs, q, hs, hq => by simp [argsM] at hq
  | _ :: _, [], vs, q, hs, hq => by simp [argsM] at hq
  | k :: ks, s :: ss, vs, q, hs, hq => by
    simp only [SVRL] at hs
    obtain ⟨v, l, rfl, h1, h2⟩ := hs
    simp only [argsM, M.val_bind, Option.bind_eq_some_iff, M.val_pure, Option.some.injEq] at hq
    obtain ⟨q1, hq1, q2, hq2, rfl⟩ := hq
    obtain ⟨fp2, ha2, hm2, hav2⟩ := argsM_ok hc ks ss l q2 h2 hq2
    have one : ∃ fp1, ArgR w k q1.1 v fp1 ∧ MetOk h q1.2.1 ∧ ∀ b ∈ fp1, (¬ Av h β b) ∨ ∃ x ∈ q1.2.1, b ∈ topsAt h β x.1 := by
      cases hk : k.agg with
      | true =>
        cases s with
        | agg cs =>
          simp only [hk] at hq1
          simp only [SVR] at h1
          obtain ⟨us, rfl, hus, hone⟩ := h1
          obtain ⟨fp1, hr, hm, hav, _⟩ := toDCs_ok hc k.cts cs us q1 hus hq1
          have hl := SVRL.length _ _ hus
          have hl2 := toDCs_length _ _ _ hq1
          exact ⟨fp1, ⟨us, by rw [hk]; rfl, hone, hr, by omega⟩, hm, hav⟩
        | _ => simp [hk] at hq1
      | false =>
        have hq1' : (toDCs k.cts [s]).val f h = some q1 := by
          cases s <;> simp only [hk] at hq1 <;> first | exact hq1 | (simp at hq1)
        have hsing : SVRL w (Av h β) β [s] [v] := by simp only [SVRL]; exact ⟨v, [], rfl, h1, rfl⟩
        obtain ⟨fp1, hr, hm, hav, _⟩ := toDCs_ok hc k.cts [s] [v] q1 hsing hq1'
        have hl2 := toDCs_length _ _ _ hq1'
        have hone : v.oneCell' = true := by
          cases hcts : k.cts with
          | nil => rw [hcts] at hl2; simp at hl2
          | cons c cs =>
            rw [hcts] at hr
            simp only [RdL] at hr
            obtain ⟨d, r', v', f1, f2, _, h0, h3, _⟩ := hr
            simp at h0
            subst h0
            exact h3.one
        exact ⟨fp1, ⟨[v], by rw [hk]; exact ⟨rfl, hone⟩, by simpa using hone, hr, by simpa using hl2⟩, hm, hav⟩
    obtain ⟨fp1, ha1, hm1, hav1⟩ := one
    refine ⟨fp1 ++ fp2, ⟨q1.1, q2.1, v, l, fp1, fp2, rfl, rfl, ha1, ha2, rfl⟩, metOk_append hm1 hm2, ?_⟩
    intro b hb
    rcases List.mem_append.1 hb with hb | hb
    · rcases hav1 b hb with h3 | ⟨x, hx, h3⟩
      · exact .inl h3
      · exact .inr ⟨x, List.mem_append_left _ hx, h3⟩
    · rcases hav2 b hb with h3 | ⟨x, hx, h3⟩
      · exact .inl h3
      · exact .inr ⟨x, List.mem_append_right _ hx, h3⟩

/-- A new row out of a call. -/
structure NewRow where
  id : Nat
  t : TypeId
  e : List CT
  rows : List (List DC)
  v : Value
  fps : List (List Nat)
  ts : Option (List TypeId)

def NewRow.obj (x : NewRow) : VObj :=
  match x.ts with
  | none => .row x.t x.e x.rows false true
  | some ts => .deep x.t x.e ts x.rows none
def NewRow.blks (x : NewRow) : List Nat := x.v.ownBlock.toList ++ x.fps.flatten
def NewRow.tops (x : NewRow) : List Nat :=
  match x.ts with
  | none => x.v.ownBlock.toList
  | some _ => x.blks
def NewRow.ok (w : World) (x : NewRow) : Prop :=
  match x.ts with
  | none => ∃ vals, OwnR w x.t x.e.length false x.v x.rows.length vals ∧ InR w x.e x.rows vals x.fps
  | some ts => ∃ vals, OwnR w x.t x.e.length false x.v x.rows.length vals ∧ DeepR w x.e ts x.rows vals (fun _ => none) x.fps
theorem NewRow.tops_sub (x : NewRow) : ∀ b ∈ x.tops, b ∈ x.blks := by
  intro b hb
  unfold NewRow.tops at hb
  split at hb
  · exact List.mem_append_left _ hb
  · exact hb
theorem NewRow.tops_eq (x : NewRow) {β : Env} (hv : β.val x.id = x.v) (hn : β.nb x.id = x.fps.flatten) : Vm.tops β x.id x.obj = x.tops := by
  unfold NewRow.obj NewRow.tops
  cases x.ts with
  | none => simp [Vm.tops, hv]
  | some ts => simp [Vm.tops, hv, hn, NewRow.blks]
theorem NewRow.ids (x : NewRow) : objIds x.obj = [] := by
  unfold NewRow.obj
  cases x.ts <;> rfl
theorem NewRow.objR {w : World} {x : NewRow} (h : x.ok w) {av : Nat → Prop} {β : Env} (hv : β.val x.id = x.v) (hn : β.nb x.id = x.fps.flatten) (ha : ∀ b ∈ x.fps.flatten, b ∉ x.tops → ¬ av b) (hd : x.blks.Nodup) : ObjR w av β x.id x.obj x.blks := by
  unfold NewRow.ok at h
  unfold NewRow.obj
  cases hts : x.ts with
  | none =>
    rw [hts] at h
    obtain ⟨vals, h1, h2⟩ := h
    refine ⟨vals, x.fps, by rw [hv]; exact h1, h2, fun b hb => ha b hb ?_, by rw [hv]; rfl⟩
    unfold NewRow.tops
    rw [hts]
    intro hb'
    unfold NewRow.blks at hd
    rw [List.nodup_append] at hd
    exact hd.2.2 b hb' b hb rfl
  | some ts =>
    rw [hts] at h
    obtain ⟨vals, h1, h2⟩ := h
    exact ⟨vals, x.fps, by rw [hv]; exact h1, h2, hn, by rw [hv]; rfl⟩

def lkN : List NewRow → Nat → Option NewRow
  | [], _ => none
  | x :: l, i => if i = x.id then some x else lkN l i

theorem lkN_mem {N : List NewRow} {j : Nat} {x : NewRow} (h : lkN N j = some x) : x ∈ N ∧ x.id = j := by
  induction N with
  | nil => simp [lkN] at h
  | cons y l ih =>
    simp only [lkN] at h
    split at h
    · rename_i hj
      injection h with h
      subst h
      exact ⟨List.mem_cons_self .., hj.symm⟩
    · obtain ⟨h1, h2⟩ := ih h
      exact ⟨List.mem_cons_of_mem _ h1, h2⟩

theorem lkN_some {N : List NewRow} {x : NewRow} (hx : x ∈ N) (hn : (N.map (·.id)).Nodup) : lkN N x.id = some x := by
  induction N with
  | nil => simp at hx
  | cons y l ih =>
    simp only [List.map_cons, List.nodup_cons] at hn
    simp only [lkN]
    rcases List.mem_cons.1 hx with rfl | hx
    · simp
    · have : x.id ≠ y.id := fun e => hn.1 (e ▸ List.mem_map_of_mem hx)
      rw [if_neg this]
      exact ih hx hn.2

def rowsOw (N : List NewRow) : List (Nat × Option VObj) := N.map fun x => (x.id, some x.obj)

theorem fo_rows (N : List NewRow) (l : List (Nat × Option VObj)) (j : Nat) : fo (rowsOw N ++ l) h j = match lkN N j with | some x => some x.obj | none => fo l h j := by
  induction N with
  | nil => rfl
  | cons y N ih =>
    simp only [rowsOw, List.map_cons, List.cons_append, fo, upd, lkN]
    split
    · rfl
    · exact ih

def Env.setN (β : Env) (N : List NewRow) : Env := ⟨β.blk, fun j => match lkN N j with | some x => x.v | none => β.val j, β.bar, fun j => match lkN N j with | some x => x.fps.flatten | none => β.nb j⟩

theorem blks_apart {N : List NewRow} (h : (N.flatMap NewRow.blks).Nodup) : (∀ x ∈ N, x.blks.Nodup) ∧ ∀ x ∈ N, ∀ y ∈ N, x ≠ y → ∀ b ∈ x.blks, b ∉ y.blks := by
  induction N with
  | nil => simp
  | cons z l ih =>
    rw [List.flatMap_cons, List.nodup_append] at h
    obtain ⟨h1, h2, h3⟩ := h
    obtain ⟨i1, i2⟩ := ih h2
    refine ⟨fun x hx => ?_, fun x hx y hy hxy b hb hb' => ?_⟩
    · rcases List.mem_cons.1 hx with rfl | hx
      · exact h1
      · exact i1 x hx
    · rcases List.mem_cons.1 hx with hx1 | hx1 <;> rcases List.mem_cons.1 hy with hy1 | hy1
      · exact hxy (hx1.trans hy1.symm)
      · subst hx1
        exact h3 b hb b (List.mem_flatMap.2 ⟨y, hy1, hb'⟩) rfl
      · subst hy1
        exact h3 b hb' b (List.mem_flatMap.2 ⟨x, hx1, hb⟩) rfl
      · exact i2 x hx1 y hy1 hxy b hb hb'

theorem Core.creates (hc : Core w0 S f h β φ tm w) {w' : World} {N : List NewRow} (hs : w.heap.size ≤ w'.heap.size) (hw : ∀ b, b < w.heap.size → w'.heap[b]? = w.heap[b]?) (hk : w0.heap.size ≤ w.heap.size)
    (hfresh : ∀ x ∈ N, h x.id = none ∧ (∀ i, x.id ∉ svIds (f i)) ∧ ∀ k o, h k = some o → x.id ∉ objIds o) (hok : ∀ x ∈ N, NewRow.ok w' x) (hid : (N.map (·.id)).Nodup)
    (hnd : (N.flatMap NewRow.blks).Nodup) (hal : ∀ b ∈ N.flatMap NewRow.blks, w.heap.size ≤ b ∧ b < w'.heap.size) :
    Core w0 S f (fun j => match lkN N j with | some x => some x.obj | none => h j) (β.setN N) (fun j => match lkN N j with | some x => x.blks | none => φ j) tm w' := by
  have hφmem : ∀ x ∈ N, ∀ b ∈ x.blks, b ∈ N.flatMap NewRow.blks := fun x hx b hb => List.mem_flatMap.2 ⟨x, hx, hb⟩
  have htop_eq : ∀ j oj, lkN N j = none → tops (β.setN N) j oj = tops β j oj := by
    intro j oj hj
    cases oj <;> simp [tops, Env.setN, hj]
  have htop_new : ∀ j x, lkN N j = some x → tops (β.setN N) j x.obj = x.tops := by
    intro j x hj
    obtain ⟨_, rfl⟩ := lkN_mem hj
    exact x.tops_eq (by simp [Env.setN, hj]) (by simp [Env.setN, hj])
  have hha : ∀ b, Av (fun j => match lkN N j with | some x => some x.obj | none => h j) (β.setN N) b → Av h β b ∨ (w.heap.size ≤ b ∧ ∃ x ∈ N, b ∈ x.tops) := by
    rintro b (⟨j, oj, hj, hbj⟩ | hb)
    case inr => exact .inl (.inr hb)
    cases hl : lkN N j with
    | none =>
      simp only [hl] at hj
      rw [htop_eq j oj hl] at hbj
      exact .inl (.inl ⟨j, oj, hj, hbj⟩)
    | some x =>
      simp only [hl, Option.some.injEq] at hj
      subst hj
      rw [htop_new j x hl] at hbj
      have hx := (lkN_mem hl).1
      exact .inr ⟨(hal b (hφmem x hx b (x.tops_sub b hbj))).1, x, hx, hbj⟩
  refine hc.step' (fun j => (lkN N j).isSome = true) hs (fun b hb _ => hw b hb) (fun b hb => (hha b hb).imp id (·.1)) ?_ ?_ ?_ ?_
  · intro i j hj hx
    obtain ⟨x, hx⟩ := Option.isSome_iff_exists.1 hx
    obtain ⟨hm, rfl⟩ := lkN_mem hx
    exact (hfresh x hm).2.1 i hj
  · intro j hj
    have : lkN N j = none := by simpa using hj
    simp [Env.setN, this]
  · intro j oj hj
    cases hl : lkN N j with
    | none =>
      simp only [hl] at hj
      refine .inl ⟨by simp [hl], hj, by simp [Env.setN, hl], by simp, ?_, fun b hb => hw b ?_⟩
      · intro i hi hx
        obtain ⟨x, hx⟩ := Option.isSome_iff_exists.1 hx
        obtain ⟨hm, rfl⟩ := lkN_mem hx
        exact (hfresh x hm).2.2 j oj hj hi
      · exact ((hc.fresh j oj hj).2 b (tops_sub (hc.objs j oj hj) b hb)).2
    | some x =>
      simp only [hl, Option.some.injEq] at hj
      subst hj
      obtain ⟨hm, rfl⟩ := lkN_mem hl
      refine .inr ⟨NewRow.objR (hok x hm) (by simp [Env.setN, hl]) (by simp [Env.setN, hl]) ?_ ((blks_apart hnd).1 x hm), ?_, ?_⟩
      · intro b hb hnt hx
        have hbφ : b ∈ x.blks := List.mem_append_right _ hb
        have hbig := (hal b (hφmem x hm b hbφ)).1
        rcases hha b hx with hx' | ⟨_, y, hy, hby⟩
        · have := hc.av_lt hk hx'
          omega
        · by_cases hxy : y = x
          · subst hxy
            exact hnt hby
          · exact (blks_apart hnd).2 y hy x hm hxy b (y.tops_sub b hby) hbφ
      · exact (blks_apart hnd).1 x hm
      · intro b hb
        have := hal b (hφmem x hm b hb)
        exact ⟨.inl (by omega), this.2⟩
  · intro i j oi oj hne hi hj b hb
    cases hli : lkN N i with
    | none =>
      simp only [hli] at hi hb
      cases hlj : lkN N j with
      | none =>
        simp only [hlj] at hj ⊢
        exact hc.sep i j oi oj hne hi hj b hb
      | some y =>
        simp only
        intro hby
        have := (hal b (hφmem y (lkN_mem hlj).1 b hby)).1
        have := ((hc.fresh i oi hi).2 b hb).2
        omega
    | some x =>
      simp only [hli] at hi hb
      have hxm := (lkN_mem hli).1
      cases hlj : lkN N j with
      | none =>
        simp only [hlj] at hj ⊢
        intro hbj
        have := (hal b (hφmem x hxm b hb)).1
        have := ((hc.fresh j oj hj).2 b hbj).2
        omega
      | some y =>
        simp only
        intro hby
        have hym := (lkN_mem hlj).1
        have hxy : x ≠ y := by
          rintro rfl
          exact hne ((lkN_mem hli).2.symm.trans (lkN_mem hlj).2)
        exact (blks_apart hnd).2 x hxm y hym hxy b hb hby

/-- An object that a call turns: what it is behind the call, its blocks. -/
structure Turn where
  id : Nat
  obj : VObj
  nb : List Nat
  blks : List Nat

def lkT : List Turn → Nat → Option Turn
  | [], _ => none
  | x :: l, i => if i = x.id then some x else lkT l i

theorem lkT_mem {U : List Turn} {j : Nat} {x : Turn} (h : lkT U j = some x) : x ∈ U ∧ x.id = j := by
  induction U with
  | nil => simp [lkT] at h
  | cons y l ih =>
    simp only [lkT] at h
    split at h
    · rename_i hj
      injection h with h
      subst h
      exact ⟨List.mem_cons_self .., hj.symm⟩
    · obtain ⟨h1, h2⟩ := ih h
      exact ⟨List.mem_cons_of_mem _ h1, h2⟩

theorem lkT_some {U : List Turn} {x : Turn} (hx : x ∈ U) : ∃ y, lkT U x.id = some y := by
  induction U with
  | nil => simp at hx
  | cons y l ih =>
    simp only [lkT]
    split
    · exact ⟨_, rfl⟩
    · rename_i hne
      rcases List.mem_cons.1 hx with rfl | hx
      · exact absurd rfl hne
      · exact ih hx

theorem turns_apart {U : List Turn} (h : (U.flatMap Turn.blks).Nodup) : (∀ x ∈ U, x.blks.Nodup) ∧ ∀ x ∈ U, ∀ y ∈ U, x.id ≠ y.id → ∀ b ∈ x.blks, b ∉ y.blks := by
  induction U with
  | nil => simp
  | cons z l ih =>
    rw [List.flatMap_cons, List.nodup_append] at h
    obtain ⟨h1, h2, h3⟩ := h
    obtain ⟨i1, i2⟩ := ih h2
    refine ⟨fun x hx => ?_, fun x hx y hy hxy b hb hb' => ?_⟩
    · rcases List.mem_cons.1 hx with rfl | hx
      · exact h1
      · exact i1 x hx
    · rcases List.mem_cons.1 hx with hx1 | hx1 <;> rcases List.mem_cons.1 hy with hy1 | hy1
      · exact hxy (by rw [hx1, hy1])
      · subst hx1
        exact h3 b hb b (List.mem_flatMap.2 ⟨y, hy1, hb'⟩) rfl
      · subst hy1
        exact h3 b hb' b (List.mem_flatMap.2 ⟨x, hx1, hb⟩) rfl
      · exact i2 x hx1 y hy1 hxy b hb hb'

def Env.setNT (β : Env) (N : List NewRow) (U : List Turn) : Env :=
  ⟨β.blk, fun j => match lkN N j with | some x => x.v | none => β.val j, β.bar, fun j => match lkN N j with | some x => x.fps.flatten | none => match lkT U j with | some x => x.nb | none => β.nb j⟩

def actH (N : List NewRow) (U : List Turn) (h : Nat → Option VObj) (j : Nat) : Option VObj :=
  match lkN N j with | some x => some x.obj | none => match lkT U j with | some x => some x.obj | none => h j
def actφ (N : List NewRow) (U : List Turn) (φ : Nat → List Nat) (j : Nat) : List Nat :=
  match lkN N j with | some x => x.blks | none => match lkT U j with | some x => x.blks | none => φ j

/-- Objects that are turned, and new rows. -/
theorem Core.acts (hc : Core w0 S f h β φ tm w) {w' : World} {N : List NewRow} {U : List Turn} {im mb : List Nat} (hs : w.heap.size ≤ w'.heap.size) (hk : w0.heap.size ≤ w.heap.size)
    (hmb : ∀ b ∈ mb, ∃ x ∈ U, ∃ o, h x.id = some o ∧ b ∈ tops β x.id o)
    (hw : ∀ b, b < w.heap.size → b ∉ mb → w'.heap[b]? = w.heap[b]?)
    (hU : ∀ x ∈ U, (∃ o, h x.id = some o) ∧ objIds x.obj = [])
    (hUo : ∀ x ∈ U, ∀ (av : Nat → Prop) (β' : Env), β'.val x.id = β.val x.id → β'.blk x.id = β.blk x.id → β'.nb x.id = x.nb → (∀ b ∈ im, ¬ av b) → ObjR w' av β' x.id x.obj x.blks)
    (hUd : (U.flatMap Turn.blks).Nodup) (hUm : ∀ b ∈ U.flatMap Turn.blks, (b ∈ mb ∨ w.heap.size ≤ b) ∧ b < w'.heap.size ∧ b ∉ N.flatMap NewRow.blks)
    (him : ∀ b ∈ im, ¬ Av (actH N U h) (β.setNT N U) b)
    (hfresh : ∀ x ∈ N, h x.id = none ∧ (∀ i, x.id ∉ svIds (f i)) ∧ ∀ k o, h k = some o → x.id ∉ objIds o) (hok : ∀ x ∈ N, NewRow.ok w' x)
    (hnd : (N.flatMap NewRow.blks).Nodup) (hal : ∀ b ∈ N.flatMap NewRow.blks, w.heap.size ≤ b ∧ b < w'.heap.size) :
    Core w0 S f (actH N U h) (β.setNT N U) (actφ N U φ) tm w' := by
  have hφmem : ∀ x ∈ N, ∀ b ∈ x.blks, b ∈ N.flatMap NewRow.blks := fun x hx b hb => List.mem_flatMap.2 ⟨x, hx, hb⟩
  have hφU : ∀ x ∈ U, ∀ b ∈ x.blks, b ∈ U.flatMap Turn.blks := fun x hx b hb => List.mem_flatMap.2 ⟨x, hx, hb⟩
  have hUN : ∀ x ∈ U, lkN N x.id = none := by
    intro x hx
    cases hl : lkN N x.id with
    | none => rfl
    | some y =>
      obtain ⟨hm, he⟩ := lkN_mem hl
      obtain ⟨⟨o, ho⟩, _⟩ := hU x hx
      have := (hfresh y hm).1
      rw [he, ho] at this
      cases this
  have htop_eq : ∀ j oj, lkN N j = none → lkT U j = none → tops (β.setNT N U) j oj = tops β j oj := by
    intro j oj hj hu
    cases oj <;> simp [tops, Env.setNT, hj, hu]
  have htop_new : ∀ j x, lkN N j = some x → tops (β.setNT N U) j x.obj = x.tops := by
    intro j x hj
    obtain ⟨_, rfl⟩ := lkN_mem hj
    exact x.tops_eq (by simp [Env.setNT, hj]) (by simp [Env.setNT, hj])
  have hobjU : ∀ j x, lkN N j = none → lkT U j = some x → ObjR w' (Av (actH N U h) (β.setNT N U)) (β.setNT N U) j x.obj x.blks := by
    intro j x hl hu
    obtain ⟨hm, rfl⟩ := lkT_mem hu
    exact hUo x hm _ _ (by simp [Env.setNT, hl]) rfl (by simp [Env.setNT, hl, hu]) him
  have hmbav : ∀ b ∈ mb, Av h β b := by
    intro b hb
    obtain ⟨x, _, o, ho, hbo⟩ := hmb b hb
    exact .inl ⟨x.id, o, ho, hbo⟩
  have hha : ∀ b, Av (actH N U h) (β.setNT N U) b → Av h β b ∨ w.heap.size ≤ b := by
    rintro b (⟨j, oj, hj, hbj⟩ | hb)
    case inr => exact .inl (.inr hb)
    unfold actH at hj
    cases hl : lkN N j with
    | none =>
      simp only [hl] at hj
      cases hu : lkT U j with
      | none =>
        simp only [hu] at hj
        rw [htop_eq j oj hl hu] at hbj
        exact .inl (.inl ⟨j, oj, hj, hbj⟩)
      | some x =>
        simp only [hu, Option.some.injEq] at hj
        subst hj
        have h1 := Vm.tops_sub (hobjU j x hl hu) b hbj
        rcases (hUm b (hφU x (lkT_mem hu).1 b h1)).1 with h2 | h2
        · exact .inl (hmbav b h2)
        · exact .inr h2
    | some x =>
      simp only [hl, Option.some.injEq] at hj
      subst hj
      rw [htop_new j x hl] at hbj
      have hx := (lkN_mem hl).1
      exact .inr (hal b (hφmem x hx b (x.tops_sub b hbj))).1
  have sepT : ∀ j oj, h j = some oj → (∀ x ∈ U, x.id ≠ j) → ∀ b ∈ φ j, b ∉ mb := by
    intro j oj hj hne b hb hbm
    obtain ⟨x, hx, o, ho, hbo⟩ := hmb b hbm
    exact hc.sep x.id j o oj (hne x hx) ho hj b (Vm.tops_sub (hc.objs _ _ ho) b hbo) hb
  have noT : ∀ j, lkT U j = none → ∀ x ∈ U, x.id ≠ j := by
    intro j hu x hx he
    obtain ⟨y, hy⟩ := lkT_some hx
    rw [he, hu] at hy
    cases hy
  refine hc.step' (fun j => (lkN N j).isSome = true) hs ?_ hha ?_ ?_ ?_ ?_
  · intro b hb hn
    exact hw b hb (fun hbm => hn (hmbav b hbm))
  · intro i j hj hx
    obtain ⟨x, hx⟩ := Option.isSome_iff_exists.1 hx
    obtain ⟨hm, rfl⟩ := lkN_mem hx
    exact (hfresh x hm).2.1 i hj
  · intro j hj
    have : lkN N j = none := by simpa using hj
    simp [Env.setNT, this]
  · intro j oj hj
    unfold actH at hj
    cases hl : lkN N j with
    | none =>
      simp only [hl] at hj
      cases hu : lkT U j with
      | none =>
        simp only [hu] at hj
        refine .inl ⟨by simp [hl], hj, by simp [Env.setNT, hl, hu], by simp [actφ, hl, hu], ?_, fun b hb => ?_⟩
        · intro i hi hx
          obtain ⟨x, hx⟩ := Option.isSome_iff_exists.1 hx
          obtain ⟨hm, rfl⟩ := lkN_mem hx
          exact (hfresh x hm).2.2 j oj hj hi
        · have hbφ := Vm.tops_sub (hc.objs j oj hj) b hb
          exact hw b ((hc.fresh j oj hj).2 b hbφ).2 (sepT j oj hj (noT j hu) b hbφ)
      | some x =>
        simp only [hu, Option.some.injEq] at hj
        subst hj
        have hm := (lkT_mem hu).1
        refine .inr ⟨by simpa only [actφ, hl, hu] using hobjU j x hl hu, by simpa only [actφ, hl, hu] using (turns_apart hUd).1 x hm, ?_⟩
        simp only [actφ, hl, hu]
        intro b hb
        obtain ⟨h1, h2, _⟩ := hUm b (hφU x hm b hb)
        refine ⟨?_, h2⟩
        rcases h1 with h1 | h1
        · obtain ⟨y, _, o, ho, hbo⟩ := hmb b h1
          exact ((hc.fresh _ _ ho).2 b (Vm.tops_sub (hc.objs _ _ ho) b hbo)).1
        · exact .inl (by omega)
    | some x =>
      simp only [hl, Option.some.injEq] at hj
      subst hj
      obtain ⟨hm, rfl⟩ := lkN_mem hl
      refine .inr ⟨?_, ?_, ?_⟩
      · simp only [actφ, hl]
        refine NewRow.objR (hok x hm) (by simp [Env.setNT, hl]) (by simp [Env.setNT, hl]) ?_ ((blks_apart hnd).1 x hm)
        rintro b hb hnt hx
        have hbφ : b ∈ x.blks := List.mem_append_right _ hb
        have hbN := hφmem x hm b hbφ
        have hbig := (hal b hbN).1
        rcases hx with ⟨j, oj, hj, hbj⟩ | hbar
        case inr =>
          have := (hc.bar b hbar).1
          omega
        unfold actH at hj
        cases hlj : lkN N j with
        | some y =>
          simp only [hlj, Option.some.injEq] at hj
          subst hj
          rw [htop_new j y hlj] at hbj
          have hy := (lkN_mem hlj).1
          by_cases hxy : y = x
          · subst hxy
            exact hnt hbj
          · exact (blks_apart hnd).2 y hy x hm hxy b (y.tops_sub b hbj) hbφ
        | none =>
          simp only [hlj] at hj
          cases hu : lkT U j with
          | some y =>
            simp only [hu, Option.some.injEq] at hj
            subst hj
            have h1 := Vm.tops_sub (hobjU j y hlj hu) b hbj
            exact (hUm b (hφU y (lkT_mem hu).1 b h1)).2.2 hbN
          | none =>
            simp only [hu] at hj
            rw [htop_eq j oj hlj hu] at hbj
            have := ((hc.fresh j oj hj).2 b (Vm.tops_sub (hc.objs j oj hj) b hbj)).2
            omega
      · simp only [actφ, hl]
        exact (blks_apart hnd).1 x hm
      · simp only [actφ, hl]
        intro b hb
        have := hal b (hφmem x hm b hb)
        exact ⟨.inl (by omega), this.2⟩
  · -- apart
    have kinds : ∀ j oj, actH N U h j = some oj → ∀ b ∈ actφ N U φ j,
        (∃ x, lkN N j = some x ∧ b ∈ x.blks) ∨ (∃ x, lkN N j = none ∧ lkT U j = some x ∧ b ∈ x.blks) ∨ (lkN N j = none ∧ lkT U j = none ∧ h j = some oj ∧ b ∈ φ j) := by
      intro j oj hj b hb
      unfold actH at hj
      unfold actφ at hb
      cases hl : lkN N j with
      | some x => simp only [hl] at hb; exact .inl ⟨x, rfl, hb⟩
      | none =>
        simp only [hl] at hj hb
        cases hu : lkT U j with
        | some x => simp only [hu] at hb; exact .inr (.inl ⟨x, rfl, rfl, hb⟩)
        | none => simp only [hu] at hj hb; exact .inr (.inr ⟨rfl, rfl, hj, hb⟩)
    intro i j oi oj hne hi hj b hb hb'
    rcases kinds i oi hi b hb with ⟨x, hx, bx⟩ | ⟨x, _, hx, bx⟩ | ⟨_, hxu, hx, bx⟩ <;> rcases kinds j oj hj b hb' with ⟨y, hy, b_y⟩ | ⟨y, _, hy, b_y⟩ | ⟨_, hyu, hy, b_y⟩
    · refine (blks_apart hnd).2 x (lkN_mem hx).1 y (lkN_mem hy).1 ?_ b bx b_y
      rintro rfl
      exact hne ((lkN_mem hx).2.symm.trans (lkN_mem hy).2)
    · exact (hUm b (hφU y (lkT_mem hy).1 b b_y)).2.2 (hφmem x (lkN_mem hx).1 b bx)
    · have := (hal b (hφmem x (lkN_mem hx).1 b bx)).1
      have := ((hc.fresh j oj hy).2 b b_y).2
      omega
    · exact (hUm b (hφU x (lkT_mem hx).1 b bx)).2.2 (hφmem y (lkN_mem hy).1 b b_y)
    · refine (turns_apart hUd).2 x (lkT_mem hx).1 y (lkT_mem hy).1 ?_ b bx b_y
      rw [(lkT_mem hx).2, (lkT_mem hy).2]
      exact hne
    · rcases (hUm b (hφU x (lkT_mem hx).1 b bx)).1 with h1 | h1
      · exact sepT j oj hy (noT j hyu) b b_y h1
      · have := ((hc.fresh j oj hy).2 b b_y).2
        omega
    · have := (hal b (hφmem y (lkN_mem hy).1 b b_y)).1
      have := ((hc.fresh i oi hx).2 b bx).2
      omega
    · rcases (hUm b (hφU y (lkT_mem hy).1 b b_y)).1 with h1 | h1
      · exact sepT i oi hx (noT i hxu) b bx h1
      · have := ((hc.fresh i oi hx).2 b bx).2
        omega
    · exact hc.sep i j oi oj hne hx hy b bx b_y

end

end Go.Proofs.YthpmalpdnnbkgaaGreat.Vm

/- The value machine: calls by contract; every operation. Conditions: as each lemma says. -/
namespace Go.Proofs.YthpmalpdnnbkgaaGreat.Vm

section
variable {P : Program} {Γ : Ctx} {w0 : World} {S : Own} {st : St} {o : Oper} {e : Eff} {a : Act} {w : World}
variable {f : Nat → SV} {h : Nat → Option VObj} {β : Env} {φ : Nat → List Nat} {tm : Array Value}

theorem ResL.length {w : World} : ∀ (rcs : List RC) (ds : List DC) (vs : List Value) (φ im tp : List Nat), ResL w rcs ds vs φ im tp → ds.length = rcs.length
  | [], ds, vs, φ, im, tp, h => by simp only [ResL] at h; simp [h.1]
  | .imm c :: cs, ds, vs, φ, im, tp, h => by
    simp only [ResL] at h
    obtain ⟨d, ds', v, vs', f1, im', rfl, _, _, h1, _⟩ := h
    simp [ResL.length cs ds' vs' _ _ _ h1]
  | .own t e :: cs, ds, vs, φ, im, tp, h => by
    simp only [ResL] at h
    obtain ⟨rows, ds', v, vs', vals, fps, φ', tp', rfl, _, _, _, h1, _⟩ := h
    simp [ResL.length cs ds' vs' _ _ _ h1]
  | .deep t e ts :: cs, ds, vs, φ, im, tp, h => by
    simp only [ResL] at h
    obtain ⟨rows, ds', v, vs', vals, mbs, φ', tp', rfl, _, _, _, h1, _⟩ := h
    simp [ResL.length cs ds' vs' _ _ _ h1]

theorem resCells_ok {w' : World} {d : Nat} : ∀ (rcs : List RC) (k : Nat) (ds : List DC) (vs : List Value) (φ im tp : List Nat), ResL w' rcs ds vs φ im tp →
    ∃ N : List NewRow, (resCells d k rcs ds).2 = rowsOw N ∧ N.map (·.id) = (List.range' k (ownCount rcs)).map (newId d) ∧ (∀ x ∈ N, x.ok w') ∧ N.flatMap NewRow.blks = φ ∧ N.flatMap NewRow.tops = tp ∧
      ∀ (av : Nat → Prop) (β' : Env), (∀ x ∈ N, β'.val x.id = x.v) → (∀ b ∈ im, ¬ av b) → SVRL w' av β' (resCells d k rcs ds).1 vs
  | [], k, ds, vs, φ, im, tp, h => by
    simp only [ResL] at h
    obtain ⟨rfl, rfl, rfl, rfl, rfl⟩ := h
    exact ⟨[], rfl, rfl, by simp, rfl, rfl, by simp [resCells, SVRL]⟩
  | .imm c :: cs, k, ds, vs, φ, im, tp, h => by
    simp only [ResL] at h
    obtain ⟨x, ds', v, vs', f1, im', rfl, rfl, h1, h2, rfl⟩ := h
    obtain ⟨N, e1, e2, e3, e4, e5, e6⟩ := resCells_ok cs k ds' vs' φ im' tp h2
    refine ⟨N, by simpa [resCells] using e1, by simpa [ownCount] using e2, e3, e4, e5, fun av β' hβ hav => ?_⟩
    simp only [resCells, List.headD_cons, List.tail_cons, SVRL]
    exact ⟨v, vs', rfl, ofDC_ok h1 (fun b hb => hav b (List.mem_append_left _ hb)), e6 av β' hβ (fun b hb => hav b (List.mem_append_right _ hb))⟩
  | .own t e :: cs, k, ds, vs, φ, im, tp, h => by
    simp only [ResL] at h
    obtain ⟨rows, ds', v, vs', vals, fps, φ', tp', rfl, rfl, h1, h2, h3, rfl, rfl⟩ := h
    obtain ⟨N, e1, e2, e3, e4, e5, e6⟩ := resCells_ok cs (k + 1) ds' vs' φ' im tp' h3
    refine ⟨⟨newId d k, t, e, rows, v, fps, none⟩ :: N, ?_, ?_, ?_, ?_, ?_, fun av β' hβ hav => ?_⟩
    · simp [resCells, rowsOw, NewRow.obj, DC.asRows] at e1 ⊢
      exact e1
    · simp only [List.map_cons, ownCount, List.range'_succ, e2]
    · intro x hx
      rcases List.mem_cons.1 hx with rfl | hx
      · exact ⟨vals, h1, h2⟩
      · exact e3 x hx
    · simp [List.flatMap_cons, e4, NewRow.blks]
    · simp [List.flatMap_cons, e5, NewRow.tops]
    · simp only [resCells, List.headD_cons, List.tail_cons, SVRL]
      refine ⟨v, vs', rfl, ?_, e6 av β' (fun x hx => hβ x (List.mem_cons_of_mem _ hx)) hav⟩
      simp only [SVR]
      exact ⟨(hβ _ (List.mem_cons_self ..)).symm, h1.one⟩
  | .deep t e ts :: cs, k, ds, vs, φ, im, tp, h => by
    simp only [ResL] at h
    obtain ⟨rows, ds', v, vs', vals, mbs, φ', tp', rfl, rfl, h1, h2, h3, rfl, rfl⟩ := h
    obtain ⟨N, e1, e2, e3, e4, e5, e6⟩ := resCells_ok cs (k + 1) ds' vs' φ' im tp' h3
    refine ⟨⟨newId d k, t, e, rows, v, mbs, some ts⟩ :: N, ?_, ?_, ?_, ?_, ?_, fun av β' hβ hav => ?_⟩
    · simp [resCells, rowsOw, NewRow.obj, DC.asRows] at e1 ⊢
      exact e1
    · simp only [List.map_cons, ownCount, List.range'_succ, e2]
    · intro x hx
      rcases List.mem_cons.1 hx with rfl | hx
      · exact ⟨vals, h1, h2⟩
      · exact e3 x hx
    · simp [List.flatMap_cons, e4, NewRow.blks]
    · simp [List.flatMap_cons, e5, NewRow.tops, NewRow.blks]
    · simp only [resCells, List.headD_cons, List.tail_cons, SVRL]
      refine ⟨v, vs', rfl, ?_, e6 av β' (fun x hx => hβ x (List.mem_cons_of_mem _ hx)) hav⟩
      simp only [SVR]
      exact ⟨(hβ _ (List.mem_cons_self ..)).symm, h1.one⟩

theorem resVals_ok {w' : World} {d : Nat} : ∀ (rks : List RK) (k : Nat) (ds : List DC) (vs : List Value) (φ im tp : List Nat), ResV w' rks ds vs φ im tp →
    ∃ N : List NewRow, (resVals d k rks ds).2 = rowsOw N ∧ N.map (·.id) = (List.range' k (ownTotal rks)).map (newId d) ∧ (∀ x ∈ N, x.ok w') ∧ N.flatMap NewRow.blks = φ ∧ N.flatMap NewRow.tops = tp ∧
      ∀ (av : Nat → Prop) (β' : Env), (∀ x ∈ N, β'.val x.id = x.v) → (∀ b ∈ im, ¬ av b) → SVRL w' av β' (resVals d k rks ds).1 vs
  | [], k, ds, vs, φ, im, tp, h => by
    simp only [ResV] at h
    obtain ⟨rfl, rfl, rfl, rfl, rfl⟩ := h
    exact ⟨[], rfl, rfl, by simp, rfl, rfl, by simp [resVals, SVRL]⟩
  | r :: rs, k, ds, vs, φ, im, tp, h => by
    simp only [ResV] at h
    obtain ⟨d1, d2, v, vs', us, φ1, φ2, i1, i2, t1, t2, rfl, rfl, hv, hone, h1, h2, rfl, rfl, rfl⟩ := h
    have hl := ResL.length _ _ _ _ _ _ h1
    obtain ⟨N1, a1, a2, a3, a4, a5, a6⟩ := resCells_ok (d := d) r.cells k d1 us φ1 i1 t1 h1
    obtain ⟨N2, b1, b2, b3, b4, b5, b6⟩ := resVals_ok (d := d) rs (k + ownCount r.cells) d2 vs' φ2 i2 t2 h2
    have ht : (d1 ++ d2).take r.cells.length = d1 := by rw [← hl]; simp
    have hdr : (d1 ++ d2).drop r.cells.length = d2 := by rw [← hl]; simp
    refine ⟨N1 ++ N2, ?_, ?_, ?_, by simp [a4, b4], by simp [a5, b5], fun av β' hβ hav => ?_⟩
    · simp only [resVals, ht, hdr, a1, b1, rowsOw, List.map_append]
    · rw [List.map_append, a2, b2, ← List.map_append, List.range'_append_1]
      rfl
    · intro x hx
      rcases List.mem_append.1 hx with hx | hx
      · exact a3 x hx
      · exact b3 x hx
    · have s1 := a6 av β' (fun x hx => hβ x (List.mem_append_left _ hx)) (fun b hb => hav b (List.mem_append_left _ hb))
      have s2 := b6 av β' (fun x hx => hβ x (List.mem_append_right _ hx)) (fun b hb => hav b (List.mem_append_right _ hb))
      simp only [resVals, ht, hdr, SVRL]
      refine ⟨v, vs', rfl, ?_, s2⟩
      cases hagg : r.agg with
      | true =>
        rw [hagg, cond_true] at hv
        subst hv
        simp only [cond_true, SVR]
        exact ⟨us, rfl, s1, hone⟩
      | false =>
        rw [hagg, cond_false] at hv
        subst hv
        simp only [cond_false]
        generalize (resCells d k r.cells d1).1 = q at s1
        cases q with
        | nil => simp [SVRL] at s1
        | cons y l =>
          simp only [SVRL] at s1
          obtain ⟨v', l', e1, e2, _⟩ := s1
          injection e1 with e1
          subst e1
          simpa using e2

theorem ArgsR.lt {w : World} : ∀ (ks : List AK) (ds : List DC) (vs : List Value) (fp : List Nat), ArgsR w ks ds vs fp → ∀ b ∈ fp, b < w.heap.size
  | [], ds, vs, fp, h => by simp only [ArgsR] at h; simp [h.2.2]
  | k :: ks, ds, vs, fp, h => by
    simp only [ArgsR] at h
    obtain ⟨d1, d2, v, vs', f1, f2, rfl, rfl, ⟨us, _, _, hr, _⟩, h2, rfl⟩ := h
    intro b hb
    rcases List.mem_append.1 hb with hb | hb
    · exact RdL.lt _ _ _ _ hr b hb
    · exact ArgsR.lt ks d2 vs' f2 h2 b hb

theorem ResL.noimm {w : World} : ∀ (rcs : List RC) (ds : List DC) (vs : List Value) (φ im tp : List Nat), immSl rcs = false → ResL w rcs ds vs φ im tp → im = []
  | [], ds, vs, φ, im, tp, _, h => by simp only [ResL] at h; exact h.2.2.2.1
  | .imm c :: cs, ds, vs, φ, im, tp, hn, h => by
    simp only [ResL] at h
    obtain ⟨d, ds', v, vs', f1, im', rfl, _, h1, h2, rfl⟩ := h
    have : f1 = [] ∧ immSl cs = false := by
      cases c with
      | int k => simp only [RdC] at h1; obtain ⟨n, _, _, _, e⟩ := h1; exact ⟨e, by simpa [immSl] using hn⟩
      | bool => simp only [RdC] at h1; obtain ⟨n, _, _, e⟩ := h1; exact ⟨e, by simpa [immSl] using hn⟩
      | str => simp only [RdC] at h1; obtain ⟨n, _, _, _, e⟩ := h1; exact ⟨e, by simpa [immSl] using hn⟩
      | sl e => simp [immSl] at hn
    rw [this.1, ResL.noimm cs ds' vs' _ _ _ this.2 h2]
    rfl
  | .own t e :: cs, ds, vs, φ, im, tp, hn, h => by
    simp only [ResL] at h
    obtain ⟨rows, ds', v, vs', vals, fps, φ', tp', rfl, _, _, _, h1, _⟩ := h
    exact ResL.noimm cs ds' vs' _ _ _ (by simpa [immSl] using hn) h1
  | .deep t e ts :: cs, ds, vs, φ, im, tp, hn, h => by
    simp only [ResL] at h
    obtain ⟨rows, ds', v, vs', vals, mbs, φ', tp', rfl, _, _, _, h1, _⟩ := h
    exact ResL.noimm cs ds' vs' _ _ _ (by simpa [immSl] using hn) h1

theorem ResV.noimm {w : World} : ∀ (rks : List RK) (ds : List DC) (vs : List Value) (φ im tp : List Nat), (rks.any fun r => immSl r.cells) = false → ResV w rks ds vs φ im tp → im = []
  | [], ds, vs, φ, im, tp, _, h => by simp only [ResV] at h; exact h.2.2.2.1
  | r :: rs, ds, vs, φ, im, tp, hn, h => by
    simp only [ResV] at h
    obtain ⟨d1, d2, v, vs', us, φ1, φ2, i1, i2, t1, t2, rfl, rfl, _, _, h1, h2, _, rfl, _⟩ := h
    simp only [List.any_cons, Bool.or_eq_false_iff] at hn
    rw [ResL.noimm _ _ _ _ _ _ hn.1 h1, ResV.noimm rs d2 vs' _ _ _ hn.2 h2]
    rfl

theorem evMs_ok (hc : Core w0 S st.get st.obj β φ a.tmps w) : ∀ (xs : List Operand) (ss : List SV), (evMs xs).val st.get st.obj = some ss → SVRL w (Av st.obj β) β ss (xs.map a.eval)
  | [], ss, h => by simp [evMs] at h; subst h; simp [SVRL]
  | x :: xs, ss, h => by
    simp only [evMs, M.val_bind, Option.bind_eq_some_iff, M.val_pure, Option.some.injEq] at h
    obtain ⟨s, h1, r, h2, rfl⟩ := h
    simp only [List.map_cons, SVRL]
    exact ⟨_, _, rfl, hc.ev h1, evMs_ok hc xs r h2⟩

theorem run_call {c : Call} {g : Nat} {fn : Func} (ho : o.op = .call c) (hg : c.callee = .value (.func g)) (hf : P.funcs[g]? = some fn) (hb : fn.body.isSome = true) (hn : (fn.name == "runtime.NumGoroutine") = false) :
    (execOp a.eval o).run P w = .ok (.enter g (c.args.map a.eval)) w := by
  have hb' : fn.body.isNone = false := by cases h : fn.body <;> simp_all
  simp only [execOp, ho, resolve, hg, Act.eval, Deferred.ofValue, Sem.run_bind, Sem.run_pure, Result.andThen_ok, invoke, callFunc, run_program, hf, hn, hb', Bool.false_eq_true, if_false]
  simp

theorem sound_call (hΓ : CtxHolds P Γ) {s : Sum} {g : Nat} (hs : lkS Γ g = some s) (hann : s.ann = false) (hpt : s.pt = none) (hms : s.ms = []) (hR : Rel w0 S st a w) {d : Nat} (hdst : o.dst = some d) (hd : DstOk st.n d) (hfr : e.ow ≠ [] → FreshAt st d) {c : Call} (ho : o.op = .call c) (hg : c.callee = .value (.func g)) {l : List SV}
    (hl : (evMs c.args.toList).val st.get st.obj = some l) (he : (callM Γ (some d) g l).val st.get st.obj = some e) (hok : e.ok = true) : Good P w0 S st o e a w := by
  unfold callM at he
  rw [hs] at he
  simp only [hann, cond_false, hpt, hms] at he
  cases h64 : Nat.blt (ownTotal s.rs) 64
  · simp [h64] at he
  simp only [h64, cond_true, M.val_bind, Option.bind_eq_some_iff] at he
  obtain ⟨r, hr, he⟩ := he
  cases hsm : (!(shares s) || metNodup r.2)
  · simp [hsm] at he
  simp only [hsm, cond_true, M.val_pure, Option.some.injEq] at he
  subst he
  have h64 : ownTotal s.rs < 64 := Nat.le_of_ble_eq_true h64
  have hH : Holds P g s := by have h0 := hΓ g s hs; unfold HoldsAny at h0; rw [hann, cond_false, hpt] at h0; simp only [hms] at h0; exact h0
  obtain ⟨⟨fn, hf, hb, hn⟩, hcalls⟩ := hH
  obtain ⟨β, φ, hc⟩ := hR.core
  obtain ⟨fp, hargs, hmet, hfav⟩ := argsM_ok hc s.ps l _ r (evMs_ok hc _ l hl) hr
  have hfplt := ArgsR.lt _ _ _ _ hargs
  intro Q
  unfold Oper.wp
  rw [run_call ho hg hf hb hn, Oper.upon_enter]
  have hvals : c.args.map a.eval = (c.args.toList.map a.eval).toArray := by rw [← Array.toList_map, Array.toArray_toList]
  rw [hvals]
  refine (hcalls w r.1 _ fp hargs hok).mono ?_
  rintro _ w' ⟨vs, φs, im, tp, rfl, hk, hres, hnd, hal, him⟩
  obtain ⟨N, n1, n2, n3, n4, n5, n6⟩ := resVals_ok (d := d) s.rs 0 _ vs φs im tp hres
  -- the rows that are met are written no more where the results may lie in them
  let M' : Met := bif shares s then r.2 else []
  have hM : MetOk st.obj M' ∧ metNodup M' = true := by
    cases hsh : shares s with
    | true =>
      have : M' = r.2 := by simp [M', hsh]
      rw [this]
      exact ⟨hmet, by simpa [hsh] using hsm⟩
    | false =>
      have : M' = [] := by simp [M', hsh]
      rw [this]
      exact ⟨by simp [MetOk], rfl⟩
  have hfz : (bif shares s then metFreeze r.2 else []) = metFreeze M' := by cases hsh : shares s <;> simp [M', hsh, metFreeze]
  have hc1 := hc.freezes M' hM.1 hM.2
  have hids : ∀ x ∈ N, x.id / 64 = d ∧ x.id ∈ N.map (·.id) := by
    intro x hx
    have hm : x.id ∈ N.map (·.id) := List.mem_map_of_mem hx
    refine ⟨?_, hm⟩
    rw [n2] at hm
    obtain ⟨j, hj, hj'⟩ := List.mem_map.1 hm
    rw [← hj']
    have := List.mem_range'_1.1 hj
    exact newId_div d j (by omega)
  have hidn : (N.map (·.id)).Nodup := by
    rw [n2]
    refine List.Pairwise.map _ ?_ (List.nodup_range' ..)
    intro x y hxy e
    unfold newId at e
    omega
  have hle := hR.kept.size
  have hw : ∀ b, b < w.heap.size → w'.heap[b]? = w.heap[b]? := fun b hb => hk.block b hb (fun h => h)
  have hcN := hc1.creates (N := N) hk.size hw hle ?_ n3 hidn (by rw [n4]; exact hnd) (by rw [n4]; exact hal)
  · have hval : ∀ x ∈ N, (β.setN N).val x.id = x.v := by
      intro x hx
      simp [Env.setN, lkN_some hx hidn]
    have himav : ∀ b ∈ im, ¬ Av (fun j => match lkN N j with | some x => some x.obj | none => fo (metFreeze M') st.obj j) (β.setN N) b := by
      rintro b hb (⟨j, oj, hj, hbj⟩ | hbar)
      case inr =>
        have hib := him b hb
        have hbw := (hc1.bar b hbar).1
        rcases hib.1 with hfpb | hbig
        · cases hsh : shares s with
          | false =>
            have : im = [] := ResV.noimm _ _ _ _ _ _ (by simpa [shares] using hsh) hres
            rw [this] at hb
            simp at hb
          | true =>
            have hM' : M' = r.2 := by simp [M', hsh]
            rcases hfav b hfpb with h3 | ⟨x, hx, hbx⟩
            · exact h3 (.inr hbar)
            · exact not_av_met hc hM.1 (by rw [hM']; exact hx) hbx (.inr hbar)
        · omega
      have hib := him b hb
      cases hlk : lkN N j with
      | some x =>
        simp only [hlk, Option.some.injEq] at hj
        subst hj
        have hx := (lkN_mem hlk).1
        refine hib.2 ?_
        rw [← n5]
        refine List.mem_flatMap.2 ⟨x, hx, ?_⟩
        obtain ⟨_, rfl⟩ := lkN_mem hlk
        rwa [x.tops_eq (by simp [Env.setN, hlk]) (by simp [Env.setN, hlk])] at hbj
      | none =>
        simp only [hlk] at hj
        have hbj' : b ∈ tops β j oj := by
          cases oj <;> simp only [tops, Env.setN, hlk] at hbj ⊢ <;> exact hbj
        have hblt := ((hc1.fresh j oj hj).2 b (tops_sub (hc1.objs j oj hj) b hbj')).2
        rcases hib.1 with hfpb | hbig
        · cases hsh : shares s with
          | false =>
            have : im = [] := ResV.noimm _ _ _ _ _ _ (by simpa [shares] using hsh) hres
            rw [this] at hb
            simp at hb
          | true =>
            have hM' : M' = r.2 := by simp [M', hsh]
            rcases hfav b hfpb with h3 | ⟨x, hx, hbx⟩
            · exact h3 (av_frozen (.inl ⟨j, oj, hj, hbj'⟩))
            · exact not_av_met hc hM.1 (by rw [hM']; exact hx) hbx (.inl ⟨j, oj, hj, hbj'⟩)
        · omega
    have hsvl := n6 _ (β.setN N) hval himav
    have hk' : Kept S w0 w' := ⟨hk.os.trans hR.kept.os, hk.tape.trans hR.kept.tape, hk.output.trans hR.kept.output, by have := hk.size; omega, fun k h1 h2 => (hw k (by omega)).trans (hR.kept.block k h1 h2)⟩
    refine ⟨pack vs, rfl, rel_put hR (fun d' h' => by rw [hdst] at h'; injection h' with h'; exact h' ▸ hd) hk' ⟨β.setN N, fun j => match lkN N j with | some x => x.blks | none => frozenφ φ M' j, ?_, ?_⟩⟩
    · have : fo ((resVals d 0 s.rs (s.fn r.1).2).2 ++ (bif shares s then metFreeze r.2 else [])) (fc none st.obj) = fun j => match lkN N j with | some x => some x.obj | none => fo (metFreeze M') st.obj j := by
        funext j
        rw [n1, hfz, fo_rows]
        rfl
      show Core w0 S st.get (fo ((resVals d 0 s.rs (s.fn r.1).2).2 ++ (bif shares s then metFreeze r.2 else [])) (fc none st.obj)) _ _ _ _
      rw [this]
      exact hcN
    · have : fo ((resVals d 0 s.rs (s.fn r.1).2).2 ++ (bif shares s then metFreeze r.2 else [])) (fc none st.obj) = fun j => match lkN N j with | some x => some x.obj | none => fo (metFreeze M') st.obj j := by
        funext j
        rw [n1, hfz, fo_rows]
        rfl
      show SVR w' (Av (fo ((resVals d 0 s.rs (s.fn r.1).2).2 ++ (bif shares s then metFreeze r.2 else [])) (fc none st.obj)) (β.setN N)) (β.setN N) (packSV (resVals d 0 s.rs (s.fn r.1).2).1) (pack vs)
      rw [this]
      generalize (resVals d 0 s.rs (s.fn r.1).2).1 = q at hsvl
      match q, vs, hsvl with
      | [], vs, hsvl =>
        simp only [SVRL] at hsvl
        subst hsvl
        simp only [packSV, pack, SVR]
        exact ⟨[], rfl, by simp [SVRL]⟩
      | [x], vs, hsvl =>
        simp only [SVRL] at hsvl
        obtain ⟨v, l', rfl, h1, rfl⟩ := hsvl
        exact h1
      | x :: y :: q, vs, hsvl =>
        have hsvl' := hsvl
        simp only [SVRL] at hsvl
        obtain ⟨v, l', rfl, h1, v2, l2, rfl, h2, h3⟩ := hsvl
        simp only [packSV, pack]
        unfold SVR
        exact ⟨v :: v2 :: l2, rfl, hsvl'⟩
  · intro x hx
    have h1 := (hids x hx).1
    have hfr := hfr (by
      show (resVals d 0 s.rs (s.fn r.1).2).2 ++ _ ≠ []
      rw [n1]
      intro h0
      rw [List.append_eq_nil_iff] at h0
      have : N = [] := by simpa [rowsOw] using h0.1
      rw [this] at hx
      simp at hx)
    refine ⟨?_, fun i hi => hfr.slot i _ hi h1, fun k ok hk' hi => ?_⟩
    · cases hn : fo (metFreeze M') st.obj x.id with
      | none => rfl
      | some ob =>
        rcases frozen_obj hn with h2 | ⟨e', r', rfl, y, hy, h2⟩
        · exact absurd h1 (hfr.obj _ ob h2).1
        · obtain ⟨_, h3, _⟩ := hM.1 y hy
          rw [h2] at h3
          exact absurd h1 (hfr.obj _ _ h3).1
    · rcases frozen_obj hk' with h2 | ⟨e', r', rfl, _⟩
      · exact (hfr.obj k ok h2).2 _ hi h1
      · simp [objIds] at hi

end

end Go.Proofs.YthpmalpdnnbkgaaGreat.Vm

/- The value machine: calls that write through parameters. Conditions: as each lemma says. -/
set_option linter.unusedVariables false
set_option linter.unusedSimpArgs false
namespace Go.Proofs.YthpmalpdnnbkgaaGreat.Vm

section
variable {P : Program} {Γ : Ctx} {w0 : World} {S : Own} {st : St} {o : Oper} {e : Eff} {a : Act} {w : World}
variable {f : Nat → SV} {h : Nat → Option VObj} {β : Env} {φ : Nat → List Nat} {tm : Array Value}

def muTops (β : Env) : MU → List Nat
  | .box id _ _ => [β.blk id]
  | .row id _ _ _ => (β.val id).ownBlock.toList
  | .deep id _ _ _ => (β.val id).ownBlock.toList ++ β.nb id
  | .non => []

/-- The objects that a call may turn are there. -/
def MuOk (h : Nat → Option VObj) : List MU → Prop
  | [] => True
  | .box id t cs :: l => (∃ cells, h id = some (.box t cells)) ∧ MuOk h l
  | .row id t e u :: l => (flatB e = true ∧ ∃ rows, h id = some (.row t e rows false u)) ∧ MuOk h l
  | .deep id t e ts :: l => (∃ rows, h id = some (.deep t e ts rows none)) ∧ MuOk h l
  | .non :: l => MuOk h l

theorem MuOk.append {U V : List MU} (hu : MuOk h U) (hv : MuOk h V) : MuOk h (U ++ V) := by
  induction U with
  | nil => exact hv
  | cons x l ih =>
    cases x <;> simp only [List.cons_append, MuOk] at hu ⊢
    · exact ⟨hu.1, ih hu.2⟩
    · exact ⟨hu.1, ih hu.2⟩
    · exact ⟨hu.1, ih hu.2⟩
    · exact ih hu

theorem rowCells_ok (hc : Core w0 S f h β φ tm w) : ∀ (cs : List CT) (ts : List TypeId) (ss : List SV) (us : List Value) (q : List DC × List MU), SVRL w (Av h β) β ss us → (rowCellsM cs ts ss).val f h = some q →
    RowsA w cs ts q.1 us (q.2.flatMap (muTops β)) ∧ MuOk h q.2
  | [], ts, ss, us, q, hs, hq => by
    cases ts with
    | nil =>
      cases ss with
      | nil =>
        simp only [rowCellsM, M.val_pure, Option.some.injEq] at hq
        subst hq
        simp only [SVRL] at hs
        exact ⟨⟨rfl, rfl, hs, rfl⟩, trivial⟩
      | cons s ss => simp [rowCellsM] at hq
    | cons t ts => simp [rowCellsM] at hq
  | .int k :: cs, ts, ss, us, q, hs, hq => by
    cases ss with
    | nil => simp [rowCellsM] at hq
    | cons s ss =>
      simp only [SVRL] at hs
      obtain ⟨v, us', rfl, h1, h2⟩ := hs
      simp only [rowCellsM, M.val_bind, Option.bind_eq_some_iff, M.val_pure, Option.some.injEq] at hq
      obtain ⟨q1, hq1, q2, hq2, rfl⟩ := hq
      obtain ⟨fp, hr, _⟩ := toDC_ok hc h1 hq1
      obtain ⟨k1, k2⟩ := rowCells_ok hc cs ts ss us' q2 h2 hq2
      refine ⟨?_, k2⟩
      simp only [RowsA]
      refine ⟨q1.1, q2.1, v, us', rfl, rfl, ?_, k1⟩
      simp only [RdC] at hr ⊢
      obtain ⟨n, a, b, c, _⟩ := hr
      exact ⟨n, a, b, c, trivial⟩
  | .bool :: cs, ts, ss, us, q, hs, hq => by
    cases ss with
    | nil => simp [rowCellsM] at hq
    | cons s ss =>
      simp only [SVRL] at hs
      obtain ⟨v, us', rfl, h1, h2⟩ := hs
      simp only [rowCellsM, M.val_bind, Option.bind_eq_some_iff, M.val_pure, Option.some.injEq] at hq
      obtain ⟨q1, hq1, q2, hq2, rfl⟩ := hq
      obtain ⟨fp, hr, _⟩ := toDC_ok hc h1 hq1
      obtain ⟨k1, k2⟩ := rowCells_ok hc cs ts ss us' q2 h2 hq2
      refine ⟨?_, k2⟩
      simp only [RowsA]
      refine ⟨q1.1, q2.1, v, us', rfl, rfl, ?_, k1⟩
      simp only [RdC] at hr ⊢
      obtain ⟨n, a, b, _⟩ := hr
      exact ⟨n, a, b, trivial⟩
  | .str :: cs, ts, ss, us, q, hs, hq => by
    cases ss with
    | nil => simp [rowCellsM] at hq
    | cons s ss =>
      simp only [SVRL] at hs
      obtain ⟨v, us', rfl, h1, h2⟩ := hs
      simp only [rowCellsM, M.val_bind, Option.bind_eq_some_iff, M.val_pure, Option.some.injEq] at hq
      obtain ⟨q1, hq1, q2, hq2, rfl⟩ := hq
      obtain ⟨fp, hr, _⟩ := toDC_ok hc h1 hq1
      obtain ⟨k1, k2⟩ := rowCells_ok hc cs ts ss us' q2 h2 hq2
      refine ⟨?_, k2⟩
      simp only [RowsA]
      refine ⟨q1.1, q2.1, v, us', rfl, rfl, ?_, k1⟩
      simp only [RdC] at hr ⊢
      obtain ⟨n, a, b, c, _⟩ := hr
      exact ⟨n, a, b, c, trivial⟩
  | .sl el :: cs, ts, ss, us, q, hs, hq => by
    cases ts with
    | nil => simp [rowCellsM] at hq
    | cons t ts =>
      cases ss with
      | nil => simp [rowCellsM] at hq
      | cons s ss =>
        simp only [SVRL] at hs
        obtain ⟨v, us', rfl, h1, h2⟩ := hs
        simp only [rowCellsM, M.val_bind, Option.bind_eq_some_iff, M.val_pure, Option.some.injEq] at hq
        obtain ⟨q1, hq1, q2, hq2, rfl⟩ := hq
        obtain ⟨k1, k2⟩ := rowCells_ok hc cs ts ss us' q2 h2 hq2
        cases s with
        | nil =>
          simp only at hq1
          cases hfl : flatB el
          · simp [hfl] at hq1
          · simp only [hfl, cond_true, M.val_pure, Option.some.injEq] at hq1
            subst hq1
            simp only [SVR] at h1
            subst h1
            refine ⟨?_, k2⟩
            simp only [RowsA]
            exact ⟨t, ts, [], q2.1, _, us', [], [], q2.2.flatMap (muTops β), rfl, rfl, rfl, hfl, ⟨by simp, .inl ⟨rfl, rfl, rfl⟩⟩, ⟨rfl, by simp⟩, k1, by simp [muTops, Value.ownBlock]⟩
        | own id =>
          simp only [M.val_obj, Option.bind_eq_some_iff] at hq1
          obtain ⟨ob, hob, hq1⟩ := hq1
          cases ob with
          | row t' e' r fz u =>
            cases fz with
            | true => simp at hq1
            | false =>
              simp only at hq1
              cases hcond : Nat.beq t' t && ctsBeq e' el && flatB el
              · simp [hcond] at hq1
              · simp only [hcond, cond_true, M.val_pure, Option.some.injEq] at hq1
                subst hq1
                simp only [Bool.and_eq_true] at hcond
                have ht := Nat.eq_of_beq_eq_true hcond.1.1
                have he := ctsBeq_eq _ _ hcond.1.2
                subst ht
                subst he
                simp only [SVR] at h1
                obtain ⟨vals, fps, g1, g2, _, _⟩ := hc.objs id _ hob
                refine ⟨?_, ⟨⟨hcond.2, r, hob⟩, k2⟩⟩
                simp only [RowsA]
                refine ⟨t', ts, r, q2.1, v, us', vals, fps, q2.2.flatMap (muTops β), rfl, rfl, rfl, hcond.2, by rw [h1.1]; exact g1, g2, k1, ?_⟩
                simp only [List.flatMap_cons, muTops, h1.1]
          | box _ _ => simp at hq1
          | imm _ _ => simp at hq1
          | deep _ _ _ _ _ => simp at hq1
        | _ => simp at hq1

theorem CellA.one {t : TT} {e : List CT} {rows : List (List DC)} {v : Value} {mb : List Nat} (h : CellA w t e rows v mb) : v.oneCell' = true := by
  cases t with
  | flat t =>
    obtain ⟨_, _, _, h1, _⟩ := h
    exact h1.one
  | deep t its =>
    obtain ⟨_, _, h1, _⟩ := h
    exact h1.one

theorem argCells_ok (hc : Core w0 S f h β φ tm w) : ∀ (cs : List CT) (ts : List TT) (ss : List SV) (us : List Value) (q : List DC × List MU), SVRL w (Av h β) β ss us → (argCellsM cs ts ss).val f h = some q →
    ArgA w cs ts q.1 us (q.2.flatMap (muTops β)) ∧ MuOk h q.2
  | [], ts, ss, us, q, hs, hq => by
    cases ts with
    | nil =>
      cases ss with
      | nil =>
        simp only [argCellsM, M.val_pure, Option.some.injEq] at hq
        subst hq
        simp only [SVRL] at hs
        exact ⟨⟨rfl, rfl, hs, rfl⟩, trivial⟩
      | cons s ss => simp [argCellsM] at hq
    | cons t ts => simp [argCellsM] at hq
  | .int k :: cs, ts, ss, us, q, hs, hq => by
    cases ss with
    | nil => simp [argCellsM] at hq
    | cons s ss =>
      simp only [SVRL] at hs
      obtain ⟨v, us', rfl, h1, h2⟩ := hs
      simp only [argCellsM, M.val_bind, Option.bind_eq_some_iff, M.val_pure, Option.some.injEq] at hq
      obtain ⟨q1, hq1, q2, hq2, rfl⟩ := hq
      obtain ⟨fp, hr, _⟩ := toDC_ok hc h1 hq1
      obtain ⟨k1, k2⟩ := argCells_ok hc cs ts ss us' q2 h2 hq2
      refine ⟨?_, k2⟩
      simp only [ArgA]
      refine ⟨q1.1, q2.1, v, us', rfl, rfl, ?_, k1⟩
      simp only [RdC] at hr ⊢
      obtain ⟨n, a, b, c, _⟩ := hr
      exact ⟨n, a, b, c, trivial⟩
  | .bool :: cs, ts, ss, us, q, hs, hq => by
    cases ss with
    | nil => simp [argCellsM] at hq
    | cons s ss =>
      simp only [SVRL] at hs
      obtain ⟨v, us', rfl, h1, h2⟩ := hs
      simp only [argCellsM, M.val_bind, Option.bind_eq_some_iff, M.val_pure, Option.some.injEq] at hq
      obtain ⟨q1, hq1, q2, hq2, rfl⟩ := hq
      obtain ⟨fp, hr, _⟩ := toDC_ok hc h1 hq1
      obtain ⟨k1, k2⟩ := argCells_ok hc cs ts ss us' q2 h2 hq2
      refine ⟨?_, k2⟩
      simp only [ArgA]
      refine ⟨q1.1, q2.1, v, us', rfl, rfl, ?_, k1⟩
      simp only [RdC] at hr ⊢
      obtain ⟨n, a, b, _⟩ := hr
      exact ⟨n, a, b, trivial⟩
  | .str :: cs, ts, ss, us, q, hs, hq => by
    cases ss with
    | nil => simp [argCellsM] at hq
    | cons s ss =>
      simp only [SVRL] at hs
      obtain ⟨v, us', rfl, h1, h2⟩ := hs
      simp only [argCellsM, M.val_bind, Option.bind_eq_some_iff, M.val_pure, Option.some.injEq] at hq
      obtain ⟨q1, hq1, q2, hq2, rfl⟩ := hq
      obtain ⟨fp, hr, _⟩ := toDC_ok hc h1 hq1
      obtain ⟨k1, k2⟩ := argCells_ok hc cs ts ss us' q2 h2 hq2
      refine ⟨?_, k2⟩
      simp only [ArgA]
      refine ⟨q1.1, q2.1, v, us', rfl, rfl, ?_, k1⟩
      simp only [RdC] at hr ⊢
      obtain ⟨n, a, b, c, _⟩ := hr
      exact ⟨n, a, b, c, trivial⟩
  | .sl el :: cs, ts, ss, us, q, hs, hq => by
    cases ts with
    | nil => simp [argCellsM] at hq
    | cons t ts =>
      cases ss with
      | nil => cases t <;> simp [argCellsM] at hq
      | cons s ss =>
        simp only [SVRL] at hs
        obtain ⟨v, us', rfl, h1, h2⟩ := hs
        cases t with
        | flat t =>
          simp only [argCellsM, M.val_bind, Option.bind_eq_some_iff, M.val_pure, Option.some.injEq] at hq
          obtain ⟨q1, hq1, q2, hq2, rfl⟩ := hq
          obtain ⟨k1, k2⟩ := argCells_ok hc cs ts ss us' q2 h2 hq2
          cases s with
          | nil =>
            simp only at hq1
            cases hfl : flatB el
            · simp [hfl] at hq1
            · simp only [hfl, cond_true, M.val_pure, Option.some.injEq] at hq1
              subst hq1
              simp only [SVR] at h1
              subst h1
              refine ⟨?_, k2⟩
              simp only [ArgA]
              exact ⟨.flat t, ts, [], q2.1, _, us', [], q2.2.flatMap (muTops β), rfl, rfl, rfl, ⟨hfl, [], [], ⟨by simp, .inl ⟨rfl, rfl, rfl⟩⟩, ⟨rfl, by simp⟩, by simp [Value.ownBlock]⟩, k1, by simp [muTops]⟩
          | own id =>
            simp only [M.val_obj, Option.bind_eq_some_iff] at hq1
            obtain ⟨ob, hob, hq1⟩ := hq1
            cases ob with
            | row t' e' r fz u =>
              cases fz with
              | true => simp at hq1
              | false =>
                simp only at hq1
                cases hcond : Nat.beq t' t && ctsBeq e' el && flatB el
                · simp [hcond] at hq1
                · simp only [hcond, cond_true, M.val_pure, Option.some.injEq] at hq1
                  subst hq1
                  simp only [Bool.and_eq_true] at hcond
                  have ht := Nat.eq_of_beq_eq_true hcond.1.1
                  have he := ctsBeq_eq _ _ hcond.1.2
                  subst ht
                  subst he
                  simp only [SVR] at h1
                  obtain ⟨vals, fps, g1, g2, _, _⟩ := hc.objs id _ hob
                  refine ⟨?_, ⟨⟨hcond.2, r, hob⟩, k2⟩⟩
                  simp only [ArgA]
                  refine ⟨.flat t', ts, r, q2.1, v, us', v.ownBlock.toList, q2.2.flatMap (muTops β), rfl, rfl, rfl, ⟨hcond.2, vals, fps, by rw [h1.1]; exact g1, g2, rfl⟩, k1, ?_⟩
                  simp only [List.flatMap_cons, muTops, h1.1]
            | box _ _ => simp at hq1
            | imm _ _ => simp at hq1
            | deep _ _ _ _ _ => simp at hq1
          | _ => simp at hq1
        | deep t its =>
          simp only [argCellsM, M.val_bind, Option.bind_eq_some_iff, M.val_pure, Option.some.injEq] at hq
          obtain ⟨q1, hq1, q2, hq2, rfl⟩ := hq
          obtain ⟨k1, k2⟩ := argCells_ok hc cs ts ss us' q2 h2 hq2
          cases s with
          | nil =>
            simp only [M.val_pure, Option.some.injEq] at hq1
            subst hq1
            simp only [SVR] at h1
            subst h1
            refine ⟨?_, k2⟩
            simp only [ArgA]
            exact ⟨.deep t its, ts, [], q2.1, _, us', [], q2.2.flatMap (muTops β), rfl, rfl, rfl, ⟨[], [], ⟨by simp, .inl ⟨rfl, rfl, rfl⟩⟩, ⟨rfl, by simp⟩, by simp [Value.ownBlock]⟩, k1, by simp [muTops]⟩
          | own id =>
            simp only [M.val_obj, Option.bind_eq_some_iff] at hq1
            obtain ⟨ob, hob, hq1⟩ := hq1
            cases ob with
            | deep t' e' ts' r hl =>
              cases hl with
              | some _ => simp at hq1
              | none =>
                simp only at hq1
                cases hcond : Nat.beq t' t && ctsBeq e' el && tsBeq ts' its
                · simp [hcond] at hq1
                · simp only [hcond, cond_true, M.val_pure, Option.some.injEq] at hq1
                  subst hq1
                  simp only [Bool.and_eq_true] at hcond
                  have ht := Nat.eq_of_beq_eq_true hcond.1.1
                  have he := ctsBeq_eq _ _ hcond.1.2
                  have hts := tsBeq_eq _ _ hcond.2
                  subst ht
                  subst he
                  subst hts
                  simp only [SVR] at h1
                  obtain ⟨vals, mbs, g1, g2, g3, _⟩ := hc.objs id _ hob
                  refine ⟨?_, ⟨⟨r, hob⟩, k2⟩⟩
                  simp only [ArgA]
                  refine ⟨.deep t' ts', ts, r, q2.1, v, us', v.ownBlock.toList ++ mbs.flatten, q2.2.flatMap (muTops β), rfl, rfl, rfl, ⟨vals, mbs, by rw [h1.1]; exact g1, g2, rfl⟩, k1, ?_⟩
                  simp only [List.flatMap_cons, muTops, h1.1, g3]
            | box _ _ => simp at hq1
            | imm _ _ => simp at hq1
            | row _ _ _ _ _ => simp at hq1
          | _ => simp at hq1

theorem argsMM_ok (hc : Core w0 S f h β φ tm w) : ∀ (ks : List AK) (ms : List (Option MK)) (ss : List SV) (vs : List Value) (q : List DC × Met × List MU), SVRL w (Av h β) β ss vs → (argsMM ks ms ss).val f h = some q →
    ∃ fp, MArgs w ks ms q.1 vs fp (q.2.2.flatMap (muTops β)) ∧ MetOk h q.2.1 ∧ MuOk h q.2.2 ∧ ∀ b ∈ fp, (¬ Av h β b) ∨ ∃ x ∈ q.2.1, b ∈ topsAt h β x.1
  | [], ms, ss, vs, q, hs, hq => by
    cases ms with
    | nil =>
      cases ss with
      | nil =>
        simp only [argsMM, M.val_pure, Option.some.injEq] at hq
        subst hq
        simp only [SVRL] at hs
        exact ⟨[], ⟨rfl, rfl, hs, rfl, rfl⟩, by simp [MetOk], trivial, by simp⟩
      | cons s ss => simp [argsMM] at hq
    | cons m ms => simp [argsMM] at hq
  | k :: ks, ms, ss, vs, q, hs, hq => by
    cases ms with
    | nil => simp [argsMM] at hq
    | cons m ms =>
      cases ss with
      | nil => cases m with
        | none => simp [argsMM] at hq
        | some m => cases m <;> simp [argsMM] at hq
      | cons s ss =>
        simp only [SVRL] at hs
        obtain ⟨v, l, rfl, h1, h2⟩ := hs
        cases m with
        | none =>
          simp only [argsMM, M.val_bind, Option.bind_eq_some_iff, M.val_pure, Option.some.injEq] at hq
          obtain ⟨q1, hq1, q2, hq2, rfl⟩ := hq
          obtain ⟨fp2, ha2, hm2, hu2, hav2⟩ := argsMM_ok hc ks ms ss l q2 h2 hq2
          have hq1' : (argsM [k] [s]).val f h = some (q1.1 ++ [], q1.2.1 ++ []) := by
            simp only [argsM, M.val_bind, Option.bind_eq_some_iff, M.val_pure, Option.some.injEq]
            exact ⟨q1, hq1, ([], []), rfl, rfl⟩
          have hsing : SVRL w (Av h β) β [s] [v] := by simp only [SVRL]; exact ⟨v, [], rfl, h1, rfl⟩
          obtain ⟨fp1, ha1, hm1, hav1⟩ := argsM_ok hc [k] [s] [v] _ hsing hq1'
          simp only [List.append_nil] at ha1 hm1 hav1
          obtain ⟨d1, d2, v', vs', f1, f2, e1, e2, ha1, ⟨rfl, rfl, rfl⟩, rfl⟩ := ha1
          simp only [List.append_nil] at e1 hav1
          simp only [List.cons.injEq, and_true] at e2
          subst e2
          subst e1
          refine ⟨f1 ++ fp2, ⟨none, ms, q1.1, q2.1, v, l, f1, fp2, [], q2.2.2.flatMap (muTops β), rfl, rfl, rfl, ⟨ha1, rfl⟩, ha2, rfl, rfl⟩, metOk_append hm1 hm2, hu2, ?_⟩
          intro b hb
          rcases List.mem_append.1 hb with hb | hb
          · rcases hav1 b hb with h3 | ⟨x, hx, h3⟩
            · exact .inl h3
            · exact .inr ⟨x, List.mem_append_left _ hx, h3⟩
          · rcases hav2 b hb with h3 | ⟨x, hx, h3⟩
            · exact .inl h3
            · exact .inr ⟨x, List.mem_append_right _ hx, h3⟩
        | some m =>
          cases m with
          | box t =>
            cases s with
            | ptr id off =>
              cases off with
              | succ off => simp [argsMM] at hq
              | zero =>
                simp only [argsMM, M.val_obj, Option.bind_eq_some_iff] at hq
                obtain ⟨ob, hob, hq⟩ := hq
                cases ob with
                | box t' cells =>
                  simp only at hq
                  cases htt : Nat.beq t' t
                  · simp [htt] at hq
                  · have htt' := Nat.eq_of_beq_eq_true htt
                    subst htt'
                    simp only [htt, cond_true, M.val_bind, Option.bind_eq_some_iff] at hq
                    obtain ⟨q1, hq1, hq⟩ := hq
                    cases hem : q1.2.1.isEmpty
                    · simp [hem] at hq
                    · simp only [hem, cond_true, M.val_bind, Option.bind_eq_some_iff, M.val_pure, Option.some.injEq] at hq
                      obtain ⟨q2, hq2, rfl⟩ := hq
                      obtain ⟨fp2, ha2, hm2, hu2, hav2⟩ := argsMM_ok hc ks ms ss l q2 h2 hq2
                      obtain ⟨us, g1, g2, g3, _⟩ := hc.objs id _ hob
                      obtain ⟨fp1, hr, hm1, hav1, _⟩ := toDCs_ok hc k.cts cells us q1 g2 hq1
                      have hl := SVRL.length _ _ g2
                      have hl2 := toDCs_length _ _ _ hq1
                      simp only [SVR] at h1
                      have hme : q1.2.1 = [] := List.isEmpty_iff.1 hem
                      refine ⟨fp1 ++ fp2, ⟨some (.box t'), ms, q1.1, q2.1, v, l, fp1, fp2, [β.blk id], q2.2.2.flatMap (muTops β), rfl, rfl, rfl, ⟨β.blk id, us, h1, g1, g3, hr, by omega, rfl⟩, ha2, rfl, by simp [muTops]⟩, hm2, ⟨⟨cells, hob⟩, hu2⟩, ?_⟩
                      intro b hb
                      rcases List.mem_append.1 hb with hb | hb
                      · rcases hav1 b hb with h3 | ⟨x, hx, h3⟩
                        · exact .inl h3
                        · rw [hme] at hx
                          simp at hx
                      · exact hav2 b hb
                | row _ _ _ _ _ => simp at hq
                | imm _ _ => simp at hq
                | deep _ _ _ _ _ => simp at hq
            | _ => simp [argsMM] at hq
          | rows ts =>
            simp only [argsMM, M.val_bind, Option.bind_eq_some_iff, M.val_pure, Option.some.injEq] at hq
            obtain ⟨q1, hq1, q2, hq2, rfl⟩ := hq
            obtain ⟨fp2, ha2, hm2, hu2, hav2⟩ := argsMM_ok hc ks ms ss l q2 h2 hq2
            have one : MArg w k (some (.rows ts)) q1.1 v [] (q1.2.flatMap (muTops β)) ∧ MuOk h q1.2 := by
              cases hk : k.agg with
              | true =>
                cases s with
                | agg cs =>
                  simp only [hk] at hq1
                  simp only [SVR] at h1
                  obtain ⟨us, rfl, hus, hone⟩ := h1
                  obtain ⟨r1, r2⟩ := argCells_ok hc k.cts ts cs us q1 hus hq1
                  exact ⟨⟨us, by rw [hk]; rfl, hone, r1, rfl⟩, r2⟩
                | _ => simp [hk] at hq1
              | false =>
                have hq1' : (argCellsM k.cts ts [s]).val f h = some q1 := by
                  cases s <;> simp only [hk] at hq1 <;> first | exact hq1 | (simp at hq1)
                have hsing : SVRL w (Av h β) β [s] [v] := by simp only [SVRL]; exact ⟨v, [], rfl, h1, rfl⟩
                obtain ⟨r1, r2⟩ := argCells_ok hc k.cts ts [s] [v] q1 hsing hq1'
                have hone : v.oneCell' = true := by
                  cases hcts : k.cts with
                  | nil => rw [hcts] at r1; simp only [ArgA] at r1; simp at r1
                  | cons c cs =>
                    rw [hcts] at r1
                    cases c with
                    | sl el =>
                      simp only [ArgA] at r1
                      obtain ⟨t, ts', rows, ds', v', us', m1, mb', _, _, e0, h3, _⟩ := r1
                      injection e0 with e0
                      subst e0
                      exact h3.one
                    | int _ => simp only [ArgA] at r1; obtain ⟨d, ds', v', us', _, e0, h3, _⟩ := r1; injection e0 with e0; subst e0; exact h3.one
                    | bool => simp only [ArgA] at r1; obtain ⟨d, ds', v', us', _, e0, h3, _⟩ := r1; injection e0 with e0; subst e0; exact h3.one
                    | str => simp only [ArgA] at r1; obtain ⟨d, ds', v', us', _, e0, h3, _⟩ := r1; injection e0 with e0; subst e0; exact h3.one
                exact ⟨⟨[v], by rw [hk]; exact ⟨rfl, hone⟩, by simpa using hone, r1, rfl⟩, r2⟩
            refine ⟨fp2, ⟨some (.rows ts), ms, q1.1, q2.1, v, l, [], fp2, q1.2.flatMap (muTops β), q2.2.2.flatMap (muTops β), rfl, rfl, rfl, one.1, ha2, rfl, by simp⟩, hm2, one.2.append hu2, hav2⟩

end
end Go.Proofs.YthpmalpdnnbkgaaGreat.Vm

/- The value machine: what calls leave that write through parameters. Conditions: as each lemma says. -/
set_option linter.unusedVariables false
set_option linter.unusedSimpArgs false
namespace Go.Proofs.YthpmalpdnnbkgaaGreat.Vm

section
variable {P : Program} {Γ : Ctx} {w0 : World} {S : Own} {st : St} {o : Oper} {e : Eff} {a : Act} {w w' : World}
variable {f : Nat → SV} {h : Nat → Option VObj} {β : Env} {φ : Nat → List Nat} {tm : Array Value}

def muObjs : List MU → List DC → List (Nat × VObj)
  | [], _ => []
  | .box id t cs :: l, ds => (id, .box t (ofDCs cs ds 0)) :: muObjs l (ds.drop cs.length)
  | .row id t e u :: l, ds => (id, .row t e (ds.headD default).asRows false u) :: muObjs l ds.tail
  | .deep id t e ts :: l, ds => (id, .deep t e ts (ds.headD default).asRows none) :: muObjs l ds.tail
  | .non :: l, ds => muObjs l ds.tail

theorem muOw_eq : ∀ (U : List MU) (ds : List DC), muOw U ds = (muObjs U ds).map fun x => (x.1, some x.2)
  | [], _ => rfl
  | .box id t cs :: l, ds => by simp only [muOw, muObjs, List.map_cons, muOw_eq l]
  | .row id t e u :: l, ds => by simp only [muOw, muObjs, List.map_cons, muOw_eq l]
  | .deep id t e ts :: l, ds => by simp only [muOw, muObjs, List.map_cons, muOw_eq l]
  | .non :: l, ds => by simp only [muOw, muObjs, muOw_eq l]

theorem muObjs_ids : ∀ (U : List MU) (ds : List DC), (muObjs U ds).map (·.1) = muIds U
  | [], _ => rfl
  | .box id t cs :: l, ds => by simp only [muObjs, muIds, List.map_cons, muObjs_ids l]
  | .row id t e u :: l, ds => by simp only [muObjs, muIds, List.map_cons, muObjs_ids l]
  | .deep id t e ts :: l, ds => by simp only [muObjs, muIds, List.map_cons, muObjs_ids l]
  | .non :: l, ds => by simp only [muObjs, muIds, muObjs_ids l]

def muLen : List MU → Nat
  | [] => 0
  | .box _ _ cs :: l => cs.length + muLen l
  | .row _ _ _ _ :: l => 1 + muLen l
  | .deep _ _ _ _ :: l => 1 + muLen l
  | .non :: l => 1 + muLen l

theorem ofDCs_app : ∀ (cs : List CT) (d1 d2 : List DC) (k : Nat), k + cs.length ≤ d1.length → ofDCs cs (d1 ++ d2) k = ofDCs cs d1 k
  | [], _, _, _, _ => rfl
  | c :: cs, d1, d2, k, h => by
    simp only [ofDCs]
    simp only [List.length_cons] at h
    rw [ofDCs_app cs d1 d2 (k + 1) (by omega)]
    congr 2
    simp only [List.getD_eq_getElem?_getD]
    rw [List.getElem?_append_left (by omega)]

theorem muObjs_append : ∀ (U V : List MU) (d1 d2 : List DC), muLen U = d1.length → muObjs (U ++ V) (d1 ++ d2) = muObjs U d1 ++ muObjs V d2
  | [], V, d1, d2, hl => by
    have : d1 = [] := List.length_eq_zero_iff.1 hl.symm
    subst this
    rfl
  | .box id t cs :: l, V, d1, d2, hl => by
    simp only [muLen] at hl
    simp only [List.cons_append, muObjs]
    rw [ofDCs_app _ _ _ _ (by omega), List.drop_append_of_le_length (by omega), muObjs_append l V _ d2 (by simp; omega)]
  | .row id t e u :: l, V, d1, d2, hl => by
    simp only [muLen] at hl
    cases d1 with
    | nil => simp at hl
    | cons d d1 =>
      simp only [List.cons_append, muObjs, List.headD_cons, List.tail_cons]
      rw [muObjs_append l V d1 d2 (by simp at hl; omega)]
  | .deep id t e ts :: l, V, d1, d2, hl => by
    simp only [muLen] at hl
    cases d1 with
    | nil => simp at hl
    | cons d d1 =>
      simp only [List.cons_append, muObjs, List.headD_cons, List.tail_cons]
      rw [muObjs_append l V d1 d2 (by simp at hl; omega)]
  | .non :: l, V, d1, d2, hl => by
    simp only [muLen] at hl
    cases d1 with
    | nil => simp at hl
    | cons d d1 =>
      simp only [List.cons_append, muObjs, List.tail_cons]
      rw [muObjs_append l V d1 d2 (by simp at hl; omega)]

theorem RdL_flat : ∀ (cs : List CT) (r : List DC) (g : Nat → Option Value) (fp : List Nat), flatB cs = true → RdL w cs r g fp → fp = []
  | [], r, g, fp, _, h => by simp only [RdL] at h; exact h.2
  | c :: cs, r, g, fp, hf, h => by
    simp only [RdL] at h
    obtain ⟨d, r', v, f1, f2, rfl, _, h1, h2, rfl⟩ := h
    cases c with
    | sl e => simp [flatB] at hf
    | int k =>
      simp only [RdC] at h1
      obtain ⟨_, _, _, _, rfl⟩ := h1
      rw [RdL_flat cs r' _ f2 (by simpa [flatB] using hf) h2]
      rfl
    | bool =>
      simp only [RdC] at h1
      obtain ⟨_, _, _, rfl⟩ := h1
      rw [RdL_flat cs r' _ f2 (by simpa [flatB] using hf) h2]
      rfl
    | str =>
      simp only [RdC] at h1
      obtain ⟨_, _, _, _, rfl⟩ := h1
      rw [RdL_flat cs r' _ f2 (by simpa [flatB] using hf) h2]
      rfl

theorem InR_flat {e : List CT} {rows : List (List DC)} {vals : List Value} {fps : List (List Nat)} (hf : flatB e = true) (h : InR w e rows vals fps) : fps.flatten = [] := by
  rw [List.flatten_eq_nil_iff]
  intro l hl
  obtain ⟨i, hi, rfl⟩ := List.getElem_of_mem hl
  have hi' : i < rows.length := by have := h.1; omega
  exact RdL_flat e _ _ _ hf (h.2 i rows[i] fps[i] (by simp) (by simp))

theorem svIds_ofDCs : ∀ (cs : List CT) (ds : List DC) (k : Nat), svIdsL (ofDCs cs ds k) = []
  | [], _, _ => rfl
  | c :: cs, ds, k => by
    simp only [ofDCs, svIdsL, svIds_ofDCs cs ds (k + 1), List.append_nil]
    cases c <;> rfl

def TurnGood (h : Nat → Option VObj) (β : Env) (w' : World) (im : List Nat) (x : Turn) : Prop :=
  (∃ o, h x.id = some o) ∧ objIds x.obj = [] ∧ ∀ (av : Nat → Prop) (β' : Env), β'.val x.id = β.val x.id → β'.blk x.id = β.blk x.id → β'.nb x.id = x.nb → (∀ b ∈ im, ¬ av b) → ObjR w' av β' x.id x.obj x.blks

/-- What a call leaves of what it may turn. -/
def Outs (h : Nat → Option VObj) (β : Env) (w' : World) (im : List Nat) (U : List MU) (od : List DC) (mb : List Nat) : Prop :=
  muLen U = od.length ∧ ∃ T : List Turn, T.map (fun x => (x.id, x.obj)) = muObjs U od ∧ T.flatMap Turn.blks = mb ∧ ∀ x ∈ T, TurnGood h β w' im x

theorem Outs.append {im : List Nat} {U V : List MU} {d1 d2 : List DC} {m1 m2 : List Nat} (h1 : Outs h β w' im U d1 m1) (h2 : Outs h β w' im V d2 m2) : Outs h β w' im (U ++ V) (d1 ++ d2) (m1 ++ m2) := by
  obtain ⟨l1, T1, e1, b1, g1⟩ := h1
  obtain ⟨l2, T2, e2, b2, g2⟩ := h2
  have : ∀ (U V : List MU), muLen (U ++ V) = muLen U + muLen V := by
    intro U V
    induction U with
    | nil => simp [muLen]
    | cons x l ih => cases x <;> simp only [List.cons_append, muLen, ih] <;> omega
  refine ⟨by simp only [this, List.length_append, l1, l2], T1 ++ T2, by rw [List.map_append, e1, e2, muObjs_append _ _ _ _ l1], by simp [b1, b2], fun x hx => ?_⟩
  rcases List.mem_append.1 hx with hx | hx
  · exact g1 x hx
  · exact g2 x hx

theorem CellA.nil_blks {t : TT} {e : List CT} {rows : List (List DC)} {mb : List Nat} (h : CellA w t e rows (.slice none 0 0) mb) : mb = [] := by
  cases t with
  | flat t =>
    obtain ⟨_, _, _, _, _, rfl⟩ := h
    rfl
  | deep t its =>
    obtain ⟨vals, mbs, h1, h2, rfl⟩ := h
    rcases h1.2 with ⟨_, h0, _⟩ | ⟨g, cap, cur, hv, _⟩
    · have : mbs = [] := List.length_eq_zero_iff.1 (by rw [h2.1, h0])
      subst this
      rfl
    · cases hv

theorem row_outs (hc : Core w0 S f h β φ tm w) {im : List Nat} : ∀ (cs : List CT) (ts : List TT) (ss : List SV) (us : List Value) (q : List DC × List MU) (od : List DC) (mb : List Nat), SVRL w (Av h β) β ss us → (argCellsM cs ts ss).val f h = some q → OutA w' cs ts od us mb →
    Outs h β w' im q.2 od mb
  | [], ts, ss, us, q, od, mb, hs, hq, ho => by
    cases ts with
    | nil =>
      cases ss with
      | nil =>
        simp only [argCellsM, M.val_pure, Option.some.injEq] at hq
        subst hq
        simp only [OutA] at ho
        rw [ho.1, ho.2.2]
        exact ⟨rfl, [], rfl, rfl, by simp⟩
      | cons s ss => simp [argCellsM] at hq
    | cons t ts => simp [argCellsM] at hq
  | .int k :: cs, ts, ss, us, q, od, mb, hs, hq, ho => by
    cases ss with
    | nil => simp [argCellsM] at hq
    | cons s ss =>
      simp only [SVRL] at hs
      obtain ⟨v, us', rfl, h1, h2⟩ := hs
      simp only [argCellsM, M.val_bind, Option.bind_eq_some_iff, M.val_pure, Option.some.injEq] at hq
      obtain ⟨q1, hq1, q2, hq2, rfl⟩ := hq
      simp only [OutA] at ho
      obtain ⟨v', us1, e0, ho⟩ := ho
      simp only [List.cons.injEq] at e0
      obtain ⟨rfl, rfl⟩ := e0
      exact row_outs hc cs ts ss us' q2 od mb h2 hq2 ho
  | .bool :: cs, ts, ss, us, q, od, mb, hs, hq, ho => by
    cases ss with
    | nil => simp [argCellsM] at hq
    | cons s ss =>
      simp only [SVRL] at hs
      obtain ⟨v, us', rfl, h1, h2⟩ := hs
      simp only [argCellsM, M.val_bind, Option.bind_eq_some_iff, M.val_pure, Option.some.injEq] at hq
      obtain ⟨q1, hq1, q2, hq2, rfl⟩ := hq
      simp only [OutA] at ho
      obtain ⟨v', us1, e0, ho⟩ := ho
      simp only [List.cons.injEq] at e0
      obtain ⟨rfl, rfl⟩ := e0
      exact row_outs hc cs ts ss us' q2 od mb h2 hq2 ho
  | .str :: cs, ts, ss, us, q, od, mb, hs, hq, ho => by
    cases ss with
    | nil => simp [argCellsM] at hq
    | cons s ss =>
      simp only [SVRL] at hs
      obtain ⟨v, us', rfl, h1, h2⟩ := hs
      simp only [argCellsM, M.val_bind, Option.bind_eq_some_iff, M.val_pure, Option.some.injEq] at hq
      obtain ⟨q1, hq1, q2, hq2, rfl⟩ := hq
      simp only [OutA] at ho
      obtain ⟨v', us1, e0, ho⟩ := ho
      simp only [List.cons.injEq] at e0
      obtain ⟨rfl, rfl⟩ := e0
      exact row_outs hc cs ts ss us' q2 od mb h2 hq2 ho
  | .sl el :: cs, ts, ss, us, q, od, mb, hs, hq, ho => by
    cases ts with
    | nil => simp [argCellsM] at hq
    | cons t ts =>
      cases ss with
      | nil => cases t <;> simp [argCellsM] at hq
      | cons s ss =>
        simp only [SVRL] at hs
        obtain ⟨v, us', rfl, h1, h2⟩ := hs
        simp only [OutA] at ho
        obtain ⟨t1, ts1, rows, od', v1, us1, m1, mb', e1, rfl, e2, o1, o3, rfl⟩ := ho
        simp only [List.cons.injEq] at e1 e2
        obtain ⟨rfl, rfl⟩ := e1
        obtain ⟨rfl, rfl⟩ := e2
        have pack : ∀ (q1 : DC × MU) (q2 : List DC × List MU), Outs h β w' im [q1.2] [.sl rows] m1 → (argCellsM cs ts ss).val f h = some q2 → Outs h β w' im (q1.2 :: q2.2) (.sl rows :: od') (m1 ++ mb') := by
          intro q1 q2 k1 hq2
          exact k1.append (row_outs hc cs ts ss us' q2 od' mb' h2 hq2 o3)
        have none_ : v = .slice none 0 0 → Outs h β w' im [.non] [.sl rows] m1 := by
          rintro rfl
          exact ⟨rfl, [], rfl, by rw [o1.nil_blks]; rfl, by simp⟩
        cases t with
        | flat t =>
          simp only [argCellsM, M.val_bind, Option.bind_eq_some_iff, M.val_pure, Option.some.injEq] at hq
          obtain ⟨q1, hq1, q2, hq2, rfl⟩ := hq
          refine pack q1 q2 ?_ hq2
          cases s with
          | nil =>
            simp only at hq1
            cases hfl : flatB el
            · simp [hfl] at hq1
            · simp only [hfl, cond_true, M.val_pure, Option.some.injEq] at hq1
              subst hq1
              simp only [SVR] at h1
              exact none_ h1
          | own id =>
            simp only [M.val_obj, Option.bind_eq_some_iff] at hq1
            obtain ⟨ob, hob, hq1⟩ := hq1
            cases ob with
            | row t' e' r fz u =>
              cases fz with
              | true => simp at hq1
              | false =>
                simp only at hq1
                cases hcond : Nat.beq t' t && ctsBeq e' el && flatB el
                · simp [hcond] at hq1
                · simp only [hcond, cond_true, M.val_pure, Option.some.injEq] at hq1
                  subst hq1
                  simp only [Bool.and_eq_true] at hcond
                  have ht := Nat.eq_of_beq_eq_true hcond.1.1
                  have he := ctsBeq_eq _ _ hcond.1.2
                  subst ht
                  subst he
                  simp only [SVR] at h1
                  obtain ⟨hfl, vals, fps, p1, p2, rfl⟩ := o1
                  refine ⟨rfl, [⟨id, .row t' e' rows false u, [], v.ownBlock.toList⟩], rfl, by simp, fun x hx => ?_⟩
                  rw [List.mem_singleton] at hx
                  subst hx
                  refine ⟨⟨_, hob⟩, rfl, fun av β' hv hb hn him => ?_⟩
                  simp only at hv hb hn ⊢
                  refine ⟨vals, fps, by rw [hv, ← h1.1]; exact p1, p2, by rw [InR_flat hfl p2]; simp, ?_⟩
                  rw [hv, ← h1.1, InR_flat hfl p2]
                  cases u <;> simp
            | box _ _ => simp at hq1
            | imm _ _ => simp at hq1
            | deep _ _ _ _ _ => simp at hq1
          | _ => simp at hq1
        | deep t its =>
          simp only [argCellsM, M.val_bind, Option.bind_eq_some_iff, M.val_pure, Option.some.injEq] at hq
          obtain ⟨q1, hq1, q2, hq2, rfl⟩ := hq
          refine pack q1 q2 ?_ hq2
          cases s with
          | nil =>
            simp only [M.val_pure, Option.some.injEq] at hq1
            subst hq1
            simp only [SVR] at h1
            exact none_ h1
          | own id =>
            simp only [M.val_obj, Option.bind_eq_some_iff] at hq1
            obtain ⟨ob, hob, hq1⟩ := hq1
            cases ob with
            | deep t' e' ts' r hl =>
              cases hl with
              | some _ => simp at hq1
              | none =>
                simp only at hq1
                cases hcond : Nat.beq t' t && ctsBeq e' el && tsBeq ts' its
                · simp [hcond] at hq1
                · simp only [hcond, cond_true, M.val_pure, Option.some.injEq] at hq1
                  subst hq1
                  simp only [Bool.and_eq_true] at hcond
                  have ht := Nat.eq_of_beq_eq_true hcond.1.1
                  have he := ctsBeq_eq _ _ hcond.1.2
                  have hts := tsBeq_eq _ _ hcond.2
                  subst ht
                  subst he
                  subst hts
                  simp only [SVR] at h1
                  obtain ⟨vals, mbs, p1, p2, rfl⟩ := o1
                  refine ⟨rfl, [⟨id, .deep t' e' ts' rows none, mbs.flatten, v.ownBlock.toList ++ mbs.flatten⟩], rfl, by simp, fun x hx => ?_⟩
                  rw [List.mem_singleton] at hx
                  subst hx
                  refine ⟨⟨_, hob⟩, rfl, fun av β' hv hb hn him => ?_⟩
                  simp only at hv hb hn ⊢
                  exact ⟨vals, mbs, by rw [hv, ← h1.1]; exact p1, p2, hn, by rw [hv, ← h1.1]⟩
            | box _ _ => simp at hq1
            | imm _ _ => simp at hq1
            | row _ _ _ _ _ => simp at hq1
          | _ => simp at hq1

theorem mu_outs (hc : Core w0 S f h β φ tm w) {im0 : List Nat} : ∀ (ks : List AK) (ms : List (Option MK)) (ss : List SV) (vs : List Value) (q : List DC × Met × List MU) (od : List DC) (im mb : List Nat), SVRL w (Av h β) β ss vs → (argsMM ks ms ss).val f h = some q → MOuts w' ks ms od vs im mb → (∀ b ∈ im, b ∈ im0) →
    Outs h β w' im0 q.2.2 od mb
  | [], ms, ss, vs, q, od, im, mb, hs, hq, ho, _ => by
    cases ms with
    | nil =>
      cases ss with
      | nil =>
        simp only [argsMM, M.val_pure, Option.some.injEq] at hq
        subst hq
        simp only [MOuts] at ho
        rw [ho.1, ho.2.2.2]
        exact ⟨rfl, [], rfl, rfl, by simp⟩
      | cons s ss => simp [argsMM] at hq
    | cons m ms => simp [argsMM] at hq
  | k :: ks, ms, ss, vs, q, od, im, mb, hs, hq, ho, him => by
    simp only [MOuts] at ho
    obtain ⟨m, ms, d1, d2, v, l, i1, i2, b1, b2, rfl, rfl, rfl, o1, o2, rfl, rfl⟩ := ho
    cases ss with
    | nil => cases m with
      | none => simp [argsMM] at hq
      | some m => cases m <;> simp [argsMM] at hq
    | cons s ss =>
      simp only [SVRL] at hs
      obtain ⟨v0, l0, e0, h1, h2⟩ := hs
      simp only [List.cons.injEq] at e0
      obtain ⟨rfl, rfl⟩ := e0
      have him2 : ∀ b ∈ i2, b ∈ im0 := fun b hb => him b (List.mem_append_right _ hb)
      cases m with
      | none =>
        simp only [argsMM, M.val_bind, Option.bind_eq_some_iff, M.val_pure, Option.some.injEq] at hq
        obtain ⟨q1, hq1, q2, hq2, rfl⟩ := hq
        simp only [MOut] at o1
        obtain ⟨rfl, rfl, rfl⟩ := o1
        exact mu_outs hc ks ms ss l q2 d2 i2 b2 h2 hq2 o2 him2
      | some m =>
        cases m with
        | box t =>
          cases s with
          | ptr id off =>
            cases off with
            | succ off => simp [argsMM] at hq
            | zero =>
              simp only [argsMM, M.val_obj, Option.bind_eq_some_iff] at hq
              obtain ⟨ob, hob, hq⟩ := hq
              cases ob with
              | box t' cells =>
                simp only at hq
                cases htt : Nat.beq t' t
                · simp [htt] at hq
                · have htt' := Nat.eq_of_beq_eq_true htt
                  subst htt'
                  simp only [htt, cond_true, M.val_bind, Option.bind_eq_some_iff] at hq
                  obtain ⟨q1, hq1, hq⟩ := hq
                  cases hem : q1.2.1.isEmpty
                  · simp [hem] at hq
                  · simp only [hem, cond_true, M.val_bind, Option.bind_eq_some_iff, M.val_pure, Option.some.injEq] at hq
                    obtain ⟨q2, hq2, rfl⟩ := hq
                    have k2 := mu_outs hc ks ms ss l q2 d2 i2 b2 h2 hq2 o2 him2
                    obtain ⟨us0, g1, g2, g3, g4⟩ := hc.objs id _ hob
                    simp only [MOut] at o1
                    obtain ⟨g, us, ev, ow1, ow2, ow3, ow4, rfl⟩ := o1
                    simp only [SVR] at h1
                    have eg : g = β.blk id := by
                      rw [h1] at ev
                      simp only [Value.pointer.injEq, Option.some.injEq, Addr.mk.injEq, and_true] at ev
                      exact ev.symm
                    subst eg
                    have hd1 : d1.length = k.cts.length := RdL.length _ _ _ _ ow3
                    refine Outs.append (U := [.box id t' k.cts]) ⟨by simp only [muLen, hd1]; omega, [⟨id, .box t' (ofDCs k.cts d1 0), [], [β.blk id]⟩], rfl, by simp, fun x hx => ?_⟩ k2
                    rw [List.mem_singleton] at hx
                    subst hx
                    refine ⟨⟨_, hob⟩, svIds_ofDCs _ _ _, fun av β' hv hb hn him' => ?_⟩
                    simp only at hv hb hn ⊢
                    obtain ⟨vs', l1, l2, l3, l4⟩ := RdL.svs (β := β') (av := av) ow3 (fun b hb => him' b (him b (List.mem_append_left _ hb))) k.cts.length 0 (by omega)
                    have ee : vs' = us := by
                      apply List.ext_getElem?
                      intro j
                      by_cases hj : j < vs'.length
                      · have := l2 j vs'[j] (by simp)
                        simp only [Nat.zero_add] at this
                        rw [this]
                        simp
                      · rw [List.getElem?_eq_none (by omega), List.getElem?_eq_none (by omega)]
                    subst ee
                    simp only [List.drop_zero, List.take_length] at l3
                    exact ⟨vs', by rw [hb]; exact ow1, l3, ow2, by rw [hb]⟩
              | row _ _ _ _ _ => simp at hq
              | imm _ _ => simp at hq
              | deep _ _ _ _ _ => simp at hq
          | _ => simp [argsMM] at hq
        | rows ts =>
          simp only [argsMM, M.val_bind, Option.bind_eq_some_iff, M.val_pure, Option.some.injEq] at hq
          obtain ⟨q1, hq1, q2, hq2, rfl⟩ := hq
          have k2 := mu_outs hc ks ms ss l q2 d2 i2 b2 h2 hq2 o2 him2
          simp only [MOut] at o1
          obtain ⟨us, ev, o1, rfl⟩ := o1
          have one : Outs h β w' im0 q1.2 d1 b1 := by
            cases hk : k.agg with
            | true =>
              cases s with
              | agg cs =>
                simp only [hk] at hq1
                simp only [SVR] at h1
                obtain ⟨us', rfl, hus, hone⟩ := h1
                rw [hk] at ev
                simp only [cond_true, Value.agg.injEq] at ev
                have : us' = us := by simpa using congrArg Array.toList ev
                subst this
                exact row_outs hc k.cts ts cs us' q1 d1 b1 hus hq1 o1
              | _ => simp [hk] at hq1
            | false =>
              have hq1' : (argCellsM k.cts ts [s]).val f h = some q1 := by
                cases s <;> simp only [hk] at hq1 <;> first | exact hq1 | (simp at hq1)
              rw [hk] at ev
              simp only [cond_false] at ev
              subst ev
              have hsing : SVRL w (Av h β) β [s] [v] := by simp only [SVRL]; exact ⟨v, [], rfl, h1, rfl⟩
              exact row_outs hc k.cts ts [s] [v] q1 d1 b1 hsing hq1' o1
          exact one.append k2

end
end Go.Proofs.YthpmalpdnnbkgaaGreat.Vm

/- The value machine: calls that write through parameters are sound. Conditions: the contracts of the context hold. -/
set_option linter.unusedVariables false
set_option linter.unusedSimpArgs false
namespace Go.Proofs.YthpmalpdnnbkgaaGreat.Vm

section
variable {P : Program} {Γ : Ctx} {w0 : World} {S : Own} {st : St} {o : Oper} {e : Eff} {a : Act} {w w' : World}
variable {f : Nat → SV} {h : Nat → Option VObj} {β : Env} {φ : Nat → List Nat} {tm : Array Value}

theorem fo_turns (T : List Turn) (l : List (Nat × Option VObj)) (j : Nat) : fo (T.map (fun x => (x.id, some x.obj)) ++ l) h j = match lkT T j with | some x => some x.obj | none => fo l h j := by
  induction T with
  | nil => rfl
  | cons y N ih =>
    simp only [List.map_cons, List.cons_append, fo, upd, lkT]
    split
    · rfl
    · exact ih

theorem metNot_ne {i : Nat} : ∀ {m : Met}, metNot i m = true → ∀ x ∈ m, x.1 ≠ i
  | [], _, x, hx => by simp at hx
  | (k, y) :: l, hm, x, hx => by
    simp only [metNot, Bool.and_eq_true, Bool.not_eq_true'] at hm
    rcases List.mem_cons.1 hx with rfl | hx
    · exact Nat.ne_of_beq_eq_false hm.1
    · exact metNot_ne hm.2 x hx

theorem fo_unmet {i : Nat} : ∀ {m : Met}, metNot i m = true → fo (metFreeze m) h i = h i
  | [], _ => rfl
  | (k, e', r, u) :: l, hm => by
    simp only [metNot, Bool.and_eq_true, Bool.not_eq_true'] at hm
    simp only [metFreeze, fo, upd]
    rw [if_neg (fun he => Nat.ne_of_beq_eq_false hm.1 he.symm)]
    exact fo_unmet hm.2

theorem frozen_unmet {i : Nat} : ∀ {m : Met}, metNot i m = true → frozenφ φ m i = φ i
  | [], _ => rfl
  | x :: l, hm => by
    obtain ⟨k, e', r, u⟩ := x
    simp only [metNot, Bool.and_eq_true, Bool.not_eq_true'] at hm
    simp only [frozenφ, upd]
    rw [if_neg (fun he => Nat.ne_of_beq_eq_false hm.1 he.symm)]
    exact frozen_unmet hm.2

/-- The blocks of what may be turned belong to objects. -/
theorem mu_top : ∀ {U : List MU}, MuOk h U → ∀ b ∈ U.flatMap (muTops β), ∃ id ∈ muIds U, ∃ ob, h id = some ob ∧ b ∈ tops β id ob
  | [], _, b, hb => by simp at hb
  | .box id t cs :: l, hm, b, hb => by
    simp only [MuOk] at hm
    obtain ⟨⟨cells, hc⟩, hm⟩ := hm
    rw [List.flatMap_cons, List.mem_append] at hb
    rcases hb with hb | hb
    · exact ⟨id, List.mem_cons_self .., _, hc, hb⟩
    · obtain ⟨i, hi, ob, h1, h2⟩ := mu_top hm b hb
      exact ⟨i, List.mem_cons_of_mem _ hi, ob, h1, h2⟩
  | .row id t e u :: l, hm, b, hb => by
    simp only [MuOk] at hm
    obtain ⟨⟨_, rows, hc⟩, hm⟩ := hm
    rw [List.flatMap_cons, List.mem_append] at hb
    rcases hb with hb | hb
    · exact ⟨id, List.mem_cons_self .., _, hc, hb⟩
    · obtain ⟨i, hi, ob, h1, h2⟩ := mu_top hm b hb
      exact ⟨i, List.mem_cons_of_mem _ hi, ob, h1, h2⟩
  | .deep id t e ts :: l, hm, b, hb => by
    simp only [MuOk] at hm
    obtain ⟨⟨rows, hc⟩, hm⟩ := hm
    rw [List.flatMap_cons, List.mem_append] at hb
    rcases hb with hb | hb
    · exact ⟨id, List.mem_cons_self .., _, hc, hb⟩
    · obtain ⟨i, hi, ob, h1, h2⟩ := mu_top hm b hb
      exact ⟨i, List.mem_cons_of_mem _ hi, ob, h1, h2⟩
  | .non :: l, hm, b, hb => by
    rw [List.flatMap_cons] at hb
    exact mu_top (U := l) hm b (by simpa [muTops] using hb)

theorem nodupB_cons {i : Nat} {l : List Nat} (hn : nodupB (i :: l) = true) : i ∉ l ∧ nodupB l = true := by
  simp only [nodupB, Bool.and_eq_true, Bool.not_eq_true', List.any_eq_false] at hn
  refine ⟨fun hi => ?_, hn.2⟩
  exact hn.1 i hi (Nat.beq_refl i)

theorem mu_nodup (hc : Core w0 S f h β φ tm w) : ∀ {U : List MU}, MuOk h U → nodupB (muIds U) = true → (U.flatMap (muTops β)).Nodup
  | [], _, _ => by simp
  | .box id t cs :: l, hm, hn => by
    simp only [MuOk] at hm
    obtain ⟨⟨cells, ho⟩, hm⟩ := hm
    obtain ⟨h1, h2⟩ := nodupB_cons hn
    rw [List.flatMap_cons, List.nodup_append]
    refine ⟨by simp [muTops], mu_nodup hc hm h2, ?_⟩
    intro b hb b' hb' hbb
    subst hbb
    obtain ⟨i, hi, ob, ho', hb2⟩ := mu_top (β := β) hm b hb'
    exact hc.sep id i _ ob (fun he => h1 (he ▸ hi)) ho ho' b (tops_sub (hc.objs _ _ ho) b hb) (tops_sub (hc.objs _ _ ho') b hb2)
  | .row id t e u :: l, hm, hn => by
    simp only [MuOk] at hm
    obtain ⟨⟨_, rows, ho⟩, hm⟩ := hm
    obtain ⟨h1, h2⟩ := nodupB_cons hn
    rw [List.flatMap_cons, List.nodup_append]
    refine ⟨?_, mu_nodup hc hm h2, ?_⟩
    · simp only [muTops]
      cases (β.val id).ownBlock <;> simp
    · intro b hb b' hb' hbb
      subst hbb
      obtain ⟨i, hi, ob, ho', hb2⟩ := mu_top (β := β) hm b hb'
      exact hc.sep id i _ ob (fun he => h1 (he ▸ hi)) ho ho' b (tops_sub (hc.objs _ _ ho) b hb) (tops_sub (hc.objs _ _ ho') b hb2)
  | .deep id t e ts :: l, hm, hn => by
    simp only [MuOk] at hm
    obtain ⟨⟨rows, ho⟩, hm⟩ := hm
    obtain ⟨h1, h2⟩ := nodupB_cons hn
    rw [List.flatMap_cons, List.nodup_append]
    refine ⟨?_, mu_nodup hc hm h2, ?_⟩
    · obtain ⟨vals, mbs, _, _, g3, g4⟩ := hc.objs _ _ ho
      have := (hc.fresh _ _ ho).1
      rw [g4] at this
      simpa only [muTops, g3] using this
    · intro b hb b' hb' hbb
      subst hbb
      obtain ⟨i, hi, ob, ho', hb2⟩ := mu_top (β := β) hm b hb'
      exact hc.sep id i _ ob (fun he => h1 (he ▸ hi)) ho ho' b (tops_sub (hc.objs _ _ ho) b hb) (tops_sub (hc.objs _ _ ho') b hb2)
  | .non :: l, hm, hn => by
    rw [List.flatMap_cons]
    simpa [muTops] using mu_nodup hc (U := l) hm hn

theorem resCells_app {d : Nat} : ∀ (rcs : List RC) (k : Nat) (r1 r2 : List DC), rcs.length ≤ r1.length → resCells d k rcs (r1 ++ r2) = resCells d k rcs r1
  | [], _, _, _, _ => rfl
  | .imm c :: cs, k, r1, r2, hl => by
    cases r1 with
    | nil => simp at hl
    | cons x r1 =>
      simp only [List.cons_append, resCells, List.headD_cons, List.tail_cons]
      rw [resCells_app cs k r1 r2 (by simpa using hl)]
  | .own t e :: cs, k, r1, r2, hl => by
    cases r1 with
    | nil => simp at hl
    | cons x r1 =>
      simp only [List.cons_append, resCells, List.headD_cons, List.tail_cons]
      rw [resCells_app cs (k + 1) r1 r2 (by simpa using hl)]
  | .deep t e ts :: cs, k, r1, r2, hl => by
    cases r1 with
    | nil => simp at hl
    | cons x r1 =>
      simp only [List.cons_append, resCells, List.headD_cons, List.tail_cons]
      rw [resCells_app cs (k + 1) r1 r2 (by simpa using hl)]

theorem resVals_app {d : Nat} : ∀ (rks : List RK) (k : Nat) (r1 r2 : List DC), r1.length = resCount rks → resVals d k rks (r1 ++ r2) = resVals d k rks r1
  | [], _, _, _, _ => rfl
  | r :: rs, k, r1, r2, hl => by
    simp only [resCount] at hl
    simp only [resVals]
    rw [List.take_append_of_le_length (by omega), List.drop_append_of_le_length (by omega), resVals_app rs _ _ r2 (by simp; omega)]

end
end Go.Proofs.YthpmalpdnnbkgaaGreat.Vm

/- The value machine: calls that write through parameters are sound. Conditions: the contracts of the context hold. -/
set_option linter.unusedVariables false
set_option linter.unusedSimpArgs false
namespace Go.Proofs.YthpmalpdnnbkgaaGreat.Vm

section
variable {P : Program} {Γ : Ctx} {w0 : World} {S : Own} {st : St} {o : Oper} {e : Eff} {a : Act} {w w' : World}
variable {f : Nat → SV} {h : Nat → Option VObj} {β : Env} {φ : Nat → List Nat} {tm : Array Value}

theorem sound_callM (hΓ : CtxHolds P Γ) {s : Sum} {g : Nat} (hs : lkS Γ g = some s) (hann : s.ann = false) (hpt : s.pt = none) (hms : s.ms ≠ []) (hR : Rel w0 S st a w) (hd : ∀ d, o.dst = some d → DstOk st.n d) (hfr : ∀ d, o.dst = some d → e.ow ≠ [] → FreshAt st d)
    {l : List SV} {us : List Value} (hent : ∀ fn, P.funcs[g]? = some fn → fn.body.isSome = true → (fn.name == "runtime.NumGoroutine") = false → (execOp a.eval o).run P w = .ok (.enter g us.toArray) w)
    (hl : ∀ β φ, Core w0 S st.get st.obj β φ a.tmps w → SVRL w (Av st.obj β) β l us) (he : (callMM s o.dst l).val st.get st.obj = some e) (hok : e.ok = true) : Good P w0 S st o e a w := by
  have hH : HoldsM P g s := by
    have h0 := hΓ g s hs
    unfold HoldsAny at h0
    rw [hann, cond_false, hpt] at h0
    simp only at h0
    split at h0
    · rename_i hm
      exact absurd hm hms
    · exact h0
  unfold callMM at he
  cases hcond : Nat.blt (ownTotal s.rs) 64 && !(shares s) && (o.dst.isSome || s.rs.isEmpty)
  · simp [hcond] at he
  simp only [hcond, cond_true, M.val_bind, Option.bind_eq_some_iff] at he
  obtain ⟨r, hr, he⟩ := he
  cases hc2 : metNodup r.2.1 && nodupB (muIds r.2.2) && (muIds r.2.2).all (fun i => metNot i r.2.1)
  · simp [hc2] at he
  simp only [hc2, cond_true, M.val_pure, Option.some.injEq] at he
  subst he
  simp only [Bool.and_eq_true, Bool.not_eq_true', List.all_eq_true] at hcond hc2
  obtain ⟨⟨h64, hsh⟩, hdr⟩ := hcond
  obtain ⟨⟨hmn, hun⟩, hum⟩ := hc2
  have h64 : ownTotal s.rs < 64 := Nat.le_of_ble_eq_true h64
  obtain ⟨⟨fn, hf, hb, hn⟩, hcalls⟩ := hH
  obtain ⟨β, φ, hc⟩ := hR.core
  obtain ⟨fp, hargs, hmet, hmu, hfav⟩ := argsMM_ok hc s.ps s.ms l _ r (hl β φ hc) hr
  have hmbN := mu_nodup hc hmu hun
  have hmbF : ∀ b ∈ r.2.2.flatMap (muTops β), b ∉ fp := by
    intro b hb hbf
    obtain ⟨id, hid, ob, hob, hbt⟩ := mu_top (β := β) hmu b hb
    rcases hfav b hbf with h3 | ⟨x, hx, hbx⟩
    · exact h3 (.inl ⟨id, ob, hob, hbt⟩)
    · obtain ⟨_, hx', _⟩ := hmet x hx
      rw [topsAt_eq hx'] at hbx
      have hne : x.1 ≠ id := metNot_ne (hum id hid) x hx
      exact hc.sep x.1 id _ ob hne hx' hob b (tops_sub (hc.objs _ _ hx') b hbx) (tops_sub (hc.objs _ _ hob) b hbt)
  intro Q
  unfold Oper.wp
  rw [hent fn hf hb hn, Oper.upon_enter]
  refine (hcalls w r.1 _ fp _ hargs hmbN hmbF hok).mono ?_
  rintro _ w' ⟨vs, φs, im, tp, im2, rd, od, ψ, rfl, hfn, hrd, hk, hres, hnd, hal, houts, hψn, hψ, him2⟩
  have him0 : im = [] := ResV.noimm _ _ _ _ _ _ (by simpa [shares] using hsh) hres
  have hdrop : (s.fn r.1).2.drop (resCount s.rs) = od := by rw [hfn, ← hrd, List.drop_left]
  have hrv : resVals (o.dst.getD 0) 0 s.rs (s.fn r.1).2 = resVals (o.dst.getD 0) 0 s.rs rd := by rw [hfn, resVals_app _ _ _ _ hrd]
  obtain ⟨N, n1, n2, n3, n4, n5, n6⟩ := resVals_ok (d := o.dst.getD 0) s.rs 0 _ vs φs im tp hres
  obtain ⟨_, T, hT, hTb, hgood⟩ := mu_outs (w' := w') hc s.ps s.ms l _ r od im2 ψ (hl β φ hc) hr houts (fun b hb => hb)
  have hTi : T.map Turn.id = muIds r.2.2 := by
    rw [← muObjs_ids r.2.2 od, ← hT, List.map_map]
    rfl
  have hc1 := hc.freezes r.2.1 hmet hmn
  have hNdst : N ≠ [] → ∃ d, o.dst = some d := by
    intro hne
    cases hdst : o.dst with
    | some d => exact ⟨d, rfl⟩
    | none =>
      rw [hdst] at hdr
      simp only [Option.isSome_none, Bool.false_or] at hdr
      have hrs : s.rs = [] := List.isEmpty_iff.1 hdr
      rw [hrs] at n2
      simp only [ownTotal, List.range'_zero, List.map_nil, List.map_eq_nil_iff] at n2
      exact absurd n2 hne
  have hids : ∀ x ∈ N, x.id / 64 = o.dst.getD 0 ∧ x.id ∈ N.map (·.id) := by
    intro x hx
    have hm : x.id ∈ N.map (·.id) := List.mem_map_of_mem hx
    refine ⟨?_, hm⟩
    rw [n2] at hm
    obtain ⟨j, hj, hj'⟩ := List.mem_map.1 hm
    rw [← hj']
    have := List.mem_range'_1.1 hj
    exact newId_div _ j (by omega)
  have hidn : (N.map (·.id)).Nodup := by
    rw [n2]
    refine List.Pairwise.map _ ?_ (List.nodup_range' ..)
    intro x y hxy e
    unfold newId at e
    omega
  have hle := hR.kept.size
  have hUids : ∀ x ∈ T, x.id ∈ muIds r.2.2 := by
    intro x hx
    rw [← hTi]
    exact List.mem_map_of_mem hx
  have hmbav : ∀ b ∈ r.2.2.flatMap (muTops β), Av st.obj β b := by
    intro b hb
    obtain ⟨id, hid, ob, hob, hbt⟩ := mu_top (β := β) hmu b hb
    exact .inl ⟨id, ob, hob, hbt⟩
  have hval : ∀ x ∈ N, (β.setNT N T).val x.id = x.v := by
    intro x hx
    simp [Env.setNT, lkN_some hx hidn]
  let h' : Nat → Option VObj := actH N T (fo (metFreeze r.2.1) st.obj)
  have himav : ∀ b ∈ im2, ¬ Av h' (β.setNT N T) b := by
    rintro b hb (⟨j, oj, hj, hbj⟩ | hbar)
    case inr =>
      have hib := him2 b hb
      have hbw := (hc1.bar b hbar).1
      rcases hib.1 with hfpb | hbig
      · rcases hfav b hfpb with h3 | ⟨x, hx, hbx⟩
        · exact h3 (.inr hbar)
        · exact not_av_met hc hmet hx hbx (.inr hbar)
      · omega
    have hib := him2 b hb
    cases hlk : lkN N j with
    | some x =>
      simp only [h', actH, hlk, Option.some.injEq] at hj
      subst hj
      have hx := (lkN_mem hlk).1
      refine hib.2.1 ?_
      rw [← n5]
      refine List.mem_flatMap.2 ⟨x, hx, ?_⟩
      obtain ⟨_, rfl⟩ := lkN_mem hlk
      rwa [x.tops_eq (by simp [Env.setNT, hlk]) (by simp [Env.setNT, hlk])] at hbj
    | none =>
      simp only [h', actH, hlk] at hj
      cases hu : lkT T j with
      | some x =>
        simp only [hu, Option.some.injEq] at hj
        subst hj
        obtain ⟨hxT, rfl⟩ := lkT_mem hu
        have h1 : b ∈ x.blks := by
          have hobj := (hgood x hxT).2.2 (fun _ => False) (β.setNT N T) (by simp [Env.setNT, hlk]) rfl (by simp [Env.setNT, hlk, hu]) (fun _ _ h => h)
          exact tops_sub hobj b hbj
        exact hib.2.2 (by rw [← hTb]; exact List.mem_flatMap.2 ⟨x, hxT, h1⟩)
      | none =>
        simp only [hu] at hj
        have hbj' : b ∈ tops β j oj := by
          cases oj <;> simp only [tops, Env.setNT, hlk, hu] at hbj ⊢ <;> exact hbj
        have hblt := ((hc1.fresh j oj hj).2 b (tops_sub (hc1.objs j oj hj) b hbj')).2
        rcases hib.1 with hfpb | hbig
        · rcases hfav b hfpb with h3 | ⟨x, hx, hbx⟩
          · exact h3 (av_frozen (.inl ⟨j, oj, hj, hbj'⟩))
          · exact not_av_met hc hmet hx hbx (.inl ⟨j, oj, hj, hbj'⟩)
        · omega
  have hcN := hc1.acts (N := N) (U := T) (im := im2) (mb := r.2.2.flatMap (muTops β)) hk.size hle ?_ ?_ ?_ ?_ (by rw [hTb]; exact hψn) (by rw [hTb, n4]; exact hψ) himav ?_ n3 (by rw [n4]; exact hnd) (by rw [n4]; exact hal)
  · have hsvl := n6 (Av h' (β.setNT N T)) (β.setNT N T) hval (by rw [him0]; simp)
    have hk' : Kept S w0 w' := by
      refine ⟨hk.os.trans hR.kept.os, hk.tape.trans hR.kept.tape, hk.output.trans hR.kept.output, by have := hk.size; omega, fun k h1 h2 => ?_⟩
      refine (hk.block k (by omega) (fun hkm => ?_)).trans (hR.kept.block k h1 h2)
      obtain ⟨id, hid, ob, hob, hbt⟩ := mu_top (β := β) hmu k hkm
      rcases ((hc.fresh id ob hob).2 k (tops_sub (hc.objs _ _ hob) k hbt)).1 with h3 | h3
      · omega
      · exact h2 h3
    have hfo : fo ((resVals (o.dst.getD 0) 0 s.rs (s.fn r.1).2).2 ++ (muOw r.2.2 ((s.fn r.1).2.drop (resCount s.rs)) ++ metFreeze r.2.1)) (fc none st.obj) = h' := by
      funext j
      have : ((muObjs r.2.2 od).map fun x => (x.1, some x.2)) = T.map fun x => (x.id, some x.obj) := by
        rw [← hT, List.map_map]
        rfl
      rw [hrv, hdrop, n1, muOw_eq, this, fo_rows, fo_turns]
      rfl
    refine ⟨pack vs, rfl, rel_put hR hd hk' ⟨β.setNT N T, actφ N T (frozenφ φ r.2.1), ?_, ?_⟩⟩
    · show Core w0 S st.get (fo ((resVals (o.dst.getD 0) 0 s.rs (s.fn r.1).2).2 ++ (muOw r.2.2 ((s.fn r.1).2.drop (resCount s.rs)) ++ metFreeze r.2.1)) (fc none st.obj)) _ _ _ _
      rw [hfo]
      exact hcN
    · show SVR w' (Av (fo ((resVals (o.dst.getD 0) 0 s.rs (s.fn r.1).2).2 ++ (muOw r.2.2 ((s.fn r.1).2.drop (resCount s.rs)) ++ metFreeze r.2.1)) (fc none st.obj)) (β.setNT N T)) (β.setNT N T) (packSV (resVals (o.dst.getD 0) 0 s.rs (s.fn r.1).2).1) (pack vs)
      rw [hfo, hrv]
      generalize (resVals (o.dst.getD 0) 0 s.rs rd).1 = q at hsvl
      match q, vs, hsvl with
      | [], vs, hsvl =>
        simp only [SVRL] at hsvl
        subst hsvl
        simp only [packSV, pack, SVR]
        exact ⟨[], rfl, by simp [SVRL]⟩
      | [x], vs, hsvl =>
        simp only [SVRL] at hsvl
        obtain ⟨v, l', rfl, h1, rfl⟩ := hsvl
        exact h1
      | x :: y :: q, vs, hsvl =>
        have hsvl' := hsvl
        simp only [SVRL] at hsvl
        obtain ⟨v, l', rfl, h1, v2, l2, rfl, h2, h3⟩ := hsvl
        simp only [packSV, pack]
        unfold SVR
        exact ⟨v :: v2 :: l2, rfl, hsvl'⟩
  · intro b hb
    obtain ⟨id, hid, ob, hob, hbt⟩ := mu_top (β := β) hmu b hb
    rw [← hTi] at hid
    obtain ⟨x, hx, rfl⟩ := List.mem_map.1 hid
    exact ⟨x, hx, ob, by rw [fo_unmet (hum _ (hUids x hx))]; exact hob, hbt⟩
  · exact fun b hb hnb => hk.block b hb hnb
  · intro x hx
    obtain ⟨⟨ob, h1⟩, h2, _⟩ := hgood x hx
    exact ⟨⟨ob, by rw [fo_unmet (hum _ (hUids x hx))]; exact h1⟩, h2⟩
  · exact fun x hx => (hgood x hx).2.2
  · intro x hx
    have h1 := (hids x hx).1
    obtain ⟨d, hdst⟩ := hNdst (fun h0 => by rw [h0] at hx; simp at hx)
    have hfr := hfr d hdst (by
      show (resVals (o.dst.getD 0) 0 s.rs (s.fn r.1).2).2 ++ _ ≠ []
      rw [hrv, n1]
      intro h0
      rw [List.append_eq_nil_iff] at h0
      have : N = [] := by simpa [rowsOw] using h0.1
      rw [this] at hx
      simp at hx)
    rw [hdst] at h1
    simp only [Option.getD_some] at h1
    refine ⟨?_, fun i hi => hfr.slot i _ hi h1, fun k ok hk' hi => ?_⟩
    · cases hn : fo (metFreeze r.2.1) st.obj x.id with
      | none => rfl
      | some ob =>
        rcases frozen_obj hn with h2 | ⟨e', r', rfl, y, hy, h2⟩
        · exact absurd h1 (hfr.obj _ ob h2).1
        · obtain ⟨_, h3, _⟩ := hmet y hy
          rw [h2] at h3
          exact absurd h1 (hfr.obj _ _ h3).1
    · rcases frozen_obj hk' with h2 | ⟨e', r', rfl, _⟩
      · exact (hfr.obj k ok h2).2 _ hi h1
      · simp [objIds] at hi

end
end Go.Proofs.YthpmalpdnnbkgaaGreat.Vm

/- The value machine: calls that hand back a pointer to a new variable are sound. Conditions: the contracts of the context hold. -/
set_option linter.unusedVariables false
set_option linter.unusedSimpArgs false
namespace Go.Proofs.YthpmalpdnnbkgaaGreat.Vm

section
variable {P : Program} {Γ : Ctx} {w0 : World} {S : Own} {st : St} {o : Oper} {e : Eff} {a : Act} {w w' : World}
variable {f : Nat → SV} {h : Nat → Option VObj} {β : Env} {φ : Nat → List Nat} {tm : Array Value}

theorem RdL.all {av : Nat → Prop} {cs : List CT} {r : List DC} {us : List Value} {fp : List Nat} (hr : RdL w cs r (fun j => us[j]?) fp) (hl : us.length = cs.length) (ha : ∀ b ∈ fp, ¬ av b) : SVRL w av β (ofDCs cs r 0) us := by
  obtain ⟨vs, l1, l2, l3, l4⟩ := RdL.svs (β := β) hr ha cs.length 0 (by omega)
  have e : vs = us := by
    apply List.ext_getElem?
    intro j
    by_cases hj : j < vs.length
    · have := l2 j vs[j] (by simp)
      simp only [Nat.zero_add] at this
      rw [this]
      simp
    · rw [List.getElem?_eq_none (by omega), List.getElem?_eq_none (by omega)]
  subst e
  simpa only [List.drop_zero, List.take_length] using l3

theorem ofDC_ids (c : CT) (d : DC) : svIds (ofDC c d) = [] := by cases c <;> rfl
theorem ofDCs_ids : ∀ (cs : List CT) (ds : List DC) (k : Nat), svIdsL (ofDCs cs ds k) = []
  | [], _, _ => rfl
  | c :: cs, ds, k => by simp [ofDCs, svIdsL, ofDC_ids, ofDCs_ids cs ds (k + 1)]

theorem sound_callP (hΓ : CtxHolds P Γ) {s : Sum} {g : Nat} (hs : lkS Γ g = some s) (hann : s.ann = false) {t : TypeId} {cts : List CT} (hpt : s.pt = some (t, cts)) (hR : Rel w0 S st a w) {d : Nat} (hdst : o.dst = some d) (hd : DstOk st.n d) (hfr : e.ow ≠ [] → FreshAt st d)
    {c : Call} (ho : o.op = .call c) (hg : c.callee = .value (.func g)) {l : List SV}
    (hl : (evMs c.args.toList).val st.get st.obj = some l) (he : (callM Γ (some d) g l).val st.get st.obj = some e) (hok : e.ok = true) : Good P w0 S st o e a w := by
  unfold callM at he
  rw [hs] at he
  simp only [hann, cond_false, hpt, M.val_bind, Option.bind_eq_some_iff] at he
  obtain ⟨r, hr, he⟩ := he
  cases hmn : metNodup r.2
  · simp [hmn] at he
  simp only [hmn, cond_true, M.val_pure, Option.some.injEq] at he
  subst he
  have hH : HoldsP P g s t cts := by
    have h0 := hΓ g s hs
    unfold HoldsAny at h0
    rw [hann, cond_false, hpt] at h0
    exact h0
  obtain ⟨⟨fn, hf, hb, hn⟩, hcalls⟩ := hH
  obtain ⟨β, φ, hc⟩ := hR.core
  obtain ⟨fp, hargs, hmet, hfav⟩ := argsM_ok hc s.ps l _ r (evMs_ok hc _ l hl) hr
  intro Q
  unfold Oper.wp
  rw [run_call ho hg hf hb hn, Oper.upon_enter]
  have hvals : c.args.map a.eval = (c.args.toList.map a.eval).toArray := by rw [← Array.toList_map, Array.toArray_toList]
  rw [hvals]
  refine (hcalls w r.1 _ fp hargs hok).mono ?_
  rintro _ w' ⟨b, us, im, rfl, hk, hb0, hb1, hcell, hone, hrd, hlen, him⟩
  have hc1 := hc.freezes r.2 hmet hmn
  have hnew : newId d 0 / 64 = d := newId_div d 0 (by omega)
  have hfr := hfr (by simp)
  have hβ : ∀ j, j ≠ newId d 0 → (β.setB (newId d 0) b).val j = β.val j ∧ (β.setB (newId d 0) b).blk j = β.blk j := by
    intro j hj
    exact ⟨rfl, by simp [Env.setB, upd, hj]⟩
  have hblk : (β.setB (newId d 0) b).blk (newId d 0) = b := by simp [Env.setB, upd]
  have htop : ∀ x ∈ tops (β.setB (newId d 0) b) (newId d 0) (.box t (ofDCs cts (s.fn r.1).2 0)), w.heap.size ≤ x := by
    intro x hx
    simp only [tops, hblk, List.mem_singleton] at hx
    omega
  have hle := hR.kept.size
  have hw : ∀ x, x < w.heap.size → w'.heap[x]? = w.heap[x]? := fun x hx => hk.block x hx (fun h => h)
  have hk' : Kept S w0 w' := ⟨hk.os.trans hR.kept.os, hk.tape.trans hR.kept.tape, hk.output.trans hR.kept.output, by have := hk.size; omega, fun k h1 h2 => (hw k (by omega)).trans (hR.kept.block k h1 h2)⟩
  have himav : ∀ x ∈ im, ¬ Av (upd (fo (metFreeze r.2) st.obj) (newId d 0) (some (.box t (ofDCs cts (s.fn r.1).2 0)))) (β.setB (newId d 0) b) x := by
    rintro x hx (⟨j, oj, hj, hbj⟩ | hbar)
    · have hix := him x hx
      by_cases hjj : j = newId d 0
      · subst hjj
        simp only [upd, if_true, Option.some.injEq] at hj
        subst hj
        simp only [tops, hblk, List.mem_singleton] at hbj
        exact hix.2 hbj
      · simp only [upd, hjj, if_false] at hj
        have hbj' : x ∈ tops β j oj := by
          cases oj <;> simp only [tops, hβ j hjj] at hbj ⊢ <;> exact hbj
        have hlt := ((hc1.fresh j oj hj).2 x (tops_sub (hc1.objs j oj hj) x hbj')).2
        rcases hix.1 with h3 | h3
        · rcases hfav x h3 with h4 | ⟨y, hy, h4⟩
          · exact h4 (av_frozen (.inl ⟨j, oj, hj, hbj'⟩))
          · exact not_av_met hc hmet hy h4 (.inl ⟨j, oj, hj, hbj'⟩)
        · omega
    · have hix := him x hx
      have hbw := (hc1.bar x hbar).1
      rcases hix.1 with h3 | h3
      · rcases hfav x h3 with h4 | ⟨y, hy, h4⟩
        · exact h4 (.inr hbar)
        · exact not_av_met hc hmet hy h4 (.inr hbar)
      · omega
  refine ⟨_, rfl, rel_put hR (fun d' h' => by rw [hdst] at h'; injection h' with h'; exact h' ▸ hd) hk' ⟨β.setB (newId d 0) b, upd (frozenφ φ r.2) (newId d 0) [b], ?_, ?_⟩⟩
  · refine hc1.create hk.size hw (fun i hi => hfr.slot i _ hi hnew) (fun j ob hj hi => ?_) ?_ hβ htop ?_ (by simp) ?_
    · rcases frozen_obj hj with h1 | ⟨e', r, rfl, _⟩
      · exact (hfr.obj j ob h1).2 _ hi hnew
      · simp [objIds] at hi
    · cases hn : fo (metFreeze r.2) st.obj (newId d 0) with
      | none => rfl
      | some ob =>
        rcases frozen_obj hn with h1 | ⟨e', r, rfl, y, hy, h2⟩
        · exact absurd hnew (hfr.obj _ ob h1).1
        · obtain ⟨_, h3, _⟩ := hmet y hy
          rw [h2] at h3
          exact absurd hnew (hfr.obj _ _ h3).1
    · exact ⟨us, by rw [hblk]; exact hcell, RdL.all hrd hlen himav, hone, by rw [hblk]⟩
    · intro x hx
      rw [List.mem_singleton] at hx
      subst hx
      refine ⟨⟨.inl (by omega), hb1⟩, fun j ob hj hbj => ?_⟩
      have := ((hc1.fresh j ob hj).2 _ hbj).2
      omega
  · simp only [SVR, hblk]

end

end Go.Proofs.YthpmalpdnnbkgaaGreat.Vm
