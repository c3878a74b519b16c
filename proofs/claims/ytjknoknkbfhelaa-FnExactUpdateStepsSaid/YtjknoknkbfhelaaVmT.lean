/- The value machine: what a run leaves alone; ways that meet. Conditions: as each lemma says. -/
import Derived.Test.YtjknoknkbfhelaaVmS
namespace Go.Proofs.Ytjknoknkbfhelaa.Vm

/-- What a piece of a run has not touched is as it was. -/
structure Tr (st st' : St) : Prop where
  n : st'.n = st.n
  ok : st.ok = true
  get : ∀ i, i ∉ st'.ls → st'.get i = st.get i
  ls : ∀ i ∈ st.ls, i ∈ st'.ls
  obj : ∀ id o, st.obj id = some o → id ∉ st'.lm → st'.obj id = some o
  lm : ∀ i ∈ st.lm, i ∈ st'.lm

theorem Tr.refl {st : St} (h : st.ok = true) : Tr st st := ⟨rfl, h, fun _ _ => rfl, fun _ h => h, fun _ _ h _ => h, fun _ h => h⟩

theorem Tr.trans {a b c : St} (h : Tr a b) (k : Tr b c) : Tr a c :=
  ⟨k.n.trans h.n, h.ok, fun i hi => (k.get i hi).trans (h.get i (fun h' => hi (k.ls i h'))), fun i hi => k.ls i (h.ls i hi),
    fun id o ho hi => k.obj id o (h.obj id o ho (fun h' => hi (k.lm id h'))) hi, fun i hi => k.lm i (h.lm i hi)⟩

theorem fo_other {ow : List (Nat × Option VObj)} {h : Nat → Option VObj} {j : Nat} (hj : j ∉ ow.map (·.1)) : fo ow h j = h j := by
  induction ow with
  | nil => rfl
  | cons x l ih =>
    obtain ⟨i, ob⟩ := x
    simp only [List.map_cons, List.mem_cons, not_or] at hj
    simp only [fo, upd, hj.1, if_false]
    exact ih hj.2

theorem tr_apply {st : St} {d : Option Nat} {e : Eff} (hok : (st.apply d e).ok = true) : Tr st (st.apply d e) := by
  have hok' : st.ok = true := by
    simp only [St.apply, andt_eq] at hok
    exact hok.1.1
  refine ⟨rfl, hok', fun i hi => ?_, fun i hi => ?_, fun id o ho hi => ?_, fun i hi => ?_⟩
  · cases d with
    | none => rfl
    | some d =>
      have hi' : i ≠ d := fun h => hi (by simp [St.apply, h])
      rw [apply_get]
      simp [upd, hi']
  · cases d <;> simp [St.apply, hi]
  · rw [apply_obj]
    simp only [St.apply, List.mem_append, not_or] at hi
    rw [fo_other hi.2.1]
    cases hcw : e.cw with
    | none => exact ho
    | some x =>
      obtain ⟨k, off, svs⟩ := x
      simp only [hcw, List.mem_singleton] at hi
      rw [← ho]
      simp only [fc]
      cases st.obj k with
      | none => rfl
      | some b => cases b <;> simp [upd, hi.1]
  · simp only [St.apply, List.mem_append]
    exact .inr (.inr hi)

theorem fail_ok {st : St} : st.fail.ok = false := rfl

theorem tr_doOp {P : Program} {Γ : Ctx} {st : St} {o : Oper} (hok : (st.doOp P Γ o).ok = true) : Tr st (st.doOp P Γ o) := by
  unfold St.doOp at hok ⊢
  split
  · rename_i e r hr
    simp only [hr] at hok
    cases hf : freshOk o.dst e st
    · simp [hf, fail_ok] at hok
    · simp only [hf, cond_true] at hok ⊢
      exact tr_apply hok
  · rename_i hr
    simp [hr, fail_ok] at hok

theorem know_get (st : St) (s : Nat) (b : Bool) : (st.know s b).get = upd st.get s (.kb b) := by
  funext i
  show lkV ((s, .kb b) :: st.sl) i = _
  simp only [lkV, upd, St.get]
  cases hk : Nat.beq s i
  · have e2 := Nat.ne_of_beq_eq_false hk
    rw [if_neg (fun h => e2 h.symm)]
    rfl
  · simp [(Nat.eq_of_beq_eq_true hk).symm]

theorem tr_know {st : St} {s : Nat} {b : Bool} (hok : st.ok = true) : Tr st (st.know s b) := by
  refine ⟨rfl, hok, fun i hi => ?_, fun i hi => by simp [St.know, hi], fun _ _ h _ => h, fun _ h => h⟩
  rw [know_get]
  have : i ≠ s := fun h => hi (by simp [St.know, h])
  simp [upd, this]

theorem memN_iff {i : Nat} {l : List Nat} : memN i l = true ↔ i ∈ l := by
  induction l with
  | nil => simp [memN]
  | cons k l ih =>
    simp only [memN, Bool.or_eq_true, List.mem_cons, ih]
    constructor
    · rintro (h | h)
      · exact .inl (Nat.eq_of_beq_eq_true h).symm
      · exact .inr h
    · rintro (rfl | h)
      · exact .inl (Nat.beq_refl i)
      · exact .inr h

theorem mem_dedup {i : Nat} {l : List Nat} : i ∈ dedup l ↔ i ∈ l := by
  induction l with
  | nil => simp [dedup]
  | cons k l ih =>
    simp only [dedup]
    cases hm : memN k l
    · simp [ih]
    · simp only [cond_true, List.mem_cons, ih]
      constructor
      · exact .inr
      · rintro (rfl | h)
        · exact memN_iff.1 hm
        · exact h

theorem lkV_mergeSl {g : Bool} {f h : Nat → SV} {l : List (Nat × SV)} : ∀ (r : List Nat) (i : Nat), lkV (mergeSl g f h r l) i = if i ∈ r then mergeSV g (f i) (h i) else lkV l i
  | [], i => by simp [mergeSl]
  | k :: r, i => by
    simp only [mergeSl, lkV]
    cases hk : Nat.beq k i
    · have e2 := Nat.ne_of_beq_eq_false hk
      simp only [cond_false, lkV_mergeSl r i, List.mem_cons]
      by_cases hi : i ∈ r
      · simp [hi]
      · rw [if_neg hi, if_neg (fun h => h.elim (fun h => e2 h.symm) hi)]
    · have e1 := Nat.eq_of_beq_eq_true hk
      subst e1
      simp

theorem untouched_not {hp : List (Nat × VObj)} {l : List Nat} (h : untouched hp l = true) : ∀ i o, lkO hp i = some o → i ∉ l := by
  induction l with
  | nil => simp
  | cons k l ih =>
    simp only [untouched, Bool.and_eq_true] at h
    intro i o ho hi
    rcases List.mem_cons.1 hi with rfl | hi
    · rw [ho] at h
      simp at h
    · exact ih h.2 i o ho hi

theorem tr_merge {pre a b : St} {g : Bool} (hp : pre.ok = true) (hok : (merge pre g a b).ok = true) : Tr pre (merge pre g a b) := by
  unfold merge at hok ⊢
  cases hu : (untouched pre.hp a.lm && untouched pre.hp b.lm)
  · simp [hu, fail_ok] at hok
  simp only [cond_true]
  refine ⟨rfl, hp, fun i hi => ?_, fun i hi => by simp [hi], fun _ _ h _ => h, fun _ h => h⟩
  simp only [List.mem_append, not_or] at hi
  show lkV (mergeSl g a.get b.get (dedup (a.ls ++ b.ls)) pre.sl) i = lkV pre.sl i
  rw [lkV_mergeSl, if_neg hi.1]

/-- A smaller set of objects; slots that say less. -/
theorem Core.sub {w0 : World} {S : Own} {f f' : Nat → SV} {h h' : Nat → Option VObj} {β : Env} {φ : Nat → List Nat} {tm : Array Value} {w : World} (hc : Core w0 S f h β φ tm w)
    (hh : ∀ j o, h' j = some o → h j = some o) (hf : ∀ i v, SVR w (Av h' β) β (f i) v → SVR w (Av h' β) β (f' i) v) : Core w0 S f' h' β φ tm w := by
  have hav : ∀ b, Av h' β b → Av h β b := fun b hb => hb.imp (fun ⟨j, o, hj, hb⟩ => ⟨j, o, hh j o hj, hb⟩) id
  have hm := hc.step (h' := h') (β' := β) (φ' := φ) (w' := w) (fun _ => False) (Nat.le_refl _) (fun _ _ _ => rfl) (fun b hb => .inl (hav b hb)) (fun _ _ _ h => h) (fun _ _ => ⟨rfl, rfl⟩)
    (fun id o ho => .inl ⟨fun h => h, hh id o ho, rfl, fun _ _ h => h, fun _ _ => rfl⟩) (fun i j o p hne hi hj b hb => hc.sep i j o p hne (hh i o hi) (hh j p hj) b hb)
  exact ⟨fun i => hf i _ (hm.slots i), hm.objs, hm.fresh, hm.sep, hm.bar, hm.bars⟩

/-- The way that was gone, seen from where the ways meet. -/
theorem rel_merge {w0 : World} {S : Own} {pre yes no : St} {g : Bool} {a : Act} {w : World} (hy : g = true → Tr pre.reset yes ∧ Rel w0 S yes a w) (hn : g = false → Tr pre.reset no ∧ Rel w0 S no a w)
    (hok : (merge pre g yes no).ok = true) : Rel w0 S (merge pre g yes no) a w := by
  unfold merge at hok ⊢
  cases hu : (untouched pre.hp yes.lm && untouched pre.hp no.lm)
  · simp [hu, fail_ok] at hok
  simp only [cond_true]
  simp only [Bool.and_eq_true] at hu
  have key : ∀ r : St, Tr pre.reset r → Rel w0 S r a w → (∀ i ∈ r.ls, i ∈ yes.ls ++ no.ls) → untouched pre.hp r.lm = true → (∀ i v av β, SVR w av β (r.get i) v → SVR w av β (mergeSV g (yes.get i) (no.get i)) v) →
      Rel w0 S { n := pre.n, sl := mergeSl g yes.get no.get (dedup (yes.ls ++ no.ls)) pre.sl, hp := pre.hp, ok := okm g yes.ok no.ok, ls := dedup (yes.ls ++ no.ls) ++ pre.ls, lm := pre.lm } a w := by
    intro r ht hr hls hun hmg
    obtain ⟨β, φ, hc⟩ := hr.core
    refine ⟨hr.size.trans (congrArg (· % 1099511627776) ht.n), fun x hx => by have h1 := hr.fx x hx; rw [ht.n] at h1; exact h1, hr.defers, hr.kept, β, φ, ?_⟩
    refine hc.sub (fun j o ho => ?_) (fun i v hv => ?_)
    · exact ht.obj j o ho (untouched_not hun j o ho)
    · show SVR w _ β (lkV (mergeSl g yes.get no.get (dedup (yes.ls ++ no.ls)) pre.sl) i) v
      rw [lkV_mergeSl]
      split
      · exact hmg i v _ β hv
      · rename_i hi
        have : r.get i = pre.get i := ht.get i (fun h => hi (mem_dedup.2 (hls i h)))
        rw [this] at hv
        exact hv
  cases g with
  | true =>
    obtain ⟨ht, hr⟩ := hy rfl
    exact key yes ht hr (fun i hi => List.mem_append_left _ hi) hu.1 (fun i v av β hv => SVR.merge true _ _ _ hv)
  | false =>
    obtain ⟨ht, hr⟩ := hn rfl
    exact key no ht hr (fun i hi => List.mem_append_right _ hi) hu.2 (fun i v av β hv => SVR.merge false _ _ _ hv)

theorem Rel.reset {w0 : World} {S : Own} {st : St} {a : Act} {w : World} (h : Rel w0 S st a w) : Rel w0 S st.reset a w := ⟨h.size, h.fx, h.defers, h.kept, h.core⟩

theorem Rel.know {w0 : World} {S : Own} {st : St} {a : Act} {w : World} (h : Rel w0 S st a w) {s : Nat} {b : Bool} (hs : a.tmps.getD s undef = .bool b) : Rel w0 S (st.know s b) a w := by
  obtain ⟨β, φ, hc⟩ := h.core
  refine ⟨h.size, h.fx, h.defers, h.kept, β, φ, ?_⟩
  rw [know_get]
  exact ⟨fun i => by
    by_cases hi : i = s
    · subst hi
      simp only [upd, if_true, SVR]
      exact hs
    · have := hc.slots i
      show SVR w (Av st.obj β) β _ _
      simpa only [upd, hi, if_false] using this, hc.objs, hc.fresh, hc.sep, hc.bar, hc.bars⟩

theorem Rel.slot_bool {w0 : World} {S : Own} {st : St} {a : Act} {w : World} (h : Rel w0 S st a w) {s : Nat} {g : Bool} (hs : st.get s = .bool g) : a.tmps.getD s undef = .bool g := by
  obtain ⟨β, φ, hc⟩ := h.core
  have := hc.slots s
  rw [hs] at this
  simpa only [SVR] using this

theorem tr_execOps {P : Program} {Γ : Ctx} {ops : Array Oper} {gs : List Nat} {chk : List OpLog → Bool} : ∀ (rest : List Oper) (i : Nat) (acc : List OpLog) (st : St), (execOps P Γ ops gs chk rest i acc st).ok = true →
    Tr st (execOps P Γ ops gs chk rest i acc st)
  | [], i, acc, st, h => by
    simp only [execOps] at h ⊢
    simp only [andt_eq] at h
    exact ⟨rfl, h.1, fun _ _ => rfl, fun _ h => h, fun _ _ h _ => h, fun _ h => h⟩
  | o :: rest, i, acc, st, h => by
    rw [execOps] at h ⊢
    split
    · rename_i hw; simp [hw, fail_ok] at h
    · rename_i hw
      simp only [hw] at h
      have h1 := tr_execOps rest _ _ _ h
      exact (tr_apply h1.ok).trans h1
    · rename_i hw
      simp only [hw] at h
      have plain : (execOps P Γ ops gs chk rest (i + 1) (acc ++ [logOf P Γ ops i st o]) (st.doOp P Γ o)).ok = true → Tr st (execOps P Γ ops gs chk rest (i + 1) (acc ++ [logOf P Γ ops i st o]) (st.doOp P Γ o)) := by
        intro h'
        have h1 := tr_execOps rest _ _ _ h'
        exact (tr_doOp h1.ok).trans h1
      split
      · rename_i hd
        simp only [hd] at h
        exact plain h
      · rename_i s hd
        simp only [hd] at h
        cases hm : memN s gs
        · simp only [hm, cond_false] at h ⊢
          exact plain h
        · simp only [hm, cond_true] at h ⊢
          split
          · rename_i g hg
            simp only [hg] at h
            have hok1 : (st.doOp P Γ o).ok = true := by
              have h' := h
              unfold merge at h'
              cases hu : (untouched (st.doOp P Γ o).hp (execOps P Γ ops gs chk rest (i + 1) (acc ++ [logOf P Γ ops i st o]) ((st.doOp P Γ o).reset.know s true)).lm && untouched (st.doOp P Γ o).hp (execOps P Γ ops gs chk rest (i + 1) (acc ++ [logOf P Γ ops i st o]) ((st.doOp P Γ o).reset.know s false)).lm)
              · simp [hu, fail_ok] at h'
              · simp only [hu, cond_true, okm_eq] at h'
                cases g with
                | true => simp only [cond_true] at h'; exact (tr_execOps rest _ _ _ h').ok
                | false => simp only [cond_false] at h'; exact (tr_execOps rest _ _ _ h').ok
            exact (tr_doOp hok1).trans (tr_merge hok1 h)
          · rename_i hg
            have h' : (execOps P Γ ops gs chk rest (i + 1) (acc ++ [logOf P Γ ops i st o]) (st.doOp P Γ o)).ok = true := by
              revert h
              split
              · rename_i g hg'; exact absurd hg' (hg g)
              · exact id
            exact plain h'

end Go.Proofs.Ytjknoknkbfhelaa.Vm
