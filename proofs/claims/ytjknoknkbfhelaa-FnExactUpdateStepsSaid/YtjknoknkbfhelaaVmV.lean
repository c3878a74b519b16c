/- The value machine: a region whose order is drawn: whatever the order, it ends as in the order of its text. Conditions: the contracts of the context hold; what may not be exchanged is ordered by the region's edges. -/
import Derived.Test.YtjknoknkbfhelaaVmU
set_option linter.unusedVariables false
set_option linter.unusedSimpArgs false
namespace Go.Proofs.Ytjknoknkbfhelaa.Vm

theorem M.run_congr {α : Type} {f f' : Nat → SV} {h h' : Nat → Option VObj} : ∀ (m : M α) {a : α} {s o : List Nat}, m.run f h = some (a, s, o) → (∀ i ∈ s, f' i = f i) → (∀ i ∈ o, h' i = h i) → m.run f' h' = some (a, s, o)
  | .pure a, _, _, _, e, _, _ => by simpa [M.run] using e
  | .fail, _, _, _, e, _, _ => by simp [M.run] at e
  | .slot i k, a, s, o, e, hs, ho => by
    simp only [M.run] at e ⊢
    split at e
    · rename_i b s' o' hk
      simp only [Option.some.injEq, Prod.mk.injEq] at e
      obtain ⟨rfl, rfl, rfl⟩ := e
      rw [hs i (List.mem_cons_self ..), M.run_congr (k (f i)) hk (fun j hj => hs j (List.mem_cons_of_mem _ hj)) ho]
    · cases e
  | .obj i k, a, s, o, e, hs, ho => by
    simp only [M.run] at e ⊢
    split at e
    · rename_i x hx
      split at e
      · rename_i b s' o' hk
        simp only [Option.some.injEq, Prod.mk.injEq] at e
        obtain ⟨rfl, rfl, rfl⟩ := e
        rw [ho i (List.mem_cons_self ..), hx]
        simp only
        rw [M.run_congr (k x) hk hs (fun j hj => ho j (List.mem_cons_of_mem _ hj))]
      · cases e
    · cases e

/-- One step of the way that is gone. -/
structure PS where
  i : Nat
  o : Oper
  run : Bool
  st : St
  e : Eff
  log : OpLog

def PS.f (p : PS) (s : Nat) (v : SV) : SV := if p.o.dst = some s then p.e.sv else v

def lkW : List (Nat × Option VObj) → Nat → Option (Option VObj)
  | [], _ => none
  | (i, x) :: l, j => if j = i then some x else lkW l j

def cwAt (cw : Option (Nat × Nat × List SV)) (id : Nat) (v : Option VObj) : Option VObj :=
  match cw with
  | some (i, off, svs) => if id = i then (match v with | some (.box t cells) => some (.box t (writeCells cells off svs)) | o => o) else v
  | none => v

def PS.h (p : PS) (id : Nat) (v : Option VObj) : Option VObj :=
  match lkW p.e.ow id with
  | some x => x
  | none => cwAt p.e.cw id v

theorem fc_at (cw : Option (Nat × Nat × List SV)) (h : Nat → Option VObj) (id : Nat) : fc cw h id = cwAt cw id (h id) := by
  cases cw with
  | none => rfl
  | some x =>
    obtain ⟨i, off, svs⟩ := x
    simp only [fc, cwAt]
    by_cases hi : id = i
    · subst hi
      rw [if_pos rfl]
      cases hh : h id with
      | none => simp [hh]
      | some b => cases b <;> simp [upd, hh]
    · rw [if_neg hi]
      cases h i with
      | none => rfl
      | some b => cases b <;> simp [upd, hi]

theorem fo_at (ow : List (Nat × Option VObj)) (h : Nat → Option VObj) (id : Nat) : fo ow h id = match lkW ow id with | some x => x | none => h id := by
  induction ow with
  | nil => rfl
  | cons x l ih =>
    obtain ⟨i, ob⟩ := x
    simp only [fo, upd, lkW]
    split
    · rfl
    · exact ih

theorem apply_h (st : St) (p : PS) (id : Nat) : (st.apply p.o.dst p.e).obj id = p.h id (st.obj id) := by
  rw [apply_obj, fo_at]
  unfold PS.h
  rw [fc_at]

theorem apply_f (st : St) (p : PS) (s : Nat) : (st.apply p.o.dst p.e).get s = p.f s (st.get s) := by
  unfold PS.f
  cases hd : p.o.dst with
  | none => simp [apply_get_none]
  | some d =>
    rw [apply_get]
    simp only [upd, Option.some.injEq]
    by_cases hs : s = d
    · simp [hs]
    · rw [if_neg hs, if_neg (fun h : d = s => hs h.symm)]

/-- The way through a region that the guards' values pick. -/
inductive Path (P : Program) (Γ : Ctx) (ops : Array Oper) (gs : List Nat) : List Oper → Nat → St → List PS → St → Prop where
  | nil (i : Nat) (st : St) : Path P Γ ops gs [] i st [] st
  | skip (o : Oper) (rest : List Oper) (i : Nat) (st : St) (l : List PS) (fin : St) (hw : wantB ops st o = some false) (hok : (st.skip o.dst).ok = true) (h : Path P Γ ops gs rest (i + 1) (st.skip o.dst) l fin) :
      Path P Γ ops gs (o :: rest) i st (⟨i, o, false, st, { sv := .undef }, skipLog ops i o⟩ :: l) fin
  | op (o : Oper) (rest : List Oper) (i : Nat) (st : St) (l : List PS) (fin : St) (e : Eff) (hw : wantB ops st o = some true) (hok : (st.doOp P Γ o).ok = true) (he : st.doOp P Γ o = st.apply o.dst e)
      (hr : ∃ s r, (evalOp P Γ o).run st.get st.obj = some (e, s, r)) (h : Path P Γ ops gs rest (i + 1) (st.doOp P Γ o) l fin) :
      Path P Γ ops gs (o :: rest) i st (⟨i, o, true, st, e, logOf P Γ ops i st o⟩ :: l) fin
  | opk (o : Oper) (rest : List Oper) (i : Nat) (st : St) (l : List PS) (fin : St) (e : Eff) (s : Nat) (g : Bool) (hw : wantB ops st o = some true) (hok : (st.doOp P Γ o).ok = true) (he : st.doOp P Γ o = st.apply o.dst e)
      (hr : ∃ s r, (evalOp P Γ o).run st.get st.obj = some (e, s, r)) (hd : o.dst = some s) (hg : e.sv = .bool g) (h : Path P Γ ops gs rest (i + 1) ((st.doOp P Γ o).reset.know s g) l fin) :
      Path P Γ ops gs (o :: rest) i st (⟨i, o, true, st, { e with sv := .kb g }, logOf P Γ ops i st o⟩ :: l) fin

section
variable {P : Program} {Γ : Ctx} {w0 : World} {S : Own} {ops : Array Oper} {gs : List Nat}

theorem execOps_path {chk : List OpLog → Bool} : ∀ (rest : List Oper) (i : Nat) (acc : List OpLog) (st : St), (execOps P Γ ops gs chk rest i acc st).ok = true →
    ∃ l fin, Path P Γ ops gs rest i st l fin ∧ fin.ok = true ∧ chk (acc ++ l.map (·.log)) = true ∧ ∀ (w0 : World) (S : Own) (a : Act) (w : World), Rel w0 S fin a w → Rel w0 S (execOps P Γ ops gs chk rest i acc st) a w
  | [], i, acc, st, hok => by
    simp only [execOps, andt_eq] at hok ⊢
    exact ⟨[], st, .nil i st, hok.1, by simpa using hok.2, fun w0 S a w h => h.okIrr _⟩
  | o :: rest, i, acc, st, hok => by
    rw [execOps] at hok ⊢
    cases hw : wantB ops st o with
    | none => simp [hw, fail_ok] at hok
    | some b =>
      simp only [hw] at hok ⊢
      cases b with
      | false =>
        simp only at hok ⊢
        obtain ⟨l, fin, h1, h2, h3, h4⟩ := execOps_path rest _ _ _ hok
        exact ⟨_, fin, .skip o rest i st l fin hw (tr_execOps rest _ _ _ hok).ok h1, h2, by simpa using h3, h4⟩
      | true =>
        simp only at hok ⊢
        have plain : (execOps P Γ ops gs chk rest (i + 1) (acc ++ [logOf P Γ ops i st o]) (st.doOp P Γ o)).ok = true →
            ∃ l fin, Path P Γ ops gs (o :: rest) i st l fin ∧ fin.ok = true ∧ chk (acc ++ l.map (·.log)) = true ∧ ∀ (w0 : World) (S : Own) (a : Act) (w : World), Rel w0 S fin a w →
              Rel w0 S (execOps P Γ ops gs chk rest (i + 1) (acc ++ [logOf P Γ ops i st o]) (st.doOp P Γ o)) a w := by
          intro h1
          have hd := (tr_execOps rest _ _ _ h1).ok
          obtain ⟨l, fin, g1, g2, g3, g4⟩ := execOps_path rest _ _ _ h1
          obtain ⟨e, s, r, hr, _, he⟩ := doOp_eff hd
          exact ⟨_, fin, .op o rest i st l fin e hw hd he ⟨s, r, hr⟩ g1, g2, by simpa using g3, g4⟩
        split at hok
        · rename_i hd
          exact plain hok
        · rename_i s hd
          cases hm : memN s gs
          · simp only [hm, cond_false] at hok ⊢
            exact plain hok
          · simp only [hm, cond_true] at hok ⊢
            split at hok
            · rename_i g hg
              have hsp := merge_ok_split hok
              have hbr : ∀ b : Bool, g = b → (execOps P Γ ops gs chk rest (i + 1) (acc ++ [logOf P Γ ops i st o]) ((st.doOp P Γ o).reset.know s b)).ok = true := by
                rintro b rfl
                cases g with
                | true => exact hsp.1 rfl
                | false => exact hsp.2 rfl
              have hd1 := (tr_execOps rest _ _ _ (hbr g rfl)).ok
              have hd2 : (st.doOp P Γ o).ok = true := hd1
              obtain ⟨l, fin, g1, g2, g3, g4⟩ := execOps_path rest (i + 1) (acc ++ [logOf P Γ ops i st o]) _ (hbr g rfl)
              obtain ⟨e, s', r, hr, _, he⟩ := doOp_eff hd2
              have hsv : e.sv = .bool g := by
                rw [he, hd, apply_get] at hg
                simpa [upd] using hg
              refine ⟨_, fin, .opk o rest i st l fin e s g hw hd2 he ⟨s', r, hr⟩ hd hsv g1, g2, by simpa using g3, fun w0 S a w hR => ?_⟩
              have hR' := g4 w0 S a w hR
              refine rel_merge (fun hgt => ?_) (fun hgf => ?_) hok
              · subst hgt
                exact ⟨(tr_know (st := (st.doOp P Γ o).reset) hd2).trans (tr_execOps rest _ _ _ (hbr true rfl)), hR'⟩
              · subst hgf
                exact ⟨(tr_know (st := (st.doOp P Γ o).reset) hd2).trans (tr_execOps rest _ _ _ (hbr false rfl)), hR'⟩
            · rename_i hg
              exact plain hok

/-- The slot, the object as a set of steps leaves them, the steps taken in the order of the text. -/
def foldF (L : Nat → Bool) (l : List PS) (s : Nat) (v : SV) : SV := l.foldl (fun v p => if L p.i then p.f s v else v) v
def foldH (L : Nat → Bool) (l : List PS) (id : Nat) (v : Option VObj) : Option VObj := l.foldl (fun v p => if L p.i then p.h id v else v) v

def PS.tF (p : PS) (s : Nat) : Prop := p.o.dst = some s
def PS.tH (p : PS) (id : Nat) : Prop := id ∈ p.e.ow.map (·.1) ∨ ∃ off svs, p.e.cw = some (id, off, svs)

theorem PS.f_id {p : PS} {s : Nat} (h : ¬ p.tF s) (v : SV) : p.f s v = v := by unfold PS.f PS.tF at *; rw [if_neg h]

theorem lkW_none {ow : List (Nat × Option VObj)} {id : Nat} (h : id ∉ ow.map (·.1)) : lkW ow id = none := by
  induction ow with
  | nil => rfl
  | cons x l ih =>
    obtain ⟨i, ob⟩ := x
    simp only [List.map_cons, List.mem_cons, not_or] at h
    simp only [lkW]
    rw [if_neg h.1]
    exact ih h.2

theorem PS.h_id {p : PS} {id : Nat} (h : ¬ p.tH id) (v : Option VObj) : p.h id v = v := by
  unfold PS.tH at h
  simp only [not_or] at h
  unfold PS.h
  rw [lkW_none h.1]
  simp only
  unfold cwAt
  split
  · rename_i i off svs hcw
    by_cases hi : id = i
    · subst hi
      exact absurd ⟨off, svs, hcw⟩ h.2
    · rw [if_neg hi]
  · rfl

theorem fold_none {α : Type} (step : PS → α → α) {L : Nat → Bool} : ∀ (l : List PS) (v : α), (∀ q ∈ l, L q.i = false) → l.foldl (fun v q => if L q.i then step q v else v) v = v
  | [], v, _ => rfl
  | z :: l, v, h => by
    simp only [List.foldl_cons, h z (List.mem_cons_self ..), Bool.false_eq_true, if_false]
    exact fold_none step l v (fun q hq => h q (List.mem_cons_of_mem _ hq))

section folds
variable {α : Type} (step : PS → α → α) (T : PS → Prop)

theorem fold_congr (hid : ∀ p v, ¬ T p → step p v = v) {L L' : Nat → Bool} : ∀ (l : List PS) (v : α), (∀ p ∈ l, T p → L p.i = L' p.i) →
    l.foldl (fun v p => if L p.i then step p v else v) v = l.foldl (fun v p => if L' p.i then step p v else v) v
  | [], v, _ => rfl
  | p :: l, v, h => by
    simp only [List.foldl_cons]
    have : (if L p.i then step p v else v) = if L' p.i then step p v else v := by
      by_cases ht : T p
      · rw [h p (List.mem_cons_self ..) ht]
      · rw [hid p v ht]
        simp
    rw [this]
    exact fold_congr hid l _ (fun q hq => h q (List.mem_cons_of_mem _ hq))

/-- One step more, behind which no step that was taken touches the place. -/
theorem fold_insert (hid : ∀ p v, ¬ T p → step p v = v) {L : Nat → Bool} {q : PS} : ∀ (l : List PS) (v : α), q ∈ l → (l.map (·.i)).Nodup → L q.i = false → l.Pairwise (fun a b => a.i < b.i) → (∀ p ∈ l, q.i < p.i → T q → T p → L p.i = false) →
    l.foldl (fun v p => if (L p.i || p.i == q.i) then step p v else v) v = step q (l.foldl (fun v p => if L p.i then step p v else v) v)
  | [], v, hq, _, _, _, _ => by simp at hq
  | p :: l, v, hq, hn, hL, hp, hno => by
    simp only [List.foldl_cons]
    simp only [List.map_cons, List.nodup_cons] at hn
    rw [List.pairwise_cons] at hp
    rcases List.mem_cons.1 hq with rfl | hql
    · simp only [hL, beq_self_eq_true, Bool.or_true, if_true, Bool.false_eq_true, if_false]
      have e1 : l.foldl (fun v p => if (L p.i || p.i == q.i) then step p v else v) (step q v) = l.foldl (fun v p => if L p.i then step p v else v) (step q v) := by
        refine fold_congr step T hid (L := fun k => L k || k == q.i) (L' := L) l _ (fun r hr _ => ?_)
        have : r.i ≠ q.i := fun e => hn.1 (e ▸ List.mem_map_of_mem hr)
        simp [this]
      rw [e1]
      by_cases ht : T q
      · have e2 : ∀ u, l.foldl (fun v p => if L p.i then step p v else v) u = u := by
          intro u
          have := fold_congr step T hid (L := L) (L' := fun _ => false) l u (fun r hr hrt => hno r (List.mem_cons_of_mem _ hr) (hp.1 r hr) ht hrt)
          rw [this]
          exact fold_none step (L := fun _ => false) l u (fun _ _ => rfl)
        rw [e2, e2]
      · rw [hid q v ht, hid q _ ht]
    · have hne : p.i ≠ q.i := fun e => hn.1 (e ▸ List.mem_map_of_mem hql)
      have : (if (L p.i || p.i == q.i) then step p v else v) = if L p.i then step p v else v := by simp [hne]
      rw [this]
      exact fold_insert hid l _ hql hn.2 hL hp.2 (fun r hr => hno r (List.mem_cons_of_mem _ hr))
end folds

theorem path_index : ∀ {rest : List Oper} {i : Nat} {st : St} {l : List PS} {fin : St}, Path P Γ ops gs rest i st l fin → l.map (·.i) = List.range' i rest.length ∧ l.map (·.o) = rest ∧ (∀ p ∈ l, p.log.i = p.i ∧ p.log.d = p.o.dst) := by
  intro rest i st l fin h
  induction h with
  | nil => exact ⟨rfl, rfl, by simp⟩
  | skip o rest i st l fin hw hok h ih =>
    refine ⟨by simp [ih.1, List.range'_succ], by simp [ih.2.1], fun p hp => ?_⟩
    rcases List.mem_cons.1 hp with rfl | hp
    · exact ⟨rfl, rfl⟩
    · exact ih.2.2 p hp
  | op o rest i st l fin e hw hok he hr h ih =>
    refine ⟨by simp [ih.1, List.range'_succ], by simp [ih.2.1], fun p hp => ?_⟩
    rcases List.mem_cons.1 hp with rfl | hp
    · obtain ⟨s, r, hr⟩ := hr
      simp [logOf, hr]
    · exact ih.2.2 p hp
  | opk o rest i st l fin e s g hw hok he hr hd hg h ih =>
    refine ⟨by simp [ih.1, List.range'_succ], by simp [ih.2.1], fun p hp => ?_⟩
    rcases List.mem_cons.1 hp with rfl | hp
    · obtain ⟨s, r, hr⟩ := hr
      simp [logOf, hr]
    · exact ih.2.2 p hp

/-- What a place of the path says: the states along the way. -/
def Along (st : St) (l : List PS) (fin : St) : Prop :=
  (∀ p ∈ l, (∀ s, p.st.get s = foldF (fun k => decide (k < p.i)) l s (st.get s)) ∧ (∀ id, p.st.obj id = foldH (fun k => decide (k < p.i)) l id (st.obj id)) ∧ p.st.n = st.n) ∧
    (∀ s, fin.get s = foldF (fun _ => true) l s (st.get s)) ∧ (∀ id, fin.obj id = foldH (fun _ => true) l id (st.obj id)) ∧ fin.n = st.n

theorem along_cons (p0 : PS) {st st1 : St} {rest' : List Oper} {l' : List PS} {fin' : St} {i : Nat} (hi : p0.i = i) (hst : p0.st = st) (hf : ∀ s, st1.get s = p0.f s (st.get s)) (hh : ∀ id, st1.obj id = p0.h id (st.obj id)) (hn : st1.n = st.n)
    (hpath : Path P Γ ops gs rest' (i + 1) st1 l' fin') (ih : Along st1 l' fin') : Along st (p0 :: l') fin' := by
  have hidx := (path_index hpath).1
  have hge : ∀ p ∈ l', i + 1 ≤ p.i := by
    intro p hp
    have : p.i ∈ l'.map (·.i) := List.mem_map_of_mem hp
    rw [hidx] at this
    exact (List.mem_range'_1.1 this).1
  refine ⟨fun p hp => ?_, fun s => ?_, fun id => ?_, ih.2.2.2.trans hn⟩
  · rcases List.mem_cons.1 hp with rfl | hp
    · have none_lt : ∀ q ∈ p :: l', decide (q.i < p.i) = false := by
        intro q hq
        rcases List.mem_cons.1 hq with rfl | hq
        · simp
        · have := hge q hq
          simp
          omega
      refine ⟨fun s => ?_, fun id => ?_, by rw [hst]⟩
      · have := fold_none (fun q v => PS.f q s v) (L := fun k => decide (k < p.i)) (p :: l') (st.get s) none_lt
        rw [hst]
        exact this.symm
      · have := fold_none (fun q v => PS.h q id v) (L := fun k => decide (k < p.i)) (p :: l') (st.obj id) none_lt
        rw [hst]
        exact this.symm
    · have h0 := hge p hp
      have hlt : decide (p0.i < p.i) = true := by simp; omega
      obtain ⟨g1, g2, g3⟩ := ih.1 p hp
      refine ⟨fun s => ?_, fun id => ?_, g3.trans hn⟩
      · rw [g1 s, hf s]
        unfold foldF
        simp only [List.foldl_cons, hlt, if_true]
      · rw [g2 id, hh id]
        unfold foldH
        simp only [List.foldl_cons, hlt, if_true]
  · rw [ih.2.1 s, hf s]
    unfold foldF
    simp only [List.foldl_cons, if_true]
  · rw [ih.2.2.1 id, hh id]
    unfold foldH
    simp only [List.foldl_cons, if_true]

theorem know_f {st : St} {o : Oper} {e : Eff} {s : Nat} {g : Bool} (hd : o.dst = some s) (p : PS) (hp : p.o = o) (hpe : p.e = { e with sv := .kb g }) (k : Nat) : (((st.apply o.dst e).reset).know s g).get k = p.f k (st.get k) := by
  rw [know_get]
  have e1 : (st.apply o.dst e).reset.get = (st.apply o.dst e).get := rfl
  rw [e1, hd, apply_get]
  unfold PS.f
  rw [hp, hd, hpe]
  simp only [upd, Option.some.injEq]
  by_cases hk : k = s
  · simp [hk]
  · rw [if_neg hk, if_neg hk, if_neg (fun h : s = k => hk h.symm)]

theorem know_h {st : St} {o : Oper} {e : Eff} {s : Nat} {g : Bool} (p : PS) (hp : p.o = o) (hpe : p.e = { e with sv := .kb g }) (id : Nat) : (((st.apply o.dst e).reset).know s g).obj id = p.h id (st.obj id) := by
  have e1 : (((st.apply o.dst e).reset).know s g).obj id = (st.apply p.o.dst p.e).obj id := by
    rw [apply_obj, hpe]
    show (st.apply o.dst e).obj id = _
    rw [apply_obj]
  rw [e1]
  exact apply_h st p id

theorem path_states {rest : List Oper} {i : Nat} {st : St} {l : List PS} {fin : St} (h : Path P Γ ops gs rest i st l fin) : Along st l fin := by
  induction h with
  | nil => exact ⟨by simp, fun _ => rfl, fun _ => rfl, rfl⟩
  | skip o rest i st l fin hw hok h ih =>
    exact along_cons ⟨i, o, false, st, { sv := .undef }, skipLog ops i o⟩ rfl rfl (fun s => apply_f st ⟨i, o, false, st, { sv := .undef }, skipLog ops i o⟩ s) (fun id => apply_h st ⟨i, o, false, st, { sv := .undef }, skipLog ops i o⟩ id) rfl h ih
  | op o rest i st l fin e hw hok he hr h ih =>
    refine along_cons ⟨i, o, true, st, e, logOf P Γ ops i st o⟩ rfl rfl (fun s => ?_) (fun id => ?_) ?_ h ih
    · rw [he]; exact apply_f st ⟨i, o, true, st, e, logOf P Γ ops i st o⟩ s
    · rw [he]; exact apply_h st ⟨i, o, true, st, e, logOf P Γ ops i st o⟩ id
    · rw [he]; rfl
  | opk o rest i st l fin e s g hw hok he hr hd hg h ih =>
    refine along_cons ⟨i, o, true, st, { e with sv := .kb g }, logOf P Γ ops i st o⟩ rfl rfl (fun s => ?_) (fun id => ?_) ?_ h ih
    · rw [he]; exact know_f hd ⟨i, o, true, st, { e with sv := .kb g }, logOf P Γ ops i st o⟩ rfl rfl s
    · rw [he]; exact know_h ⟨i, o, true, st, { e with sv := .kb g }, logOf P Γ ops i st o⟩ rfl rfl id
    · rw [he]; rfl

/-- What a step is. -/
def StepIs (P : Program) (Γ : Ctx) (ops : Array Oper) (p : PS) : Prop :=
  (wantB ops p.st p.o = some false ∧ p.e = { sv := .undef } ∧ (p.st.skip p.o.dst).ok = true ∧ p.log = skipLog ops p.i p.o) ∨
  (wantB ops p.st p.o = some true ∧ ∃ e s r, (evalOp P Γ p.o).run p.st.get p.st.obj = some (e, s, r) ∧ (p.st.apply p.o.dst e).ok = true ∧ p.log = logOf P Γ ops p.i p.st p.o ∧
    (p.e = e ∨ ∃ d g, p.o.dst = some d ∧ e.sv = .bool g ∧ p.e = { e with sv := .kb g }))

theorem path_steps {rest : List Oper} {i : Nat} {st : St} {l : List PS} {fin : St} (h : Path P Γ ops gs rest i st l fin) : ∀ p ∈ l, StepIs P Γ ops p := by
  induction h with
  | nil => simp
  | skip o rest i st l fin hw hok h ih =>
    intro p hp
    rcases List.mem_cons.1 hp with rfl | hp
    · exact .inl ⟨hw, rfl, hok, rfl⟩
    · exact ih p hp
  | op o rest i st l fin e hw hok he hr h ih =>
    intro p hp
    rcases List.mem_cons.1 hp with rfl | hp
    · obtain ⟨s, r, hr⟩ := hr
      exact .inr ⟨hw, e, s, r, hr, by rw [← he]; exact hok, rfl, .inl rfl⟩
    · exact ih p hp
  | opk o rest i st l fin e s g hw hok he hr hd hg h ih =>
    intro p hp
    rcases List.mem_cons.1 hp with rfl | hp
    · obtain ⟨s', r, hr⟩ := hr
      exact .inr ⟨hw, e, s', r, hr, by rw [← he]; exact hok, rfl, .inr ⟨s, g, hd, hg, rfl⟩⟩
    · exact ih p hp

end

end Go.Proofs.Ytjknoknkbfhelaa.Vm
