/- The value machine: a region in the order of its text. Conditions: the contracts of the context hold. -/
import Derived.Test.YtjknoknkbfhelaaVmT
set_option linter.unusedVariables false
set_option linter.unusedSimpArgs false
namespace Go.Proofs.Ytjknoknkbfhelaa.Vm

theorem noneOf_not {ds l : List Nat} (h : noneOf ds l = true) : ∀ i ∈ l, i / 64 ∉ ds := by
  induction l with
  | nil => simp
  | cons k l ih =>
    simp only [noneOf, Bool.and_eq_true, Bool.not_eq_true'] at h
    intro i hi
    rcases List.mem_cons.1 hi with rfl | hi
    · intro hm
      rw [memN_iff.2 hm] at h
      simp at h
    · exact ih h.2 i hi

theorem lkV_mem {l : List (Nat × SV)} {i : Nat} : lkV l i = .unk ∨ ∃ x ∈ l, lkV l i = x.2 := by
  induction l with
  | nil => exact .inl rfl
  | cons y l ih =>
    obtain ⟨k, s⟩ := y
    simp only [lkV]
    cases Nat.beq k i
    · rcases ih with h | ⟨x, hx, h⟩
      · exact .inl h
      · exact .inr ⟨x, List.mem_cons_of_mem _ hx, h⟩
    · exact .inr ⟨_, List.mem_cons_self .., rfl⟩

theorem lkO_mem {l : List (Nat × VObj)} {i : Nat} {ob : VObj} (h : lkO l i = some ob) : (i, ob) ∈ l := by
  induction l with
  | nil => simp [lkO] at h
  | cons y l ih =>
    obtain ⟨k, s⟩ := y
    simp only [lkO] at h
    cases hk : Nat.beq k i
    · simp only [hk, cond_false] at h
      exact List.mem_cons_of_mem _ (ih h)
    · simp only [hk, cond_true, Option.some.injEq] at h
      rw [Nat.eq_of_beq_eq_true hk, h]
      exact List.mem_cons_self ..

theorem fresh_of {ds : List Nat} {st : St} (h : freshFor ds st = true) : ∀ d ∈ ds, FreshAt st d := by
  intro d hd
  simp only [freshFor, Bool.and_eq_true, List.all_eq_true] at h
  constructor
  · intro i j hj
    rcases lkV_mem (l := st.sl) (i := i) with h0 | ⟨x, hx, h0⟩
    · have : st.get i = .unk := h0
      rw [this] at hj
      simp [svIds] at hj
    · have : st.get i = x.2 := h0
      rw [this] at hj
      exact fun e => noneOf_not (h.1 x hx) j hj (e ▸ hd)
  · intro j ob hj
    have hm := h.2 _ (lkO_mem hj)
    refine ⟨fun e => noneOf_not hm j (List.mem_cons_self ..) (e ▸ hd), fun k hk e => noneOf_not hm k (List.mem_cons_of_mem _ hk) (e ▸ hd)⟩

section
variable {P : Program} {Γ : Ctx} {w0 : World} {S : Own} {ops : Array Oper} {gs : List Nat}

theorem doOp_eff {st : St} {o : Oper} (h : (st.doOp P Γ o).ok = true) : ∃ e s r, (evalOp P Γ o).run st.get st.obj = some (e, s, r) ∧ freshOk o.dst e st = true ∧ st.doOp P Γ o = st.apply o.dst e := by
  unfold St.doOp at h ⊢
  split at h
  · rename_i e r hr
    obtain ⟨s, r⟩ := r
    cases hf : freshOk o.dst e st
    · simp [hf, fail_ok] at h
    · exact ⟨e, s, r, hr, hf, by simp [hr, hf]⟩
  · simp [fail_ok] at h

theorem doOp_good (hΓ : CtxHolds P Γ) {st : St} {o : Oper} {a : Act} {w : World} (hR : Rel w0 S st a w) (h : (st.doOp P Γ o).ok = true) (Q : Exit → Act → World → Prop) :
    o.wp P a w (fun a' w' => ∃ v, a' = a.put o.dst v ∧ Rel w0 S (st.doOp P Γ o) a' w') Q := by
  obtain ⟨e, s, r, hr, hf, he⟩ := doOp_eff h
  rw [he] at h ⊢
  simp only [St.apply, andt_eq] at h
  refine op_sound hΓ hR (M.val_of_run _ hr) h.1.2 (fun d hd => ?_) (fun how d hd => ?_) Q
  · have := h.2
    rw [hd] at this
    exact dstB_ok this
  · unfold freshOk at hf
    rw [hd] at hf
    split at hf
    · rename_i d' _ hd'
      injection hd' with hd'
      subst hd'
      exact fresh_of hf d (List.mem_singleton.2 rfl)
    · rename_i hno
      cases hw : e.ow with
      | nil => exact absurd hw how
      | cons x l => exact (hno x l d hw rfl).elim

theorem wanted_of {st : St} {o : Oper} {a : Act} {w : World} {b : Bool} (hR : Rel w0 S st a w) (h : wantB ops st o = some b) : Region.wanted o (yielded ops a.tmps) = b := by
  obtain ⟨β, φ, hc⟩ := hR.core
  unfold wantB at h
  unfold Region.wanted
  split at h
  · rename_i hg
    simp only [hg]
    simpa using h
  · rename_i j want hg
    simp only [hg]
    split at h
    · cases h
    · rename_i s hs
      have hsl := hc.slots s
      split at h
      · rename_i b' hb'
        rw [hb'] at hsl
        simp only [SVR] at hsl
        have : a.tmps[s]? = some (.bool b') := by
          rw [Array.getD_eq_getD_getElem?] at hsl
          cases hq : a.tmps[s]? with
          | none => rw [hq] at hsl; simp [undef] at hsl
          | some v => rw [hq] at hsl; simpa using hsl
        simp only [yielded, hs, Option.bind_some, this]
        have h := Option.some.inj h
        rw [← h]
        rfl
      · rename_i hb'
        rw [hb'] at hsl
        simp only [SVR] at hsl
        have : ∀ c, a.tmps[s]? ≠ some (.bool c) := by
          intro c hq
          rw [Array.getD_eq_getD_getElem?, hq] at hsl
          simp [undef] at hsl
        have hy : yielded ops a.tmps j = none := by
          unfold yielded
          rw [hs]
          simp only [Option.bind_some]
        rw [hy]
        have h := Option.some.inj h
        rw [← h]
        rfl
      · cases h

theorem skip_rel {st : St} {o : Oper} {a : Act} {w : World} (hR : Rel w0 S st a w) (h : (st.skip o.dst).ok = true) : Rel w0 S (st.skip o.dst) (a.put o.dst undef) w := by
  obtain ⟨β, φ, hc⟩ := hR.core
  refine rel_put hR (fun d hd => ?_) hR.kept ⟨β, φ, hc, by simp [SVR]⟩
  simp only [St.skip, St.apply, andt_eq] at h
  have := h.2
  rw [hd] at this
  exact dstB_ok this

theorem Rel.okIrr {st : St} {a : Act} {w : World} (hR : Rel w0 S st a w) (b : Bool) : Rel w0 S { st with ok := b } a w := ⟨hR.size, hR.fx, hR.defers, hR.kept, hR.core⟩

theorem merge_ok_split {pre a b : St} {g : Bool} (h : (merge pre g a b).ok = true) : (g = true → a.ok = true) ∧ (g = false → b.ok = true) := by
  unfold merge at h
  cases hu : (untouched pre.hp a.lm && untouched pre.hp b.lm)
  · simp [hu, fail_ok] at h
  · simp only [hu, cond_true, okm_eq] at h
    cases g
    · exact ⟨by simp, fun _ => h⟩
    · exact ⟨fun _ => h, by simp⟩

theorem execOps_seq (hΓ : CtxHolds P Γ) {chk : List OpLog → Bool} {Q : Exit → Act → World → Prop} : ∀ (rest : List Oper) (i : Nat) (acc : List OpLog) (st : St) (a : Act) (w : World), Rel w0 S st a w →
    (execOps P Γ ops gs chk rest i acc st).ok = true → (∀ a' w', Rel w0 S (execOps P Γ ops gs chk rest i acc st) a' w' → Q .normal a' w') → wpList P ops Q rest a w
  | [], i, acc, st, a, w, hR, hok, hQ => by
    simp only [execOps] at hQ
    exact hQ a w (hR.okIrr _)
  | o :: rest, i, acc, st, a, w, hR, hok, hQ => by
    rw [execOps] at hok hQ
    cases hw : wantB ops st o with
    | none => simp [hw, fail_ok] at hok
    | some b =>
      simp only [hw] at hok hQ
      have hwant := wanted_of hR hw
      unfold wpList
      cases b with
      | false =>
        rw [if_neg (by rw [hwant]; simp)]
        simp only at hok hQ
        exact execOps_seq hΓ rest _ _ _ _ w (skip_rel hR (tr_execOps rest _ _ _ hok).ok) hok hQ
      | true =>
        rw [if_pos hwant]
        simp only at hok hQ
        refine .inl ?_
        have plain : (execOps P Γ ops gs chk rest (i + 1) (acc ++ [logOf P Γ ops i st o]) (st.doOp P Γ o)).ok = true →
            (∀ a' w', Rel w0 S (execOps P Γ ops gs chk rest (i + 1) (acc ++ [logOf P Γ ops i st o]) (st.doOp P Γ o)) a' w' → Q .normal a' w') → o.wp P a w (wpList P ops Q rest) Q := by
          intro h1 h2
          have hd := (tr_execOps rest _ _ _ h1).ok
          refine Oper.wp_mono ?_ (doOp_good hΓ hR hd Q)
          rintro a' w' ⟨v, rfl, hR'⟩
          exact execOps_seq hΓ rest _ _ _ _ w' hR' h1 h2
        split at hok
        · rename_i hd
          simp only [hd] at hQ
          exact plain hok hQ
        · rename_i s hd
          simp only [hd] at hQ
          cases hm : memN s gs
          · simp only [hm, cond_false] at hok hQ
            exact plain hok hQ
          · simp only [hm, cond_true] at hok hQ
            split at hok
            · rename_i g hg
              simp only [hg] at hQ
              have hsp := merge_ok_split hok
              have hok1 : (st.doOp P Γ o).ok = true := by
                cases g with
                | true => exact (tr_execOps rest _ _ _ (hsp.1 rfl)).ok
                | false => exact (tr_execOps rest _ _ _ (hsp.2 rfl)).ok
              refine Oper.wp_mono ?_ (doOp_good hΓ hR hok1 Q)
              rintro a' w' ⟨v, rfl, hR'⟩
              have hslot := hR'.slot_bool hg
              cases g with
              | true =>
                have hy := hsp.1 rfl
                refine execOps_seq hΓ rest (i + 1) (acc ++ [logOf P Γ ops i st o]) ((st.doOp P Γ o).reset.know s true) _ w' (hR'.reset.know hslot) hy ?_
                intro a'' w'' h''
                exact hQ a'' w'' (rel_merge (fun _ => ⟨(tr_know (st := (st.doOp P Γ o).reset) hok1).trans (tr_execOps rest _ _ _ hy), h''⟩) (by simp) hok)
              | false =>
                have hn := hsp.2 rfl
                refine execOps_seq hΓ rest (i + 1) (acc ++ [logOf P Γ ops i st o]) ((st.doOp P Γ o).reset.know s false) _ w' (hR'.reset.know hslot) hn ?_
                intro a'' w'' h''
                exact hQ a'' w'' (rel_merge (by simp) (fun _ => ⟨(tr_know (st := (st.doOp P Γ o).reset) hok1).trans (tr_execOps rest _ _ _ hn), h''⟩) hok)
            · rename_i hg
              have hQ' : ∀ a' w', Rel w0 S (execOps P Γ ops gs chk rest (i + 1) (acc ++ [logOf P Γ ops i st o]) (st.doOp P Γ o)) a' w' → Q .normal a' w' := by
                revert hQ
                split
                · rename_i g hg'; exact absurd hg' (hg g)
                · exact id
              exact plain hok hQ'

theorem tr_region {draw : Bool} {st : St} (h : (execRegion P Γ ops draw st).ok = true) : Tr st (execRegion P Γ ops draw st) := by
  unfold execRegion at h ⊢
  cases draw
  · simp only [cond_false] at h ⊢
    exact tr_execOps _ _ _ _ h
  · simp only [cond_true] at h ⊢
    cases hf : freshFor (dsts ops.toList) st && edgesOk ops.toList 0 && P.follows .mixedOrders
    · simp [hf, fail_ok] at h
    · simp only [hf, cond_true] at h ⊢
      exact tr_execOps _ _ _ _ h

theorem region_seq (hΓ : CtxHolds P Γ) {st : St} {a : Act} {w : World} {id : Nat} {Q : Exit → Act → World → Prop} (hR : Rel w0 S st a w) (h : (execRegion P Γ ops false st).ok = true)
    (hQ : ∀ a' w', Rel w0 S (execRegion P Γ ops false st) a' w' → Q .normal a' w') : (Code.region id ops false).wp P Q a w := by
  unfold execRegion at h hQ
  simp only [cond_false] at h hQ
  exact wp_region_list (execOps_seq hΓ _ _ _ _ a w hR h hQ)

end

end Go.Proofs.Ytjknoknkbfhelaa.Vm
