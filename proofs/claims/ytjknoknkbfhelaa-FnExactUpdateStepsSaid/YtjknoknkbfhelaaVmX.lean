/- The value machine: code without loops; how ways through a body are kept. Conditions: the contracts of the context hold. -/
import Derived.Test.YtjknoknkbfhelaaVmW
import Derived.LoopN
namespace Go.Proofs.Ytjknoknkbfhelaa.Vm

section
variable {P : Program} {Γ : Ctx} {w0 : World} {S : Own}

theorem knowC_ok {st : St} {c : Operand} {b : Bool} : (st.knowC c b).ok = st.ok := by
  unfold St.knowC
  split <;> rfl

theorem tr_knowC {st : St} {c : Operand} {b : Bool} (h : st.ok = true) : Tr st (st.knowC c b) := by
  unfold St.knowC
  split
  · exact tr_know h
  · exact Tr.refl h

theorem rel_knowC {st : St} {a : Act} {w : World} {c : Operand} {b : Bool} (hR : Rel w0 S st a w) (hc : a.eval c = .bool b) : Rel w0 S (st.knowC c b) a w := by
  unfold St.knowC
  split
  · exact hR.know hc
  · exact hR

theorem ev_ok {st : St} {a : Act} {w : World} (hR : Rel w0 S st a w) (c : Operand) : ∃ β, SVR w (Av st.obj β) β (ev st c) (a.eval c) := by
  obtain ⟨β, φ, hc⟩ := hR.core
  refine ⟨β, ?_⟩
  cases c with
  | tmp t => exact hc.slots t
  | const v => exact ofConst_ok v
  | global g => simp [ev, SVR]
  | func g => simp [ev, SVR]

theorem ev_kb {st : St} {a : Act} {w : World} (hR : Rel w0 S st a w) {c : Operand} {t : Bool} (h : ev st c = .kb t) : a.eval c = .bool t := by
  obtain ⟨β, hv⟩ := ev_ok hR c
  rw [h] at hv
  simpa only [SVR] using hv

theorem ev_bool {st : St} {a : Act} {w : World} (hR : Rel w0 S st a w) {c : Operand} {t : Bool} (h : ev st c = .bool t) : a.eval c = .bool t := by
  obtain ⟨β, hv⟩ := ev_ok hR c
  rw [h] at hv
  simpa only [SVR] using hv

theorem tr_exec : ∀ (c : Code) (st : St), (exec P Γ c st).ok = true → Tr st (exec P Γ c st)
  | .skip, st, h => by
    simp only [exec] at h ⊢
    exact Tr.refl h
  | .region id ops draw, st, h => by
    simp only [exec] at h ⊢
    exact tr_region h
  | .seq a b, st, h => by
    simp only [exec] at h ⊢
    have h2 := tr_exec b _ h
    exact (tr_exec a _ h2.ok).trans h2
  | .cond c a b, st, h => by
    simp only [exec] at h ⊢
    split
    · rename_i t hev
      simp only [hev] at h
      cases t with
      | true => simp only [cond_true] at h ⊢; exact tr_exec a _ h
      | false => simp only [cond_false] at h ⊢; exact tr_exec b _ h
    · rename_i g hev
      simp only [hev] at h
      have hsp := merge_ok_split h
      have hok : st.ok = true := by
        cases g with
        | true =>
          have := (tr_exec a _ (hsp.1 rfl)).ok
          rw [knowC_ok] at this
          exact this
        | false =>
          have := (tr_exec b _ (hsp.2 rfl)).ok
          rw [knowC_ok] at this
          exact this
      exact tr_merge hok h
    · rename_i h1 h2
      exfalso
      revert h
      split
      · rename_i t hev; exact absurd hev (h1 t)
      · rename_i g hev; exact absurd hev (h2 g)
      · simp [fail_ok]
  | .block .., st, h => by simp [exec, fail_ok] at h
  | .loop .., st, h => by simp [exec, fail_ok] at h
  | .exit .., st, h => by simp [exec, fail_ok] at h
  | .goto .., st, h => by simp [exec, fail_ok] at h
  | .label .., st, h => by simp [exec, fail_ok] at h
  | .ret, st, h => by simp [exec, fail_ok] at h

theorem exec_wp (hΓ : CtxHolds P Γ) : ∀ (c : Code) (st : St) (a : Act) (w : World) (Q : Exit → Act → World → Prop), Rel w0 S st a w → (exec P Γ c st).ok = true →
    (∀ a' w', Rel w0 S (exec P Γ c st) a' w' → Q .normal a' w') → c.wp P Q a w
  | .skip, st, a, w, Q, hR, h, hQ => by
    simp only [exec] at h hQ
    exact wp_skip (hQ a w hR)
  | .region id ops draw, st, a, w, Q, hR, h, hQ => by
    simp only [exec] at h hQ
    exact region_sound hΓ hR h hQ
  | .seq x y, st, a, w, Q, hR, h, hQ => by
    simp only [exec] at h hQ
    have h2 := tr_exec y _ h
    refine wp_seq (exec_wp hΓ x st a w _ hR h2.ok (fun a' w' hR' => ?_))
    exact exec_wp hΓ y _ a' w' Q hR' h hQ
  | .cond c x y, st, a, w, Q, hR, h, hQ => by
    simp only [exec] at h hQ
    split at h
    · rename_i t hev
      simp only [hev] at hQ
      refine wp_cond (ev_kb hR hev) ?_
      cases t with
      | true => simp only [cond_true] at h hQ; exact exec_wp hΓ x st a w Q hR h hQ
      | false => simp only [cond_false] at h hQ; exact exec_wp hΓ y st a w Q hR h hQ
    · rename_i g hev
      simp only [hev] at hQ
      have hsp := merge_ok_split h
      have hb := ev_bool hR hev
      refine wp_cond hb ?_
      cases g with
      | true =>
        have hy := hsp.1 rfl
        have ht := tr_exec x _ hy
        refine exec_wp hΓ x _ a w Q (rel_knowC hR.reset hb) hy (fun a' w' hR' => hQ a' w' ?_)
        have hok : st.reset.ok = true := by have := ht.ok; rwa [knowC_ok] at this
        exact rel_merge (fun _ => ⟨(tr_knowC hok).trans ht, hR'⟩) (by simp) h
      | false =>
        have hy := hsp.2 rfl
        have ht := tr_exec y _ hy
        refine exec_wp hΓ y _ a w Q (rel_knowC hR.reset hb) hy (fun a' w' hR' => hQ a' w' ?_)
        have hok : st.reset.ok = true := by have := ht.ok; rwa [knowC_ok] at this
        exact rel_merge (by simp) (fun _ => ⟨(tr_knowC hok).trans ht, hR'⟩) h
    · simp [fail_ok] at h
  | .block .., st, _, _, _, _, h, _ => by simp [exec, fail_ok] at h
  | .loop .., st, _, _, _, _, h, _ => by simp [exec, fail_ok] at h
  | .rangeFunc .., st, _, _, _, _, h, _ => by simp [exec, fail_ok] at h
  | .exit .., st, _, _, _, _, h, _ => by simp [exec, fail_ok] at h
  | .scope .., st, _, _, _, _, h, _ => by simp [exec, fail_ok] at h
  | .goto .., st, _, _, _, _, h, _ => by simp [exec, fail_ok] at h
  | .label .., st, _, _, _, _, h, _ => by simp [exec, fail_ok] at h
  | .ret, st, _, _, _, _, h, _ => by simp [exec, fail_ok] at h
  | .refuse .., st, _, _, _, _, h, _ => by simp [exec, fail_ok] at h

/-! ### A state in form at a loop's head -/

abbrev Rn := List (Nat × VObj × Option Nat)

def lkR : Rn → Nat → Option (VObj × Option Nat)
  | [], _ => none
  | (i, x) :: l, j => if j = i then some x else lkR l j

def Env.ren (β : Env) (R : Rn) : Env :=
  ⟨β.blk, fun j => match lkR R j with | some (_, some id) => β.val id | some (_, none) => .slice none 0 0 | none => β.val j, β.bar⟩

def renφ (φ : Nat → List Nat) (R : Rn) (j : Nat) : List Nat :=
  match lkR R j with | some (_, some id) => φ id | some (_, none) => [] | none => φ j

def EntOk (h : Nat → Option VObj) (x : Nat × VObj × Option Nat) : Prop :=
  (∃ t e r fz u id, x.2.1 = .row t e r fz u ∧ x.2.2 = some id ∧ h id = some (.row t e r fz u)) ∨ (∃ t e, x.2.1 = .row t e [] false true ∧ x.2.2 = none)

theorem canonCell_ok {hp : List (Nat × VObj)} {f : Nat → SV} {β : Env} {φ : Nat → List Nat} {tm : Array Value} {w : World} (hc : Core w0 S f (lkO hp) β φ tm w) {ck : CK} {nid : Nat} {s : SV} {v : Value} {av' : Nat → Prop}
    (hv : SVR w (Av (lkO hp) β) β s v) (hav : ∀ b, av' b → Av (lkO hp) β b) {R : Rn} (hR : ∀ x ∈ (canonCell P hp ck nid s).2, lkR R x.1 = some x.2) :
    SVR w av' (β.ren R) (canonCell P hp ck nid s).1 v ∧ ∀ x ∈ (canonCell P hp ck nid s).2, EntOk (lkO hp) x := by
  have mono : ∀ s', svIds s' = [] → SVR w (Av (lkO hp) β) β s' v → SVR w av' (β.ren R) s' v := fun s' hs' h' =>
    SVR.mono (Nat.le_refl _) (fun _ _ _ => rfl) (fun b hb => .inl (hav b hb)) s' v h' (by rw [hs']; simp)
  cases s with
  | own id =>
    simp only [canonCell] at hR ⊢
    simp only [SVR] at hv
    cases hl : lkO hp id with
    | none => simp [SVR]
    | some o =>
      cases o with
      | box => simp [SVR]
      | row t e r fz u =>
        simp only [hl] at hR
        simp only
        cases ck with
        | imm => simp [SVR]
        | asis =>
          have := hR _ (List.mem_singleton.2 rfl)
          simp only at this
          refine ⟨?_, ?_⟩
          · simp only [SVR, Env.ren, this]
            exact hv
          · intro x hx
            rw [List.mem_singleton] at hx
            subst hx
            exact .inl ⟨t, e, r, fz, u, id, rfl, rfl, hl⟩
        | own =>
          have := hR _ (List.mem_singleton.2 rfl)
          simp only at this
          refine ⟨?_, ?_⟩
          · simp only [SVR, Env.ren, this]
            exact hv
          · intro x hx
            rw [List.mem_singleton] at hx
            subst hx
            exact .inl ⟨t, e, r, fz, u, id, rfl, rfl, hl⟩
      | imm e r =>
        simp only
        refine ⟨?_, by simp⟩
        have h1 := (hc.objs id _ hl).1
        rw [← hv.1] at h1
        exact mono _ rfl h1
  | nil =>
    simp only [canonCell] at hR ⊢
    simp only [SVR] at hv
    cases ck with
    | asis =>
      refine ⟨?_, by simp⟩
      simp only [SVR]
      exact hv
    | own t =>
      simp only at hR ⊢
      cases hct : ctsOf P 16 t with
      | none => simp [SVR]
      | some e =>
        simp only [hct] at hR
        have := hR _ (List.mem_singleton.2 rfl)
        simp only at this
        refine ⟨?_, ?_⟩
        · simp only [SVR, Env.ren, this]
          rw [hv]
          exact ⟨rfl, rfl⟩
        · intro x hx
          rw [List.mem_singleton] at hx
          subst hx
          exact .inr ⟨t, e, rfl, rfl⟩
    | imm t =>
      simp only at hR ⊢
      cases hct : ctsOf P 16 t with
      | none => simp [SVR]
      | some e =>
        refine ⟨?_, by simp⟩
        simp only [SVR, RdC]
        exact ⟨[], ⟨[], none, 0, 0, rfl, hv, rfl, Nat.le_refl _, Nat.zero_le _, .inl ⟨rfl, rfl⟩⟩, by simp⟩
  | kb b =>
    simp only [canonCell]
    refine ⟨?_, by simp⟩
    simp only [SVR] at hv ⊢
    exact hv
  | agg => simp [canonCell, SVR]
  | tup => simp [canonCell, SVR]
  | eown => simp [canonCell, SVR]
  | ptr id off =>
    simp only [canonCell]
    refine ⟨?_, by simp⟩
    simp only [SVR] at hv ⊢
    exact hv
  | unk => exact ⟨mono _ rfl hv, by simp [canonCell]⟩
  | undef => exact ⟨mono _ rfl hv, by simp [canonCell]⟩
  | int => exact ⟨mono _ rfl hv, by simp [canonCell]⟩
  | bool => exact ⟨mono _ rfl hv, by simp [canonCell]⟩
  | str => exact ⟨mono _ rfl hv, by simp [canonCell]⟩
  | sl => exact ⟨mono _ rfl hv, by simp [canonCell]⟩
  | eimm => exact ⟨mono _ rfl hv, by simp [canonCell]⟩

theorem canonCells_ok {hp : List (Nat × VObj)} {f : Nat → SV} {β : Env} {φ : Nat → List Nat} {tm : Array Value} {w : World} (hc : Core w0 S f (lkO hp) β φ tm w) {cks : List (Nat × CK)} {b : Nat} {av' : Nat → Prop}
    (hav : ∀ b, av' b → Av (lkO hp) β b) {R : Rn} : ∀ (l : List SV) (k : Nat) (vs : List Value), SVRL w (Av (lkO hp) β) β l vs → (∀ x ∈ (canonCells P hp cks b k l).2, lkR R x.1 = some x.2) →
    SVRL w av' (β.ren R) (canonCells P hp cks b k l).1 vs ∧ ∀ x ∈ (canonCells P hp cks b k l).2, EntOk (lkO hp) x
  | [], k, vs, hl, _ => by
    simp only [canonCells, SVRL] at hl ⊢
    exact ⟨hl, by simp⟩
  | s :: l, k, vs, hl, hR => by
    simp only [SVRL] at hl
    obtain ⟨v, l', rfl, h1, h2⟩ := hl
    simp only [canonCells] at hR ⊢
    have c1 := canonCell_ok (P := P) hc (ck := lkK cks k) (nid := newId (20000 + b * 4) k) h1 hav (R := R) (fun x hx => hR x (List.mem_append_left _ hx))
    have c2 := canonCells_ok hc hav l (k + 1) l' h2 (fun x hx => hR x (List.mem_append_right _ hx))
    refine ⟨?_, fun x hx => ?_⟩
    · simp only [SVRL]
      exact ⟨v, l', rfl, c1.1, c2.1⟩
    · rcases List.mem_append.1 hx with hx | hx
      · exact c1.2 x hx
      · exact c2.2 x hx

end
end Go.Proofs.Ytjknoknkbfhelaa.Vm
