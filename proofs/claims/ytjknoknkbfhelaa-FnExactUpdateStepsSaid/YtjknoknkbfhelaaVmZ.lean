/- The value machine: whole bodies. Conditions: the contracts of the context hold. -/
import Derived.Test.YtjknoknkbfhelaaVmY
namespace Go.Proofs.Ytjknoknkbfhelaa.Vm

section
variable {P : Program} {Γ : Ctx} {w0 : World} {S : Own} {A : List (Nat × Ann)} {N : Nat} {r : List DC}

structure KOk (K : Kont) (r : List DC) : Prop where
  nrm : ∀ st, K.nrm st = (true, r) → st.ok = true
  ext : ∀ i st, K.ext i st = (true, r) → st.ok = true
  ret : ∀ st, K.ret st = (true, r) → st.ok = true

theorem canon_ok {an : Ann} {st : St} (h : (canon P an st).ok = true) : st.ok = true := by
  unfold canon at h
  simp only at h
  cases hnd : nodupN (oldIds ((canonSlots P st an.slots).2 ++ (canonBoxes P st.hp an.boxes).2)) &&
      nodupN ((canonBoxes P st.hp an.boxes).1.map (·.1) ++ ((canonSlots P st an.slots).2 ++ (canonBoxes P st.hp an.boxes).2).map (·.1))
  · rw [hnd] at h
    simp [fail_ok] at h
  · rw [hnd] at h
    exact h

theorem bad_ne : bad ≠ (true, r) := by simp [bad]

theorem merge_pre_ok {st : St} {c : Operand} {x y : Code} {g : Bool} (h : (merge st g (exec P Γ x (st.reset.knowC c true)) (exec P Γ y (st.reset.knowC c false))).ok = true) : st.ok = true := by
  have hsp := merge_ok_split h
  cases g with
  | true => have := (tr_exec x _ (hsp.1 rfl)).ok; rwa [knowC_ok] at this
  | false => have := (tr_exec y _ (hsp.2 rfl)).ok; rwa [knowC_ok] at this

def loopR (P : Program) (Γ : Ctx) (A : List (Nat × Ann)) (N : Nat) (x : Code) (an : Ann) (K : Kont) (n : Nat) : St → Res :=
  Nat.rec (motive := fun _ => St → Res) (fun _ => bad) (fun _ ih s => run P Γ A N x s { nrm := fun s' => ih (canon P an s'), ext := K.ext, ret := K.ret }) n

theorem loopR_succ {x : Code} {an : Ann} {K : Kont} {n : Nat} {s : St} : loopR P Γ A N x an K (n + 1) s = run P Γ A N x s { nrm := fun s' => loopR P Γ A N x an K n (canon P an s'), ext := K.ext, ret := K.ret } := rfl

theorem run_ok : ∀ (c : Code) (st : St) (K : Kont), KOk K r → run P Γ A N c st K = (true, r) → st.ok = true
  | .skip, st, K, hK, h => hK.nrm st (by simpa only [run] using h)
  | .region id ops draw, st, K, hK, h => by
    simp only [run] at h
    exact (tr_region (hK.nrm _ (gd_eq h))).ok
  | .seq x y, st, K, hK, h => by
    simp only [run] at h
    exact run_ok x st { nrm := fun s => run P Γ A N y s K, ext := K.ext, ret := K.ret } ⟨fun s hs => run_ok y s K hK hs, hK.ext, hK.ret⟩ h
  | .cond c x y, st, K, hK, h => by
    simp only [run] at h
    split at h
    · rename_i t hev
      cases t with
      | true => exact run_ok x st K hK h
      | false => exact run_ok y st K hK h
    · rename_i g hev
      cases hm : simple x && simple y && mergeable st g (exec P Γ x (st.reset.knowC c true)) (exec P Γ y (st.reset.knowC c false))
      · rw [hm] at h
        simp only [cond_false] at h
        cases g with
        | true =>
          have := run_ok x _ K hK h
          rwa [knowC_ok] at this
        | false =>
          have := run_ok y _ K hK h
          rwa [knowC_ok] at this
      · rw [hm] at h
        simp only [cond_true] at h
        exact merge_pre_ok (hK.nrm _ (gd_eq h))
    · exact absurd h bad_ne
  | .block id x, st, K, hK, h => by
    simp only [run] at h
    refine run_ok x st { nrm := K.nrm, ext := fun i s => bif Nat.beq i id then K.nrm s else K.ext i s, ret := K.ret } ⟨hK.nrm, fun i s hs => ?_, hK.ret⟩ h
    simp only at hs
    cases hb : Nat.beq i id
    · rw [hb] at hs; exact hK.ext i s hs
    · rw [hb] at hs; exact hK.nrm s hs
  | .loop x, st, K, hK, h => by
    simp only [run] at h
    split at h
    · rename_i an han
      have key : ∀ n s, loopR P Γ A N x an K n s = (true, r) → s.ok = true := by
        intro n
        induction n with
        | zero => intro s hs; exact absurd hs bad_ne
        | succ n ih =>
          intro s hs
          rw [loopR_succ] at hs
          exact run_ok x s { nrm := fun s' => loopR P Γ A N x an K n (canon P an s'), ext := K.ext, ret := K.ret } ⟨fun s' hs' => canon_ok (ih _ hs'), hK.ext, hK.ret⟩ hs
      exact canon_ok (key N _ h)
    · exact absurd h bad_ne
  | .exit id, st, K, hK, h => hK.ext id st (by simpa only [run] using h)
  | .ret, st, K, hK, h => hK.ret st (by simpa only [run] using h)
  | .rangeFunc .., st, _, _, h => by simp only [run] at h; exact absurd h bad_ne
  | .scope .., st, _, _, h => by simp only [run] at h; exact absurd h bad_ne
  | .goto .., st, _, _, h => by simp only [run] at h; exact absurd h bad_ne
  | .label .., st, _, _, h => by simp only [run] at h; exact absurd h bad_ne
  | .refuse .., st, _, _, h => by simp only [run] at h; exact absurd h bad_ne

structure KQ (w0 : World) (S : Own) (K : Kont) (r : List DC) (Q : Exit → Act → World → Prop) : Prop where
  nrm : ∀ st a w, Rel w0 S st a w → K.nrm st = (true, r) → Q .normal a w
  ext : ∀ i st a w, Rel w0 S st a w → K.ext i st = (true, r) → Q (.exit i) a w
  ret : ∀ st a w, Rel w0 S st a w → K.ret st = (true, r) → Q .ret a w

theorem run_sound (hΓ : CtxHolds P Γ) : ∀ (c : Code) (st : St) (K : Kont) (a : Act) (w : World) (Q : Exit → Act → World → Prop), KOk K r → Rel w0 S st a w → run P Γ A N c st K = (true, r) → KQ w0 S K r Q → c.wp P Q a w
  | .skip, st, K, a, w, Q, hK, hR, h, hQ => wp_skip (hQ.nrm st a w hR (by simpa only [run] using h))
  | .region id ops draw, st, K, a, w, Q, hK, hR, h, hQ => by
    simp only [run] at h
    have h := gd_eq h
    exact region_sound hΓ hR (hK.nrm _ h) (fun a' w' hR' => hQ.nrm _ a' w' hR' h)
  | .seq x y, st, K, a, w, Q, hK, hR, h, hQ => by
    simp only [run] at h
    refine wp_seq (run_sound hΓ x st { nrm := fun s => run P Γ A N y s K, ext := K.ext, ret := K.ret } a w _ ⟨fun s hs => run_ok y s K hK hs, hK.ext, hK.ret⟩ hR h ⟨fun s a' w' hR' hs => ?_, fun i s a' w' hR' hs => ?_, fun s a' w' hR' hs => ?_⟩)
    · exact run_sound hΓ y s K a' w' Q hK hR' hs hQ
    · exact hQ.ext i s a' w' hR' hs
    · exact hQ.ret s a' w' hR' hs
  | .cond c x y, st, K, a, w, Q, hK, hR, h, hQ => by
    simp only [run] at h
    split at h
    · rename_i t hev
      refine wp_cond (ev_kb hR hev) ?_
      cases t with
      | true => exact run_sound hΓ x st K a w Q hK hR h hQ
      | false => exact run_sound hΓ y st K a w Q hK hR h hQ
    · rename_i g hev
      have hb := ev_bool hR hev
      cases hm : simple x && simple y && mergeable st g (exec P Γ x (st.reset.knowC c true)) (exec P Γ y (st.reset.knowC c false))
      · rw [hm] at h
        simp only [cond_false] at h
        refine wp_cond hb ?_
        cases g with
        | true => exact run_sound hΓ x _ K a w Q hK (rel_knowC hR hb) h hQ
        | false => exact run_sound hΓ y _ K a w Q hK (rel_knowC hR hb) h hQ
      · rw [hm] at h
        simp only [cond_true] at h
        have h := gd_eq h
        have hok := hK.nrm _ h
        have he : exec P Γ (.cond c x y) st = merge st g (exec P Γ x (st.reset.knowC c true)) (exec P Γ y (st.reset.knowC c false)) := by
          simp only [exec, hev]
        exact exec_wp hΓ (.cond c x y) st a w Q hR (by rw [he]; exact hok) (fun a' w' hR' => hQ.nrm _ a' w' hR' (by rw [he]; exact h))
    · exact absurd h bad_ne
  | .block id x, st, K, a, w, Q, hK, hR, h, hQ => by
    simp only [run] at h
    refine wp_block (run_sound hΓ x st { nrm := K.nrm, ext := fun i s => bif Nat.beq i id then K.nrm s else K.ext i s, ret := K.ret } a w _ ⟨hK.nrm, fun i s hs => ?_, hK.ret⟩ hR h ⟨fun s a' w' hR' hs => hQ.nrm s a' w' hR' hs, fun i s a' w' hR' hs => ?_, fun s a' w' hR' hs => hQ.ret s a' w' hR' hs⟩)
    · simp only at hs
      cases hb : Nat.beq i id
      · rw [hb] at hs; exact hK.ext i s hs
      · rw [hb] at hs; exact hK.nrm s hs
    · simp only at hs
      simp only [Exit.inBlock]
      cases hb : Nat.beq i id
      · rw [hb] at hs
        rw [if_neg (Nat.ne_of_beq_eq_false hb)]
        exact hQ.ext i s a' w' hR' hs
      · rw [hb] at hs
        rw [if_pos (Nat.eq_of_beq_eq_true hb)]
        exact hQ.nrm s a' w' hR' hs
  | .loop x, st, K, a, w, Q, hK, hR, h, hQ => by
    simp only [run] at h
    split at h
    · rename_i an han
      have hoks : ∀ n s, loopR P Γ A N x an K n s = (true, r) → s.ok = true := by
        intro n
        induction n with
        | zero => intro s hs; exact absurd hs bad_ne
        | succ n ih =>
          intro s hs
          rw [loopR_succ] at hs
          exact run_ok x s { nrm := fun s' => loopR P Γ A N x an K n (canon P an s'), ext := K.ext, ret := K.ret } ⟨fun s' hs' => canon_ok (ih _ hs'), hK.ext, hK.ret⟩ hs
      have key : ∀ n s a w, Rel w0 S s a w → loopR P Γ A N x an K n s = (true, r) → Code.rounds P x Q n a w := by
        intro n
        induction n with
        | zero => intro s a w _ hs; exact absurd hs bad_ne
        | succ n ih =>
          intro s a w hR hs
          rw [loopR_succ] at hs
          rw [rounds_succ]
          refine run_sound hΓ x s { nrm := fun s' => loopR P Γ A N x an K n (canon P an s'), ext := K.ext, ret := K.ret } a w _ ⟨fun s' hs' => canon_ok (hoks _ _ hs'), hK.ext, hK.ret⟩ hR hs ⟨fun s' a' w' hR' hs' => ?_, fun i s' a' w' hR' hs' => ?_, fun s' a' w' hR' hs' => ?_⟩
          · exact ih _ a' w' (canon_rel hR' (hoks _ _ hs')).1 hs'
          · exact hQ.ext i s' a' w' hR' hs'
          · exact hQ.ret s' a' w' hR' hs'
      exact wp_loop_rounds N (key N _ a w (canon_rel hR (hoks _ _ h)).1 h)
    · exact absurd h bad_ne
  | .exit id, st, K, a, w, Q, hK, hR, h, hQ => wp_exit (hQ.ext id st a w hR (by simpa only [run] using h))
  | .ret, st, K, a, w, Q, hK, hR, h, hQ => wp_ret (hQ.ret st a w hR (by simpa only [run] using h))
  | .rangeFunc .., st, _, _, _, _, _, _, h, _ => by simp only [run] at h; exact absurd h bad_ne
  | .scope .., st, _, _, _, _, _, _, h, _ => by simp only [run] at h; exact absurd h bad_ne
  | .goto .., st, _, _, _, _, _, _, h, _ => by simp only [run] at h; exact absurd h bad_ne
  | .label .., st, _, _, _, _, _, _, h, _ => by simp only [run] at h; exact absurd h bad_ne
  | .refuse .., st, _, _, _, _, _, _, h, _ => by simp only [run] at h; exact absurd h bad_ne

end
end Go.Proofs.Ytjknoknkbfhelaa.Vm
