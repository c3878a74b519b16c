/- The value machine: loops' heads. Conditions: the contracts of the context hold. -/
import Derived.Test.YtjknoknkbfhelaaVmX
set_option linter.unusedVariables false
set_option linter.unusedSimpArgs false
namespace Go.Proofs.Ytjknoknkbfhelaa.Vm

section
variable {P : Program} {Γ : Ctx} {w0 : World} {S : Own}

theorem nodupN_iff {l : List Nat} (h : nodupN l = true) : l.Nodup := by
  induction l with
  | nil => simp
  | cons i l ih =>
    simp only [nodupN, Bool.and_eq_true, Bool.not_eq_true'] at h
    rw [List.nodup_cons]
    refine ⟨fun hm => ?_, ih h.2⟩
    rw [memN_iff.2 hm] at h
    simp at h

theorem lkR_mem {R : Rn} {j : Nat} {x : VObj × Option Nat} (h : lkR R j = some x) : (j, x) ∈ R := by
  induction R with
  | nil => simp [lkR] at h
  | cons y l ih =>
    obtain ⟨i, z⟩ := y
    simp only [lkR] at h
    split at h
    · rename_i hj
      injection h with h
      subst h hj
      exact List.mem_cons_self ..
    · exact List.mem_cons_of_mem _ (ih h)

theorem lkR_some {R : Rn} {x : Nat × VObj × Option Nat} (hx : x ∈ R) (hn : (R.map (·.1)).Nodup) : lkR R x.1 = some x.2 := by
  induction R with
  | nil => simp at hx
  | cons y l ih =>
    obtain ⟨i, z⟩ := y
    simp only [List.map_cons, List.nodup_cons] at hn
    simp only [lkR]
    rcases List.mem_cons.1 hx with rfl | hx
    · simp
    · have : x.1 ≠ i := fun e => hn.1 (e ▸ List.mem_map_of_mem hx)
      rw [if_neg this]
      exact ih hx hn.2

theorem lkR_none {R : Rn} {j : Nat} (h : j ∉ R.map (·.1)) : lkR R j = none := by
  induction R with
  | nil => rfl
  | cons y l ih =>
    obtain ⟨i, z⟩ := y
    simp only [List.map_cons, List.mem_cons, not_or] at h
    simp only [lkR]
    rw [if_neg h.1]
    exact ih h.2

theorem old_inj {R : Rn} (h : (oldIds R).Nodup) {x y : Nat × VObj × Option Nat} {id : Nat} (hx : x ∈ R) (hy : y ∈ R) (h1 : x.2.2 = some id) (h2 : y.2.2 = some id) : x = y := by
  have mem : ∀ (R : Rn) (z : Nat × VObj × Option Nat), z ∈ R → z.2.2 = some id → id ∈ oldIds R := by
    intro R
    induction R with
    | nil => simp
    | cons u l ih =>
      obtain ⟨i, o, old⟩ := u
      intro z hz hzi
      rcases List.mem_cons.1 hz with rfl | hz'
      · simp only at hzi
        subst hzi
        simp [oldIds]
      · have := ih z hz' hzi
        cases old with
        | none => simpa [oldIds] using this
        | some k => simp [oldIds, this]
  induction R with
  | nil => simp at hx
  | cons u l ih =>
    obtain ⟨i, o, old⟩ := u
    cases old with
    | none =>
      simp only [oldIds] at h
      rcases List.mem_cons.1 hx with rfl | hx
      · cases h1
      · rcases List.mem_cons.1 hy with rfl | hy
        · cases h2
        · exact ih h hx hy
    | some k =>
      simp only [oldIds, List.nodup_cons] at h
      rcases List.mem_cons.1 hx with rfl | hx
      · simp only [Option.some.injEq] at h1
        rcases List.mem_cons.1 hy with rfl | hy
        · rfl
        · exact absurd (h1 ▸ mem l y hy h2) h.1
      · rcases List.mem_cons.1 hy with rfl | hy
        · simp only [Option.some.injEq] at h2
          exact absurd (h2 ▸ mem l x hx h1) h.1
        · exact ih h.2 hx hy

theorem canonSlots_get {st : St} {i : Nat} : ∀ (l : List (Nat × CK)), lkV (canonSlots P st l).1 i = .unk ∨
    ∃ ck, lkV (canonSlots P st l).1 i = (canonCell P st.hp ck (newId (10000 + i) 0) (st.get i)).1 ∧ ∀ x ∈ (canonCell P st.hp ck (newId (10000 + i) 0) (st.get i)).2, x ∈ (canonSlots P st l).2
  | [] => .inl rfl
  | (k, ck) :: l => by
    simp only [canonSlots, lkV]
    cases hk : Nat.beq k i
    · simp only [cond_false]
      rcases canonSlots_get l with h | ⟨ck', h1, h2⟩
      · exact .inl h
      · exact .inr ⟨ck', h1, fun x hx => List.mem_append_right _ (h2 x hx)⟩
    · have := Nat.eq_of_beq_eq_true hk
      subst this
      simp only [cond_true]
      exact .inr ⟨ck, rfl, fun x hx => List.mem_append_left _ hx⟩

theorem canonSlots_ent {st : St} {x : Nat × VObj × Option Nat} : ∀ (l : List (Nat × CK)), x ∈ (canonSlots P st l).2 → ∃ i ck, x ∈ (canonCell P st.hp ck (newId (10000 + i) 0) (st.get i)).2
  | [], h => by simp [canonSlots] at h
  | (k, ck) :: l, h => by
    simp only [canonSlots] at h
    rcases List.mem_append.1 h with h | h
    · exact ⟨k, ck, h⟩
    · exact canonSlots_ent l h

theorem canonBoxes_get {hp : List (Nat × VObj)} {j : Nat} {o : VObj} : ∀ (l : List (Nat × List (Nat × CK))), (j, o) ∈ (canonBoxes P hp l).1 →
    ∃ cks t cells, lkO hp j = some (.box t cells) ∧ o = .box t (canonCells P hp cks j 0 cells).1 ∧ ∀ x ∈ (canonCells P hp cks j 0 cells).2, x ∈ (canonBoxes P hp l).2
  | [], h => by simp [canonBoxes] at h
  | (b, cks) :: l, h => by
    simp only [canonBoxes] at h ⊢
    split at h
    · rename_i t cells hb
      simp only at h ⊢
      rcases List.mem_cons.1 h with h | h
      · simp only [Prod.mk.injEq] at h
        obtain ⟨rfl, rfl⟩ := h
        refine ⟨cks, t, cells, hb, rfl, fun x hx => ?_⟩
        exact List.mem_append_left _ hx
      · obtain ⟨cks', t', cells', h1, h2, h3⟩ := canonBoxes_get l h
        exact ⟨cks', t', cells', h1, h2, fun x hx => List.mem_append_right _ (h3 x hx)⟩
    · rename_i hb
      exact canonBoxes_get l h

theorem canonBoxes_ent {hp : List (Nat × VObj)} {x : Nat × VObj × Option Nat} : ∀ (l : List (Nat × List (Nat × CK))), x ∈ (canonBoxes P hp l).2 →
    ∃ cks j t cells, lkO hp j = some (.box t cells) ∧ x ∈ (canonCells P hp cks j 0 cells).2
  | [], h => by simp [canonBoxes] at h
  | (b, cks) :: l, h => by
    simp only [canonBoxes] at h
    split at h
    · rename_i t cells hb
      simp only at h
      rcases List.mem_append.1 h with h | h
      · exact ⟨cks, b, t, cells, hb, h⟩
      · exact canonBoxes_ent l h
    · exact canonBoxes_ent l h

theorem canonCell_ent {hp : List (Nat × VObj)} {ck : CK} {nid : Nat} {s : SV} : ∀ x ∈ (canonCell P hp ck nid s).2, EntOk (lkO hp) x := by
  intro x hx
  cases s with
  | own id =>
    simp only [canonCell] at hx
    cases hl : lkO hp id with
    | none => simp [hl] at hx
    | some o =>
      cases o with
      | box => simp [hl] at hx
      | imm => simp [hl] at hx
      | row t e r fz u =>
        simp only [hl] at hx
        cases ck with
        | imm => simp at hx
        | asis =>
          rw [List.mem_singleton] at hx
          subst hx
          exact .inl ⟨t, e, r, fz, u, id, rfl, rfl, hl⟩
        | own =>
          rw [List.mem_singleton] at hx
          subst hx
          exact .inl ⟨t, e, r, fz, u, id, rfl, rfl, hl⟩
  | nil =>
    simp only [canonCell] at hx
    cases ck with
    | asis => simp at hx
    | imm t =>
      simp only at hx
      split at hx <;> simp at hx
    | own t =>
      simp only at hx
      split at hx
      · rename_i e he
        rw [List.mem_singleton] at hx
        subst hx
        exact .inr ⟨t, e, rfl, rfl⟩
      · simp at hx
  | kb => simp [canonCell] at hx
  | agg => simp [canonCell] at hx
  | tup => simp [canonCell] at hx
  | eown => simp [canonCell] at hx
  | ptr => simp [canonCell] at hx
  | unk => simp [canonCell] at hx
  | undef => simp [canonCell] at hx
  | int => simp [canonCell] at hx
  | bool => simp [canonCell] at hx
  | str => simp [canonCell] at hx
  | sl => simp [canonCell] at hx
  | eimm => simp [canonCell] at hx

theorem canonCells_ent {hp : List (Nat × VObj)} {cks : List (Nat × CK)} {b : Nat} : ∀ (l : List SV) (k : Nat), ∀ x ∈ (canonCells P hp cks b k l).2, EntOk (lkO hp) x
  | [], _, x, hx => by simp [canonCells] at hx
  | s :: l, k, x, hx => by
    simp only [canonCells] at hx
    rcases List.mem_append.1 hx with hx | hx
    · exact canonCell_ent x hx
    · exact canonCells_ent l (k + 1) x hx

/-- What an object in form is. -/
def NewIs (h : Nat → Option VObj) (R : Rn) (β : Env) (φ : Nat → List Nat) (j : Nat) (o : VObj) : Prop :=
  (lkR R j = none ∧ ∃ t cells, h j = some (.box t cells) ∧ ∃ cells', o = .box t cells') ∨
  (∃ id t e r fz u, lkR R j = some (o, some id) ∧ h id = some o ∧ o = .row t e r fz u) ∨
  (∃ t e, lkR R j = some (o, none) ∧ o = .row t e [] false true)

theorem canon_core {f f' : Nat → SV} {h h' : Nat → Option VObj} {β : Env} {φ : Nat → List Nat} {tm : Array Value} {w : World} (hc : Core w0 S f h β φ tm w) {R : Rn} (hold : (oldIds R).Nodup)
    (hnew : ∀ j o, h' j = some o → NewIs h R β φ j o)
    (hav : (∀ b, Av h' (β.ren R) b → Av h β b) → (∀ i, SVR w (Av h' (β.ren R)) (β.ren R) (f' i) (tm.getD i undef)) ∧
      ∀ j t cells cells', h' j = some (.box t cells') → h j = some (.box t cells) → ∀ vs, SVRL w (Av h β) β cells vs → SVRL w (Av h' (β.ren R)) (β.ren R) cells' vs) :
    Core w0 S f' h' (β.ren R) (renφ φ R) tm w := by
  have hA : ∀ b, Av h' (β.ren R) b → Av h β b := by
    rintro b (⟨j, o, hj, hb⟩ | hb)
    · rcases hnew j o hj with ⟨h1, t, cells, h2, cells', rfl⟩ | ⟨id, t, e, r, fz, u, h1, h2, rfl⟩ | ⟨t, e, h1, rfl⟩
      · exact .inl ⟨j, _, h2, by simpa [tops, Env.ren] using hb⟩
      · refine .inl ⟨id, _, h2, ?_⟩
        simpa [tops, Env.ren, h1] using hb
      · simp [tops, Env.ren, h1, Value.ownBlock] at hb
    · exact .inr hb
  obtain ⟨hsl, hbx⟩ := hav hA
  refine ⟨hsl, fun j o hj => ?_, fun j o hj => ?_, fun i j oi oj hne hi hj b hb => ?_, hc.bar, hc.bars⟩
  · rcases hnew j o hj with ⟨h1, t, cells, h2, cells', rfl⟩ | ⟨id, t, e, r, fz, u, h1, h2, rfl⟩ | ⟨t, e, h1, rfl⟩
    · obtain ⟨vs, g1, g2, g3, g4⟩ := hc.objs j _ h2
      refine ⟨vs, g1, hbx j t cells cells' hj h2 vs g2, g3, ?_⟩
      simp only [renφ, h1]
      exact g4
    · obtain ⟨vals, fps, g1, g2, g3, g4⟩ := hc.objs id _ h2
      have hval : (β.ren R).val j = β.val id := by simp [Env.ren, h1]
      refine ⟨vals, fps, by rw [hval]; exact g1, g2, fun b hb hx => g3 b hb (hA b hx), ?_⟩
      simp only [renφ, h1, hval]
      exact g4
    · have hval : (β.ren R).val j = .slice none 0 0 := by simp [Env.ren, h1]
      refine ⟨[], [], ⟨by simp, .inl ⟨hval, rfl, rfl⟩⟩, ⟨rfl, by simp⟩, by simp, ?_⟩
      simp [renφ, h1, hval, Value.ownBlock]
  · rcases hnew j o hj with ⟨h1, t, cells, h2, cells', rfl⟩ | ⟨id, t, e, r, fz, u, h1, h2, rfl⟩ | ⟨t, e, h1, rfl⟩
    · simp only [renφ, h1]; exact hc.fresh j _ h2
    · simp only [renφ, h1]; exact hc.fresh id _ h2
    · simp [renφ, h1]
  · rcases hnew i oi hi with ⟨h1, t, cells, h2, cells', rfl⟩ | ⟨id, t, e, r, fz, u, h1, h2, rfl⟩ | ⟨t, e, h1, rfl⟩ <;>
      rcases hnew j oj hj with ⟨k1, t', cells1, k2, cells1', rfl⟩ | ⟨id', t', e', r', fz', u', k1, k2, rfl⟩ | ⟨t', e', k1, rfl⟩ <;>
      simp only [renφ, h1, k1] at hb ⊢
    · exact hc.sep i j _ _ hne h2 k2 b hb
    · refine hc.sep i id' _ _ (fun e => ?_) h2 k2 b hb
      rw [e, k2] at h2
      cases h2
    · simp
    · refine hc.sep id j _ _ (fun e' => ?_) h2 k2 b hb
      rw [e', k2] at h2
      cases h2
    · refine hc.sep id id' _ _ (fun e' => ?_) h2 k2 b hb
      subst e'
      have := old_inj hold (lkR_mem h1) (lkR_mem k1) rfl rfl
      simp only [Prod.mk.injEq] at this
      exact hne this.1
    · simp
    · simp at hb
    · simp at hb
    · simp at hb

theorem canon_rel {an : Ann} {st : St} {a : Act} {w : World} (hR : Rel w0 S st a w) (hok : (canon P an st).ok = true) : Rel w0 S (canon P an st) a w ∧ st.ok = true := by
  unfold canon at hok ⊢
  simp only at hok ⊢
  cases hnd : nodupN (oldIds ((canonSlots P st an.slots).2 ++ (canonBoxes P st.hp an.boxes).2)) &&
      nodupN ((canonBoxes P st.hp an.boxes).1.map (·.1) ++ ((canonSlots P st an.slots).2 ++ (canonBoxes P st.hp an.boxes).2).map (·.1))
  · rw [hnd] at hok
    simp [fail_ok] at hok
  rw [hnd] at hok
  simp only [cond_true] at hok ⊢
  refine ⟨?_, hok⟩
  simp only [Bool.and_eq_true] at hnd
  obtain ⟨β, φ, hc⟩ := hR.core
  have hold := nodupN_iff hnd.1
  have hkeys := nodupN_iff hnd.2
  rw [List.nodup_append] at hkeys
  obtain ⟨hkb, hkr, hdis⟩ := hkeys
  have hsub1 : ∀ x ∈ (canonSlots P st an.slots).2, x ∈ (canonSlots P st an.slots).2 ++ (canonBoxes P st.hp an.boxes).2 := fun x hx => List.mem_append_left _ hx
  have hsub2 : ∀ x ∈ (canonBoxes P st.hp an.boxes).2, x ∈ (canonSlots P st an.slots).2 ++ (canonBoxes P st.hp an.boxes).2 := fun x hx => List.mem_append_right _ hx
  have hent0 : ∀ x ∈ (canonSlots P st an.slots).2 ++ (canonBoxes P st.hp an.boxes).2, EntOk (lkO st.hp) x := by
    intro x hx
    rcases List.mem_append.1 hx with hx | hx
    · obtain ⟨i, ck, h1⟩ := canonSlots_ent _ hx
      exact canonCell_ent x h1
    · obtain ⟨cks, j, t, cells, h1, h2⟩ := canonBoxes_ent _ hx
      exact canonCells_ent cells 0 x h2
  generalize (canonSlots P st an.slots).2 ++ (canonBoxes P st.hp an.boxes).2 = R at *
  have hlk : ∀ x ∈ R, lkR R x.1 = some x.2 := fun x hx => lkR_some hx hkr
  have hc' : Core w0 S st.get (lkO st.hp) β φ a.tmps w := hc
  refine ⟨hR.size, hR.fx, hR.defers, hR.kept, β.ren R, renφ φ R, ?_⟩
  have hmem : ∀ j o, lkO ((canonBoxes P st.hp an.boxes).1 ++ R.map (fun x => (x.1, x.2.1))) j = some o → (j, o) ∈ (canonBoxes P st.hp an.boxes).1 ∨ ∃ old, (j, o, old) ∈ R := by
    intro j o hj
    rcases List.mem_append.1 (lkO_mem hj) with h1 | h1
    · exact .inl h1
    · obtain ⟨x, hx, he⟩ := List.mem_map.1 h1
      obtain ⟨k, o', old⟩ := x
      simp only [Prod.mk.injEq] at he
      obtain ⟨rfl, rfl⟩ := he
      exact .inr ⟨old, hx⟩
  refine canon_core hc' hold (fun j o hj => ?_) (fun hA => ⟨fun i => ?_, fun j t cells cells' hj hh vs hvs => ?_⟩)
  · rcases hmem j o hj with h1 | ⟨old, h1⟩
    · obtain ⟨cks, t, cells, h2, h3, _⟩ := canonBoxes_get _ h1
      refine .inl ⟨lkR_none (fun hm => hdis j (List.mem_map_of_mem (f := (·.1)) h1) j hm rfl), t, cells, h2, _, h3⟩
    · rcases hent0 _ h1 with ⟨t, e, r, fz, u, id, g1, g2, g3⟩ | ⟨t, e, g1, g2⟩
      · simp only at g1 g2
        subst g1 g2
        exact .inr (.inl ⟨id, t, e, r, fz, u, hlk _ h1, g3, rfl⟩)
      · simp only at g1 g2
        subst g1 g2
        exact .inr (.inr ⟨t, e, hlk _ h1, rfl⟩)
  · show SVR w _ _ (lkV (canonSlots P st an.slots).1 i) _
    rcases canonSlots_get (P := P) (st := st) (i := i) an.slots with h1 | ⟨ck, h1, h2⟩
    · rw [h1]; simp [SVR]
    · rw [h1]
      exact (canonCell_ok hc' (hc.slots i) hA (fun x hx => hlk x (hsub1 x (h2 x hx)))).1
  · rcases hmem j _ hj with h1 | ⟨old, h1⟩
    · obtain ⟨cks, t', cells1, h2, h3, h4⟩ := canonBoxes_get _ h1
      rw [hh] at h2
      simp only [Option.some.injEq, VObj.box.injEq] at h2
      obtain ⟨rfl, rfl⟩ := h2
      simp only [VObj.box.injEq, true_and] at h3
      rw [h3]
      exact (canonCells_ok hc' hA cells 0 vs hvs (fun x hx => hlk x (hsub2 x (h4 x hx)))).1
    · rcases hent0 _ h1 with ⟨t1, e, r, fz, u, id, g1, g2, g3⟩ | ⟨t1, e, g1, g2⟩
      · cases g1
      · cases g1

end
end Go.Proofs.Ytjknoknkbfhelaa.Vm
