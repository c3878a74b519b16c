/- The value machine: new objects: boxes, rows. Conditions: as each lemma says. -/
import Derived.Test.YtjknoknkbfhelaaVmJ
namespace Go.Proofs.Ytjknoknkbfhelaa.Vm

def Env.setB (β : Env) (id b : Nat) : Env := ⟨upd β.blk id b, β.val, β.bar⟩
def Env.setV (β : Env) (id : Nat) (v : Value) : Env := ⟨β.blk, upd β.val id v, β.bar⟩

theorem metNot_append {i : Nat} {m n : Met} : metNot i (m ++ n) = (metNot i m && metNot i n) := by
  induction m with
  | nil => simp [metNot]
  | cons x l ih => obtain ⟨j, q⟩ := x; simp [metNot, ih, Bool.and_assoc]

theorem metNodup_append {m n : Met} (h : metNodup (m ++ n) = true) : metNodup m = true ∧ metNodup n = true ∧ ∀ x ∈ m, ∀ y ∈ n, x.1 ≠ y.1 := by
  induction m with
  | nil => exact ⟨rfl, by simpa using h, by simp⟩
  | cons x l ih =>
    obtain ⟨j, q⟩ := x
    simp only [List.cons_append, metNodup, metNot_append, Bool.and_eq_true] at h
    obtain ⟨h1, h2, h3⟩ := ih h.2
    refine ⟨by simp [metNodup, h.1.1, h1], h2, fun x hx y hy => ?_⟩
    rcases List.mem_cons.1 hx with rfl | hx
    · exact fun e => metNot_mem h.1.2 y hy e.symm
    · exact h3 x hx y hy

section
variable {P : Program} {Γ : Ctx} {w0 : World} {S : Own} {st : St} {o : Oper} {e : Eff} {a : Act} {w : World}
variable {f : Nat → SV} {h : Nat → Option VObj} {β : Env} {φ : Nat → List Nat} {tm : Array Value}

theorem av_frozen {m : Met} {b : Nat} (hb : Av (fo (metFreeze m) h) β b) : Av h β b := by
  induction m generalizing b with
  | nil => exact hb
  | cons x l ih =>
    obtain ⟨i, e', r, u⟩ := x
    rcases hb with ⟨j, ob, hj, hbj⟩ | hb
    case inr => exact .inr hb
    simp only [metFreeze, fo, upd] at hj
    split at hj
    · injection hj with hj
      subst hj
      simp [tops] at hbj
    · exact ih (.inl ⟨j, ob, hj, hbj⟩)

theorem not_av_met (hc : Core w0 S f h β φ tm w) {m : Met} (hm : MetOk h m) {x : Nat × List CT × List (List DC) × Bool} (hx : x ∈ m) {b : Nat} (hb : b ∈ (β.val x.1).ownBlock.toList) : ¬ Av (fo (metFreeze m) h) β b := by
  rintro (⟨j, ob, hj, hbj⟩ | hbar)
  case inr =>
    obtain ⟨t, fz, hid⟩ := hm x hx
    exact hc.not_bar hid (tops_sub (hc.objs _ _ hid) b hb) hbar
  obtain ⟨t, fz, hid⟩ := hm x hx
  have frozen : ∀ (l : Met) (j : Nat), (∃ y ∈ l, y.1 = j) → ∃ e' r, fo (metFreeze l) h j = some (.imm e' r) := by
    intro l
    induction l with
    | nil => rintro j ⟨y, hy, _⟩; simp at hy
    | cons z l ih =>
      obtain ⟨i, e', r, u⟩ := z
      rintro j ⟨y, hy, rfl⟩
      simp only [metFreeze, fo, upd]
      by_cases hyi : y.1 = i
      · rw [if_pos hyi]; exact ⟨e', r, rfl⟩
      · rw [if_neg hyi]
        rcases List.mem_cons.1 hy with rfl | hy
        · exact absurd rfl hyi
        · exact ih y.1 ⟨y, hy, rfl⟩
  by_cases hjm : ∃ y ∈ m, y.1 = j
  · obtain ⟨e', r, hfr⟩ := frozen m j hjm
    rw [hfr] at hj
    injection hj with hj
    subst hj
    simp [tops] at hbj
  · have hj' : h j = some ob := by rw [fo_frozen_other (fun y hy e => hjm ⟨y, hy, e⟩)] at hj; exact hj
    have hne : x.1 ≠ j := fun e => hjm ⟨x, hx, e⟩
    exact hc.sep x.1 j _ _ hne hid hj' b (tops_sub (hc.objs x.1 _ hid) b hb) (tops_sub (hc.objs j _ hj') b hbj)

/-- One cell as a datum. -/
theorem toDC_ok (hc : Core w0 S f h β φ tm w) {ct : CT} {s : SV} {v : Value} {q : DC × Met × Bool} (hs : SVR w (Av h β) β s v) (hq : (toDC ct s).val f h = some q) :
    ∃ fp, RdC w ct q.1 v fp ∧ MetOk h q.2.1 ∧ metNodup q.2.1 = true ∧ (∀ b ∈ fp, (¬ Av h β b) ∨ ∃ x ∈ q.2.1, b ∈ (β.val x.1).ownBlock.toList) ∧
      (q.2.2 = true → (∀ b ∈ fp, ∃ x ∈ q.2.1, b ∈ φ x.1) ∧ fp.Nodup) := by
  have plain : ∀ (d : DC) (fr : Bool) (fp : List Nat), q = (d, [], fr) → RdC w ct d v fp → (∀ b ∈ fp, ¬ Av h β b) → (fr = true → fp = []) →
      ∃ fp, RdC w ct q.1 v fp ∧ MetOk h q.2.1 ∧ metNodup q.2.1 = true ∧ (∀ b ∈ fp, (¬ Av h β b) ∨ ∃ x ∈ q.2.1, b ∈ (β.val x.1).ownBlock.toList) ∧ (q.2.2 = true → (∀ b ∈ fp, ∃ x ∈ q.2.1, b ∈ φ x.1) ∧ fp.Nodup) := by
    rintro d fr fp rfl hr hav hfr
    refine ⟨fp, hr, by simp [MetOk], rfl, fun b hb => .inl (hav b hb), fun hf => ?_⟩
    rw [hfr hf]
    simp
  unfold toDC at hq
  split at hq
  · rename_i k n
    split at hq
    · rename_i k'
      by_cases hk : k = k'
      · subst hk
        simp only [decide_true, cond_true, M.val_pure, Option.some.injEq] at hq
        simp only [SVR] at hs
        exact plain _ _ [] hq.symm (by unfold RdC; exact ⟨n, rfl, hs.1, hs.2, rfl⟩) (by simp) (by simp)
      · simp [hk] at hq
    · simp at hq
  · split at hq
    · simp only [M.val_pure, Option.some.injEq] at hq
      simp only [SVR] at hs
      exact plain _ _ [] hq.symm (by unfold RdC; exact ⟨_, rfl, hs, rfl⟩) (by simp) (by simp)
    · simp at hq
  · split at hq
    · simp only [M.val_pure, Option.some.injEq] at hq
      simp only [SVR] at hs
      exact plain _ _ [] hq.symm (by unfold RdC; exact ⟨_, rfl, hs, rfl⟩) (by simp) (by simp)
    · simp at hq
  · split at hq
    · simp only [M.val_pure, Option.some.injEq] at hq
      simp only [SVR] at hs
      exact plain _ _ [] hq.symm (by unfold RdC; exact ⟨_, rfl, hs.1, hs.2, rfl⟩) (by simp) (by simp)
    · simp at hq
  · rename_i e' r
    split at hq
    · rename_i e''
      cases hb : ctsBeq e' e''
      · simp [hb] at hq
      · simp only [hb, cond_true, M.val_pure, Option.some.injEq] at hq
        have := ctsBeq_eq _ _ hb
        subst this
        simp only [SVR] at hs
        obtain ⟨fp, hr, hav⟩ := hs
        exact plain _ _ fp hq.symm hr hav (by simp)
    · simp at hq
  · split at hq
    · simp only [M.val_pure, Option.some.injEq] at hq
      simp only [SVR] at hs
      subst hs
      exact plain _ _ [] hq.symm (sl_mk rfl (Nat.le_refl _) (Nat.zero_le _) (.inl ⟨rfl, rfl⟩)) (by simp) (by simp)
    · simp at hq
  · rename_i id
    split at hq
    · rename_i e'
      simp only [SVR] at hs
      obtain ⟨hs, _⟩ := hs
      subst hs
      simp only [M.val_obj, Option.bind_eq_some_iff] at hq
      obtain ⟨ob, hob, hq⟩ := hq
      split at hq
      · rename_i t' e'' r fz u
        cases hb : ctsBeq e'' e'
        · simp [hb] at hq
        · simp only [hb, cond_true, M.val_pure, Option.some.injEq] at hq
          have := ctsBeq_eq _ _ hb
          subst this hq
          obtain ⟨fp, h1, h2, h3⟩ := row_reads (hc.objs id _ hob)
          refine ⟨fp, h1, ?_, rfl, fun b hb => ?_, fun hu => ⟨fun b hb => ⟨_, List.mem_singleton.2 rfl, (h3 hu).1 b hb⟩, (h3 hu).2 (hc.fresh id _ hob).1⟩⟩
          · intro x hx
            rw [List.mem_singleton] at hx
            subst hx
            exact ⟨t', fz, hob⟩
          · rcases h2 b hb with hx | hx
            · exact .inr ⟨_, List.mem_singleton.2 rfl, hx⟩
            · exact .inl hx
      · rename_i e'' r
        cases hb : ctsBeq e'' e'
        · simp [hb] at hq
        · simp only [hb, cond_true, M.val_pure, Option.some.injEq] at hq
          have := ctsBeq_eq _ _ hb
          subst this
          obtain ⟨h1, _⟩ := hc.objs id _ hob
          simp only [SVR] at h1
          obtain ⟨fp, hr, hav⟩ := h1
          exact plain _ _ fp hq.symm hr hav (by simp)
      · simp at hq
    · simp at hq
  · simp at hq

theorem metOk_append {m n : Met} (h1 : MetOk h m) (h2 : MetOk h n) : MetOk h (m ++ n) := fun x hx => by
  rcases List.mem_append.1 hx with hx | hx
  · exact h1 x hx
  · exact h2 x hx

/-- Two footprints of rows that differ are apart. -/
theorem apart (hc : Core w0 S f h β φ tm w) {m n : Met} (hm : MetOk h m) (hn : MetOk h n) (hne : ∀ x ∈ m, ∀ y ∈ n, x.1 ≠ y.1) {p q : List Nat}
    (hp : ∀ b ∈ p, ∃ x ∈ m, b ∈ φ x.1) (hq : ∀ b ∈ q, ∃ x ∈ n, b ∈ φ x.1) (np : p.Nodup) (nq : q.Nodup) : (p ++ q).Nodup := by
  rw [List.nodup_append]
  refine ⟨np, nq, fun b hb c hc' hbc => ?_⟩
  subst hbc
  obtain ⟨x, hx, hbx⟩ := hp b hb
  obtain ⟨y, hy, hby⟩ := hq b hc'
  obtain ⟨t, fz, h1⟩ := hm x hx
  obtain ⟨t', fz', h2⟩ := hn y hy
  exact hc.sep x.1 y.1 _ _ (hne x hx y hy) h1 h2 b hbx hby

/-- The cells of one element as data. -/
theorem toDCs_ok (hc : Core w0 S f h β φ tm w) : ∀ (cts : List CT) (svs : List SV) (vs : List Value) (q : List DC × Met × Bool), SVRL w (Av h β) β svs vs → (toDCs cts svs).val f h = some q →
    ∃ fp, RdL w cts q.1 (fun j => vs[j]?) fp ∧ MetOk h q.2.1 ∧ (∀ b ∈ fp, (¬ Av h β b) ∨ ∃ x ∈ q.2.1, b ∈ (β.val x.1).ownBlock.toList) ∧
      (q.2.2 = true → (∀ b ∈ fp, ∃ x ∈ q.2.1, b ∈ φ x.1) ∧ (metNodup q.2.1 = true → fp.Nodup))
  | [], [], vs, q, hs, hq => by
    simp only [toDCs, M.val_pure, Option.some.injEq] at hq
    subst hq
    exact ⟨[], by simp [RdL], by simp [MetOk], by simp, by simp⟩
  | [], _ :: _, vs, q, hs, hq => by simp [toDCs] at hq
  | _ :: _, [], vs, q, hs, hq => by simp [toDCs] at hq
  | c :: cs, s :: ss, vs, q, hs, hq => by
    simp only [SVRL] at hs
    obtain ⟨v, l, rfl, h1, h2⟩ := hs
    simp only [toDCs, M.val_bind, Option.bind_eq_some_iff, M.val_pure, Option.some.injEq] at hq
    obtain ⟨q1, hq1, q2, hq2, rfl⟩ := hq
    obtain ⟨f1, r1, m1, n1, a1, u1⟩ := toDC_ok hc h1 hq1
    obtain ⟨f2, r2, m2, a2, u2⟩ := toDCs_ok hc cs ss l q2 h2 hq2
    refine ⟨f1 ++ f2, ?_, metOk_append m1 m2, ?_, ?_⟩
    · simp only [RdL]
      exact ⟨q1.1, q2.1, v, f1, f2, rfl, by simp, r1, by simpa using r2, rfl⟩
    · intro b hb
      rcases List.mem_append.1 hb with hb | hb
      · rcases a1 b hb with hx | ⟨x, hx, hbx⟩
        · exact .inl hx
        · exact .inr ⟨x, List.mem_append_left _ hx, hbx⟩
      · rcases a2 b hb with hx | ⟨x, hx, hbx⟩
        · exact .inl hx
        · exact .inr ⟨x, List.mem_append_right _ hx, hbx⟩
    · intro hu
      simp only [Bool.and_eq_true] at hu
      refine ⟨fun b hb => ?_, fun hn => ?_⟩
      · rcases List.mem_append.1 hb with hb | hb
        · obtain ⟨x, hx, hbx⟩ := (u1 hu.1).1 b hb
          exact ⟨x, List.mem_append_left _ hx, hbx⟩
        · obtain ⟨x, hx, hbx⟩ := (u2 hu.2).1 b hb
          exact ⟨x, List.mem_append_right _ hx, hbx⟩
      · obtain ⟨_, hn2, hne⟩ := metNodup_append hn
        exact apart hc m1 m2 hne (u1 hu.1).1 (u2 hu.2).1 (u1 hu.1).2 ((u2 hu.2).2 hn2)

/-- A new object beside the old ones. -/
theorem Core.create (hc : Core w0 S f h β φ tm w) {w' : World} {β' : Env} {id : Nat} {ob : VObj} {φn : List Nat} (hs : w.heap.size ≤ w'.heap.size) (hw : ∀ b, b < w.heap.size → w'.heap[b]? = w.heap[b]?)
    (hf : ∀ i, id ∉ svIds (f i)) (ho : ∀ j o, h j = some o → id ∉ objIds o) (hn : h id = none) (hβ : ∀ j, j ≠ id → β'.val j = β.val j ∧ β'.blk j = β.blk j)
    (htop : ∀ b ∈ tops β' id ob, w.heap.size ≤ b) (hobj : ObjR w' (Av (upd h id (some ob)) β') β' id ob φn) (hnd : φn.Nodup)
    (hal : ∀ b ∈ φn, ((w0.heap.size ≤ b ∨ S b) ∧ b < w'.heap.size) ∧ ∀ j o, h j = some o → b ∉ φ j) (hbar : β'.bar = β.bar := by rfl) : Core w0 S f (upd h id (some ob)) β' (upd φ id φn) tm w' := by
  have tops_eq : ∀ j o, j ≠ id → tops β' j o = tops β j o := by
    intro j o hj
    cases o <;> simp [tops, hβ j hj]
  refine hc.step (fun i => i = id) hs (fun b hb _ => hw b hb) ?_ (fun i j hj e => hf i (e ▸ hj)) hβ ?_ ?_ hbar
  · rintro b (⟨j, oj, hj, hbj⟩ | hb)
    case inr => exact .inl (.inr (hbar ▸ hb))
    by_cases hjj : j = id
    · subst hjj
      simp only [upd, if_true, Option.some.injEq] at hj
      subst hj
      exact .inr (htop b hbj)
    · simp only [upd, hjj, if_false] at hj
      rw [tops_eq j oj hjj] at hbj
      exact .inl (.inl ⟨j, oj, hj, hbj⟩)
  · intro j oj hj
    by_cases hjj : j = id
    · subst hjj
      simp only [upd, if_true, Option.some.injEq] at hj
      subst hj
      exact .inr ⟨by simpa [upd] using hobj, by simpa [upd] using hnd, fun b hb => (hal b (by simpa [upd] using hb)).1⟩
    · simp only [upd, hjj, if_false] at hj
      refine .inl ⟨hjj, hj, by simp [upd, hjj], fun i hi e => ho j oj hj (e ▸ hi), fun b hb => hw b ?_⟩
      exact ((hc.fresh j oj hj).2 b (tops_sub (hc.objs j oj hj) b hb)).2
  · intro i j oi oj hne hi hj b hb
    by_cases hii : i = id
    · subst hii
      have hji : j ≠ i := Ne.symm hne
      simp only [upd, hji, if_false] at hj
      simp only [upd, if_true] at hb
      simp only [upd, hji, if_false]
      exact (hal b hb).2 j oj hj
    · simp only [upd, hii, if_false] at hi hb
      by_cases hjj : j = id
      · subst hjj
        simp only [upd, if_true]
        exact fun hb' => (hal b hb').2 i oi hi hb
      · simp only [upd, hjj, if_false] at hj ⊢
        exact hc.sep i j oi oj hne hi hj b hb

/-- What is read stays read beside a new object. -/
theorem SVRL.beside {w' : World} {β' : Env} {id : Nat} {ob : VObj} (hs : w.heap.size ≤ w'.heap.size) (hw : ∀ b, b < w.heap.size → w'.heap[b]? = w.heap[b]?)
    (hβ : ∀ j, j ≠ id → β'.val j = β.val j ∧ β'.blk j = β.blk j) (htop : ∀ b ∈ tops β' id ob, w.heap.size ≤ b) {ss : List SV} {vs : List Value} (hr : SVRL w (Av h β) β ss vs) (hi : id ∉ svIdsL ss) (hbar : β'.bar = β.bar := by rfl) :
    SVRL w' (Av (upd h id (some ob)) β') β' ss vs := by
  refine SVRL.mono hs (fun b hb _ => hw b hb) ?_ ss vs hr (fun j hj => hβ j (fun e => hi (e ▸ hj)))
  rintro b (⟨j, oj, hj, hbj⟩ | hb)
  case inr => exact .inl (.inr (hbar ▸ hb))
  by_cases hjj : j = id
  · subst hjj
    simp only [upd, if_true, Option.some.injEq] at hj
    subst hj
    exact .inr (htop b hbj)
  · simp only [upd, hjj, if_false] at hj
    refine .inl (.inl ⟨j, oj, hj, ?_⟩)
    cases oj <;> simp only [tops, hβ j hjj] at hbj ⊢ <;> exact hbj

structure FreshAt (st : St) (d : Nat) : Prop where
  slot : ∀ i, ∀ j ∈ svIds (st.get i), j / 64 ≠ d
  obj : ∀ j ob, st.obj j = some ob → j / 64 ≠ d ∧ ∀ k ∈ objIds ob, k / 64 ≠ d

theorem newId_div (d k : Nat) (hk : k < 64) : newId d k / 64 = d := by unfold newId; omega

theorem Kept.alloc (hk : Kept S w0 w) (ob : Obj) : Kept S w0 (w.alloc ob) :=
  ⟨hk.os, hk.tape, hk.output, by have := hk.size; simp; omega, fun k h1 h2 => (by show (w.heap.push ob)[k]? = _; rw [Array.getElem?_push, if_neg (by have := hk.size; omega)]; exact hk.block k h1 h2)⟩
theorem Kept.drew (hk : Kept S w0 w) : Kept S w0 w.drew := ⟨hk.os, hk.tape, hk.output, hk.size, hk.block⟩

theorem alloc_size (ob : Obj) : (w.alloc ob).heap.size = w.heap.size + 1 := by simp
theorem alloc_new (ob : Obj) : (w.alloc ob).heap[w.heap.size]? = some ob := heap_alloc_new w ob
theorem alloc_old (ob : Obj) (b : Nat) (hb : b < w.heap.size) : (w.alloc ob).heap[b]? = w.heap[b]? := by
  show (w.heap.push ob)[b]? = _
  rw [Array.getElem?_push, if_neg (by omega)]

theorem ofConst_ids (v : Value) : svIds (ofConst v) = [] := by
  unfold ofConst
  split
  · rfl
  · cases inR _ _ <;> rfl
  · generalize Nat.ble _ _ = c
    cases c <;> rfl
  · rfl
  · rfl

theorem ofConsts_ids : ∀ (l : List Value), svIdsL (l.map ofConst) = []
  | [] => rfl
  | v :: l => by simp [svIdsL, ofConst_ids, ofConsts_ids l]

theorem svIds_ev {d : Nat} (hf : FreshAt st d) {x : Operand} {s : SV} (hx : (evM x).val st.get st.obj = some s) : ∀ j ∈ svIds s, j / 64 ≠ d := by
  have := evM_val hx
  subst this
  cases x with
  | tmp t => exact hf.slot t
  | const v => simp [evS, ofConst_ids]
  | global g => intro j hj; simp [evS, svIds] at hj
  | func g => intro j hj; simp [evS, svIds] at hj

theorem svIds_cells {s : SV} {cs : List SV} (hc : (cellsOfSV s).val f h = some cs) : svIdsL cs = svIds s := by
  cases s <;> simp [cellsOfSV] at hc <;> subst hc <;> simp [svIds, svIdsL]

/-! ### Boxes -/

theorem sound_newbox (hR : Rel w0 S st a w) {d : Nat} (hdst : o.dst = some d) (hd : DstOk st.n d) (hfr : FreshAt st d) {t : TypeId} {cells : List SV} {vs : List Value}
    (hrun : (execOp a.eval o).run P w = .ok (.value (.pointer (some ⟨w.heap.size, 0, none⟩))) (w.alloc (.cells vs.toArray t)))
    (hcells : ∀ β φ, Core w0 S st.get st.obj β φ a.tmps w → SVRL w (Av st.obj β) β cells vs) (hone : ∀ x ∈ vs, x.oneCell' = true) (hids : ∀ j ∈ svIdsL cells, j / 64 ≠ d)
    (he : e = { sv := .ptr (newId d 0) 0, ow := [(newId d 0, some (.box t cells))] }) : Good P w0 S st o e a w := by
  subst he
  obtain ⟨β, φ, hc⟩ := hR.core
  have hnew : newId d 0 / 64 = d := newId_div d 0 (by omega)
  have hβ : ∀ j, j ≠ newId d 0 → (β.setB (newId d 0) w.heap.size).val j = β.val j ∧ (β.setB (newId d 0) w.heap.size).blk j = β.blk j := by
    intro j hj
    exact ⟨rfl, by simp [Env.setB, upd, hj]⟩
  have hblk : (β.setB (newId d 0) w.heap.size).blk (newId d 0) = w.heap.size := by simp [Env.setB, upd]
  have htop : ∀ b ∈ tops (β.setB (newId d 0) w.heap.size) (newId d 0) (.box t cells), w.heap.size ≤ b := by
    intro b hb
    simp only [tops, hblk, List.mem_singleton] at hb
    omega
  have hle := hR.kept.size
  refine good_value hR (fun d' h' => by rw [hdst] at h'; injection h' with h'; exact h' ▸ hd) hrun (hR.kept.alloc _) ⟨β.setB (newId d 0) w.heap.size, upd φ (newId d 0) [w.heap.size], ?_, ?_⟩
  · refine hc.create (by rw [alloc_size]; omega) (fun b hb => alloc_old _ b hb) (fun i hi => hfr.slot i _ hi hnew) (fun j ob hj hi => (hfr.obj j ob hj).2 _ hi hnew) ?_ hβ htop ?_ (by simp) ?_
    · cases hn : st.obj (newId d 0) with
      | none => rfl
      | some ob => exact absurd hnew (hfr.obj _ ob hn).1
    · refine ⟨vs, by rw [hblk]; exact alloc_new _, ?_, hone, by rw [hblk]⟩
      exact SVRL.beside (by rw [alloc_size]; omega) (fun b hb => alloc_old _ b hb) hβ htop (hcells β φ hc) (fun hi => hids _ hi hnew)
    · intro b hb
      rw [List.mem_singleton] at hb
      subst hb
      refine ⟨⟨.inl hle, by rw [alloc_size]; omega⟩, fun j ob hj hb => ?_⟩
      have := ((hc.fresh j ob hj).2 _ hb).2
      omega
  · simp only [SVR, hblk]

theorem sound_alloc (hR : Rel w0 S st a w) {d : Nat} (hdst : o.dst = some d) (hd : DstOk st.n d) (hfr : FreshAt st d) {t : TypeId} (ho : o.op = .alloc t) {z : List SV} (hz : (zeroM P t).val st.get st.obj = some z)
    (he : e = { sv := .ptr (newId d 0) 0, ow := [(newId d 0, some (.box t z))] }) : Good P w0 S st o e a w := by
  obtain ⟨i, zv, hi, hzv, rfl, hone⟩ := zeroM_ok hz
  refine sound_newbox hR hdst hd hfr (vs := zv.cells.toList) ?_ (fun β φ hc => ofConsts_ok _) hone (by simp [ofConsts_ids]) he
  simp [execOp, ho, Instr.alloc, zeroValue, typeInfo, hi, hzv, newVar, newRow]

theorem sound_box (hR : Rel w0 S st a w) {d : Nat} (hdst : o.dst = some d) (hd : DstOk st.n d) (hfr : FreshAt st d) {t : TypeId} {x : Operand} (ho : o.op = .box t x) {s : SV} {cs : List SV}
    (hx : (evM x).val st.get st.obj = some s) (hcs : (cellsOfSV s).val st.get st.obj = some cs)
    (he : e = { sv := .ptr (newId d 0) 0, ow := [(newId d 0, some (.box t cs))] }) : Good P w0 S st o e a w := by
  obtain ⟨β0, φ0, hc0⟩ := hR.core
  refine sound_newbox hR hdst hd hfr (vs := (a.eval x).cells.toList) ?_ (fun β φ hc => (cells_ok (hc.ev hx) hcs).1) (cells_ok (hc0.ev hx) hcs).2 ?_ he
  · simp [execOp, ho, Instr.box, newVar, newRow]
  · rw [svIds_cells hcs]
    exact svIds_ev hfr hx

end

end Go.Proofs.Ytjknoknkbfhelaa.Vm
