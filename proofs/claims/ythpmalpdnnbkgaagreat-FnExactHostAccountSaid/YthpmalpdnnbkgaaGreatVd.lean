/- The value machine: runs, loops, contracts out of runs. Conditions: as each lemma says. -/
import Derived.Test.YthpmalpdnnbkgaaGreatVc
import Derived.LoopN

/- The value machine: a region whose order is drawn ends, whatever the order, as in the order of its text. Conditions: the contracts of the context hold; what may not be exchanged is ordered by the region's edges. -/
set_option linter.unusedVariables false
set_option linter.unusedSimpArgs false
namespace Go.Proofs.YthpmalpdnnbkgaaGreat.Vm

section
variable {P : Program} {Γ : Ctx} {w0 : World} {S : Own} {ops : Array Oper} {gs : List Nat}

/-! ### The order that the edges force -/

theorem mem_unionN {i : Nat} : ∀ {l m : List Nat}, i ∈ unionN l m → i ∈ l ∨ i ∈ m
  | [], m, h => .inr h
  | k :: l, m, h => by
    simp only [unionN] at h
    cases hk : memN k m
    · simp only [hk, cond_false, List.mem_cons] at h
      rcases h with rfl | h
      · exact .inl (List.mem_cons_self ..)
      · exact (mem_unionN h).imp (List.mem_cons_of_mem _) id
    · simp only [hk, cond_true] at h
      exact (mem_unionN h).imp (List.mem_cons_of_mem _) id

def GoodK (ops : Array Oper) (L : Nat → Bool) (k : Nat) : Prop := ∀ o, ops[k]? = some o → ∀ e ∈ o.after, Region.binds .any e = true → L e.on = true

theorem foldr_anc {acc : List (List Nat)} {j : Nat} : ∀ (l : List Edge), j ∈ l.foldr (fun e r => bif Region.binds .any e then unionN (unionN [e.on] (acc.getD e.on [])) r else r) [] →
    ∃ e ∈ l, Region.binds .any e = true ∧ (j = e.on ∨ j ∈ acc.getD e.on [])
  | [], h => by simp at h
  | e :: l, h => by
    simp only [List.foldr_cons] at h
    cases hb : Region.binds .any e
    · simp only [hb, cond_false] at h
      obtain ⟨x, hx, h1⟩ := foldr_anc l h
      exact ⟨x, List.mem_cons_of_mem _ hx, h1⟩
    · simp only [hb, cond_true] at h
      rcases mem_unionN h with h | h
      · refine ⟨e, List.mem_cons_self .., hb, ?_⟩
        rcases mem_unionN h with h | h
        · exact .inl (by simpa using h)
        · exact .inr h
      · obtain ⟨x, hx, h1⟩ := foldr_anc l h
        exact ⟨x, List.mem_cons_of_mem _ hx, h1⟩

theorem ancs_spec {L : Nat → Bool} (hcl : ∀ k, L k = true → GoodK ops L k) : ∀ (l : List Oper) (acc : List (List Nat)) (pre : List Oper), ops.toList = pre ++ l → acc.length = pre.length →
    (∀ k j, GoodK ops L k → j ∈ acc.getD k [] → L j = true) → ∀ k j, GoodK ops L k → j ∈ (ancs l acc).getD k [] → L j = true
  | [], acc, pre, _, _, h => by simpa [ancs] using h
  | o :: l, acc, pre, hops, hlen, h => by
    rw [ancs]
    refine ancs_spec hcl l _ (pre ++ [o]) (by simp [hops]) (by simp [hlen]) ?_
    intro k j hk hj
    rcases Nat.lt_trichotomy k acc.length with hlt | heq | hgt
    · refine h k j hk ?_
      rw [List.getD_eq_getElem?_getD, List.getElem?_append_left hlt] at hj
      rwa [List.getD_eq_getElem?_getD]
    · subst heq
      rw [List.getD_eq_getElem?_getD, List.getElem?_append_right (Nat.le_refl _)] at hj
      simp only [Nat.sub_self, List.getElem?_cons_zero, Option.getD_some] at hj
      obtain ⟨e, he, hb, hj⟩ := foldr_anc _ hj
      have ho : ops[acc.length]? = some o := by
        rw [← Array.getElem?_toList, hops, hlen]
        simp
      have hL := hk o ho e (by simpa using he) hb
      rcases hj with rfl | hj
      · exact hL
      · exact h e.on j (hcl _ hL) hj
    · rw [List.getD_eq_getElem?_getD, List.getElem?_eq_none (by simp; omega)] at hj
      simp at hj

theorem edgesOk_spec : ∀ (l : List Oper) (i : Nat), edgesOk l i = true → ∀ k o, l[k]? = some o → ∀ e ∈ o.after, Region.binds .any e = true → e.on < i + k
  | [], _, _, k, o, h, _, _, _ => by simp at h
  | x :: l, i, h, k, o, hk, e, he, hb => by
    simp only [edgesOk, Bool.and_eq_true, List.all_eq_true] at h
    cases k with
    | zero =>
      simp only [List.getElem?_cons_zero, Option.some.injEq] at hk
      subst hk
      have := h.1 e (by simpa using he)
      rw [hb] at this
      simp only [Bool.not_true, Bool.false_or] at this
      exact Nat.le_of_ble_eq_true this
    | succ k =>
      simp only [List.getElem?_cons_succ] at hk
      have := edgesOk_spec l (i + 1) h.2 k o hk e he hb
      omega

/-! ### Pairs -/

theorem pairsOk_spec {an : List (List Nat)} {a : OpLog} : ∀ (l : List OpLog), pairsOk an a l = true → ∀ b ∈ l, (clash a b = true → a.i ∈ an.getD b.i []) ∧ clash1 b a = false
  | [], _ => by simp
  | c :: l, h => by
    simp only [pairsOk, Bool.and_eq_true, Bool.not_eq_true'] at h
    intro b hb
    rcases List.mem_cons.1 hb with rfl | hb
    · refine ⟨fun hc => ?_, h.1.2⟩
      have := h.1.1
      rw [hc] at this
      simp only [Bool.not_true, Bool.false_or] at this
      exact memN_iff.1 this
    · exact pairsOk_spec l h.2 b hb

theorem allOk_spec {an : List (List Nat)} : ∀ (l : List OpLog), allOk an l = true → l.Pairwise (fun a b => (clash a b = true → a.i ∈ an.getD b.i []) ∧ clash1 b a = false)
  | [], _ => .nil
  | a :: l, h => by
    simp only [allOk, Bool.and_eq_true] at h
    exact .cons (pairsOk_spec l h.1) (allOk_spec l h.2)

theorem anyIn_of {l m : List Nat} {i : Nat} (h1 : i ∈ l) (h2 : i ∈ m) : anyIn l m = true := by
  induction m with
  | nil => simp at h2
  | cons k m ih =>
    simp only [anyIn, Bool.or_eq_true]
    rcases List.mem_cons.1 h2 with rfl | h2
    · exact .inl (memN_iff.2 h1)
    · exact .inr (ih h2)

theorem path_get {rest : List Oper} {st : St} {l : List PS} {fin : St} (h : Path P Γ ops gs rest 0 st l fin) {p : PS} (hp : p ∈ l) : l[p.i]? = some p ∧ rest[p.i]? = some p.o ∧ p.i < rest.length := by
  obtain ⟨k, hk, rfl⟩ := List.getElem_of_mem hp
  have h1 := (path_index h).1
  have h2 := (path_index h).2.1
  have hl : l.length = rest.length := by rw [← h2]; simp
  have e : l[k].i = k := by
    have : (l.map (·.i))[k]? = (List.range' 0 rest.length)[k]? := by rw [h1]
    rw [List.getElem?_map, List.getElem?_eq_getElem hk, List.getElem?_range' (by omega)] at this
    simpa using this
  rw [e]
  refine ⟨List.getElem?_eq_getElem hk, ?_, by omega⟩
  rw [← h2, List.getElem?_map, List.getElem?_eq_getElem hk]
  rfl

theorem path_pair {rest : List Oper} {st : St} {l : List PS} {fin : St} {an : List (List Nat)} (h : Path P Γ ops gs rest 0 st l fin) (hall : allOk an (l.map (·.log)) = true) {p q : PS} (hp : p ∈ l) (hq : q ∈ l) (hlt : p.i < q.i) :
    (clash p.log q.log = true → p.i ∈ an.getD q.i []) ∧ clash1 q.log p.log = false := by
  have hpw := List.pairwise_map.1 (allOk_spec _ hall)
  have gp := (path_get h hp).1
  have gq := (path_get h hq).1
  rw [List.pairwise_iff_getElem] at hpw
  have lp := (List.getElem?_eq_some_iff.1 gp).1
  have lq := (List.getElem?_eq_some_iff.1 gq).1
  have := hpw p.i q.i lp lq hlt
  rw [(List.getElem?_eq_some_iff.1 gp).2, (List.getElem?_eq_some_iff.1 gq).2] at this
  have ei := ((path_index h).2.2 p hp).1
  have ej := ((path_index h).2.2 q hq).1
  rw [ei, ej] at this
  exact this

/-! ### What a step reads, turns, names -/

theorem log_wo {p : PS} (hs : StepIs P Γ ops p) {id : Nat} (ht : p.tH id) : id ∈ p.log.wo := by
  rcases hs with ⟨_, he, _, _⟩ | ⟨_, e, s, r, hr, _, hl, he⟩
  · rw [PS.tH, he] at ht
    simp at ht
  · rw [hl]
    simp only [logOf, hr]
    have h1 : p.e.ow = e.ow ∧ p.e.cw = e.cw := by
      rcases he with rfl | ⟨d, g, _, _, he⟩
      · exact ⟨rfl, rfl⟩
      · rw [he]; exact ⟨rfl, rfl⟩
    rw [PS.tH, h1.1, h1.2] at ht
    rcases ht with ht | ⟨off, svs, hc⟩
    · exact List.mem_append_right _ ht
    · rw [hc]
      exact List.mem_append_left _ (List.mem_singleton.2 rfl)

theorem log_sv {p : PS} (hs : StepIs P Γ ops p) {j : Nat} (hj : j ∈ svIds p.e.sv) : j ∈ p.log.m := by
  rcases hs with ⟨_, he, _, _⟩ | ⟨_, e, s, r, hr, _, hl, he⟩
  · rw [he] at hj
    simp [svIds] at hj
  · rw [hl]
    simp only [logOf, hr]
    rcases he with rfl | ⟨d, g, _, _, he⟩
    · exact List.mem_append_left _ hj
    · rw [he] at hj
      simp [svIds] at hj

theorem lkW_mem {ow : List (Nat × Option VObj)} {id : Nat} {x : Option VObj} (h : lkW ow id = some x) : (id, x) ∈ ow := by
  induction ow with
  | nil => simp [lkW] at h
  | cons y l ih =>
    obtain ⟨i, ob⟩ := y
    simp only [lkW] at h
    split at h
    · rename_i hi
      subst hi
      simp only [Option.some.injEq] at h
      subst h
      exact List.mem_cons_self ..
    · exact List.mem_cons_of_mem _ (ih h)

theorem log_ow {p : PS} (hs : StepIs P Γ ops p) {id : Nat} {ob : VObj} (hj : (id, some ob) ∈ p.e.ow) : id ∈ p.log.m ∧ ∀ j ∈ objIds ob, j ∈ p.log.m := by
  rcases hs with ⟨_, he, _, _⟩ | ⟨_, e, s, r, hr, _, hl, he⟩
  · rw [he] at hj
    simp at hj
  · rw [hl]
    simp only [logOf, hr]
    have h1 : p.e.ow = e.ow := by
      rcases he with rfl | ⟨d, g, _, _, he⟩
      · rfl
      · rw [he]
    rw [h1] at hj
    unfold effIds
    constructor
    · exact List.mem_append_right _ (List.mem_append_right _ (List.mem_flatMap.2 ⟨_, hj, List.mem_cons_self ..⟩))
    · intro j hj'
      exact List.mem_append_right _ (List.mem_append_right _ (List.mem_flatMap.2 ⟨_, hj, List.mem_cons_of_mem _ hj'⟩))

theorem log_cw {p : PS} (hs : StepIs P Γ ops p) {i off : Nat} {svs : List SV} (hc : p.e.cw = some (i, off, svs)) : ∀ j ∈ svIdsL svs, j ∈ p.log.m := by
  rcases hs with ⟨_, he, _, _⟩ | ⟨_, e, s, r, hr, _, hl, he⟩
  · rw [he] at hc
    simp at hc
  · rw [hl]
    simp only [logOf, hr]
    have h1 : p.e.cw = e.cw := by
      rcases he with rfl | ⟨d, g, _, _, he⟩
      · rfl
      · rw [he]
    rw [h1] at hc
    intro j hj
    unfold effIds
    refine List.mem_append_right _ (List.mem_append_left _ ?_)
    rw [hc]
    exact hj

theorem svIdsL_append (a b : List SV) : svIdsL (a ++ b) = svIdsL a ++ svIdsL b := by
  induction a with
  | nil => rfl
  | cons x a ih => simp [svIdsL, ih]

theorem svIdsL_take {a : List SV} {n j : Nat} (h : j ∈ svIdsL (a.take n)) : j ∈ svIdsL a := by
  have := List.take_append_drop n a
  rw [← this, svIdsL_append]
  exact List.mem_append_left _ h

theorem svIdsL_drop {a : List SV} {n j : Nat} (h : j ∈ svIdsL (a.drop n)) : j ∈ svIdsL a := by
  have := List.take_append_drop n a
  rw [← this, svIdsL_append]
  exact List.mem_append_right _ h

/-- Where a name comes from. -/
def Orig (ds : List Nat) (L : Nat → Bool) (l : List PS) (j : Nat) : Prop := j / 64 ∉ ds ∨ ∃ p ∈ l, L p.i = true ∧ j ∈ p.log.m

theorem foldF_orig {ds : List Nat} {L : Nat → Bool} {s : Nat} : ∀ (l l0 : List PS) (v : SV), (∀ p ∈ l, StepIs P Γ ops p) → (∀ p ∈ l, p ∈ l0) → (∀ j ∈ svIds v, Orig ds L l0 j) → ∀ j ∈ svIds (foldF L l s v), Orig ds L l0 j
  | [], _, v, _, _, hv => hv
  | p :: l, l0, v, hs, hsub, hv => by
    unfold foldF
    simp only [List.foldl_cons]
    refine foldF_orig l l0 _ (fun q hq => hs q (List.mem_cons_of_mem _ hq)) (fun q hq => hsub q (List.mem_cons_of_mem _ hq)) ?_
    intro j hj
    split at hj
    · rename_i hL
      unfold PS.f at hj
      split at hj
      · exact .inr ⟨p, hsub p (List.mem_cons_self ..), hL, log_sv (hs p (List.mem_cons_self ..)) hj⟩
      · exact hv j hj
    · exact hv j hj

def OrigO (ds : List Nat) (L : Nat → Bool) (l : List PS) (id : Nat) (o : Option VObj) : Prop := ∀ ob, o = some ob → Orig ds L l id ∧ ∀ j ∈ objIds ob, Orig ds L l j

theorem foldH_orig {ds : List Nat} {L : Nat → Bool} {id : Nat} : ∀ (l l0 : List PS) (v : Option VObj), (∀ p ∈ l, StepIs P Γ ops p) → (∀ p ∈ l, p ∈ l0) → OrigO ds L l0 id v → OrigO ds L l0 id (foldH L l id v)
  | [], _, v, _, _, hv => hv
  | p :: l, l0, v, hs, hsub, hv => by
    unfold foldH
    simp only [List.foldl_cons]
    refine foldH_orig l l0 _ (fun q hq => hs q (List.mem_cons_of_mem _ hq)) (fun q hq => hsub q (List.mem_cons_of_mem _ hq)) ?_
    split
    · rename_i hL
      have hsp := hs p (List.mem_cons_self ..)
      have hmem := hsub p (List.mem_cons_self ..)
      unfold PS.h
      split
      · rename_i x hx
        rintro ob rfl
        have := log_ow hsp (lkW_mem hx)
        exact ⟨.inr ⟨p, hmem, hL, this.1⟩, fun j hj => .inr ⟨p, hmem, hL, this.2 j hj⟩⟩
      · unfold cwAt
        split
        · rename_i i off svs hcw
          split
          · split
            · rename_i t cells
              rintro ob hob
              simp only [Option.some.injEq] at hob
              subst hob
              have h0 := hv _ rfl
              refine ⟨h0.1, fun j hj => ?_⟩
              simp only [objIds, writeCells, svIdsL_append, List.mem_append] at hj
              rcases hj with hj | hj | hj
              · exact h0.2 j (svIdsL_take hj)
              · exact .inr ⟨p, hmem, hL, log_cw hsp hcw j hj⟩
              · exact h0.2 j (svIdsL_drop hj)
            · exact hv
          · exact hv
        · exact hv
    · exact hv

/-! ### Clashes -/

theorem clash_ds {a b : OpLog} {s : Nat} (ha : a.d = some s) (hb : s ∈ b.rs) : clash a b = true := by
  have : anyIn (optN a.d) (b.rs ++ optN b.d) = true := anyIn_of (i := s) (by simp [ha, optN]) (List.mem_append_left _ hb)
  simp [clash, this]
theorem clash_dd {a b : OpLog} {s : Nat} (ha : a.d = some s) (hb : b.d = some s) : clash a b = true := by
  have : anyIn (optN a.d) (b.rs ++ optN b.d) = true := anyIn_of (i := s) (by simp [ha, optN]) (List.mem_append_right _ (by simp [hb, optN]))
  simp [clash, this]
theorem clash_sd {a b : OpLog} {s : Nat} (ha : s ∈ a.rs) (hb : b.d = some s) : clash a b = true := by
  have : anyIn a.rs (optN b.d) = true := anyIn_of (i := s) ha (by simp [hb, optN])
  simp [clash, this]
theorem clash_ww {a b : OpLog} {s : Nat} (ha : s ∈ a.wo) (hb : s ∈ b.wo) : clash a b = true := by
  have : anyIn a.wo (b.ro ++ b.wo) = true := anyIn_of (i := s) ha (List.mem_append_right _ hb)
  simp [clash, this]
theorem clash_wr {a b : OpLog} {s : Nat} (ha : s ∈ a.wo) (hb : s ∈ b.ro) : clash a b = true := by
  have : anyIn a.wo (b.ro ++ b.wo) = true := anyIn_of (i := s) ha (List.mem_append_left _ hb)
  simp [clash, this]
theorem clash_rw {a b : OpLog} {s : Nat} (ha : s ∈ a.ro) (hb : s ∈ b.wo) : clash a b = true := by
  have : anyIn a.ro b.wo = true := anyIn_of (i := s) ha hb
  simp [clash, this]
theorem clash_dm {a b : OpLog} {j : Nat} (ha : a.d = some (j / 64)) (hb : j ∈ b.m) : clash a b = true := by
  have : (b.m.any fun i => Nat.beq (i / 64) (j / 64)) = true := by
    simp only [List.any_eq_true]
    exact ⟨j, hb, Nat.beq_refl _⟩
  unfold clash
  rw [ha]
  simp only [this, Bool.or_true]
theorem clash1_dm {a b : OpLog} {j : Nat} (ha : b.d = some (j / 64)) (hb : j ∈ a.m) : clash1 b a = true := by
  unfold clash1
  rw [ha]
  simp only [List.any_eq_true]
  exact ⟨j, hb, Nat.beq_refl _⟩

/-! ### Counting -/

theorem countP_lt {p q : Nat → Bool} : ∀ (l : List Nat), (∀ k ∈ l, q k = true → p k = true) → (∃ k ∈ l, p k = true ∧ q k = false) → l.countP q < l.countP p
  | [], _, h => by simp at h
  | x :: l, h, ⟨k, hk, hp, hq⟩ => by
    have hle : l.countP q ≤ l.countP p := List.countP_mono_left (fun y hy hqy => h y (List.mem_cons_of_mem _ hy) hqy)
    simp only [List.countP_cons]
    rcases List.mem_cons.1 hk with rfl | hk
    · rw [hp, hq]
      simp
      omega
    · have := countP_lt l (fun y hy => h y (List.mem_cons_of_mem _ hy)) ⟨k, hk, hp, hq⟩
      have hx := h x (List.mem_cons_self ..)
      cases hqx : q x
      · simp; omega
      · rw [hx hqx]; simp; omega

def unl (ops : Array Oper) (listed : Array Bool) : Nat := (List.range ops.size).countP fun k => !(listed.getD k true)

/-! ### The state behind a set of steps -/

def Cur (w0 : World) (S : Own) (st : St) (l : List PS) (L : Nat → Bool) (a : Act) (w : World) : Prop :=
  ∃ stS : St, Rel w0 S stS a w ∧ stS.n = st.n ∧ (∀ s, stS.get s = foldF L l s (st.get s)) ∧ ∀ id, stS.obj id = foldH L l id (st.obj id)

theorem fold_here {α : Type} {step : PS → α → α} {T : PS → Prop} (hid : ∀ p v, ¬ T p → step p v = v) {L : Nat → Bool} {l : List PS} {p : PS} (v : α)
    (h1 : ∀ q ∈ l, T q → q.i < p.i → L q.i = true) (h2 : ∀ q ∈ l, T q → p.i < q.i → L q.i = false) (h3 : L p.i = false) :
    l.foldl (fun v q => if L q.i then step q v else v) v = l.foldl (fun v q => if decide (q.i < p.i) then step q v else v) v := by
  refine fold_congr step T hid (L := L) (L' := fun k => decide (k < p.i)) l v (fun q hq ht => ?_)
  rcases Nat.lt_trichotomy q.i p.i with hlt | heq | hgt
  · rw [h1 q hq ht hlt]; simp [hlt]
  · rw [heq, h3]; simp
  · rw [h2 q hq ht hgt]; simp; omega

theorem mem_dsts {o : Oper} {d : Nat} : ∀ {l : List Oper}, o ∈ l → o.dst = some d → d ∈ dsts l
  | [], hm, _ => by simp at hm
  | x :: r, hm, hdd => by
    simp only [dsts]
    rcases List.mem_cons.1 hm with rfl | hm
    · rw [hdd]; exact List.mem_cons_self ..
    · split
      · exact List.mem_cons_of_mem _ (mem_dsts hm hdd)
      · exact mem_dsts hm hdd

theorem one_step (hΓ : CtxHolds P Γ) {st : St} {l : List PS} {fin : St} (hpath : Path P Γ ops gs ops.toList 0 st l fin) (hall : allOk (ancs ops.toList []) (l.map (·.log)) = true)
    (hfr : freshFor (dsts ops.toList) st = true) {L : Nat → Bool} (hcl : ∀ k, L k = true → GoodK ops L k) {p : PS} (hp : p ∈ l) (hg : GoodK ops L p.i) (hL : L p.i = false)
    {Q : Exit → Act → World → Prop} {a : Act} {w : World} (hcur : Cur w0 S st l L a w) {K : Act → World → Prop} (hK : ∀ a' w', Cur w0 S st l (fun k => L k || k == p.i) a' w' → K a' w') : wpOp P ops Q p.i K a w := by
  obtain ⟨stS, hR, hn, hget, hobj⟩ := hcur
  have hsteps := path_steps hpath
  have hstates := path_states hpath
  have hsp := hsteps p hp
  have hanc := ancs_spec hcl ops.toList [] [] rfl rfl (by simp)
  have hd : ∀ q ∈ l, q.log.d = q.o.dst := fun q hq => ((path_index hpath).2.2 q hq).2
  have hA : ∀ q ∈ l, q.i < p.i → clash q.log p.log = true → L q.i = true := fun q hq hlt hc => hanc p.i q.i hg ((path_pair hpath hall hq hp hlt).1 hc)
  have hB : ∀ q ∈ l, p.i < q.i → clash p.log q.log = true → L q.i = false := by
    intro q hq hlt hc
    cases hLq : L q.i
    · rfl
    · have := hanc q.i p.i (hcl _ hLq) ((path_pair hpath hall hp hq hlt).1 hc)
      rw [hL] at this
      cases this
  obtain ⟨hg1, hg2, hg3⟩ := hstates.1 p hp
  have hslot : ∀ s ∈ p.log.rs, stS.get s = p.st.get s := by
    intro s hs
    rw [hget s, hg1 s]
    refine fold_here (step := fun q v => PS.f q s v) (T := fun q => q.tF s) (fun q v h => PS.f_id h v) _ (fun q hq ht hlt => hA q hq hlt (clash_ds ((hd q hq).trans ht) hs)) (fun q hq ht hlt => hB q hq hlt (clash_sd hs ((hd q hq).trans ht))) hL
  have hob : ∀ id ∈ p.log.ro, stS.obj id = p.st.obj id := by
    intro id hs
    rw [hobj id, hg2 id]
    refine fold_here (step := fun q v => PS.h q id v) (T := fun q => q.tH id) (fun q v h => PS.h_id h v) _ (fun q hq ht hlt => hA q hq hlt (clash_wr (log_wo (hsteps q hq) ht) hs)) (fun q hq ht hlt => hB q hq hlt (clash_rw hs (log_wo (hsteps q hq) ht))) hL
  have hnd : (l.map (·.i)).Nodup := by
    rw [(path_index hpath).1]
    exact List.nodup_range'
  have hpw : l.Pairwise (fun a b => a.i < b.i) := by
    have := List.pairwise_lt_range' (s := 0) (n := ops.toList.length)
    rw [← (path_index hpath).1] at this
    exact List.pairwise_map.1 this
  have insF : ∀ s, foldF (fun k => L k || k == p.i) l s (st.get s) = p.f s (stS.get s) := by
    intro s
    rw [hget s]
    exact fold_insert (fun q v => PS.f q s v) (fun q => q.tF s) (fun q v h => PS.f_id h v) (L := L) (q := p) l (st.get s) hp hnd hL hpw (fun q hq hlt h1 h2 => hB q hq hlt (clash_dd ((hd p hp).trans h1) ((hd q hq).trans h2)))
  have insH : ∀ id, foldH (fun k => L k || k == p.i) l id (st.obj id) = p.h id (stS.obj id) := by
    intro id
    rw [hobj id]
    exact fold_insert (fun q v => PS.h q id v) (fun q => q.tH id) (fun q v h => PS.h_id h v) (L := L) (q := p) l (st.obj id) hp hnd hL hpw (fun q hq hlt h1 h2 => hB q hq hlt (clash_ww (log_wo hsp h1) (log_wo (hsteps q hq) h2)))
  have hopi : ops[p.i]? = some p.o := by
    rw [← Array.getElem?_toList]
    exact (path_get hpath hp).2.1
  have hds : ∀ d, p.o.dst = some d → d ∈ dsts ops.toList := by
    intro d hdd
    have hm : p.o ∈ ops.toList := List.mem_of_getElem? (path_get hpath hp).2.1
    exact mem_dsts hm hdd
  have hguard : guardSlot ops p.o ⊆ p.log.rs := by
    rcases hsp with ⟨_, _, _, hl⟩ | ⟨_, e, s, r, hr, _, hl, _⟩
    · rw [hl]; exact fun _ h => h
    · rw [hl]; simp only [logOf, hr]; exact fun _ h => List.mem_append_left _ h
  have hwant : wantB ops stS p.o = wantB ops p.st p.o := by
    unfold wantB
    split
    · rfl
    · rename_i j want hgd
      split
      · rfl
      · rename_i s hs
        rw [hslot s (hguard (by unfold guardSlot; simp [hgd, hs, optN]))]
  unfold wpOp
  rw [hopi]
  simp only
  have hw : wantB ops stS p.o = some true ∨ wantB ops stS p.o = some false := by
    rw [hwant]
    rcases hsp with ⟨h, _⟩ | ⟨h, _⟩
    · exact .inr h
    · exact .inl h
  rcases hsp with ⟨hw0, he, hok, hl⟩ | ⟨hw0, e, s, r, hr, hok, hl, he⟩
  · rw [← hwant] at hw0
    rw [if_neg (by rw [wanted_of hR hw0]; simp)]
    refine hK _ _ ⟨stS.skip p.o.dst, ?_, hn, fun s => ?_, fun id => ?_⟩
    · have hok' : ∀ d, p.o.dst = some d → DstOk stS.n d := by
        intro d hdd
        simp only [St.skip, St.apply, andt_eq] at hok
        have := hok.2
        rw [hdd] at this
        have := dstB_ok this
        rw [hn, ← hg3]
        exact this
      obtain ⟨β, φ, hc⟩ := hR.core
      exact rel_put (e := { sv := .undef }) hR hok' hR.kept ⟨β, φ, hc, by simp [SVR]⟩
    · rw [insF s]
      unfold St.skip
      rw [← he]
      exact (apply_f stS p s)
    · rw [insH id]
      unfold St.skip
      rw [← he]
      exact (apply_h stS p id)
  · rw [← hwant] at hw0
    rw [if_pos (wanted_of hR hw0)]
    refine .inl ?_
    have hrs : ∀ k ∈ s, stS.get k = p.st.get k := fun k hk => hslot k (by rw [hl]; simp only [logOf, hr]; exact List.mem_append_right _ hk)
    have hro : ∀ k ∈ r, stS.obj k = p.st.obj k := fun k hk => hob k (by rw [hl]; simp only [logOf, hr]; exact List.mem_append_right _ hk)
    have hrun := M.run_congr (evalOp P Γ p.o) hr hrs hro
    simp only [St.apply, andt_eq] at hok
    have hgood := op_sound hΓ hR (M.val_of_run _ hrun) hok.1.2 (fun d hdd => by
        have := hok.2
        rw [hdd] at this
        have := dstB_ok this
        rw [hn, ← hg3]
        exact this) (fun _ d hdd => ?_) Q
    · refine Oper.wp_mono ?_ hgood
      rintro a' w' ⟨v, rfl, hR'⟩
      rcases he with he | ⟨d, g, hdd, hsv, he⟩
      · refine hK _ _ ⟨stS.apply p.o.dst e, hR', hn, fun s => ?_, fun id => ?_⟩
        · rw [insF s, ← he]; exact apply_f stS p s
        · rw [insH id, ← he]; exact apply_h stS p id
      · have hb : (stS.apply p.o.dst e).get d = .bool g := by
          rw [hdd, apply_get, hsv]
          simp [upd]
        have hslot' := hR'.slot_bool hb
        refine hK _ _ ⟨(stS.apply p.o.dst e).reset.know d g, hR'.reset.know hslot', hn, fun s => ?_, fun id => ?_⟩
        · rw [insF s]; exact know_f hdd p rfl he s
        · rw [insH id]; exact know_h p rfl he id
    · have key : ∀ j, Orig (dsts ops.toList) L l j → j / 64 ≠ d := by
        rintro j (hj | ⟨q, hq, hLq, hj⟩) rfl
        · exact hj (hds _ hdd)
        · rcases Nat.lt_trichotomy q.i p.i with hlt | heq | hgt
          · have := (path_pair hpath hall hq hp hlt).2
            rw [clash1_dm ((hd p hp).trans hdd) hj] at this
            cases this
          · rw [heq, hL] at hLq
            cases hLq
          · have := hB q hq hgt (clash_dm ((hd p hp).trans hdd) hj)
            rw [this] at hLq
            cases hLq
      have hf0 := fun d' hd' => fresh_of hfr d' hd'
      constructor
      · intro i j hj
        rw [hget i] at hj
        refine key j (foldF_orig l l _ hsteps (fun _ h => h) (fun k hk => .inl (fun hm => ?_)) j hj)
        exact (hf0 _ hm).slot i k hk rfl
      · intro j ob hjo
        rw [hobj j] at hjo
        have h0 : OrigO (dsts ops.toList) L l j (st.obj j) := by
          intro ob' hob'
          refine ⟨.inl (fun hm => ((hf0 _ hm).obj j ob' hob').1 rfl), fun k hk => .inl (fun hm => ((hf0 _ hm).obj j ob' hob').2 k hk rfl)⟩
        have := foldH_orig l l _ hsteps (fun _ h => h) h0 ob hjo
        exact ⟨key j this.1, fun k hk => key k (this.2 k hk)⟩

theorem wpAny_drawn (hΓ : CtxHolds P Γ) {st : St} {l : List PS} {fin : St} (hpath : Path P Γ ops gs ops.toList 0 st l fin) (hall : allOk (ancs ops.toList []) (l.map (·.log)) = true)
    (hfr : freshFor (dsts ops.toList) st = true) (hed : edgesOk ops.toList 0 = true) {Q : Exit → Act → World → Prop} (hQ : ∀ a w, Rel w0 S fin a w → Q .normal a w) :
    ∀ (fuel : Nat) (listed : Array Bool) (a : Act) (w : World), listed.size = ops.size → (∀ k, listed.getD k false = true → GoodK ops (fun k => listed.getD k false) k) → unl ops listed ≤ fuel →
      Cur w0 S st l (fun k => listed.getD k false) a w → wpAny P .any ops Q fuel listed a w := by
  have hstates := path_states hpath
  have hlen : l.length = ops.size := by
    have : (l.map (·.o)).length = ops.toList.length := by rw [(path_index hpath).2.1]
    simpa using this
  have done : ∀ (listed : Array Bool) (a : Act) (w : World), listed.size = ops.size → Region.ready .any ops listed = [] → Cur w0 S st l (fun k => listed.getD k false) a w → Q .normal a w := by
    intro listed a w hsz hr ⟨stS, hR, hn, hget, hobj⟩
    have hall' : ∀ k, k < ops.size → listed.getD k false = true := by
      intro k
      induction k using Nat.strongRecOn with
      | ind k ih =>
        intro hk
        cases hLk : listed.getD k false
        · have : k ∈ Region.ready .any ops listed := by
            rw [mem_ready]
            refine ⟨?_, ops[k], Array.getElem?_eq_getElem hk, fun e he hb => ?_⟩
            · rw [← hLk]
              simp only [Array.getD_eq_getD_getElem?, Array.getElem?_eq_getElem (show k < listed.size by omega), Option.getD_some]
            · have := edgesOk_spec ops.toList 0 hed k ops[k] (by simp [Array.getElem?_toList, hk]) e he hb
              exact ih e.on (by omega) (by omega)
          rw [hr] at this
          cases this
        · rfl
    refine hQ a w ?_
    have hLl : ∀ q ∈ l, listed.getD q.i false = true := by
      intro q hq
      have := (path_get hpath hq).2.2
      exact hall' q.i (by simpa using this)
    have e1 : stS.get = fin.get := by
      funext s
      rw [hget s, hstates.2.1 s]
      exact fold_congr (fun q v => PS.f q s v) (fun _ => True) (fun _ _ h => absurd trivial h) (L := fun k => listed.getD k false) (L' := fun _ => true) l _ (fun q hq _ => hLl q hq)
    have e2 : stS.obj = fin.obj := by
      funext s
      rw [hobj s, hstates.2.2.1 s]
      exact fold_congr (fun q v => PS.h q s v) (fun _ => True) (fun _ _ h => absurd trivial h) (L := fun k => listed.getD k false) (L' := fun _ => true) l _ (fun q hq _ => hLl q hq)
    obtain ⟨β, φ, hc⟩ := hR.core
    refine ⟨?_, fun x hx => by rw [hstates.2.2.2, ← hn]; exact hR.fx x hx, hR.defers, hR.kept, β, φ, ?_⟩
    · rw [hR.size, hn, hstates.2.2.2]
    · rw [← e1, ← e2]; exact hc
  intro fuel
  induction fuel with
  | zero =>
    intro listed a w hsz hcl hun hcur
    have hr : Region.ready .any ops listed = [] := by
      cases hrr : Region.ready .any ops listed with
      | nil => rfl
      | cons x xs =>
        have hx : x ∈ Region.ready .any ops listed := by rw [hrr]; exact List.mem_cons_self ..
        obtain ⟨h1, o, ho, _⟩ := mem_ready.1 hx
        have hlt := (Array.getElem?_eq_some_iff.1 ho).1
        have : 0 < unl ops listed := by
          unfold unl
          rw [List.countP_pos_iff]
          exact ⟨x, List.mem_range.2 hlt, by simp only [h1]; rfl⟩
        omega
    exact ⟨hr, done listed a w hsz hr hcur⟩
  | succ fuel ih =>
    intro listed a w hsz hcl hun hcur
    refine ⟨fun hr => done listed a w hsz hr hcur, fun i hi => ?_⟩
    obtain ⟨h1, o, ho, hed'⟩ := mem_ready.1 hi
    have hlt := (Array.getElem?_eq_some_iff.1 ho).1
    have hil : i < l.length := by omega
    have hpi : l[i].i = i := by
      have : (l.map (·.i))[i]? = (List.range' 0 ops.toList.length)[i]? := by rw [(path_index hpath).1]
      rw [List.getElem?_map, List.getElem?_eq_getElem hil, List.getElem?_range' (by simpa using hlt)] at this
      simpa using this
    have hset : ∀ k, (listed.setIfInBounds i true).getD k false = (listed.getD k false || k == i) := by
      intro k
      simp only [Array.getD_eq_getD_getElem?, Array.getElem?_setIfInBounds]
      by_cases hk : i = k
      · subst hk
        simp [show i < listed.size by omega]
      · have : (k == i) = false := by simpa using fun h => hk h.symm
        simp [hk, this]
    have hLi : listed.getD i false = false := by
      rw [← h1]
      simp only [Array.getD_eq_getD_getElem?, Array.getElem?_eq_getElem (show i < listed.size by omega), Option.getD_some]
    have hgi : GoodK ops (fun k => listed.getD k false) i := by
      intro o' ho' e he hb
      rw [ho] at ho'
      injection ho' with ho'
      subst ho'
      exact hed' e he hb
    have := one_step (w0 := w0) (S := S) (Q := Q) hΓ hpath hall hfr hcl (p := l[i]) (List.getElem_mem hil) (by rw [hpi]; exact hgi) (by rw [hpi]; exact hLi) hcur
      (K := wpAny P .any ops Q fuel (listed.setIfInBounds i true)) (fun a' w' hc => ?_)
    · rw [hpi] at this
      exact this
    · refine ih _ a' w' (by simpa using hsz) (fun k hk => ?_) ?_ ?_
      · intro o' ho' e he hb
        show (listed.setIfInBounds i true).getD e.on false = true
        rw [hset] at hk ⊢
        simp only [Bool.or_eq_true, beq_iff_eq] at hk ⊢
        rcases hk with hk | rfl
        · exact .inl (hcl k hk o' ho' e he hb)
        · exact .inl (hgi o' ho' e he hb)
      · have : unl ops (listed.setIfInBounds i true) < unl ops listed := by
          unfold unl
          refine countP_lt _ (fun k hk hq => ?_) ⟨i, List.mem_range.2 hlt, by simp only [h1]; rfl, ?_⟩
          · simp only [Bool.not_eq_true', Array.getD_eq_getD_getElem?, Array.getElem?_setIfInBounds] at hq ⊢
            split at hq
            · split at hq <;> simp at hq
            · exact hq
          · simp [Array.getElem?_setIfInBounds, show i < listed.size by omega]
        omega
      · have e : (fun k => (listed.setIfInBounds i true).getD k false) = (fun k => listed.getD k false || k == i) := funext hset
        rw [e]
        rw [hpi] at hc
        exact hc

theorem Rel.drew {st : St} {a : Act} {w : World} (hR : Rel w0 S st a w) : Rel w0 S st a { w with drawn := w.drawn + 1 } := by
  obtain ⟨β, φ, hc⟩ := hR.core
  refine ⟨hR.size, hR.fx, hR.defers, ⟨hR.kept.os, hR.kept.tape, hR.kept.output, hR.kept.size, hR.kept.block⟩, β, φ, ?_⟩
  exact hc.step (h' := st.obj) (β' := β) (φ' := φ) (w' := { w with drawn := w.drawn + 1 }) (fun _ => False) (Nat.le_refl _) (fun _ _ _ => rfl) (fun b hb => .inl hb) (fun _ _ _ h => h) (fun _ _ => ⟨rfl, rfl⟩)
    (fun id o ho => .inl ⟨fun h => h, ho, rfl, fun _ _ h => h, fun _ _ => rfl⟩) hc.sep

theorem region_sound (hΓ : CtxHolds P Γ) {st : St} {a : Act} {w : World} {id : Nat} {draw : Bool} {Q : Exit → Act → World → Prop} (hR : Rel w0 S st a w) (h : (execRegion P Γ ops draw st).ok = true)
    (hQ : ∀ a' w', Rel w0 S (execRegion P Γ ops draw st) a' w' → Q .normal a' w') : (Code.region id ops draw).wp P Q a w := by
  cases draw with
  | false => exact region_seq hΓ hR h hQ
  | true =>
    unfold execRegion at h hQ
    simp only [cond_true] at h hQ
    cases hf : freshFor (dsts ops.toList) st && edgesOk ops.toList 0 && P.follows .mixedOrders
    · simp [hf, fail_ok] at h
    · simp only [hf, cond_true] at h hQ
      simp only [Bool.and_eq_true] at hf
      obtain ⟨l, fin, hpath, _, hchk, hrel⟩ := execOps_path _ _ _ _ h
      refine wp_region_any hf.2 (wpAny_drawn hΓ hpath (by simpa using hchk) hf.1.1 hf.1.2 (fun a' w' hR' => hQ a' w' (hrel w0 S a' w' hR')) _ _ a _ (by simp) (fun k hk => ?_) ?_ ?_)
      · rw [Array.getD_eq_getD_getElem?, Array.getElem?_replicate] at hk
        split at hk <;> simp at hk
      · unfold unl
        have := List.countP_le_length (p := fun k => !((Array.replicate ops.size false).getD k true)) (l := List.range ops.size)
        simpa using this
      · refine ⟨st, hR.drew, rfl, fun s => ?_, fun o => ?_⟩
        · refine (fold_none (fun q v => PS.f q s v) (L := fun k => (Array.replicate ops.size false).getD k false) l (st.get s) (fun q _ => ?_)).symm
          rw [Array.getD_eq_getD_getElem?, Array.getElem?_replicate]
          split <;> rfl
        · refine (fold_none (fun q v => PS.h q o v) (L := fun k => (Array.replicate ops.size false).getD k false) l (st.obj o) (fun q _ => ?_)).symm
          rw [Array.getD_eq_getD_getElem?, Array.getElem?_replicate]
          split <;> rfl

end

end Go.Proofs.YthpmalpdnnbkgaaGreat.Vm

/- The value machine: code without loops; how ways through a body are kept. Conditions: the contracts of the context hold. -/
namespace Go.Proofs.YthpmalpdnnbkgaaGreat.Vm

section
variable {P : Program} {Γ : Ctx} {w0 : World} {S : Own}

theorem knowC_ok {st : St} {c : Operand} {b : Bool} : (st.knowC c b).ok = st.ok := by
  unfold St.knowC
  split <;> rfl

theorem tr_knowC {st : St} {c : Operand} {b : Bool} (h : st.ok = true) : Tr st (st.knowC c b) := by
  unfold St.knowC
  split
  · exact tr_know h
  · exact Tr.refl h

theorem rel_knowC {st : St} {a : Act} {w : World} {c : Operand} {b : Bool} (hR : Rel w0 S st a w) (hc : a.eval c = .bool b) : Rel w0 S (st.knowC c b) a w := by
  unfold St.knowC
  split
  · exact hR.know hc
  · exact hR

theorem ev_ok {st : St} {a : Act} {w : World} (hR : Rel w0 S st a w) (c : Operand) : ∃ β, SVR w (Av st.obj β) β (ev st c) (a.eval c) := by
  obtain ⟨β, φ, hc⟩ := hR.core
  refine ⟨β, ?_⟩
  cases c with
  | tmp t => exact hc.slots t
  | const v => exact ofConst_ok v
  | global g => simp [ev, SVR]
  | func g => simp [ev, SVR]

theorem ev_kb {st : St} {a : Act} {w : World} (hR : Rel w0 S st a w) {c : Operand} {t : Bool} (h : ev st c = .kb t) : a.eval c = .bool t := by
  obtain ⟨β, hv⟩ := ev_ok hR c
  rw [h] at hv
  simpa only [SVR] using hv

theorem ev_bool {st : St} {a : Act} {w : World} (hR : Rel w0 S st a w) {c : Operand} {t : Bool} (h : ev st c = .bool t) : a.eval c = .bool t := by
  obtain ⟨β, hv⟩ := ev_ok hR c
  rw [h] at hv
  simpa only [SVR] using hv

theorem tr_exec : ∀ (c : Code) (st : St), (exec P Γ c st).ok = true → Tr st (exec P Γ c st)
  | .skip, st, h => by
    simp only [exec] at h ⊢
    exact Tr.refl h
  | .region id ops draw, st, h => by
    simp only [exec] at h ⊢
    exact tr_region h
  | .seq a b, st, h => by
    simp only [exec] at h ⊢
    have h2 := tr_exec b _ h
    exact (tr_exec a _ h2.ok).trans h2
  | .cond c a b, st, h => by
    simp only [exec] at h ⊢
    split
    · rename_i t hev
      simp only [hev] at h
      cases t with
      | true => simp only [cond_true] at h ⊢; exact tr_exec a _ h
      | false => simp only [cond_false] at h ⊢; exact tr_exec b _ h
    · rename_i g hev
      simp only [hev] at h
      have hsp := merge_ok_split h
      have hok : st.ok = true := by
        cases g with
        | true =>
          have := (tr_exec a _ (hsp.1 rfl)).ok
          rw [knowC_ok] at this
          exact this
        | false =>
          have := (tr_exec b _ (hsp.2 rfl)).ok
          rw [knowC_ok] at this
          exact this
      exact tr_merge hok h
    · rename_i h1 h2
      exfalso
      revert h
      split
      · rename_i t hev; exact absurd hev (h1 t)
      · rename_i g hev; exact absurd hev (h2 g)
      · simp [fail_ok]
  | .block .., st, h => by simp [exec, fail_ok] at h
  | .loop .., st, h => by simp [exec, fail_ok] at h
  | .exit .., st, h => by simp [exec, fail_ok] at h
  | .goto .., st, h => by simp [exec, fail_ok] at h
  | .label .., st, h => by simp [exec, fail_ok] at h
  | .ret, st, h => by simp [exec, fail_ok] at h

theorem exec_wp (hΓ : CtxHolds P Γ) : ∀ (c : Code) (st : St) (a : Act) (w : World) (Q : Exit → Act → World → Prop), Rel w0 S st a w → (exec P Γ c st).ok = true →
    (∀ a' w', Rel w0 S (exec P Γ c st) a' w' → Q .normal a' w') → c.wp P Q a w
  | .skip, st, a, w, Q, hR, h, hQ => by
    simp only [exec] at h hQ
    exact wp_skip (hQ a w hR)
  | .region id ops draw, st, a, w, Q, hR, h, hQ => by
    simp only [exec] at h hQ
    exact region_sound hΓ hR h hQ
  | .seq x y, st, a, w, Q, hR, h, hQ => by
    simp only [exec] at h hQ
    have h2 := tr_exec y _ h
    refine wp_seq (exec_wp hΓ x st a w _ hR h2.ok (fun a' w' hR' => ?_))
    exact exec_wp hΓ y _ a' w' Q hR' h hQ
  | .cond c x y, st, a, w, Q, hR, h, hQ => by
    simp only [exec] at h hQ
    split at h
    · rename_i t hev
      simp only [hev] at hQ
      refine wp_cond (ev_kb hR hev) ?_
      cases t with
      | true => simp only [cond_true] at h hQ; exact exec_wp hΓ x st a w Q hR h hQ
      | false => simp only [cond_false] at h hQ; exact exec_wp hΓ y st a w Q hR h hQ
    · rename_i g hev
      simp only [hev] at hQ
      have hsp := merge_ok_split h
      have hb := ev_bool hR hev
      refine wp_cond hb ?_
      cases g with
      | true =>
        have hy := hsp.1 rfl
        have ht := tr_exec x _ hy
        refine exec_wp hΓ x _ a w Q (rel_knowC hR.reset hb) hy (fun a' w' hR' => hQ a' w' ?_)
        have hok : st.reset.ok = true := by have := ht.ok; rwa [knowC_ok] at this
        exact rel_merge (fun _ => ⟨(tr_knowC hok).trans ht, hR'⟩) (by simp) h
      | false =>
        have hy := hsp.2 rfl
        have ht := tr_exec y _ hy
        refine exec_wp hΓ y _ a w Q (rel_knowC hR.reset hb) hy (fun a' w' hR' => hQ a' w' ?_)
        have hok : st.reset.ok = true := by have := ht.ok; rwa [knowC_ok] at this
        exact rel_merge (by simp) (fun _ => ⟨(tr_knowC hok).trans ht, hR'⟩) h
    · simp [fail_ok] at h
  | .block .., st, _, _, _, _, h, _ => by simp [exec, fail_ok] at h
  | .loop .., st, _, _, _, _, h, _ => by simp [exec, fail_ok] at h
  | .rangeFunc .., st, _, _, _, _, h, _ => by simp [exec, fail_ok] at h
  | .exit .., st, _, _, _, _, h, _ => by simp [exec, fail_ok] at h
  | .scope .., st, _, _, _, _, h, _ => by simp [exec, fail_ok] at h
  | .goto .., st, _, _, _, _, h, _ => by simp [exec, fail_ok] at h
  | .label .., st, _, _, _, _, h, _ => by simp [exec, fail_ok] at h
  | .ret, st, _, _, _, _, h, _ => by simp [exec, fail_ok] at h
  | .refuse .., st, _, _, _, _, h, _ => by simp [exec, fail_ok] at h

/-! ### A state in form at a loop's head -/

abbrev Rn := List (Nat × VObj × Option Nat)

def lkR : Rn → Nat → Option (VObj × Option Nat)
  | [], _ => none
  | (i, x) :: l, j => if j = i then some x else lkR l j

def Env.ren (β : Env) (R : Rn) : Env :=
  ⟨β.blk, fun j => match lkR R j with | some (_, some id) => β.val id | some (_, none) => .slice none 0 0 | none => β.val j, β.bar,
    fun j => match lkR R j with | some (_, some id) => β.nb id | some (_, none) => [] | none => β.nb j⟩

def EmptyRow (o : VObj) : Prop := (∃ t e, o = .row t e [] false true) ∨ (∃ t e ts, o = .deep t e ts [] none)

def RowLike (o : VObj) : Prop := (∃ t e r fz u, o = .row t e r fz u) ∨ (∃ t e ts r, o = .deep t e ts r none)

def renφ (φ : Nat → List Nat) (R : Rn) (j : Nat) : List Nat :=
  match lkR R j with | some (_, some id) => φ id | some (_, none) => [] | none => φ j

def EntOk (h : Nat → Option VObj) (x : Nat × VObj × Option Nat) : Prop :=
  (∃ id, RowLike x.2.1 ∧ x.2.2 = some id ∧ h id = some x.2.1) ∨ (EmptyRow x.2.1 ∧ x.2.2 = none)

theorem allPtr_ren {w : World} {av av' : Nat → Prop} {β : Env} {R : Rn} : ∀ (cs : List SV) (l : List Value), allPtr cs = true → SVRL w av β cs l → SVRL w av' (β.ren R) cs l
  | [], l, _, h => by simpa only [SVRL] using h
  | s :: cs, l, hp, h => by
    simp only [SVRL] at h ⊢
    obtain ⟨v, l', rfl, h1, h2⟩ := h
    cases s with
    | ptr id off =>
      refine ⟨v, l', rfl, ?_, allPtr_ren cs l' hp h2⟩
      simp only [SVR] at h1 ⊢
      exact h1
    | _ => simp [allPtr] at hp

theorem canonCell_ok {hp : List (Nat × VObj)} {f : Nat → SV} {β : Env} {φ : Nat → List Nat} {tm : Array Value} {w : World} (hc : Core w0 S f (lkO hp) β φ tm w) {ck : CK} {nid : Nat} {s : SV} {v : Value} {av' : Nat → Prop}
    (hv : SVR w (Av (lkO hp) β) β s v) (hav : ∀ b, av' b → Av (lkO hp) β b) {R : Rn} (hR : ∀ x ∈ (canonCell P hp ck nid s).2, lkR R x.1 = some x.2) :
    SVR w av' (β.ren R) (canonCell P hp ck nid s).1 v ∧ ∀ x ∈ (canonCell P hp ck nid s).2, EntOk (lkO hp) x := by
  have mono : ∀ s', svIds s' = [] → SVR w (Av (lkO hp) β) β s' v → SVR w av' (β.ren R) s' v := fun s' hs' h' =>
    SVR.mono (Nat.le_refl _) (fun _ _ _ => rfl) (fun b hb => .inl (hav b hb)) s' v h' (by rw [hs']; simp)
  cases s with
  | own id =>
    simp only [canonCell] at hR ⊢
    simp only [SVR] at hv
    cases hl : lkO hp id with
    | none => simp [SVR]
    | some o =>
      cases o with
      | box => simp [SVR]
      | row t e r fz u =>
        simp only [hl] at hR
        simp only
        cases ck with
        | imm => simp [SVR]
        | asis =>
          have := hR _ (List.mem_singleton.2 rfl)
          simp only at this
          refine ⟨?_, ?_⟩
          · simp only [SVR, Env.ren, this]
            exact hv
          · intro x hx
            rw [List.mem_singleton] at hx
            subst hx
            exact .inl ⟨id, .inl ⟨t, e, r, fz, u, rfl⟩, rfl, hl⟩
        | own =>
          have := hR _ (List.mem_singleton.2 rfl)
          simp only at this
          refine ⟨?_, ?_⟩
          · simp only [SVR, Env.ren, this]
            exact hv
          · intro x hx
            rw [List.mem_singleton] at hx
            subst hx
            exact .inl ⟨id, .inl ⟨t, e, r, fz, u, rfl⟩, rfl, hl⟩
        | deep =>
          have := hR _ (List.mem_singleton.2 rfl)
          simp only at this
          refine ⟨?_, ?_⟩
          · simp only [SVR, Env.ren, this]
            exact hv
          · intro x hx
            rw [List.mem_singleton] at hx
            subst hx
            exact .inl ⟨id, .inl ⟨t, e, r, fz, u, rfl⟩, rfl, hl⟩
      | deep t e ts r hl2 =>
        cases hl2 with
        | some q => simp [SVR]
        | none =>
        simp only [hl] at hR
        simp only
        cases ck with
        | imm => simp [SVR]
        | asis =>
          have := hR _ (List.mem_singleton.2 rfl)
          simp only at this
          refine ⟨?_, ?_⟩
          · simp only [SVR, Env.ren, this]
            exact hv
          · intro x hx
            rw [List.mem_singleton] at hx
            subst hx
            exact .inl ⟨id, .inr ⟨t, e, ts, r, rfl⟩, rfl, hl⟩
        | own =>
          have := hR _ (List.mem_singleton.2 rfl)
          simp only at this
          refine ⟨?_, ?_⟩
          · simp only [SVR, Env.ren, this]
            exact hv
          · intro x hx
            rw [List.mem_singleton] at hx
            subst hx
            exact .inl ⟨id, .inr ⟨t, e, ts, r, rfl⟩, rfl, hl⟩
        | deep =>
          have := hR _ (List.mem_singleton.2 rfl)
          simp only at this
          refine ⟨?_, ?_⟩
          · simp only [SVR, Env.ren, this]
            exact hv
          · intro x hx
            rw [List.mem_singleton] at hx
            subst hx
            exact .inl ⟨id, .inr ⟨t, e, ts, r, rfl⟩, rfl, hl⟩
      | imm e r =>
        simp only
        refine ⟨?_, by simp⟩
        have h1 := (hc.objs id _ hl).1
        rw [← hv.1] at h1
        exact mono _ rfl h1
  | nil =>
    simp only [canonCell] at hR ⊢
    simp only [SVR] at hv
    cases ck with
    | asis =>
      refine ⟨?_, by simp⟩
      simp only [SVR]
      exact hv
    | own t =>
      simp only at hR ⊢
      cases hct : ctsOf P 16 t with
      | none => simp [SVR]
      | some e =>
        simp only [hct] at hR
        have := hR _ (List.mem_singleton.2 rfl)
        simp only at this
        refine ⟨?_, ?_⟩
        · simp only [SVR, Env.ren, this]
          rw [hv]
          exact ⟨rfl, rfl⟩
        · intro x hx
          rw [List.mem_singleton] at hx
          subst hx
          exact .inr ⟨.inl ⟨t, e, rfl⟩, rfl⟩
    | deep t ts =>
      simp only at hR ⊢
      cases hct : ctsOf P 16 t with
      | none => simp [SVR]
      | some e =>
        simp only [hct] at hR
        have := hR _ (List.mem_singleton.2 rfl)
        simp only at this
        refine ⟨?_, ?_⟩
        · simp only [SVR, Env.ren, this]
          rw [hv]
          exact ⟨rfl, rfl⟩
        · intro x hx
          rw [List.mem_singleton] at hx
          subst hx
          exact .inr ⟨.inr ⟨t, e, ts, rfl⟩, rfl⟩
    | imm t =>
      simp only at hR ⊢
      cases hct : ctsOf P 16 t with
      | none => simp [SVR]
      | some e =>
        refine ⟨?_, by simp⟩
        simp only [SVR, RdC]
        exact ⟨[], ⟨[], none, 0, 0, rfl, hv, rfl, Nat.le_refl _, Nat.zero_le _, .inl ⟨rfl, rfl⟩⟩, by simp⟩
  | kb b =>
    simp only [canonCell]
    refine ⟨?_, by simp⟩
    simp only [SVR] at hv ⊢
    exact hv
  | agg => simp [canonCell, SVR]
  | tup => simp [canonCell, SVR]
  | eown => simp [canonCell, SVR]
  | osl => simp [canonCell, SVR]
  | clo g cs =>
    simp only [canonCell]
    cases hp : allPtr cs
    · simp [SVR]
    · simp only [cond_true]
      refine ⟨?_, by simp⟩
      simp only [SVR] at hv ⊢
      obtain ⟨l, rfl, hl⟩ := hv
      exact ⟨l, rfl, allPtr_ren cs l hp hl⟩
  | ptr id off =>
    simp only [canonCell]
    refine ⟨?_, by simp⟩
    simp only [SVR] at hv ⊢
    exact hv
  | unk => exact ⟨mono _ rfl hv, by simp [canonCell]⟩
  | undef => exact ⟨mono _ rfl hv, by simp [canonCell]⟩
  | int => exact ⟨mono _ rfl hv, by simp [canonCell]⟩
  | bool => exact ⟨mono _ rfl hv, by simp [canonCell]⟩
  | str => exact ⟨mono _ rfl hv, by simp [canonCell]⟩
  | sl => exact ⟨mono _ rfl hv, by simp [canonCell]⟩
  | eimm => exact ⟨mono _ rfl hv, by simp [canonCell]⟩

theorem canonCells_ok {hp : List (Nat × VObj)} {f : Nat → SV} {β : Env} {φ : Nat → List Nat} {tm : Array Value} {w : World} (hc : Core w0 S f (lkO hp) β φ tm w) {cks : List (Nat × CK)} {b : Nat} {av' : Nat → Prop}
    (hav : ∀ b, av' b → Av (lkO hp) β b) {R : Rn} : ∀ (l : List SV) (k : Nat) (vs : List Value), SVRL w (Av (lkO hp) β) β l vs → (∀ x ∈ (canonCells P hp cks b k l).2, lkR R x.1 = some x.2) →
    SVRL w av' (β.ren R) (canonCells P hp cks b k l).1 vs ∧ ∀ x ∈ (canonCells P hp cks b k l).2, EntOk (lkO hp) x
  | [], k, vs, hl, _ => by
    simp only [canonCells, SVRL] at hl ⊢
    exact ⟨hl, by simp⟩
  | s :: l, k, vs, hl, hR => by
    simp only [SVRL] at hl
    obtain ⟨v, l', rfl, h1, h2⟩ := hl
    simp only [canonCells] at hR ⊢
    have c1 := canonCell_ok (P := P) hc (ck := lkK cks k) (nid := newId (20000 + b * 4) k) h1 hav (R := R) (fun x hx => hR x (List.mem_append_left _ hx))
    have c2 := canonCells_ok hc hav l (k + 1) l' h2 (fun x hx => hR x (List.mem_append_right _ hx))
    refine ⟨?_, fun x hx => ?_⟩
    · simp only [SVRL]
      exact ⟨v, l', rfl, c1.1, c2.1⟩
    · rcases List.mem_append.1 hx with hx | hx
      · exact c1.2 x hx
      · exact c2.2 x hx

end
end Go.Proofs.YthpmalpdnnbkgaaGreat.Vm

/- The value machine: loops' heads. Conditions: the contracts of the context hold. -/
set_option linter.unusedVariables false
set_option linter.unusedSimpArgs false
namespace Go.Proofs.YthpmalpdnnbkgaaGreat.Vm

section
variable {P : Program} {Γ : Ctx} {w0 : World} {S : Own}

theorem nodupN_iff {l : List Nat} (h : nodupN l = true) : l.Nodup := by
  induction l with
  | nil => simp
  | cons i l ih =>
    simp only [nodupN, Bool.and_eq_true, Bool.not_eq_true'] at h
    rw [List.nodup_cons]
    refine ⟨fun hm => ?_, ih h.2⟩
    rw [memN_iff.2 hm] at h
    simp at h

theorem lkR_mem {R : Rn} {j : Nat} {x : VObj × Option Nat} (h : lkR R j = some x) : (j, x) ∈ R := by
  induction R with
  | nil => simp [lkR] at h
  | cons y l ih =>
    obtain ⟨i, z⟩ := y
    simp only [lkR] at h
    split at h
    · rename_i hj
      injection h with h
      subst h hj
      exact List.mem_cons_self ..
    · exact List.mem_cons_of_mem _ (ih h)

theorem lkR_some {R : Rn} {x : Nat × VObj × Option Nat} (hx : x ∈ R) (hn : (R.map (·.1)).Nodup) : lkR R x.1 = some x.2 := by
  induction R with
  | nil => simp at hx
  | cons y l ih =>
    obtain ⟨i, z⟩ := y
    simp only [List.map_cons, List.nodup_cons] at hn
    simp only [lkR]
    rcases List.mem_cons.1 hx with rfl | hx
    · simp
    · have : x.1 ≠ i := fun e => hn.1 (e ▸ List.mem_map_of_mem hx)
      rw [if_neg this]
      exact ih hx hn.2

theorem lkR_none {R : Rn} {j : Nat} (h : j ∉ R.map (·.1)) : lkR R j = none := by
  induction R with
  | nil => rfl
  | cons y l ih =>
    obtain ⟨i, z⟩ := y
    simp only [List.map_cons, List.mem_cons, not_or] at h
    simp only [lkR]
    rw [if_neg h.1]
    exact ih h.2

theorem old_inj {R : Rn} (h : (oldIds R).Nodup) {x y : Nat × VObj × Option Nat} {id : Nat} (hx : x ∈ R) (hy : y ∈ R) (h1 : x.2.2 = some id) (h2 : y.2.2 = some id) : x = y := by
  have mem : ∀ (R : Rn) (z : Nat × VObj × Option Nat), z ∈ R → z.2.2 = some id → id ∈ oldIds R := by
    intro R
    induction R with
    | nil => simp
    | cons u l ih =>
      obtain ⟨i, o, old⟩ := u
      intro z hz hzi
      rcases List.mem_cons.1 hz with rfl | hz'
      · simp only at hzi
        subst hzi
        simp [oldIds]
      · have := ih z hz' hzi
        cases old with
        | none => simpa [oldIds] using this
        | some k => simp [oldIds, this]
  induction R with
  | nil => simp at hx
  | cons u l ih =>
    obtain ⟨i, o, old⟩ := u
    cases old with
    | none =>
      simp only [oldIds] at h
      rcases List.mem_cons.1 hx with rfl | hx
      · cases h1
      · rcases List.mem_cons.1 hy with rfl | hy
        · cases h2
        · exact ih h hx hy
    | some k =>
      simp only [oldIds, List.nodup_cons] at h
      rcases List.mem_cons.1 hx with rfl | hx
      · simp only [Option.some.injEq] at h1
        rcases List.mem_cons.1 hy with rfl | hy
        · rfl
        · exact absurd (h1 ▸ mem l y hy h2) h.1
      · rcases List.mem_cons.1 hy with rfl | hy
        · simp only [Option.some.injEq] at h2
          exact absurd (h2 ▸ mem l x hx h1) h.1
        · exact ih h.2 hx hy

theorem canonSlots_get {st : St} {i : Nat} : ∀ (l : List (Nat × CK)), lkV (canonSlots P st l).1 i = .unk ∨
    ∃ ck, lkV (canonSlots P st l).1 i = (canonCell P st.hp ck (newId (10000 + i) 0) (st.get i)).1 ∧ ∀ x ∈ (canonCell P st.hp ck (newId (10000 + i) 0) (st.get i)).2, x ∈ (canonSlots P st l).2
  | [] => .inl rfl
  | (k, ck) :: l => by
    simp only [canonSlots, lkV]
    cases hk : Nat.beq k i
    · simp only [cond_false]
      rcases canonSlots_get l with h | ⟨ck', h1, h2⟩
      · exact .inl h
      · exact .inr ⟨ck', h1, fun x hx => List.mem_append_right _ (h2 x hx)⟩
    · have := Nat.eq_of_beq_eq_true hk
      subst this
      simp only [cond_true]
      exact .inr ⟨ck, rfl, fun x hx => List.mem_append_left _ hx⟩

theorem canonSlots_ent {st : St} {x : Nat × VObj × Option Nat} : ∀ (l : List (Nat × CK)), x ∈ (canonSlots P st l).2 → ∃ i ck, x ∈ (canonCell P st.hp ck (newId (10000 + i) 0) (st.get i)).2
  | [], h => by simp [canonSlots] at h
  | (k, ck) :: l, h => by
    simp only [canonSlots] at h
    rcases List.mem_append.1 h with h | h
    · exact ⟨k, ck, h⟩
    · exact canonSlots_ent l h

theorem canonBoxes_get {hp : List (Nat × VObj)} {j : Nat} {o : VObj} : ∀ (l : List (Nat × List (Nat × CK))), (j, o) ∈ (canonBoxes P hp l).1 →
    ∃ cks t cells, lkO hp j = some (.box t cells) ∧ o = .box t (canonCells P hp cks j 0 cells).1 ∧ ∀ x ∈ (canonCells P hp cks j 0 cells).2, x ∈ (canonBoxes P hp l).2
  | [], h => by simp [canonBoxes] at h
  | (b, cks) :: l, h => by
    simp only [canonBoxes] at h ⊢
    split at h
    · rename_i t cells hb
      simp only at h ⊢
      rcases List.mem_cons.1 h with h | h
      · simp only [Prod.mk.injEq] at h
        obtain ⟨rfl, rfl⟩ := h
        refine ⟨cks, t, cells, hb, rfl, fun x hx => ?_⟩
        exact List.mem_append_left _ hx
      · obtain ⟨cks', t', cells', h1, h2, h3⟩ := canonBoxes_get l h
        exact ⟨cks', t', cells', h1, h2, fun x hx => List.mem_append_right _ (h3 x hx)⟩
    · rename_i hb
      exact canonBoxes_get l h

theorem canonBoxes_ent {hp : List (Nat × VObj)} {x : Nat × VObj × Option Nat} : ∀ (l : List (Nat × List (Nat × CK))), x ∈ (canonBoxes P hp l).2 →
    ∃ cks j t cells, lkO hp j = some (.box t cells) ∧ x ∈ (canonCells P hp cks j 0 cells).2
  | [], h => by simp [canonBoxes] at h
  | (b, cks) :: l, h => by
    simp only [canonBoxes] at h
    split at h
    · rename_i t cells hb
      simp only at h
      rcases List.mem_append.1 h with h | h
      · exact ⟨cks, b, t, cells, hb, h⟩
      · exact canonBoxes_ent l h
    · exact canonBoxes_ent l h

theorem canonCell_ent {hp : List (Nat × VObj)} {ck : CK} {nid : Nat} {s : SV} : ∀ x ∈ (canonCell P hp ck nid s).2, EntOk (lkO hp) x := by
  intro x hx
  cases s with
  | own id =>
    simp only [canonCell] at hx
    cases hl : lkO hp id with
    | none => simp [hl] at hx
    | some o =>
      cases o with
      | box => simp [hl] at hx
      | imm => simp [hl] at hx
      | deep t e ts r hl2 =>
        cases hl2 with
        | some q => simp [hl] at hx
        | none =>
        simp only [hl] at hx
        cases ck with
        | imm => simp at hx
        | asis =>
          rw [List.mem_singleton] at hx
          subst hx
          exact .inl ⟨id, .inr ⟨t, e, ts, r, rfl⟩, rfl, hl⟩
        | own =>
          rw [List.mem_singleton] at hx
          subst hx
          exact .inl ⟨id, .inr ⟨t, e, ts, r, rfl⟩, rfl, hl⟩
        | deep =>
          rw [List.mem_singleton] at hx
          subst hx
          exact .inl ⟨id, .inr ⟨t, e, ts, r, rfl⟩, rfl, hl⟩
      | row t e r fz u =>
        simp only [hl] at hx
        cases ck with
        | imm => simp at hx
        | asis =>
          rw [List.mem_singleton] at hx
          subst hx
          exact .inl ⟨id, .inl ⟨t, e, r, fz, u, rfl⟩, rfl, hl⟩
        | own =>
          rw [List.mem_singleton] at hx
          subst hx
          exact .inl ⟨id, .inl ⟨t, e, r, fz, u, rfl⟩, rfl, hl⟩
        | deep =>
          rw [List.mem_singleton] at hx
          subst hx
          exact .inl ⟨id, .inl ⟨t, e, r, fz, u, rfl⟩, rfl, hl⟩
  | nil =>
    simp only [canonCell] at hx
    cases ck with
    | asis => simp at hx
    | imm t =>
      simp only at hx
      split at hx <;> simp at hx
    | own t =>
      simp only at hx
      split at hx
      · rename_i e he
        rw [List.mem_singleton] at hx
        subst hx
        exact .inr ⟨.inl ⟨t, e, rfl⟩, rfl⟩
      · simp at hx
    | deep t ts =>
      simp only at hx
      split at hx
      · rename_i e he
        rw [List.mem_singleton] at hx
        subst hx
        exact .inr ⟨.inr ⟨t, e, ts, rfl⟩, rfl⟩
      · simp at hx
  | kb => simp [canonCell] at hx
  | agg => simp [canonCell] at hx
  | tup => simp [canonCell] at hx
  | eown => simp [canonCell] at hx
  | ptr => simp [canonCell] at hx
  | unk => simp [canonCell] at hx
  | undef => simp [canonCell] at hx
  | int => simp [canonCell] at hx
  | bool => simp [canonCell] at hx
  | str => simp [canonCell] at hx
  | sl => simp [canonCell] at hx
  | eimm => simp [canonCell] at hx
  | osl => simp [canonCell] at hx
  | clo g cs =>
    simp only [canonCell] at hx
    cases hp : allPtr cs <;> simp [hp] at hx

theorem canonCells_ent {hp : List (Nat × VObj)} {cks : List (Nat × CK)} {b : Nat} : ∀ (l : List SV) (k : Nat), ∀ x ∈ (canonCells P hp cks b k l).2, EntOk (lkO hp) x
  | [], _, x, hx => by simp [canonCells] at hx
  | s :: l, k, x, hx => by
    simp only [canonCells] at hx
    rcases List.mem_append.1 hx with hx | hx
    · exact canonCell_ent x hx
    · exact canonCells_ent l (k + 1) x hx

/-- What an object in form is. -/
def NewIs (h : Nat → Option VObj) (R : Rn) (β : Env) (φ : Nat → List Nat) (j : Nat) (o : VObj) : Prop :=
  (lkR R j = none ∧ ∃ t cells, h j = some (.box t cells) ∧ ∃ cells', o = .box t cells') ∨
  (∃ id, lkR R j = some (o, some id) ∧ h id = some o ∧ RowLike o) ∨
  (lkR R j = some (o, none) ∧ EmptyRow o)

theorem RowLike.tops_ren {o : VObj} (ho : RowLike o) {β : Env} {R : Rn} {j id : Nat} {o' : VObj} (h1 : lkR R j = some (o', some id)) : tops (β.ren R) j o = tops β id o := by
  rcases ho with ⟨t, e, r, fz, u, rfl⟩ | ⟨t, e, ts, r, rfl⟩ <;> simp [tops, Env.ren, h1]

theorem RowLike.obj_ren {o : VObj} (ho : RowLike o) {w : World} {av av' : Nat → Prop} {β : Env} {R : Rn} {j id : Nat} {o' : VObj} {φ : List Nat} (h1 : lkR R j = some (o', some id)) (hav : ∀ b, av' b → av b) (h : ObjR w av β id o φ) : ObjR w av' (β.ren R) j o φ := by
  have hval : (β.ren R).val j = β.val id := by simp [Env.ren, h1]
  have hnb : (β.ren R).nb j = β.nb id := by simp [Env.ren, h1]
  rcases ho with ⟨t, e, r, fz, u, rfl⟩ | ⟨t, e, ts, r, rfl⟩
  · obtain ⟨vals, fps, g1, g2, g3, g4⟩ := h
    exact ⟨vals, fps, by rw [hval]; exact g1, g2, fun b hb hx => g3 b hb (hav b hx), by rw [hval]; exact g4⟩
  · obtain ⟨vals, mbs, g1, g2, g3, g4⟩ := h
    exact ⟨vals, mbs, by rw [hval]; exact g1, g2, by rw [hnb]; exact g3, by rw [hval]; exact g4⟩

theorem RowLike.notbox {o : VObj} (ho : RowLike o) {t : TypeId} {cs : List SV} (h : o = .box t cs) : False := by
  rcases ho with ⟨_, _, _, _, _, rfl⟩ | ⟨_, _, _, _, rfl⟩ <;> cases h

theorem canon_core {f f' : Nat → SV} {h h' : Nat → Option VObj} {β : Env} {φ : Nat → List Nat} {tm : Array Value} {w : World} (hc : Core w0 S f h β φ tm w) {R : Rn} (hold : (oldIds R).Nodup)
    (hnew : ∀ j o, h' j = some o → NewIs h R β φ j o)
    (hav : (∀ b, Av h' (β.ren R) b → Av h β b) → (∀ i, SVR w (Av h' (β.ren R)) (β.ren R) (f' i) (tm.getD i undef)) ∧
      ∀ j t cells cells', h' j = some (.box t cells') → h j = some (.box t cells) → ∀ vs, SVRL w (Av h β) β cells vs → SVRL w (Av h' (β.ren R)) (β.ren R) cells' vs) :
    Core w0 S f' h' (β.ren R) (renφ φ R) tm w := by
  have hA : ∀ b, Av h' (β.ren R) b → Av h β b := by
    rintro b (⟨j, o, hj, hb⟩ | hb)
    · rcases hnew j o hj with ⟨h1, t, cells, h2, cells', rfl⟩ | ⟨id, h1, h2, ho⟩ | ⟨h1, he⟩
      · exact .inl ⟨j, _, h2, by simpa [tops, Env.ren] using hb⟩
      · refine .inl ⟨id, _, h2, ?_⟩
        rw [ho.tops_ren h1] at hb
        exact hb
      · rcases he with ⟨t, e, rfl⟩ | ⟨t, e, ts, rfl⟩ <;> simp [tops, Env.ren, h1, Value.ownBlock] at hb
    · exact .inr hb
  obtain ⟨hsl, hbx⟩ := hav hA
  refine ⟨hsl, fun j o hj => ?_, fun j o hj => ?_, fun i j oi oj hne hi hj b hb => ?_, hc.bar, hc.bars⟩
  · rcases hnew j o hj with ⟨h1, t, cells, h2, cells', rfl⟩ | ⟨id, h1, h2, ho⟩ | ⟨h1, he⟩
    · obtain ⟨vs, g1, g2, g3, g4⟩ := hc.objs j _ h2
      refine ⟨vs, g1, hbx j t cells cells' hj h2 vs g2, g3, ?_⟩
      simp only [renφ, h1]
      exact g4
    · simp only [renφ, h1]
      exact ho.obj_ren h1 hA (hc.objs id _ h2)
    · have hval : (β.ren R).val j = .slice none 0 0 := by simp [Env.ren, h1]
      have hnb : (β.ren R).nb j = [] := by simp [Env.ren, h1]
      rcases he with ⟨t, e, rfl⟩ | ⟨t, e, ts, rfl⟩
      · refine ⟨[], [], ⟨by simp, .inl ⟨hval, rfl, rfl⟩⟩, ⟨rfl, by simp⟩, by simp, ?_⟩
        simp [renφ, h1, hval, Value.ownBlock]
      · refine ⟨[], [], ⟨by simp, .inl ⟨hval, rfl, rfl⟩⟩, ⟨rfl, by simp⟩, by rw [hnb]; rfl, ?_⟩
        simp [renφ, h1, hval, Value.ownBlock]
  · rcases hnew j o hj with ⟨h1, t, cells, h2, cells', rfl⟩ | ⟨id, h1, h2, ho⟩ | ⟨h1, he⟩
    · simp only [renφ, h1]; exact hc.fresh j _ h2
    · simp only [renφ, h1]; exact hc.fresh id _ h2
    · simp [renφ, h1]
  · rcases hnew i oi hi with ⟨h1, t, cells, h2, cells', rfl⟩ | ⟨id, h1, h2, ho⟩ | ⟨h1, he⟩ <;>
      rcases hnew j oj hj with ⟨k1, t', cells1, k2, cells1', rfl⟩ | ⟨id', k1, k2, ho'⟩ | ⟨k1, he'⟩ <;>
      simp only [renφ, h1, k1] at hb ⊢
    · exact hc.sep i j _ _ hne h2 k2 b hb
    · refine hc.sep i id' _ _ (fun e => ?_) h2 k2 b hb
      rw [e, k2, Option.some.injEq] at h2
      exact ho'.notbox h2
    · simp
    · refine hc.sep id j _ _ (fun e' => ?_) h2 k2 b hb
      rw [e', k2, Option.some.injEq] at h2
      exact ho.notbox h2.symm
    · refine hc.sep id id' _ _ (fun e' => ?_) h2 k2 b hb
      subst e'
      have := old_inj hold (lkR_mem h1) (lkR_mem k1) rfl rfl
      simp only [Prod.mk.injEq] at this
      exact hne this.1
    · simp
    · simp at hb
    · simp at hb
    · simp at hb

theorem canon0_rel {an : Ann} {st : St} {a : Act} {w : World} (hR : Rel w0 S st a w) (hok : (canon0 P an st).ok = true) : Rel w0 S (canon0 P an st) a w ∧ st.ok = true := by
  unfold canon0 at hok ⊢
  simp only at hok ⊢
  cases hnd : nodupN (oldIds ((canonSlots P st an.slots).2 ++ (canonBoxes P st.hp an.boxes).2)) &&
      nodupN ((canonBoxes P st.hp an.boxes).1.map (·.1) ++ ((canonSlots P st an.slots).2 ++ (canonBoxes P st.hp an.boxes).2).map (·.1))
  · rw [hnd] at hok
    simp [fail_ok] at hok
  rw [hnd] at hok
  simp only [cond_true] at hok ⊢
  refine ⟨?_, hok⟩
  simp only [Bool.and_eq_true] at hnd
  obtain ⟨β, φ, hc⟩ := hR.core
  have hold := nodupN_iff hnd.1
  have hkeys := nodupN_iff hnd.2
  rw [List.nodup_append] at hkeys
  obtain ⟨hkb, hkr, hdis⟩ := hkeys
  have hsub1 : ∀ x ∈ (canonSlots P st an.slots).2, x ∈ (canonSlots P st an.slots).2 ++ (canonBoxes P st.hp an.boxes).2 := fun x hx => List.mem_append_left _ hx
  have hsub2 : ∀ x ∈ (canonBoxes P st.hp an.boxes).2, x ∈ (canonSlots P st an.slots).2 ++ (canonBoxes P st.hp an.boxes).2 := fun x hx => List.mem_append_right _ hx
  have hent0 : ∀ x ∈ (canonSlots P st an.slots).2 ++ (canonBoxes P st.hp an.boxes).2, EntOk (lkO st.hp) x := by
    intro x hx
    rcases List.mem_append.1 hx with hx | hx
    · obtain ⟨i, ck, h1⟩ := canonSlots_ent _ hx
      exact canonCell_ent x h1
    · obtain ⟨cks, j, t, cells, h1, h2⟩ := canonBoxes_ent _ hx
      exact canonCells_ent cells 0 x h2
  generalize (canonSlots P st an.slots).2 ++ (canonBoxes P st.hp an.boxes).2 = R at *
  have hlk : ∀ x ∈ R, lkR R x.1 = some x.2 := fun x hx => lkR_some hx hkr
  have hc' : Core w0 S st.get (lkO st.hp) β φ a.tmps w := hc
  refine ⟨hR.size, hR.fx, hR.defers, hR.kept, β.ren R, renφ φ R, ?_⟩
  have hmem : ∀ j o, lkO ((canonBoxes P st.hp an.boxes).1 ++ R.map (fun x => (x.1, x.2.1))) j = some o → (j, o) ∈ (canonBoxes P st.hp an.boxes).1 ∨ ∃ old, (j, o, old) ∈ R := by
    intro j o hj
    rcases List.mem_append.1 (lkO_mem hj) with h1 | h1
    · exact .inl h1
    · obtain ⟨x, hx, he⟩ := List.mem_map.1 h1
      obtain ⟨k, o', old⟩ := x
      simp only [Prod.mk.injEq] at he
      obtain ⟨rfl, rfl⟩ := he
      exact .inr ⟨old, hx⟩
  refine canon_core hc' hold (fun j o hj => ?_) (fun hA => ⟨fun i => ?_, fun j t cells cells' hj hh vs hvs => ?_⟩)
  · rcases hmem j o hj with h1 | ⟨old, h1⟩
    · obtain ⟨cks, t, cells, h2, h3, _⟩ := canonBoxes_get _ h1
      refine .inl ⟨lkR_none (fun hm => hdis j (List.mem_map_of_mem (f := (·.1)) h1) j hm rfl), t, cells, h2, _, h3⟩
    · rcases hent0 _ h1 with ⟨id, g1, g2, g3⟩ | ⟨g1, g2⟩
      · simp only at g1 g2 g3
        subst g2
        exact .inr (.inl ⟨id, hlk _ h1, g3, g1⟩)
      · simp only at g1 g2
        subst g2
        exact .inr (.inr ⟨hlk _ h1, g1⟩)
  · show SVR w _ _ (lkV (canonSlots P st an.slots).1 i) _
    rcases canonSlots_get (P := P) (st := st) (i := i) an.slots with h1 | ⟨ck, h1, h2⟩
    · rw [h1]; simp [SVR]
    · rw [h1]
      exact (canonCell_ok hc' (hc.slots i) hA (fun x hx => hlk x (hsub1 x (h2 x hx)))).1
  · rcases hmem j _ hj with h1 | ⟨old, h1⟩
    · obtain ⟨cks, t', cells1, h2, h3, h4⟩ := canonBoxes_get _ h1
      rw [hh] at h2
      simp only [Option.some.injEq, VObj.box.injEq] at h2
      obtain ⟨rfl, rfl⟩ := h2
      simp only [VObj.box.injEq, true_and] at h3
      rw [h3]
      exact (canonCells_ok hc' hA cells 0 vs hvs (fun x hx => hlk x (hsub2 x (h4 x hx)))).1
    · rcases hent0 _ h1 with ⟨id, g1, g2, g3⟩ | ⟨g1, g2⟩
      · exact (g1.notbox rfl).elim
      · rcases g1 with ⟨_, _, g1⟩ | ⟨_, _, _, g1⟩ <;> cases g1

theorem plug_ok (st : St) : st.plug.ok = st.ok := by
  unfold St.plug
  split
  · split
    · split
      · rename_i r _ _
        generalize (Nat.beq _ _ && _ && _ && _ && _ : Bool) = c
        cases c <;> rfl
      · rfl
    · rfl
  · rfl

theorem plug_rel {st : St} {a : Act} {w : World} (hR : Rel w0 S st a w) : Rel w0 S st.plug a w := by
  unfold St.plug
  split
  · rename_i id hh
    split
    · rename_i t e t1 rows i nid hob
      split
      · rename_i t2 e2 r u hn
        cases hb : Nat.beq t2 t1 && slAt e e2 && Nat.beq (slCount e) 1 && !(Nat.beq nid id) && flatB e2
        · exact hR
        · simp only [cond_true]
          simp only [Bool.and_eq_true, Bool.not_eq_true'] at hb
          obtain ⟨⟨⟨⟨b1, b2⟩, b3⟩, b4⟩, b5⟩ := hb
          have b1 := Nat.eq_of_beq_eq_true b1
          subst b1
          have hsl : ∃ e', e[slPos e]? = some (.sl e') ∧ e' = e2 := by
            unfold slAt at b2
            split at b2
            · rename_i e' he
              exact ⟨e', he, ctsBeq_eq _ _ b2⟩
            · cases b2
          have hne : nid ≠ id := Nat.ne_of_beq_eq_false b4
          obtain ⟨β, φ, hc⟩ := hR.core
          obtain ⟨β', φ', hc'⟩ := plug_core hc (h' := lkO (putO [(id, some (.deep t e [t2] (rows.set i (splice (rows.getD i []) (slPos e) [.sl r])) none)), (nid, none)] st.hp)) hob hn hsl (Nat.eq_of_beq_eq_true b3) hne b5
            (by rw [lkO_putO]; simp [fo, upd]) (fun j hj => by rw [lkO_putO]; simp [fo, upd, hj]; rfl)
          exact ⟨hR.size, hR.fx, hR.defers, hR.kept, β', φ', hc'⟩
      · exact hR
    · exact hR
  · exact hR

theorem canon_rel {an : Ann} {st : St} {a : Act} {w : World} (hR : Rel w0 S st a w) (hok : (canon P an st).ok = true) : Rel w0 S (canon P an st) a w ∧ st.ok = true := by
  have := canon0_rel (plug_rel hR) hok
  rw [plug_ok] at this
  exact this

end
end Go.Proofs.YthpmalpdnnbkgaaGreat.Vm

/- The value machine: whole bodies. Conditions: the contracts of the context hold. -/
namespace Go.Proofs.YthpmalpdnnbkgaaGreat.Vm

section
variable {P : Program} {Γ : Ctx} {w0 : World} {S : Own} {A : List (Nat × Ann)} {N : Nat} {r : List DC}

structure KOk (K : Kont) (r : List DC) : Prop where
  nrm : ∀ st, K.nrm st = (true, r) → st.ok = true
  ext : ∀ i st, K.ext i st = (true, r) → st.ok = true
  ret : ∀ st, K.ret st = (true, r) → st.ok = true

theorem canon0_ok {an : Ann} {st : St} (h : (canon0 P an st).ok = true) : st.ok = true := by
  unfold canon0 at h
  simp only at h
  cases hnd : nodupN (oldIds ((canonSlots P st an.slots).2 ++ (canonBoxes P st.hp an.boxes).2)) &&
      nodupN ((canonBoxes P st.hp an.boxes).1.map (·.1) ++ ((canonSlots P st an.slots).2 ++ (canonBoxes P st.hp an.boxes).2).map (·.1))
  · rw [hnd] at h
    simp [fail_ok] at h
  · rw [hnd] at h
    exact h

theorem canon_ok {an : Ann} {st : St} (h : (canon P an st).ok = true) : st.ok = true := by
  have := canon0_ok h
  rwa [plug_ok] at this

theorem bad_ne : bad ≠ (true, r) := by simp [bad]

theorem merge_pre_ok {st : St} {c : Operand} {x y : Code} {g : Bool} (h : (merge st g (exec P Γ x (st.reset.knowC c true)) (exec P Γ y (st.reset.knowC c false))).ok = true) : st.ok = true := by
  have hsp := merge_ok_split h
  cases g with
  | true => have := (tr_exec x _ (hsp.1 rfl)).ok; rwa [knowC_ok] at this
  | false => have := (tr_exec y _ (hsp.2 rfl)).ok; rwa [knowC_ok] at this

def loopR (P : Program) (Γ : Ctx) (A : List (Nat × Ann)) (N : Nat) (x : Code) (an : Ann) (K : Kont) (n : Nat) : St → Res :=
  Nat.rec (motive := fun _ => St → Res) (fun _ => bad) (fun _ ih s => run P Γ A N x s { nrm := fun s' => ih (canon P an s'), ext := K.ext, ret := K.ret }) n

theorem loopR_succ {x : Code} {an : Ann} {K : Kont} {n : Nat} {s : St} : loopR P Γ A N x an K (n + 1) s = run P Γ A N x s { nrm := fun s' => loopR P Γ A N x an K n (canon P an s'), ext := K.ext, ret := K.ret } := rfl

theorem run_ok : ∀ (c : Code) (st : St) (K : Kont), KOk K r → run P Γ A N c st K = (true, r) → st.ok = true
  | .skip, st, K, hK, h => hK.nrm st (by simpa only [run] using h)
  | .region id ops draw, st, K, hK, h => by
    simp only [run] at h
    exact (tr_region (hK.nrm _ (gd_eq h))).ok
  | .seq x y, st, K, hK, h => by
    simp only [run] at h
    exact run_ok x st { nrm := fun s => run P Γ A N y s K, ext := K.ext, ret := K.ret } ⟨fun s hs => run_ok y s K hK hs, hK.ext, hK.ret⟩ h
  | .cond c x y, st, K, hK, h => by
    simp only [run] at h
    split at h
    · rename_i t hev
      cases t with
      | true => exact run_ok x st K hK h
      | false => exact run_ok y st K hK h
    · rename_i g hev
      cases hm : simple x && simple y && mergeable st g (exec P Γ x (st.reset.knowC c true)) (exec P Γ y (st.reset.knowC c false))
      · rw [hm] at h
        simp only [cond_false] at h
        cases g with
        | true =>
          have := run_ok x _ K hK h
          rwa [knowC_ok] at this
        | false =>
          have := run_ok y _ K hK h
          rwa [knowC_ok] at this
      · rw [hm] at h
        simp only [cond_true] at h
        exact merge_pre_ok (hK.nrm _ (gd_eq h))
    · exact absurd h bad_ne
  | .block id x, st, K, hK, h => by
    simp only [run] at h
    refine run_ok x st { nrm := K.nrm, ext := fun i s => bif Nat.beq i id then K.nrm s else K.ext i s, ret := K.ret } ⟨hK.nrm, fun i s hs => ?_, hK.ret⟩ h
    simp only at hs
    cases hb : Nat.beq i id
    · rw [hb] at hs; exact hK.ext i s hs
    · rw [hb] at hs; exact hK.nrm s hs
  | .loop x, st, K, hK, h => by
    simp only [run] at h
    split at h
    · rename_i an han
      have key : ∀ n s, loopR P Γ A N x an K n s = (true, r) → s.ok = true := by
        intro n
        induction n with
        | zero => intro s hs; exact absurd hs bad_ne
        | succ n ih =>
          intro s hs
          rw [loopR_succ] at hs
          exact run_ok x s { nrm := fun s' => loopR P Γ A N x an K n (canon P an s'), ext := K.ext, ret := K.ret } ⟨fun s' hs' => canon_ok (ih _ hs'), hK.ext, hK.ret⟩ hs
      exact canon_ok (key N _ h)
    · exact absurd h bad_ne
  | .exit id, st, K, hK, h => hK.ext id st (by simpa only [run] using h)
  | .ret, st, K, hK, h => hK.ret st (by simpa only [run] using h)
  | .rangeFunc .., st, _, _, h => by simp only [run] at h; exact absurd h bad_ne
  | .scope .., st, _, _, h => by simp only [run] at h; exact absurd h bad_ne
  | .goto .., st, _, _, h => by simp only [run] at h; exact absurd h bad_ne
  | .label .., st, _, _, h => by simp only [run] at h; exact absurd h bad_ne
  | .refuse .., st, _, _, h => by simp only [run] at h; exact absurd h bad_ne

structure KQ (w0 : World) (S : Own) (K : Kont) (r : List DC) (Q : Exit → Act → World → Prop) : Prop where
  nrm : ∀ st a w, Rel w0 S st a w → K.nrm st = (true, r) → Q .normal a w
  ext : ∀ i st a w, Rel w0 S st a w → K.ext i st = (true, r) → Q (.exit i) a w
  ret : ∀ st a w, Rel w0 S st a w → K.ret st = (true, r) → Q .ret a w

theorem run_sound (hΓ : CtxHolds P Γ) : ∀ (c : Code) (st : St) (K : Kont) (a : Act) (w : World) (Q : Exit → Act → World → Prop), KOk K r → Rel w0 S st a w → run P Γ A N c st K = (true, r) → KQ w0 S K r Q → c.wp P Q a w
  | .skip, st, K, a, w, Q, hK, hR, h, hQ => wp_skip (hQ.nrm st a w hR (by simpa only [run] using h))
  | .region id ops draw, st, K, a, w, Q, hK, hR, h, hQ => by
    simp only [run] at h
    have h := gd_eq h
    exact region_sound hΓ hR (hK.nrm _ h) (fun a' w' hR' => hQ.nrm _ a' w' hR' h)
  | .seq x y, st, K, a, w, Q, hK, hR, h, hQ => by
    simp only [run] at h
    refine wp_seq (run_sound hΓ x st { nrm := fun s => run P Γ A N y s K, ext := K.ext, ret := K.ret } a w _ ⟨fun s hs => run_ok y s K hK hs, hK.ext, hK.ret⟩ hR h ⟨fun s a' w' hR' hs => ?_, fun i s a' w' hR' hs => ?_, fun s a' w' hR' hs => ?_⟩)
    · exact run_sound hΓ y s K a' w' Q hK hR' hs hQ
    · exact hQ.ext i s a' w' hR' hs
    · exact hQ.ret s a' w' hR' hs
  | .cond c x y, st, K, a, w, Q, hK, hR, h, hQ => by
    simp only [run] at h
    split at h
    · rename_i t hev
      refine wp_cond (ev_kb hR hev) ?_
      cases t with
      | true => exact run_sound hΓ x st K a w Q hK hR h hQ
      | false => exact run_sound hΓ y st K a w Q hK hR h hQ
    · rename_i g hev
      have hb := ev_bool hR hev
      cases hm : simple x && simple y && mergeable st g (exec P Γ x (st.reset.knowC c true)) (exec P Γ y (st.reset.knowC c false))
      · rw [hm] at h
        simp only [cond_false] at h
        refine wp_cond hb ?_
        cases g with
        | true => exact run_sound hΓ x _ K a w Q hK (rel_knowC hR hb) h hQ
        | false => exact run_sound hΓ y _ K a w Q hK (rel_knowC hR hb) h hQ
      · rw [hm] at h
        simp only [cond_true] at h
        have h := gd_eq h
        have hok := hK.nrm _ h
        have he : exec P Γ (.cond c x y) st = merge st g (exec P Γ x (st.reset.knowC c true)) (exec P Γ y (st.reset.knowC c false)) := by
          simp only [exec, hev]
        exact exec_wp hΓ (.cond c x y) st a w Q hR (by rw [he]; exact hok) (fun a' w' hR' => hQ.nrm _ a' w' hR' (by rw [he]; exact h))
    · exact absurd h bad_ne
  | .block id x, st, K, a, w, Q, hK, hR, h, hQ => by
    simp only [run] at h
    refine wp_block (run_sound hΓ x st { nrm := K.nrm, ext := fun i s => bif Nat.beq i id then K.nrm s else K.ext i s, ret := K.ret } a w _ ⟨hK.nrm, fun i s hs => ?_, hK.ret⟩ hR h ⟨fun s a' w' hR' hs => hQ.nrm s a' w' hR' hs, fun i s a' w' hR' hs => ?_, fun s a' w' hR' hs => hQ.ret s a' w' hR' hs⟩)
    · simp only at hs
      cases hb : Nat.beq i id
      · rw [hb] at hs; exact hK.ext i s hs
      · rw [hb] at hs; exact hK.nrm s hs
    · simp only at hs
      simp only [Exit.inBlock]
      cases hb : Nat.beq i id
      · rw [hb] at hs
        rw [if_neg (Nat.ne_of_beq_eq_false hb)]
        exact hQ.ext i s a' w' hR' hs
      · rw [hb] at hs
        rw [if_pos (Nat.eq_of_beq_eq_true hb)]
        exact hQ.nrm s a' w' hR' hs
  | .loop x, st, K, a, w, Q, hK, hR, h, hQ => by
    simp only [run] at h
    split at h
    · rename_i an han
      have hoks : ∀ n s, loopR P Γ A N x an K n s = (true, r) → s.ok = true := by
        intro n
        induction n with
        | zero => intro s hs; exact absurd hs bad_ne
        | succ n ih =>
          intro s hs
          rw [loopR_succ] at hs
          exact run_ok x s { nrm := fun s' => loopR P Γ A N x an K n (canon P an s'), ext := K.ext, ret := K.ret } ⟨fun s' hs' => canon_ok (ih _ hs'), hK.ext, hK.ret⟩ hs
      have key : ∀ n s a w, Rel w0 S s a w → loopR P Γ A N x an K n s = (true, r) → Code.rounds P x Q n a w := by
        intro n
        induction n with
        | zero => intro s a w _ hs; exact absurd hs bad_ne
        | succ n ih =>
          intro s a w hR hs
          rw [loopR_succ] at hs
          rw [rounds_succ]
          refine run_sound hΓ x s { nrm := fun s' => loopR P Γ A N x an K n (canon P an s'), ext := K.ext, ret := K.ret } a w _ ⟨fun s' hs' => canon_ok (hoks _ _ hs'), hK.ext, hK.ret⟩ hR hs ⟨fun s' a' w' hR' hs' => ?_, fun i s' a' w' hR' hs' => ?_, fun s' a' w' hR' hs' => ?_⟩
          · exact ih _ a' w' (canon_rel hR' (hoks _ _ hs')).1 hs'
          · exact hQ.ext i s' a' w' hR' hs'
          · exact hQ.ret s' a' w' hR' hs'
      exact wp_loop_rounds N (key N _ a w (canon_rel hR (hoks _ _ h)).1 h)
    · exact absurd h bad_ne
  | .exit id, st, K, a, w, Q, hK, hR, h, hQ => wp_exit (hQ.ext id st a w hR (by simpa only [run] using h))
  | .ret, st, K, a, w, Q, hK, hR, h, hQ => wp_ret (hQ.ret st a w hR (by simpa only [run] using h))
  | .rangeFunc .., st, _, _, _, _, _, _, h, _ => by simp only [run] at h; exact absurd h bad_ne
  | .scope .., st, _, _, _, _, _, _, h, _ => by simp only [run] at h; exact absurd h bad_ne
  | .goto .., st, _, _, _, _, _, _, h, _ => by simp only [run] at h; exact absurd h bad_ne
  | .label .., st, _, _, _, _, _, _, h, _ => by simp only [run] at h; exact absurd h bad_ne
  | .refuse .., st, _, _, _, _, _, _, h, _ => by simp only [run] at h; exact absurd h bad_ne

end
end Go.Proofs.YthpmalpdnnbkgaaGreat.Vm

/- The value machine: what a function hands back, what it is handed; contracts out of runs. Conditions: the contracts of the context hold. -/
namespace Go.Proofs.YthpmalpdnnbkgaaGreat.Vm

section
variable {P : Program} {Γ : Ctx} {w0 : World} {S : Own} {A : List (Nat × Ann)} {N : Nat}
variable {f : Nat → SV} {h : Nat → Option VObj} {β : Env} {φ : Nat → List Nat} {tm : Array Value} {w : World}

def resOne (tmps : Array Value) : ResultVar → Sem Value
  | .tmp t => pure (tmps.getD t undef)
  | .cell a t => do loadVar t (← asAddr (tmps.getD a undef))

theorem load_box (hc : Core w0 S f h β φ tm w) {id off : Nat} {t : TypeId} {e : Eff} (he : (loadM P t (.ptr id off)).val f h = some e) {v : Value} (hv : v = .pointer (some ⟨β.blk id, off, none⟩)) :
    ∃ u, (do loadVar t (← asAddr v) : Sem Value).run P w = .ok u w ∧ SVR w (Av h β) β e.sv u := by
  have conv : ∀ u, (Instr.loadAt t v).run P w = .ok u w → (do loadVar t (← asAddr v) : Sem Value).run P w = .ok u w := by
    intro u hu
    subst hv
    exact hu
  unfold loadM at he
  split at he
  case h_2 => simp at he
  rename_i td hu
  simp only [loadM', M.val_obj, Option.bind_eq_some_iff] at he
  obtain ⟨ob, hob, he⟩ := he
  split at he
  · rename_i t' cells
    cases ha : isAggB P t
    · simp only [ha, cond_false] at he
      split at he
      · rename_i s hs
        simp only [M.val_pure, Option.some.injEq] at he
        subst he
        obtain ⟨vs, hh, hr, _, _⟩ := hc.objs id _ hob
        obtain ⟨u, hu', hsv⟩ := SVRL.get _ _ _ _ hr hs
        refine ⟨u, conv u ?_, hsv⟩
        rw [hv]
        exact run_loadAt_one ha hu (by rw [cell_box hh]; exact hu')
      · simp at he
    · simp only [ha, cond_true] at he
      split at he
      · rename_i i hi
        cases hz : Nat.ble (off + i.size) cells.length
        · simp [hz] at he
        · simp only [hz, cond_true, M.val_pure, Option.some.injEq] at he
          subst he
          have hle := Nat.le_of_ble_eq_true hz
          obtain ⟨vs, hh, hr, hone, _⟩ := hc.objs id _ hob
          have hlen := SVRL.length _ _ hr
          refine ⟨.agg ((vs.drop off).take i.size).toArray, conv _ ?_, ?_⟩
          · rw [hv]
            refine run_loadAt_agg (vs := (vs.drop off).take i.size) ha hi (by simp; omega) (fun j v hj => ?_)
            rw [cell_box hh]
            rw [List.getElem?_take] at hj
            split at hj
            · simpa using hj
            · cases hj
          · simp only [SVR]
            exact ⟨_, rfl, SVRL.take _ _ _ (SVRL.drop _ _ _ hr), fun y hy => hone y (List.mem_of_mem_drop (List.mem_of_mem_take hy))⟩
      · simp at he
  · simp at he

theorem resSVs_ok (hc : Core w0 S f h β φ tm w) : ∀ (l : List ResultVar) (ss : List SV), (resSVs P l).val f h = some ss → ∃ vs, (l.mapM (resOne tm)).run P w = .ok vs w ∧ SVRL w (Av h β) β ss vs
  | [], ss, hs => by
    simp only [resSVs, M.val_pure, Option.some.injEq] at hs
    subst hs
    exact ⟨[], by simp, by simp [SVRL]⟩
  | .tmp t :: l, ss, hs => by
    simp only [resSVs, M.val_slot, M.val_bind, Option.bind_eq_some_iff, M.val_pure, Option.some.injEq] at hs
    obtain ⟨r, hr, rfl⟩ := hs
    obtain ⟨vs, h1, h2⟩ := resSVs_ok hc l r hr
    refine ⟨tm.getD t undef :: vs, ?_, ?_⟩
    · simp only [List.mapM_cons, resOne, Sem.run_bind, Sem.run_pure, Result.andThen_ok, h1]
    · simp only [SVRL]
      exact ⟨_, _, rfl, hc.slots t, h2⟩
  | .cell p t :: l, ss, hs => by
    simp only [resSVs, M.val_slot, M.val_bind, Option.bind_eq_some_iff, M.val_pure, Option.some.injEq] at hs
    obtain ⟨e, he, r, hr, rfl⟩ := hs
    obtain ⟨vs, h1, h2⟩ := resSVs_ok hc l r hr
    have hsl := hc.slots p
    split at he
    · rename_i id off hp
      rw [hp] at hsl
      simp only [SVR] at hsl
      obtain ⟨u, g1, g2⟩ := load_box hc he hsl
      refine ⟨u :: vs, ?_, ?_⟩
      · simp only [List.mapM_cons, Sem.run_bind, Sem.run_pure]
        have : (resOne tm (.cell p t)).run P w = .ok u w := g1
        simp only [this, Result.andThen_ok, h1]
      · simp only [SVRL]
        exact ⟨_, _, rfl, g2, h2⟩
    · simp at he

theorem results_eq {fn : Func} : results fn tm = (do let vs ← fn.results.mapM (resOne tm); pure (if h : vs.size = 1 then vs[0] else .tuple vs)) := by
  unfold results
  congr 1

theorem pack_eq (l : List Value) : (if h : l.toArray.size = 1 then l.toArray[0] else .tuple l.toArray) = pack l := by
  cases l with
  | nil => rfl
  | cons x l =>
    cases l with
    | nil => rfl
    | cons y l => simp [pack]

theorem results_run {fn : Func} {vs : List Value} (hr : (fn.results.toList.mapM (resOne tm)).run P w = .ok vs w) : (results fn tm).run P w = .ok (pack vs) w := by
  rw [results_eq, Array.mapM_eq_mapM_toList]
  simp only [Sem.run_bind, map_eq_pure_bind, Sem.run_pure, hr, Result.andThen_ok, bind_assoc, pure_bind]
  rw [pack_eq]

/-! ### What is handed back -/

theorem finCells_ok (hc : Core w0 S f h β φ tm w) : ∀ (rcs : List RC) (ss : List SV) (vs : List Value) (q : List DC × List Nat × List Nat), SVRL w (Av h β) β ss vs → (finCells rcs ss).val f h = some q →
    ∃ φ' im tp, ResL w rcs q.1 vs φ' im tp ∧ (∀ b ∈ φ', ∃ i ∈ q.2.1, (∃ o, h i = some o) ∧ b ∈ φ i) ∧ (∀ b ∈ tp, ∃ i o, i ∈ q.2.1 ∧ h i = some o ∧ b ∈ tops β i o) ∧ (q.2.1.Nodup → φ'.Nodup) ∧
      (∀ b ∈ im, ¬ Av h β b ∨ ∃ i ∈ q.2.2, (∃ o, h i = some o) ∧ b ∈ φ i)
  | [], [], vs, q, hs, hq => by
    simp only [finCells, M.val_pure, Option.some.injEq] at hq
    subst hq
    simp only [SVRL] at hs
    exact ⟨[], [], [], ⟨rfl, hs, rfl, rfl, rfl⟩, by simp, by simp, by simp, by simp⟩
  | [], _ :: _, vs, q, hs, hq => by simp [finCells] at hq
  | _ :: _, [], vs, q, hs, hq => by simp [finCells] at hq
  | rc :: rcs, s :: ss, vs, q, hs, hq => by
    simp only [SVRL] at hs
    obtain ⟨v, l, rfl, h1, h2⟩ := hs
    simp only [finCells, M.val_bind, Option.bind_eq_some_iff, M.val_pure, Option.some.injEq] at hq
    obtain ⟨q1, hq1, q2, hq2, rfl⟩ := hq
    obtain ⟨φ2, im2, tp2, g1, g2, g3, g4, g5⟩ := finCells_ok hc rcs ss l q2 h2 hq2
    cases rc with
    | imm ct =>
      simp only [finCell, M.val_bind, Option.bind_eq_some_iff, M.val_pure, Option.some.injEq] at hq1
      obtain ⟨p, hp, rfl⟩ := hq1
      obtain ⟨fp, r1, r2, _, r4, _⟩ := toDC_ok hc h1 hp
      refine ⟨φ2, fp ++ im2, tp2, ⟨p.1, q2.1, v, l, fp, im2, rfl, rfl, r1, g1, rfl⟩, ?_, ?_, ?_, ?_⟩
      · simpa using g2
      · simpa using g3
      · simpa using g4
      · intro b hb
        rcases List.mem_append.1 hb with hb | hb
        · rcases r4 b hb with h3 | ⟨x, hx, h3⟩
          · exact .inl h3
          · obtain ⟨_, hx', _⟩ := r2 x hx
            exact .inr ⟨x.1, List.mem_append_left _ (List.mem_map_of_mem hx), ⟨_, hx'⟩, tops_sub (hc.objs _ _ hx') b (by rw [topsAt_eq hx'] at h3; exact h3)⟩
        · rcases g5 b hb with h3 | ⟨i, hi, h3⟩
          · exact .inl h3
          · exact .inr ⟨i, List.mem_append_right _ hi, h3⟩
    | own t e =>
      cases s with
      | nil =>
        simp only [finCell, M.val_pure, Option.some.injEq] at hq1
        subst hq1
        simp only [SVR] at h1
        subst h1
        refine ⟨φ2, im2, tp2, ⟨[], q2.1, _, l, [], [], φ2, tp2, rfl, rfl, ⟨by simp, .inl ⟨rfl, rfl, rfl⟩⟩, ⟨rfl, by simp⟩, g1, by simp [Value.ownBlock], by simp [Value.ownBlock]⟩, ?_, ?_, ?_, ?_⟩
        · simpa using g2
        · simpa using g3
        · simpa using g4
        · simpa using g5
      | own id =>
        simp only [finCell, M.val_obj, Option.bind_eq_some_iff] at hq1
        obtain ⟨ob, hob, hq1⟩ := hq1
        split at hq1
        · rename_i t' e' r u
          cases hcond : Nat.beq t t' && ctsBeq e e' && u
          · simp [hcond] at hq1
          · simp only [hcond, cond_true, M.val_pure, Option.some.injEq] at hq1
            subst hq1
            simp only [Bool.and_eq_true] at hcond
            obtain ⟨⟨ht, he⟩, hu⟩ := hcond
            have ht' := Nat.eq_of_beq_eq_true ht
            have he' := ctsBeq_eq _ _ he
            subst ht' he' hu
            simp only [SVR] at h1
            obtain ⟨vals, fps, o1, o2, o3, o4⟩ := hc.objs id _ hob
            rw [← h1.1] at o1
            simp only [cond_true] at o4
            rw [← h1.1] at o4
            refine ⟨(v.ownBlock.toList ++ fps.flatten) ++ φ2, im2, v.ownBlock.toList ++ tp2, ⟨r, q2.1, v, l, vals, fps, φ2, tp2, rfl, rfl, o1, o2, g1, rfl, rfl⟩, ?_, ?_, ?_, ?_⟩
            · intro b hb
              rcases List.mem_append.1 hb with hb | hb
              · exact ⟨id, List.mem_append_left _ (List.mem_singleton.2 rfl), ⟨_, hob⟩, by rw [o4]; exact hb⟩
              · obtain ⟨i, hi, h3⟩ := g2 b hb
                exact ⟨i, List.mem_append_right _ hi, h3⟩
            · intro b hb
              rcases List.mem_append.1 hb with hb | hb
              · exact ⟨id, _, List.mem_append_left _ (List.mem_singleton.2 rfl), hob, by rw [h1.1] at hb; simpa [tops] using hb⟩
              · obtain ⟨i, o, hi, h3⟩ := g3 b hb
                exact ⟨i, o, List.mem_append_right _ hi, h3⟩
            · intro hnd
              simp only [List.singleton_append, List.nodup_cons] at hnd
              rw [List.nodup_append]
              refine ⟨o4 ▸ (hc.fresh id _ hob).1, g4 hnd.2, fun b hb b' hb' e => ?_⟩
              subst e
              obtain ⟨i, hi, ⟨o, hio⟩, h3⟩ := g2 b hb'
              have hne : id ≠ i := fun e => hnd.1 (e ▸ hi)
              exact hc.sep id i _ _ hne hob hio b (o4 ▸ hb) h3
            · simpa using g5
        · simp at hq1
      | _ => simp [finCell] at hq1
    | deep t e ts =>
      cases s with
      | nil =>
        simp only [finCell, M.val_pure, Option.some.injEq] at hq1
        subst hq1
        simp only [SVR] at h1
        subst h1
        refine ⟨φ2, im2, tp2, ⟨[], q2.1, _, l, [], [], φ2, tp2, rfl, rfl, ⟨by simp, .inl ⟨rfl, rfl, rfl⟩⟩, ⟨rfl, by simp⟩, g1, by simp [Value.ownBlock], by simp [Value.ownBlock]⟩, ?_, ?_, ?_, ?_⟩
        · simpa using g2
        · simpa using g3
        · simpa using g4
        · simpa using g5
      | own id =>
        simp only [finCell, M.val_obj, Option.bind_eq_some_iff] at hq1
        obtain ⟨ob, hob, hq1⟩ := hq1
        split at hq1
        · rename_i t' e' ts' r
          cases hcond : Nat.beq t t' && ctsBeq e e' && tsBeq ts ts'
          · simp [hcond] at hq1
          · simp only [hcond, cond_true, M.val_pure, Option.some.injEq] at hq1
            subst hq1
            simp only [Bool.and_eq_true] at hcond
            obtain ⟨⟨ht, he⟩, hu⟩ := hcond
            have ht' := Nat.eq_of_beq_eq_true ht
            have he' := ctsBeq_eq _ _ he
            have hu' := tsBeq_eq _ _ hu
            subst ht' he' hu'
            simp only [SVR] at h1
            obtain ⟨vals, mbs, o1, o2, o3, o4⟩ := hc.objs id _ hob
            rw [← h1.1] at o1
            rw [← h1.1] at o4
            have hfr : ∀ b ∈ (v.ownBlock.toList ++ mbs.flatten), b ∈ tops β id (.deep t e ts r none) := fun b hb => by
              rw [h1.1] at hb
              simpa only [tops, o3] using hb
            refine ⟨(v.ownBlock.toList ++ mbs.flatten) ++ φ2, im2, (v.ownBlock.toList ++ mbs.flatten) ++ tp2, ⟨r, q2.1, v, l, vals, mbs, φ2, tp2, rfl, rfl, o1, o2, g1, rfl, rfl⟩, ?_, ?_, ?_, ?_⟩
            · intro b hb
              rcases List.mem_append.1 hb with hb | hb
              · exact ⟨id, List.mem_append_left _ (List.mem_singleton.2 rfl), ⟨_, hob⟩, by rw [o4]; exact hb⟩
              · obtain ⟨i, hi, h3⟩ := g2 b hb
                exact ⟨i, List.mem_append_right _ hi, h3⟩
            · intro b hb
              rcases List.mem_append.1 hb with hb | hb
              · exact ⟨id, _, List.mem_append_left _ (List.mem_singleton.2 rfl), hob, hfr b hb⟩
              · obtain ⟨i, o, hi, h3⟩ := g3 b hb
                exact ⟨i, o, List.mem_append_right _ hi, h3⟩
            · intro hnd
              simp only [List.singleton_append, List.nodup_cons] at hnd
              rw [List.nodup_append]
              refine ⟨o4 ▸ (hc.fresh id _ hob).1, g4 hnd.2, fun b hb b' hb' e => ?_⟩
              subst e
              obtain ⟨i, hi, ⟨o, hio⟩, h3⟩ := g2 b hb'
              have hne : id ≠ i := fun e => hnd.1 (e ▸ hi)
              exact hc.sep id i _ _ hne hob hio b (o4 ▸ hb) h3
            · simpa using g5
        · simp at hq1
      | _ => simp [finCell] at hq1

theorem finVals_ok (hc : Core w0 S f h β φ tm w) : ∀ (rks : List RK) (ss : List SV) (vs : List Value) (q : List DC × List Nat × List Nat), SVRL w (Av h β) β ss vs → (finVals rks ss).val f h = some q →
    ∃ φ' im tp, ResV w rks q.1 vs φ' im tp ∧ (∀ b ∈ φ', ∃ i ∈ q.2.1, (∃ o, h i = some o) ∧ b ∈ φ i) ∧ (∀ b ∈ tp, ∃ i o, i ∈ q.2.1 ∧ h i = some o ∧ b ∈ tops β i o) ∧ (q.2.1.Nodup → φ'.Nodup) ∧
      (∀ b ∈ im, ¬ Av h β b ∨ ∃ i ∈ q.2.2, (∃ o, h i = some o) ∧ b ∈ φ i)
  | [], [], vs, q, hs, hq => by
    simp only [finVals, M.val_pure, Option.some.injEq] at hq
    subst hq
    simp only [SVRL] at hs
    exact ⟨[], [], [], ⟨rfl, hs, rfl, rfl, rfl⟩, by simp, by simp, by simp, by simp⟩
  | [], _ :: _, vs, q, hs, hq => by simp [finVals] at hq
  | _ :: _, [], vs, q, hs, hq => by simp [finVals] at hq
  | k :: ks, s :: ss, vs, q, hs, hq => by
    simp only [SVRL] at hs
    obtain ⟨v, l, rfl, h1, h2⟩ := hs
    simp only [finVals, M.val_bind, Option.bind_eq_some_iff, M.val_pure, Option.some.injEq] at hq
    obtain ⟨q1, hq1, q2, hq2, rfl⟩ := hq
    obtain ⟨φ2, im2, tp2, g1, g2, g3, g4, g5⟩ := finVals_ok hc ks ss l q2 h2 hq2
    have one : ∃ us : List Value, (bif k.agg then v = .agg us.toArray else us = [v]) ∧ (∀ x ∈ us, x.oneCell' = true) ∧ ∃ φ1 im1 tp1, ResL w k.cells q1.1 us φ1 im1 tp1 ∧ (∀ b ∈ φ1, ∃ i ∈ q1.2.1, (∃ o, h i = some o) ∧ b ∈ φ i) ∧
        (∀ b ∈ tp1, ∃ i o, i ∈ q1.2.1 ∧ h i = some o ∧ b ∈ tops β i o) ∧ (q1.2.1.Nodup → φ1.Nodup) ∧ (∀ b ∈ im1, ¬ Av h β b ∨ ∃ i ∈ q1.2.2, (∃ o, h i = some o) ∧ b ∈ φ i) := by
      cases hk : k.agg with
      | true =>
        cases s with
        | agg cs =>
          simp only [hk] at hq1
          simp only [SVR] at h1
          obtain ⟨us, rfl, hus, hone⟩ := h1
          exact ⟨us, rfl, hone, finCells_ok hc k.cells cs us q1 hus hq1⟩
        | _ => simp [hk] at hq1
      | false =>
        have hq1' : (finCells k.cells [s]).val f h = some q1 := by
          cases s <;> simp only [hk] at hq1 <;> first | exact hq1 | (simp at hq1)
        have hsing : SVRL w (Av h β) β [s] [v] := by simp only [SVRL]; exact ⟨v, [], rfl, h1, rfl⟩
        have hres := finCells_ok hc k.cells [s] [v] q1 hsing hq1'
        refine ⟨[v], rfl, ?_, hres⟩
        obtain ⟨_, _, _, hr, _⟩ := hres
        intro x hx
        rw [List.mem_singleton] at hx
        subst hx
        cases hcs : k.cells with
        | nil => rw [hcs] at hr; simp [ResL] at hr
        | cons c cs =>
          rw [hcs] at hr
          cases c with
          | imm ct =>
            obtain ⟨d, ds', v', vs', f1, im', _, hv, h3, _⟩ := hr
            simp only [List.cons.injEq] at hv
            rw [hv.1]
            exact h3.one
          | own t e =>
            obtain ⟨rows, ds', v', vs', vals, fps, φ', tp', _, hv, h3, _⟩ := hr
            simp only [List.cons.injEq] at hv
            rw [hv.1]
            exact h3.one
          | deep t e ts =>
            obtain ⟨rows, ds', v', vs', vals, fps, φ', tp', _, hv, h3, _⟩ := hr
            simp only [List.cons.injEq] at hv
            rw [hv.1]
            exact h3.one
    obtain ⟨us, hus, hone, φ1, im1, tp1, k1, k2, k3, k4, k5⟩ := one
    refine ⟨φ1 ++ φ2, im1 ++ im2, tp1 ++ tp2, ⟨q1.1, q2.1, v, l, us, φ1, φ2, im1, im2, tp1, tp2, rfl, rfl, hus, hone, k1, g1, rfl, rfl, rfl⟩, ?_, ?_, ?_, ?_⟩
    · intro b hb
      rcases List.mem_append.1 hb with hb | hb
      · obtain ⟨i, hi, h3⟩ := k2 b hb
        exact ⟨i, List.mem_append_left _ hi, h3⟩
      · obtain ⟨i, hi, h3⟩ := g2 b hb
        exact ⟨i, List.mem_append_right _ hi, h3⟩
    · intro b hb
      rcases List.mem_append.1 hb with hb | hb
      · obtain ⟨i, o, hi, h3⟩ := k3 b hb
        exact ⟨i, o, List.mem_append_left _ hi, h3⟩
      · obtain ⟨i, o, hi, h3⟩ := g3 b hb
        exact ⟨i, o, List.mem_append_right _ hi, h3⟩
    · intro hnd
      rw [List.nodup_append] at hnd ⊢
      refine ⟨k4 hnd.1, g4 hnd.2.1, fun b hb b' hb' e => ?_⟩
      subst e
      obtain ⟨i, hi, ⟨o, hio⟩, h3⟩ := k2 b hb
      obtain ⟨j, hj, ⟨o', hjo⟩, h4⟩ := g2 b hb'
      exact hc.sep i j _ _ (hnd.2.2 i hi j hj) hio hjo b h3 h4
    · intro b hb
      rcases List.mem_append.1 hb with hb | hb
      · rcases k5 b hb with h3 | ⟨i, hi, h3⟩
        · exact .inl h3
        · exact .inr ⟨i, List.mem_append_left _ hi, h3⟩
      · rcases g5 b hb with h3 | ⟨i, hi, h3⟩
        · exact .inl h3
        · exact .inr ⟨i, List.mem_append_right _ hi, h3⟩

end
end Go.Proofs.YthpmalpdnnbkgaaGreat.Vm

/- The value machine: contracts out of runs. Conditions: the contracts of the context hold; the run ends with the contract's data. -/
set_option linter.unusedVariables false
namespace Go.Proofs.YthpmalpdnnbkgaaGreat.Vm

mutual
def WtC : CT → DC → Prop
  | .int k, d => ∃ n, d = .int n ∧ inR k n = true
  | .bool, d => ∃ b, d = .bool b
  | .str, d => ∃ s : List UInt8, d = .str s ∧ s.length ≤ maxLen
  | .sl e, d => ∃ rows : List (List DC), d = .sl rows ∧ rows.length ≤ maxLen ∧ ∀ r ∈ rows, WtL e r
def WtL : List CT → List DC → Prop
  | [], r => r = []
  | c :: cs, r => ∃ d r', r = d :: r' ∧ WtC c d ∧ WtL cs r'
end

mutual
theorem RdC.wt {w : World} : ∀ (c : CT) (d : DC) (v : Value) (fp : List Nat), RdC w c d v fp → WtC c d
  | .int k, _, _, _, h => by
    simp only [RdC, WtC] at h ⊢
    obtain ⟨n, h1, _, h2, _⟩ := h
    exact ⟨n, h1, h2⟩
  | .bool, _, _, _, h => by
    simp only [RdC, WtC] at h ⊢
    obtain ⟨n, h1, _⟩ := h
    exact ⟨n, h1⟩
  | .str, _, _, _, h => by
    simp only [RdC, WtC] at h ⊢
    obtain ⟨s, h1, _, h2, _⟩ := h
    exact ⟨s, h1, h2⟩
  | .sl e, _, _, _, h => by
    simp only [RdC, WtC] at h ⊢
    obtain ⟨rows, a, n, c, rfl, _, hn, hc, hm, hr⟩ := h
    refine ⟨rows, rfl, by omega, fun r hr' => ?_⟩
    rcases hr with ⟨h0, _⟩ | ⟨_, b, o, fps, _, _, hl, _, hr⟩
    · rw [h0] at hn
      rw [List.length_eq_zero_iff.1 hn] at hr'
      simp at hr'
    · obtain ⟨i, hi, rfl⟩ := List.getElem_of_mem hr'
      exact RdL.wt e _ _ _ (hr i rows[i] fps[i] (by simp) (by simp))
theorem RdL.wt {w : World} : ∀ (cs : List CT) (r : List DC) (f : Nat → Option Value) (fp : List Nat), RdL w cs r f fp → WtL cs r
  | [], _, _, _, h => by
    simp only [RdL, WtL] at h ⊢
    exact h.1
  | c :: cs, _, _, _, h => by
    simp only [RdL, WtL] at h ⊢
    obtain ⟨d, r', v, f1, f2, h0, _, h1, h2, _⟩ := h
    exact ⟨d, r', h0, RdC.wt c d v f1 h1, RdL.wt cs r' _ f2 h2⟩
end

def ctsAll : List AK → List CT
  | [] => []
  | k :: ks => k.cts ++ ctsAll ks

theorem WtL.append : ∀ {cs cs' : List CT} {r r' : List DC}, WtL cs r → WtL cs' r' → WtL (cs ++ cs') (r ++ r')
  | [], _, _, _, h, h' => by
    simp only [WtL] at h
    subst h
    exact h'
  | c :: cs, _, _, _, h, h' => by
    simp only [WtL] at h
    obtain ⟨d, r1, rfl, h1, h2⟩ := h
    simp only [List.cons_append, WtL]
    exact ⟨d, r1 ++ _, rfl, h1, h2.append h'⟩

theorem ArgsR.wt {w : World} : ∀ (ks : List AK) (ds : List DC) (vs : List Value) (fp : List Nat), ArgsR w ks ds vs fp → WtL (ctsAll ks) ds
  | [], _, _, _, h => by
    simp only [ctsAll, WtL]
    exact h.1
  | k :: ks, _, _, _, h => by
    obtain ⟨d1, d2, v, vs', f1, f2, rfl, rfl, ⟨us, _, _, hr, _⟩, h2, rfl⟩ := h
    exact WtL.append (RdL.wt _ _ _ _ hr) (ArgsR.wt ks d2 vs' f2 h2)

section
variable {P : Program} {Γ : Ctx} {A : List (Nat × Ann)} {w : World}

theorem ofDCs_append : ∀ (cs : List CT) (d1 d2 : List DC) (k : Nat), k + cs.length ≤ d1.length → ofDCs cs (d1 ++ d2) k = ofDCs cs d1 k
  | [], _, _, _, _ => rfl
  | c :: cs, d1, d2, k, h => by
    simp only [ofDCs]
    simp only [List.length_cons] at h
    rw [ofDCs_append cs d1 d2 (k + 1) (by omega)]
    congr 2
    simp only [List.getD_eq_getElem?_getD]
    rw [List.getElem?_append_left (by omega)]

theorem arg_sv {av : Nat → Prop} {β : Env} {k : AK} {ds : List DC} {v : Value} {fp : List Nat} (h : ArgR w k ds v fp) (hav : ∀ b ∈ fp, ¬ av b) :
    SVR w av β (bif k.agg then .agg (ofDCs k.cts ds 0) else (ofDCs k.cts ds 0).headD .unk) v := by
  obtain ⟨us, h1, h2, h3, h4⟩ := h
  obtain ⟨vs, l1, l2, l3, l4⟩ := RdL.svs (β := β) h3 hav k.cts.length 0 (by omega)
  have e : vs = us := by
    apply List.ext_getElem?
    intro j
    by_cases hj : j < vs.length
    · have := l2 j vs[j] (by simp)
      simp only [Nat.zero_add] at this
      rw [this]
      simp
    · rw [List.getElem?_eq_none (by omega), List.getElem?_eq_none (by omega)]
  subst e
  simp only [List.drop_zero, List.take_length] at l3
  cases hk : k.agg with
  | true =>
    rw [hk] at h1
    simp only [cond_true] at h1 ⊢
    simp only [SVR]
    exact ⟨vs, h1, l3, l4⟩
  | false =>
    rw [hk] at h1
    simp only [cond_false] at h1 ⊢
    rw [h1.1] at l3
    cases hd : ofDCs k.cts ds 0 with
    | nil => simp [SVR]
    | cons s ss =>
      rw [hd] at l3
      simp only [SVRL] at l3
      obtain ⟨v', l', e1, e2, _⟩ := l3
      simp only [List.cons.injEq] at e1
      rw [e1.1]
      exact e2

theorem init_sv {av : Nat → Prop} {β : Env} : ∀ (ks : List AK) (ds : List DC) (vs : List Value) (fp : List Nat) (i0 : Nat), ArgsR w ks ds vs fp → (∀ b ∈ fp, ¬ av b) → ∀ i,
    lkV (initSl i0 ks ds) i = .unk ∨ ∃ j v, i = i0 + j ∧ vs[j]? = some v ∧ SVR w av β (lkV (initSl i0 ks ds) i) v
  | [], _, _, _, _, _, _, i => .inl rfl
  | k :: ks, _, _, _, i0, h, hav, i => by
    obtain ⟨d1, d2, v, vs', f1, f2, rfl, rfl, ha, h2, rfl⟩ := h
    have hl : d1.length = k.cts.length := by
      obtain ⟨us, _, _, hr, _⟩ := ha
      exact RdL.length _ _ _ _ hr
    simp only [initSl, lkV]
    rw [ofDCs_append _ _ _ _ (by omega)]
    cases hk : Nat.beq i0 i
    · simp only [cond_false]
      rw [← hl, List.drop_left]
      rcases init_sv (av := av) (β := β) ks d2 vs' f2 (i0 + 1) h2 (fun b hb => hav b (List.mem_append_right _ hb)) i with h3 | ⟨j, v', hi, hj, hs⟩
      · exact .inl h3
      · exact .inr ⟨j + 1, v', by omega, by simpa using hj, hs⟩
    · have := Nat.eq_of_beq_eq_true hk
      subst this
      simp only [cond_true]
      exact .inr ⟨0, v, rfl, rfl, arg_sv ha (fun b hb => hav b (List.mem_append_left _ hb))⟩

theorem ArgsR.length : ∀ (ks : List AK) (ds : List DC) (vs : List Value) (fp : List Nat), ArgsR w ks ds vs fp → vs.length = ks.length
  | [], _, _, _, h => by rw [h.2.1]; rfl
  | k :: ks, _, _, _, h => by
    obtain ⟨d1, d2, v, vs', f1, f2, rfl, rfl, ha, h2, rfl⟩ := h
    simp [ArgsR.length ks d2 vs' f2 h2]

theorem fin_ok {fn : Func} {s : Sum} {st : St} {r : List DC} (h : fin P fn s st = (true, r)) : st.ok = true := by
  unfold fin at h
  split at h
  · split at h
    · simp only [Prod.mk.injEq] at h
      exact h.1
    · exact absurd h bad_ne
  split at h
  · simp only [Prod.mk.injEq, Bool.and_eq_true] at h
    exact h.1.1.1
  · exact absurd h bad_ne

theorem finP_post {fn : Func} {s : Sum} {t : TypeId} {cts : List CT} (hpt : s.pt = some (t, cts)) {st : St} {r : List DC} {w w' : World} {fp : List Nat} {a : Act} (h : fin P fn s st = (true, r)) (hR : Rel w ⟨fun _ => False, fun b => b < w.heap.size ∧ b ∉ fp, []⟩ st a w') :
    a.defers = [] ∧ ∃ v, (results fn a.tmps).run P w' = .ok v w' ∧ ∃ (b : Nat) (us : List Value) (im : List Nat), Ending.returned v = .returned (.pointer (some ⟨b, 0, none⟩)) ∧ Kept Own.none w w' ∧ w.heap.size ≤ b ∧ b < w'.heap.size ∧
      w'.heap[b]? = some (.cells us.toArray t (0, 0)) ∧ (∀ x ∈ us, x.oneCell' = true) ∧ RdL w' cts r (fun j => us[j]?) im ∧ us.length = cts.length ∧ ∀ x ∈ im, (x ∈ fp ∨ w.heap.size ≤ x) ∧ x ≠ b := by
  unfold fin at h
  rw [hpt] at h
  simp only at h
  split at h
  case h_2 => exact absurd h bad_ne
  rename_i ds x hr
  simp only [Prod.mk.injEq] at h
  obtain ⟨_, rfl⟩ := h
  obtain ⟨β, φ, hc⟩ := hR.core
  have hval := M.val_of_run _ hr
  simp only [M.val_bind, Option.bind_eq_some_iff] at hval
  obtain ⟨ss, h1, h2⟩ := hval
  obtain ⟨vs, g1, g2⟩ := resSVs_ok hc _ _ h1
  unfold finPtr at h2
  split at h2
  case h_2 => simp at h2
  rename_i id
  simp only [M.val_obj, Option.bind_eq_some_iff] at h2
  obtain ⟨ob, hob, h2⟩ := h2
  split at h2
  case h_2 => simp at h2
  rename_i t' cells
  cases ht : Nat.beq t' t
  · simp [ht] at h2
  have ht := Nat.eq_of_beq_eq_true ht
  subst ht
  simp only [Nat.beq_refl, cond_true, M.val_bind, Option.bind_eq_some_iff] at h2
  obtain ⟨q, hq, h2⟩ := h2
  cases hq0 : q.2.1.isEmpty
  · simp [hq0] at h2
  simp only [hq0, cond_true, M.val_pure, Option.some.injEq] at h2
  subst h2
  simp only [SVRL] at g2
  obtain ⟨v, l', rfl, hv, rfl⟩ := g2
  simp only [SVR] at hv
  subst hv
  obtain ⟨us, k1, k2, k3, k4⟩ := hc.objs id _ hob
  obtain ⟨fp', hrd, _, hav, _⟩ := toDCs_ok hc cts cells us q k2 hq
  have hl := SVRL.length _ _ k2
  have hl2 := toDCs_length _ _ _ hq
  have hin : β.blk id ∈ φ id := by rw [k4]; simp
  have hfr := (hc.fresh id _ hob).2 _ hin
  refine ⟨hR.defers, pack [.pointer (some ⟨β.blk id, 0, none⟩)], results_run g1, β.blk id, us, fp', rfl, ⟨hR.kept.os, hR.kept.tape, hR.kept.output, hR.kept.size, fun k hk hn => hR.kept.block k hk (fun h => h)⟩, ?_, hfr.2, k1, k3, hrd, by omega, ?_⟩
  · rcases hfr.1 with h3 | h3
    · exact h3
    · exact h3.elim
  · intro b hb
    have hnb : ¬ Av st.obj β b := by
      rcases hav b hb with h3 | ⟨y, hy, _⟩
      · exact h3
      · rw [List.isEmpty_iff.1 hq0] at hy
        simp at hy
    refine ⟨?_, fun hx => hnb (.inl ⟨id, _, hob, by subst hx; simp [tops]⟩)⟩
    by_cases hlt : b < w.heap.size
    · by_cases hm : b ∈ fp
      · exact .inl hm
      · refine absurd (.inr ?_) hnb
        rw [hc.bars]
        exact ⟨hlt, hm⟩
    · exact .inr (by omega)

theorem fin_post {fn : Func} {s : Sum} (hpt : s.pt = none) {st : St} {r : List DC} {w w' : World} {fp : List Nat} {a : Act} (h : fin P fn s st = (true, r)) (hR : Rel w ⟨fun _ => False, fun b => b < w.heap.size ∧ b ∉ fp, []⟩ st a w') :
    a.defers = [] ∧ ∃ v, (results fn a.tmps).run P w' = .ok v w' ∧ ∃ vs φ im tp, Ending.returned v = .returned (pack vs) ∧ Kept Own.none w w' ∧ ResV w' s.rs r vs φ im tp ∧ φ.Nodup ∧
      (∀ b ∈ φ, w.heap.size ≤ b ∧ b < w'.heap.size) ∧ ∀ b ∈ im, (b ∈ fp ∨ w.heap.size ≤ b) ∧ b ∉ tp := by
  unfold fin at h
  rw [hpt] at h
  simp only at h
  split at h
  case h_2 => exact absurd h bad_ne
  rename_i ds own im x hr
  simp only [Prod.mk.injEq, Bool.and_eq_true, List.all_eq_true, Bool.not_eq_true'] at h
  obtain ⟨⟨⟨_, hown⟩, him⟩, rfl⟩ := h
  obtain ⟨β, φ, hc⟩ := hR.core
  have hval := M.val_of_run _ hr
  simp only [M.val_bind, Option.bind_eq_some_iff] at hval
  obtain ⟨ss, h1, h2⟩ := hval
  obtain ⟨vs, g1, g2⟩ := resSVs_ok hc _ _ h1
  obtain ⟨φ', im', tp', k1, k2, k3, k4, k5⟩ := finVals_ok hc _ _ _ _ g2 h2
  refine ⟨hR.defers, pack vs, results_run g1, vs, φ', im', tp', rfl, ⟨hR.kept.os, hR.kept.tape, hR.kept.output, hR.kept.size, fun k hk hn => hR.kept.block k hk (fun h => h)⟩, k1, k4 (nodupN_iff hown), ?_, ?_⟩
  · intro b hb
    obtain ⟨i, _, ⟨o, hio⟩, hbi⟩ := k2 b hb
    have := (hc.fresh i o hio).2 b hbi
    rcases this.1 with h3 | h3
    · exact ⟨h3, this.2⟩
    · exact h3.elim
  · intro b hb
    rcases k5 b hb with h3 | ⟨i, hi, ⟨o, hio⟩, hbi⟩
    · refine ⟨?_, fun hx => ?_⟩
      · by_cases hlt : b < w.heap.size
        · by_cases hm : b ∈ fp
          · exact .inl hm
          · refine absurd (.inr ?_) h3
            rw [hc.bars]
            exact ⟨hlt, hm⟩
        · exact .inr (by omega)
      · obtain ⟨j, oj, _, hj, hbj⟩ := k3 b hx
        exact h3 (.inl ⟨j, oj, hj, hbj⟩)
    · refine ⟨?_, fun hx => ?_⟩
      · rcases ((hc.fresh i o hio).2 b hbi).1 with h3 | h3
        · exact .inr h3
        · exact h3.elim
      · obtain ⟨j, oj, hjm, hj, hbj⟩ := k3 b hx
        have hne : i ≠ j := by
          rintro rfl
          have := him i hi
          rw [memN_iff.2 hjm] at this
          cases this
        exact hc.sep i j o oj hne hio hj b hbi (tops_sub (hc.objs j oj hj) b hbj)

/-- The calls out of runs. -/
theorem run_calls (hΓ : CtxHolds P Γ) {g : Nat} {fn : Func} {s : Sum} (hf : P.funcs[g]? = some fn) (hbd : fn.body.isSome = true) (hn : (fn.name == "runtime.NumGoroutine") = false) (hlen : s.ps.length ≤ fn.ntmps) (hnt : fn.ntmps < 1099511627776)
    (h : ∀ ds, WtL (ctsAll s.ps) ds → (s.fn ds).1 = true → ∃ N, runF P Γ A N fn s ds = (true, (s.fn ds).2)) {w : World} {ds : List DC} {vals : List Value} {fp : List Nat} (hargs : ArgsR w s.ps ds vals fp) (hok : (s.fn ds).1 = true) {Q : Ending → World → Prop}
    (hQ : ∀ (st : St) (a : Act) (w' : World), Rel w ⟨fun _ => False, fun b => b < w.heap.size ∧ b ∉ fp, []⟩ st a w' → fin P fn s st = (true, (s.fn ds).2) → a.defers = [] ∧ ∃ v, (results fn a.tmps).run P w' = .ok v w' ∧ Q (.returned v) w') : Calls P g vals.toArray w Q := by
  obtain ⟨N, hrun⟩ := h ds (ArgsR.wt _ _ _ _ hargs) hok
  obtain ⟨c, hc⟩ := Option.isSome_iff_exists.1 hbd
  unfold runF at hrun
  rw [hc] at hrun
  simp only at hrun
  have hvl := ArgsR.length _ _ _ _ hargs
  refine calls_of_wp hf hc ?_
  let S : Own := ⟨fun _ => False, fun b => b < w.heap.size ∧ b ∉ fp, []⟩
  let β : Env := ⟨fun _ => 0, fun _ => undef, S.bar, fun _ => []⟩
  have hfp := ArgsR.lt _ _ _ _ hargs
  have hR : Rel w S { n := fn.ntmps, sl := initSl 0 s.ps ds, hp := [], ok := true, ls := [], lm := [] } { tmps := vals.toArray ++ Array.replicate (fn.ntmps - vals.toArray.size) undef, defers := [] } w := by
    refine ⟨by simp only [Array.size_append, List.size_toArray, Array.size_replicate]; rw [Nat.mod_eq_of_lt hnt]; omega, fun x hx => by simp [S] at hx, rfl, ⟨rfl, rfl, rfl, Nat.le_refl _, fun _ _ _ => rfl⟩, β, fun _ => [], ?_⟩
    refine ⟨fun i => ?_, fun id o ho => by simp [St.obj, lkO] at ho, fun id o ho => by simp [St.obj, lkO] at ho, fun i j o p _ ho => by simp [St.obj, lkO] at ho, fun b hb => ⟨hb.1, fun h => h⟩, rfl⟩
    have hnav : ∀ b ∈ fp, ¬ Av (lkO []) β b := by
      intro b hb hx
      rcases hx with ⟨id, o, ho, _⟩ | hx
      · simp [lkO] at ho
      · exact hx.2 hb
    rcases init_sv (av := Av (lkO []) β) (β := β) s.ps ds vals fp 0 hargs hnav i with h1 | ⟨j, v, hi, hj, hs⟩
    · show SVR w _ _ (lkV (initSl 0 s.ps ds) i) _
      rw [h1]
      simp [SVR]
    · have hv : (vals.toArray ++ Array.replicate (fn.ntmps - vals.toArray.size) undef).getD i undef = v := by
        have hjl : j < vals.length := (List.getElem?_eq_some_iff.1 hj).1
        rw [Array.getD_eq_getD_getElem?, Array.getElem?_append_left (by simp; omega)]
        have : i = j := by omega
        subst this
        simp [hj]
      rw [hv]
      exact hs
  refine run_sound (r := (s.fn ds).2) hΓ c _ { nrm := fin P fn s, ext := fun _ _ => bad, ret := fin P fn s } _ w _ ⟨fun st hst => fin_ok hst, fun i st hst => absurd hst bad_ne, fun st hst => fin_ok hst⟩ hR hrun ⟨?_, ?_, ?_⟩
  · intro st a w' hR' hst
    exact hQ st a w' hR' hst
  · intro i st a w' _ hst
    exact absurd hst bad_ne
  · intro st a w' hR' hst
    exact hQ st a w' hR' hst

/-- A contract out of runs. -/
theorem holds_of_run (hΓ : CtxHolds P Γ) {g : Nat} {fn : Func} {s : Sum} (hf : P.funcs[g]? = some fn) (hbd : fn.body.isSome = true) (hn : (fn.name == "runtime.NumGoroutine") = false) (hlen : s.ps.length ≤ fn.ntmps) (hnt : fn.ntmps < 1099511627776)
    (h : ∀ ds, WtL (ctsAll s.ps) ds → (s.fn ds).1 = true → ∃ N, runF P Γ A N fn s ds = (true, (s.fn ds).2)) (hpt : s.pt = none := by rfl) : Holds P g s :=
  ⟨⟨fn, hf, hbd, hn⟩, fun w ds vals fp hargs hok => run_calls hΓ hf hbd hn hlen hnt h hargs hok fun st a w' hR hst => fin_post hpt hst hR⟩

/-- A contract of a function that hands back a pointer, out of runs. -/
theorem holdsP_of_run (hΓ : CtxHolds P Γ) {g : Nat} {fn : Func} {s : Sum} {t : TypeId} {cts : List CT} (hf : P.funcs[g]? = some fn) (hbd : fn.body.isSome = true) (hn : (fn.name == "runtime.NumGoroutine") = false) (hlen : s.ps.length ≤ fn.ntmps) (hnt : fn.ntmps < 1099511627776)
    (h : ∀ ds, WtL (ctsAll s.ps) ds → (s.fn ds).1 = true → ∃ N, runF P Γ A N fn s ds = (true, (s.fn ds).2)) (hpt : s.pt = some (t, cts) := by rfl) : HoldsP P g s t cts :=
  ⟨⟨fn, hf, hbd, hn⟩, fun w ds vals fp hargs hok => run_calls hΓ hf hbd hn hlen hnt h hargs hok fun st a w' hR hst => finP_post hpt hst hR⟩

end
end Go.Proofs.YthpmalpdnnbkgaaGreat.Vm

/- The value machine: a loop inside a body, and what is proved of it round by round. Conditions: none. -/
namespace Go.Proofs.YthpmalpdnnbkgaaGreat.Vm

/-- The code at a place of a body, and what follows it there. -/
def focus (P : Program) (Γ : Ctx) (A : List (Nat × Ann)) (N : Nat) : List Bool → List (St → Res) → Code → Kont → Code × Kont
  | [], _, c, K => (c, K)
  | x :: p, is, c, K =>
    match c with
    | .seq a b => bif x then focus P Γ A N p is b K else focus P Γ A N p is a { nrm := fun s => run P Γ A N b s K, ext := K.ext, ret := K.ret }
    | .cond _ a b => bif x then focus P Γ A N p is b K else focus P Γ A N p is a K
    | .block id a => focus P Γ A N p is a { nrm := K.nrm, ext := fun i s => bif Nat.beq i id then K.nrm s else K.ext i s, ret := K.ret }
    | .loop a => match is, (firstReg a).bind (lkA A) with
      | ih :: is', some an => focus P Γ A N p is' a { nrm := fun s' => ih (canon P an s'), ext := K.ext, ret := K.ret }
      | _, _ => (c, K)
    | _ => (c, K)

/-- One round of the loop at a place of a function's body. -/
def loopB (P : Program) (Γ : Ctx) (A : List (Nat × Ann)) (N : Nat) (fn : Func) (s : Sum) (p : List Bool) (is : List (St → Res)) (ih : St → Res) (st : St) : Res :=
  match fn.body with
  | some c => match focus P Γ A N p is c { nrm := fin P fn s, ext := fun _ _ => bad, ret := fin P fn s } with
    | (.loop a, K) => match (firstReg a).bind (lkA A) with
      | some an => run P Γ A N a st { nrm := fun s' => ih (canon P an s'), ext := K.ext, ret := K.ret }
      | none => bad
    | _ => bad
  | none => bad

def loopN (B : (St → Res) → St → Res) (n : Nat) : St → Res := Nat.rec (motive := fun _ => St → Res) (fun _ => bad) (fun _ ih s => B ih s) n

/-- Rounds of the machine's loop are rounds of a plain one. -/
theorem loopN_eq {V : Type} {B : (St → Res) → St → Res} {C : (V → Res) → V → Res} {m : V → St} (h : ∀ ih v, B ih (m v) = C (fun v => ih (m v)) v) (n : Nat) :
    (fun v => loopN B n (m v)) = Nat.rec (motive := fun _ => V → Res) (fun _ => bad) (fun _ ih v => C ih v) n := by
  induction n with
  | zero => rfl
  | succ n ih =>
    funext v
    show B (loopN B n) (m v) = C _ v
    rw [h, ih]

theorem cond_k {α β : Type} {c : Bool} {x y : α} {a b : β} {K : β → α} (h1 : x = K a) (h2 : y = K b) : (bif c then x else y) = K (bif c then a else b) := by
  cases c
  · exact h2
  · exact h1

/-- A mark at an operation. -/
def annS : Sum := { ps := [], rs := [], fn := fun _ => (false, []), ann := true }
theorem ann_h {P : Program} {g : Nat} : HoldsAny P g annS := trivial

theorem ctx_nil {P : Program} : CtxHolds P [] := fun _ _ h => by simp [lkS] at h
theorem ctx_cons {P : Program} {g : Nat} {s : Sum} {Γ : Ctx} (h : HoldsAny P g s) (hΓ : CtxHolds P Γ) : CtxHolds P ((g, s) :: Γ) := by
  intro g' s' h'
  simp only [lkS] at h'
  cases hb : Nat.beq g g'
  · rw [hb] at h'; exact hΓ g' s' h'
  · rw [hb] at h'
    have := Nat.eq_of_beq_eq_true hb
    subst this
    simp only [cond_true, Option.some.injEq] at h'
    subst h'
    exact h

end Go.Proofs.YthpmalpdnnbkgaaGreat.Vm

/- The value machine: functions that write through parameters: what they are handed, what they leave. Conditions: the contracts of the context hold. -/
set_option linter.unusedVariables false
set_option linter.unusedSimpArgs false
namespace Go.Proofs.YthpmalpdnnbkgaaGreat.Vm

def pid (i j : Nat) : Nat := newId (5000000 + i) j

/-- The cells of a parameter whose rows are written: each row an object. -/
def paramObj (t : TT) (e : List CT) (rows : List (List DC)) : VObj :=
  match t with
  | .flat t => .row t e rows false true
  | .deep t its => .deep t e its rows none

def initCells (i : Nat) : Nat → List CT → List TT → List DC → List SV × List (Nat × VObj)
  | _, [], _, _ => ([], [])
  | j, .sl e :: cs, ts, ds =>
    let q := initCells i (j + 1) cs ts.tail ds.tail
    (.own (pid i j) :: q.1, (pid i j, paramObj (ts.headD (.flat 0)) e (ds.headD default).asRows) :: q.2)
  | j, .int k :: cs, ts, ds => let q := initCells i (j + 1) cs ts ds.tail; (ofDC (.int k) (ds.headD default) :: q.1, q.2)
  | j, .bool :: cs, ts, ds => let q := initCells i (j + 1) cs ts ds.tail; (ofDC .bool (ds.headD default) :: q.1, q.2)
  | j, .str :: cs, ts, ds => let q := initCells i (j + 1) cs ts ds.tail; (ofDC .str (ds.headD default) :: q.1, q.2)

/-- Slots and objects at the beginning. -/
def initM : Nat → List AK → List (Option MK) → List DC → List (Nat × SV) × List (Nat × VObj)
  | _, [], _, _ => ([], [])
  | i, k :: ks, ms, ds =>
    let q := initM (i + 1) ks ms.tail (ds.drop k.cts.length)
    match ms.headD none with
    | none => ((i, bif k.agg then .agg (ofDCs k.cts ds 0) else (ofDCs k.cts ds 0).headD .unk) :: q.1, q.2)
    | some (.box t) => ((i, .ptr (pid i 0) 0) :: q.1, (pid i 0, .box t (ofDCs k.cts ds 0)) :: q.2)
    | some (.rows ts) =>
      let c := initCells i 0 k.cts ts ds
      ((i, bif k.agg then .agg c.1 else c.1.headD .unk) :: q.1, c.2 ++ q.2)

/-- What rows hold at the end; the objects. -/
def outCell (e : List CT) (t : TT) (s : SV) : M (DC × Nat) :=
  match s with
  | .own id => .obj id fun
    | .row t' e' r false _ => match t with
      | .flat t => bif Nat.beq t' t && ctsBeq e' e && flatB e then .pure (.sl r, id) else .fail
      | .deep _ _ => .fail
    | .deep t' e' ts' r none => match t with
      | .flat _ => .fail
      | .deep t its => bif Nat.beq t' t && ctsBeq e' e && tsBeq ts' its then .pure (.sl r, id) else .fail
    | _ => .fail
  | _ => .fail

def outCells : List CT → List TT → List SV → M (List DC × List Nat)
  | [], _, [] => .pure ([], [])
  | .sl e :: cs, t :: ts, s :: ss => (outCell e t s).bind fun q => (outCells cs ts ss).bind fun r => .pure (q.1 :: r.1, q.2 :: r.2)
  | .int _ :: cs, ts, _ :: ss => outCells cs ts ss
  | .bool :: cs, ts, _ :: ss => outCells cs ts ss
  | .str :: cs, ts, _ :: ss => outCells cs ts ss
  | _, _, _ => .fail

def outsM : Nat → List AK → List (Option MK) → M (List DC × List Nat)
  | _, [], [] => .pure ([], [])
  | i, _ :: ks, none :: ms => outsM (i + 1) ks ms
  | i, k :: ks, some (.box t) :: ms => .slot i fun
    | .ptr id 0 => .obj id fun
      | .box t' cells => bif Nat.beq t' t then
          (toDCs k.cts cells).bind fun r => bif r.2.1.isEmpty then (outsM (i + 1) ks ms).bind fun q => .pure (r.1 ++ q.1, id :: q.2) else .fail
        else .fail
      | _ => .fail
    | _ => .fail
  | i, k :: ks, some (.rows ts) :: ms => .slot i fun s =>
    (match k.agg, s with
      | true, .agg cs => outCells k.cts ts cs
      | true, _ => .fail
      | false, .agg _ => .fail
      | false, s => outCells k.cts ts [s]).bind fun r => (outsM (i + 1) ks ms).bind fun q => .pure (r.1 ++ q.1, r.2 ++ q.2)
  | _, _, _ => .fail

def noDeepT : List TT → Bool
  | [] => true
  | .flat _ :: l => noDeepT l
  | .deep _ _ :: _ => false
/-- No slices of slices are written. -/
def noDeep : List (Option MK) → Bool
  | [] => true
  | some (.rows ts) :: l => noDeepT ts && noDeep l
  | _ :: l => noDeep l
/-- No variable is written through a pointer. -/
def noBox : List (Option MK) → Bool
  | [] => true
  | some (.box _) :: _ => false
  | _ :: l => noBox l

def finM (P : Program) (fn : Func) (s : Sum) (st : St) : Res :=
  match ((resSVs P fn.results.toList).bind fun l => (finVals s.rs l).bind fun q => (outsM 0 s.ps s.ms).bind fun r => .pure (q, r)).run st.get st.obj with
  | some (((ds, own, im), (od, ids)), _) => (st.ok && nodupN (own ++ ids) && (noDeep s.ms || (noBox s.ms && own.isEmpty)), ds ++ od)
  | none => bad

/-- How many slots at the beginning are never written: up to the last parameter that is written through. -/
def loOf : List (Option MK) → Nat
  | [] => 0
  | m :: l => bif Nat.blt 0 (loOf l) then loOf l + 1 else bif m.isSome then 1 else 0

theorem loOf_lt : ∀ {l : List (Option MK)} {j : Nat} {m : MK}, l[j]? = some (some m) → j < loOf l
  | [], j, m, h => by simp at h
  | x :: l, 0, m, h => by
    simp only [List.getElem?_cons_zero, Option.some.injEq] at h
    subst h
    simp only [loOf]
    cases Nat.blt 0 (loOf l) <;> simp
  | x :: l, j + 1, m, h => by
    have := loOf_lt (l := l) (j := j) (m := m) (by simpa using h)
    simp only [loOf]
    have h0 : Nat.blt 0 (loOf l) = true := Nat.ble_eq_true_of_le (by omega)
    rw [h0]
    simp only [cond_true]
    omega

def runFM (P : Program) (Γ : Ctx) (A : List (Nat × Ann)) (N : Nat) (fn : Func) (s : Sum) (ds : List DC) : Res :=
  match fn.body with
  | some c => run P Γ A N c { n := fn.ntmps + loOf s.ms * 1099511627776, sl := (initM 0 s.ps s.ms ds).1, hp := (initM 0 s.ps s.ms ds).2, ok := true, ls := [], lm := [] } { nrm := finM P fn s, ext := fun _ _ => bad, ret := finM P fn s }
  | none => bad

section
variable {P : Program} {Γ : Ctx} {w0 : World} {S : Own} {A : List (Nat × Ann)} {N : Nat}
variable {f : Nat → SV} {h : Nat → Option VObj} {β : Env} {φ : Nat → List Nat} {tm : Array Value} {w : World}

theorem outCell_ok (hc : Core w0 S f h β φ tm w) {el : List CT} {t : TT} {s : SV} {v : Value} {q : DC × Nat} (hs : SVR w (Av h β) β s v) (hq : (outCell el t s).val f h = some q) :
    ∃ rows mb o, q.1 = .sl rows ∧ CellA w t el rows v mb ∧ h q.2 = some o ∧ mb = tops β q.2 o ∧ mb.Nodup ∧ (noDeepT [t] = true → mb = v.ownBlock.toList) := by
  have hvn : v.ownBlock.toList.Nodup := by cases v.ownBlock <;> simp
  unfold outCell at hq
  cases s with
  | own id =>
    simp only [M.val_obj, Option.bind_eq_some_iff] at hq
    obtain ⟨ob, hob, hq⟩ := hq
    simp only [SVR] at hs
    split at hq
    · rename_i t' e' r u
      cases t with
      | deep t its => simp at hq
      | flat t =>
        simp only at hq
        cases hcond : Nat.beq t' t && ctsBeq e' el && flatB el
        · simp [hcond] at hq
        · simp only [hcond, cond_true, M.val_pure, Option.some.injEq] at hq
          subst hq
          simp only [Bool.and_eq_true] at hcond
          have ht := Nat.eq_of_beq_eq_true hcond.1.1
          have he := ctsBeq_eq _ _ hcond.1.2
          subst ht he
          obtain ⟨vals, fps, g1, g2, _, _⟩ := hc.objs id _ hob
          rw [← hs.1] at g1
          exact ⟨r, v.ownBlock.toList, _, rfl, ⟨hcond.2, vals, fps, g1, g2, rfl⟩, hob, by simp only [tops, hs.1], hvn, fun _ => rfl⟩
    · rename_i t' e' ts' r
      cases t with
      | flat t => simp at hq
      | deep t its =>
        simp only at hq
        cases hcond : Nat.beq t' t && ctsBeq e' el && tsBeq ts' its
        · simp [hcond] at hq
        · simp only [hcond, cond_true, M.val_pure, Option.some.injEq] at hq
          subst hq
          simp only [Bool.and_eq_true] at hcond
          have ht := Nat.eq_of_beq_eq_true hcond.1.1
          have he := ctsBeq_eq _ _ hcond.1.2
          have hi := tsBeq_eq _ _ hcond.2
          subst ht he hi
          have hfr := (hc.fresh id _ hob).1
          obtain ⟨vals, mbs, g1, g2, g3, g4⟩ := hc.objs id _ hob
          rw [g4] at hfr
          rw [← hs.1] at g1 hfr
          exact ⟨r, v.ownBlock.toList ++ mbs.flatten, _, rfl, ⟨vals, mbs, g1, g2, rfl⟩, hob, by simp only [tops, g3, hs.1], hfr, fun h => by simp [noDeepT] at h⟩
    · simp at hq
  | _ => simp at hq

theorem outCells_ok (hc : Core w0 S f h β φ tm w) : ∀ (cs : List CT) (ts : List TT) (ss : List SV) (us : List Value) (q : List DC × List Nat), SVRL w (Av h β) β ss us → (outCells cs ts ss).val f h = some q →
    ∃ ψ, OutA w cs ts q.1 us ψ ∧ (∀ b ∈ ψ, ∃ id ∈ q.2, ∃ o, h id = some o ∧ b ∈ tops β id o) ∧ (q.2.Nodup → ψ.Nodup) ∧
      (noDeepT ts = true → ∀ (w1 : World) (ds : List DC) (mb : List Nat), ArgA w1 cs ts ds us mb → ∀ b ∈ mb, ∃ id ∈ q.2, ∃ o, h id = some o ∧ b ∈ tops β id o)
  | [], ts, ss, us, q, hs, hq => by
    cases ss with
    | nil =>
      simp only [outCells, M.val_pure, Option.some.injEq] at hq
      subst hq
      simp only [SVRL] at hs
      refine ⟨[], ⟨rfl, hs, rfl⟩, by simp, by simp, fun _ w1 ds mb hm b hb => ?_⟩
      simp only [ArgA] at hm
      rw [hm.2.2.2] at hb
      simp at hb
    | cons s ss => simp [outCells] at hq
  | .int k :: cs, ts, ss, us, q, hs, hq => by
    cases ss with
    | nil => simp [outCells] at hq
    | cons s ss =>
      simp only [SVRL] at hs
      obtain ⟨v, us', rfl, h1, h2⟩ := hs
      simp only [outCells] at hq
      obtain ⟨ψ, k1, k2, k3, k4⟩ := outCells_ok hc cs ts ss us' q h2 hq
      refine ⟨ψ, ?_, k2, k3, fun hnd w1 ds mb hm b hb => ?_⟩
      · simp only [OutA]
        exact ⟨v, us', rfl, k1⟩
      · simp only [ArgA] at hm
        obtain ⟨d, ds', v', us1, rfl, e0, _, hm⟩ := hm
        simp only [List.cons.injEq] at e0
        obtain ⟨rfl, rfl⟩ := e0
        exact k4 hnd w1 ds' mb hm b hb
  | .bool :: cs, ts, ss, us, q, hs, hq => by
    cases ss with
    | nil => simp [outCells] at hq
    | cons s ss =>
      simp only [SVRL] at hs
      obtain ⟨v, us', rfl, h1, h2⟩ := hs
      simp only [outCells] at hq
      obtain ⟨ψ, k1, k2, k3, k4⟩ := outCells_ok hc cs ts ss us' q h2 hq
      refine ⟨ψ, ?_, k2, k3, fun hnd w1 ds mb hm b hb => ?_⟩
      · simp only [OutA]
        exact ⟨v, us', rfl, k1⟩
      · simp only [ArgA] at hm
        obtain ⟨d, ds', v', us1, rfl, e0, _, hm⟩ := hm
        simp only [List.cons.injEq] at e0
        obtain ⟨rfl, rfl⟩ := e0
        exact k4 hnd w1 ds' mb hm b hb
  | .str :: cs, ts, ss, us, q, hs, hq => by
    cases ss with
    | nil => simp [outCells] at hq
    | cons s ss =>
      simp only [SVRL] at hs
      obtain ⟨v, us', rfl, h1, h2⟩ := hs
      simp only [outCells] at hq
      obtain ⟨ψ, k1, k2, k3, k4⟩ := outCells_ok hc cs ts ss us' q h2 hq
      refine ⟨ψ, ?_, k2, k3, fun hnd w1 ds mb hm b hb => ?_⟩
      · simp only [OutA]
        exact ⟨v, us', rfl, k1⟩
      · simp only [ArgA] at hm
        obtain ⟨d, ds', v', us1, rfl, e0, _, hm⟩ := hm
        simp only [List.cons.injEq] at e0
        obtain ⟨rfl, rfl⟩ := e0
        exact k4 hnd w1 ds' mb hm b hb
  | .sl el :: cs, ts, ss, us, q, hs, hq => by
    cases ts with
    | nil => cases ss <;> simp [outCells] at hq
    | cons t ts =>
      cases ss with
      | nil => simp [outCells] at hq
      | cons s ss =>
        simp only [SVRL] at hs
        obtain ⟨v, us', rfl, h1, h2⟩ := hs
        simp only [outCells, M.val_bind, Option.bind_eq_some_iff, M.val_pure, Option.some.injEq] at hq
        obtain ⟨q1, hq1, q2, hq2, rfl⟩ := hq
        obtain ⟨ψ, k1, k2, k3, k4⟩ := outCells_ok hc cs ts ss us' q2 h2 hq2
        obtain ⟨rows, mb0, o, r1, r2, r3, r4, r5, r6⟩ := outCell_ok hc h1 hq1
        refine ⟨mb0 ++ ψ, ?_, fun b hb => ?_, fun hnd => ?_, fun hnd w1 ds mb hm b hb => ?_⟩
        · simp only [OutA]
          exact ⟨t, ts, rows, q2.1, v, us', mb0, ψ, rfl, by rw [r1], rfl, r2, k1, rfl⟩
        · rcases List.mem_append.1 hb with hb | hb
          · exact ⟨q1.2, List.mem_cons_self .., o, r3, r4 ▸ hb⟩
          · obtain ⟨i, hi, o', ho⟩ := k2 b hb
            exact ⟨i, List.mem_cons_of_mem _ hi, o', ho⟩
        · simp only [List.nodup_cons] at hnd
          rw [List.nodup_append]
          refine ⟨r5, k3 hnd.2, fun b hb b' hb' e => ?_⟩
          subst e
          obtain ⟨i, hi, o', ho', hbi⟩ := k2 b hb'
          rw [r4] at hb
          exact hc.sep q1.2 i o o' (fun e => hnd.1 (e ▸ hi)) r3 ho' b (tops_sub (hc.objs _ _ r3) b hb) (tops_sub (hc.objs _ _ ho') b hbi)
        · simp only [ArgA] at hm
          obtain ⟨t1, ts1, rows1, ds', v1, us1, m1, mb', e1, rfl, e2, hca, hm, rfl⟩ := hm
          simp only [List.cons.injEq] at e1 e2
          obtain ⟨rfl, rfl⟩ := e1
          obtain ⟨rfl, rfl⟩ := e2
          cases t with
          | deep t its => simp [noDeepT] at hnd
          | flat t =>
            obtain ⟨_, vals, fps, _, _, rfl⟩ := hca
            rcases List.mem_append.1 hb with hb | hb
            · refine ⟨q1.2, List.mem_cons_self .., o, r3, ?_⟩
              rw [← r4, r6 rfl]
              exact hb
            · obtain ⟨i, hi, o, ho⟩ := k4 (by simpa only [noDeepT] using hnd) w1 ds' mb' hm b hb
              exact ⟨i, List.mem_cons_of_mem _ hi, o, ho⟩

theorem outs_ok (hc : Core w0 S f h β φ tm w) : ∀ (i : Nat) (ks : List AK) (ms : List (Option MK)) (vs : List Value) (q : List DC × List Nat), (∀ (j : Nat) v m, vs[j]? = some v → ms[j]? = some (some m) → tm.getD (i + j) undef = v) → vs.length = ks.length → (outsM i ks ms).val f h = some q →
    ∃ im ψ, MOuts w ks ms q.1 vs im ψ ∧ (∀ b ∈ im, ¬ Av h β b) ∧ (noBox ms = true → im = []) ∧ (∀ b ∈ ψ, ∃ id ∈ q.2, ∃ o, h id = some o ∧ b ∈ tops β id o) ∧ (q.2.Nodup → ψ.Nodup) ∧
      (noDeep ms = true → ∀ (w1 : World) (ds : List DC) (fp mb : List Nat), MArgs w1 ks ms ds vs fp mb → ∀ b ∈ mb, ∃ id ∈ q.2, ∃ o, h id = some o ∧ b ∈ tops β id o)
  | i, [], ms, vs, q, hv, hl, hq => by
    cases ms with
    | nil =>
      simp only [outsM, M.val_pure, Option.some.injEq] at hq
      subst hq
      have hl : vs = [] := List.length_eq_zero_iff.1 hl
      subst hl
      refine ⟨[], [], ⟨rfl, rfl, rfl, rfl⟩, by simp, fun _ => rfl, by simp, by simp, fun _ w1 ds fp mb hm b hb => ?_⟩
      simp only [MArgs] at hm
      rw [hm.2.2.2.2] at hb
      simp at hb
    | cons m ms => simp [outsM] at hq
  | i, k :: ks, ms, vs, q, hv, hl, hq => by
    cases ms with
    | nil => simp [outsM] at hq
    | cons m ms =>
      cases vs with
      | nil => simp at hl
      | cons v vs =>
        have hv' : ∀ (j : Nat) u m, vs[j]? = some u → ms[j]? = some (some m) → tm.getD (i + 1 + j) undef = u := fun j u m' hu hm => by
          have := hv (j + 1) u m' (by simpa using hu) (by simpa using hm)
          rw [show i + 1 + j = i + (j + 1) by omega]
          exact this
        have hl' : vs.length = ks.length := by simpa using hl
        have hslot := hc.slots i
        cases m with
        | none =>
          simp only [outsM] at hq
          obtain ⟨im, ψ, k1, k2, k4, k5, k6, k3⟩ := outs_ok hc (i + 1) ks ms vs q hv' hl' hq
          refine ⟨im, ψ, ⟨none, ms, [], q.1, v, vs, [], im, [], ψ, rfl, rfl, rfl, ⟨rfl, rfl, rfl⟩, k1, rfl, rfl⟩, k2, k4, k5, k6, fun hnd w1 ds fp mb hm b hb => ?_⟩
          simp only [MArgs] at hm
          obtain ⟨m', ms', d1, d2, v', vs', f1, f2, b1, b2, e1, rfl, e2, ha, hm, rfl, rfl⟩ := hm
          simp only [List.cons.injEq] at e1 e2
          obtain ⟨rfl, rfl⟩ := e1
          obtain ⟨rfl, rfl⟩ := e2
          simp only [MArg] at ha
          rw [ha.2] at hb
          exact k3 hnd w1 d2 f2 b2 hm b (by simpa using hb)
        | some m =>
          have hv0 : tm.getD i undef = v := hv 0 v m rfl rfl
          rw [hv0] at hslot
          cases m with
          | box t =>
            simp only [outsM, M.val_slot] at hq
            cases hsv : f i with
            | ptr id off =>
              rw [hsv] at hq hslot
              cases off with
              | succ off => simp at hq
              | zero =>
                simp only [M.val_obj, Option.bind_eq_some_iff] at hq
                obtain ⟨ob, hob, hq⟩ := hq
                cases ob with
                | box t' cells =>
                  simp only at hq
                  cases htt : Nat.beq t' t
                  · simp [htt] at hq
                  · have htt' := Nat.eq_of_beq_eq_true htt
                    subst htt'
                    simp only [htt, cond_true, M.val_bind, Option.bind_eq_some_iff] at hq
                    obtain ⟨q1, hq1, hq⟩ := hq
                    cases hem : q1.2.1.isEmpty
                    · simp [hem] at hq
                    · simp only [hem, cond_true, M.val_bind, Option.bind_eq_some_iff, M.val_pure, Option.some.injEq] at hq
                      obtain ⟨q2, hq2, rfl⟩ := hq
                      obtain ⟨im, ψ, k1, k2, k4, k5, k6, k3⟩ := outs_ok hc (i + 1) ks ms vs q2 hv' hl' hq2
                      obtain ⟨us, g1, g2, g3, _⟩ := hc.objs id _ hob
                      obtain ⟨fp1, hr, hm1, hav1, _⟩ := toDCs_ok hc k.cts cells us q1 g2 hq1
                      have hlc := SVRL.length _ _ g2
                      have hl2 := toDCs_length _ _ _ hq1
                      simp only [SVR] at hslot
                      have hme : q1.2.1 = [] := List.isEmpty_iff.1 hem
                      refine ⟨fp1 ++ im, [β.blk id] ++ ψ, ⟨some (.box t'), ms, q1.1, q2.1, v, vs, fp1, im, [β.blk id], ψ, rfl, rfl, rfl, ⟨β.blk id, us, hslot, g1, g3, hr, by omega, rfl⟩, k1, rfl, rfl⟩, ?_, fun h => by simp [noBox] at h, fun b hb => ?_, fun hnd => ?_, fun hnd w1 ds fp mb hm b hb => ?_⟩
                      · intro b hb
                        rcases List.mem_append.1 hb with hb | hb
                        · rcases hav1 b hb with h3 | ⟨x, hx, h3⟩
                          · exact h3
                          · rw [hme] at hx
                            simp at hx
                        · exact k2 b hb
                      · rcases List.mem_append.1 hb with hb | hb
                        · exact ⟨id, List.mem_cons_self .., _, hob, by simpa only [tops] using hb⟩
                        · obtain ⟨j, hj, o, ho⟩ := k5 b hb
                          exact ⟨j, List.mem_cons_of_mem _ hj, o, ho⟩
                      · simp only [List.nodup_cons] at hnd
                        rw [List.nodup_append]
                        refine ⟨by simp, k6 hnd.2, fun b hb b' hb' e => ?_⟩
                        subst e
                        obtain ⟨j, hj, o', ho', hbj⟩ := k5 b hb'
                        exact hc.sep id j _ o' (fun e => hnd.1 (e ▸ hj)) hob ho' b (tops_sub (hc.objs _ _ hob) b (by simpa only [tops] using hb)) (tops_sub (hc.objs _ _ ho') b hbj)
                      · simp only [MArgs] at hm
                        obtain ⟨m', ms', d1, d2, v', vs', f1, f2, b1, b2, e1, rfl, e2, ha, hm, rfl, rfl⟩ := hm
                        simp only [List.cons.injEq] at e1 e2
                        obtain ⟨rfl, rfl⟩ := e1
                        obtain ⟨rfl, rfl⟩ := e2
                        simp only [MArg] at ha
                        obtain ⟨g, us1, ev, _, _, _, _, rfl⟩ := ha
                        rcases List.mem_append.1 hb with hb | hb
                        · refine ⟨id, List.mem_cons_self .., _, hob, ?_⟩
                          rw [hslot] at ev
                          simp only [Value.pointer.injEq, Option.some.injEq, Addr.mk.injEq, and_true] at ev
                          simp only [tops]
                          rw [ev]
                          exact hb
                        · obtain ⟨j, hj, o, ho⟩ := k3 hnd w1 d2 f2 b2 hm b hb
                          exact ⟨j, List.mem_cons_of_mem _ hj, o, ho⟩
                | row _ _ _ _ _ => simp at hq
                | imm _ _ => simp at hq
                | deep _ _ _ _ _ => simp at hq
            | _ => rw [hsv] at hq; simp at hq
          | rows ts =>
            simp only [outsM, M.val_slot, M.val_bind, Option.bind_eq_some_iff, M.val_pure, Option.some.injEq] at hq
            obtain ⟨q1, hq1, q2, hq2, rfl⟩ := hq
            obtain ⟨im, ψ, k1, k2, k4, k5, k6, k3⟩ := outs_ok hc (i + 1) ks ms vs q2 hv' hl' hq2
            have one : ∃ us : List Value, (bif k.agg then v = .agg us.toArray else us = [v]) ∧ ∃ ψ1, OutA w k.cts ts q1.1 us ψ1 ∧ (∀ b ∈ ψ1, ∃ id ∈ q1.2, ∃ o, h id = some o ∧ b ∈ tops β id o) ∧ (q1.2.Nodup → ψ1.Nodup) ∧
                (noDeepT ts = true → ∀ (w1 : World) (ds : List DC) (mb : List Nat), ArgA w1 k.cts ts ds us mb → ∀ b ∈ mb, ∃ id ∈ q1.2, ∃ o, h id = some o ∧ b ∈ tops β id o) := by
              cases hk : k.agg with
              | true =>
                generalize f i = s at hq1 hslot
                cases s with
                | agg cs =>
                  simp only [hk] at hq1
                  simp only [SVR] at hslot
                  obtain ⟨us, rfl, hus, hone⟩ := hslot
                  exact ⟨us, rfl, outCells_ok hc k.cts ts cs us q1 hus hq1⟩
                | _ => simp [hk] at hq1
              | false =>
                generalize f i = s at hq1 hslot
                have hq1' : (outCells k.cts ts [s]).val f h = some q1 := by
                  cases s <;> simp only [hk] at hq1 <;> first | exact hq1 | (simp at hq1)
                have hsing : SVRL w (Av h β) β [s] [v] := by simp only [SVRL]; exact ⟨v, [], rfl, hslot, rfl⟩
                exact ⟨[v], rfl, outCells_ok hc k.cts ts [s] [v] q1 hsing hq1'⟩
            obtain ⟨us, hus, ψ1, r1, r3, r4, r2⟩ := one
            refine ⟨im, ψ1 ++ ψ, ⟨some (.rows ts), ms, q1.1, q2.1, v, vs, [], im, ψ1, ψ, rfl, rfl, rfl, ⟨us, hus, r1, rfl⟩, k1, rfl, rfl⟩, k2, fun h => k4 (by simpa only [noBox] using h), fun b hb => ?_, fun hnd => ?_, fun hnd w1 ds fp mb hm b hb => ?_⟩
            · rcases List.mem_append.1 hb with hb | hb
              · obtain ⟨j, hj, o, ho⟩ := r3 b hb
                exact ⟨j, List.mem_append_left _ hj, o, ho⟩
              · obtain ⟨j, hj, o, ho⟩ := k5 b hb
                exact ⟨j, List.mem_append_right _ hj, o, ho⟩
            · rw [List.nodup_append] at hnd
              obtain ⟨n1, n2, n3⟩ := hnd
              rw [List.nodup_append]
              refine ⟨r4 n1, k6 n2, fun b hb b' hb' e => ?_⟩
              subst e
              obtain ⟨i1, hi1, o1, ho1, hb1⟩ := r3 b hb
              obtain ⟨j, hj, o', ho', hbj⟩ := k5 b hb'
              exact hc.sep i1 j o1 o' (fun e => n3 i1 hi1 j hj e) ho1 ho' b (tops_sub (hc.objs _ _ ho1) b hb1) (tops_sub (hc.objs _ _ ho') b hbj)
            simp only [noDeep, Bool.and_eq_true] at hnd
            simp only [MArgs] at hm
            obtain ⟨m', ms', d1, d2, v', vs', f1, f2, b1, b2, e1, rfl, e2, ha, hm, rfl, rfl⟩ := hm
            simp only [List.cons.injEq] at e1 e2
            obtain ⟨rfl, rfl⟩ := e1
            obtain ⟨rfl, rfl⟩ := e2
            simp only [MArg] at ha
            obtain ⟨us1, hus1, _, ha, _⟩ := ha
            have hue : us1 = us := by
              cases hk : k.agg with
              | true =>
                rw [hk] at hus hus1
                simp only [cond_true] at hus hus1
                rw [hus] at hus1
                simp only [Value.agg.injEq] at hus1
                simpa using (congrArg Array.toList hus1).symm
              | false =>
                rw [hk] at hus hus1
                simp only [cond_false] at hus hus1
                rw [hus, hus1.1]
            subst hue
            rcases List.mem_append.1 hb with hb | hb
            · obtain ⟨j, hj, o, ho⟩ := r2 hnd.1 w1 d1 b1 ha b hb
              exact ⟨j, List.mem_append_left _ hj, o, ho⟩
            · obtain ⟨j, hj, o, ho⟩ := k3 hnd.2 w1 d2 f2 b2 hm b hb
              exact ⟨j, List.mem_append_right _ hj, o, ho⟩

end
end Go.Proofs.YthpmalpdnnbkgaaGreat.Vm

/- The value machine: contracts of functions that write through parameters, out of runs. Conditions: the contracts of the context hold; the run ends with the contract's data. -/
set_option linter.unusedVariables false
set_option linter.unusedSimpArgs false
namespace Go.Proofs.YthpmalpdnnbkgaaGreat.Vm

/-- An object at the beginning: its name, itself, its block, its value, what it owns. -/
structure EN where
  id : Nat
  o : VObj
  blk : Nat
  val : Value
  φ : List Nat
  nb : List Nat

def EN.ok (w : World) (av : Nat → Prop) (β : Env) (x : EN) : Prop := ObjR w av β x.id x.o x.φ ∧ tops β x.id x.o = x.φ

section
variable {P : Program} {Γ : Ctx} {A : List (Nat × Ann)} {w : World} {i : Nat}

theorem initCells_ok : ∀ (j : Nat) (cs : List CT) (ts : List TT) (ds : List DC) (us : List Value) (mb : List Nat), ArgA w cs ts ds us mb →
    ∃ E : List EN, (initCells i j cs ts ds).2 = E.map (fun x => (x.id, x.o)) ∧ E.flatMap (·.φ) = mb ∧ ∀ (av : Nat → Prop) (β : Env), (∀ x ∈ E, β.blk x.id = x.blk ∧ β.val x.id = x.val ∧ β.nb x.id = x.nb) →
      SVRL w av β (initCells i j cs ts ds).1 us ∧ ∀ x ∈ E, x.ok w av β
  | j, [], ts, ds, us, mb, hm => by
    simp only [ArgA] at hm
    obtain ⟨rfl, rfl, rfl, rfl⟩ := hm
    exact ⟨[], rfl, rfl, fun av β _ => ⟨by simp [initCells, SVRL], by simp⟩⟩
  | j, .int k :: cs, ts, ds, us, mb, hm => by
    simp only [ArgA] at hm
    obtain ⟨d, ds', v, us', rfl, rfl, h1, hm⟩ := hm
    obtain ⟨E, e1, e2, e3⟩ := initCells_ok (j + 1) cs ts ds' us' mb hm
    refine ⟨E, by simpa only [initCells, List.tail_cons] using e1, e2, fun av β hb => ?_⟩
    obtain ⟨k1, k2⟩ := e3 av β hb
    refine ⟨?_, k2⟩
    simp only [initCells, List.headD_cons, List.tail_cons, SVRL]
    exact ⟨v, us', rfl, ofDC_ok h1 (by simp), k1⟩
  | j, .bool :: cs, ts, ds, us, mb, hm => by
    simp only [ArgA] at hm
    obtain ⟨d, ds', v, us', rfl, rfl, h1, hm⟩ := hm
    obtain ⟨E, e1, e2, e3⟩ := initCells_ok (j + 1) cs ts ds' us' mb hm
    refine ⟨E, by simpa only [initCells, List.tail_cons] using e1, e2, fun av β hb => ?_⟩
    obtain ⟨k1, k2⟩ := e3 av β hb
    refine ⟨?_, k2⟩
    simp only [initCells, List.headD_cons, List.tail_cons, SVRL]
    exact ⟨v, us', rfl, ofDC_ok h1 (by simp), k1⟩
  | j, .str :: cs, ts, ds, us, mb, hm => by
    simp only [ArgA] at hm
    obtain ⟨d, ds', v, us', rfl, rfl, h1, hm⟩ := hm
    obtain ⟨E, e1, e2, e3⟩ := initCells_ok (j + 1) cs ts ds' us' mb hm
    refine ⟨E, by simpa only [initCells, List.tail_cons] using e1, e2, fun av β hb => ?_⟩
    obtain ⟨k1, k2⟩ := e3 av β hb
    refine ⟨?_, k2⟩
    simp only [initCells, List.headD_cons, List.tail_cons, SVRL]
    exact ⟨v, us', rfl, ofDC_ok h1 (by simp), k1⟩
  | j, .sl e :: cs, ts, ds, us, mb, hm => by
    simp only [ArgA] at hm
    obtain ⟨t, ts', rows, ds', v, us', m1, mb', rfl, rfl, rfl, hca, hm, rfl⟩ := hm
    obtain ⟨E, e1, e2, e3⟩ := initCells_ok (j + 1) cs ts' ds' us' mb' hm
    have one : ∃ nb : List Nat, ∀ (av : Nat → Prop) (β : Env), β.val (pid i j) = v → β.nb (pid i j) = nb → ObjR w av β (pid i j) (paramObj t e rows) m1 ∧ tops β (pid i j) (paramObj t e rows) = m1 := by
      cases t with
      | flat t =>
        obtain ⟨hfl, vals, fps, h1, h2, rfl⟩ := hca
        refine ⟨[], fun av β hv hn => ⟨⟨vals, fps, by rw [hv]; exact h1, h2, by rw [InR_flat hfl h2]; simp, ?_⟩, ?_⟩⟩
        · rw [hv, InR_flat hfl h2]
          simp
        · simp only [paramObj, tops, hv]
      | deep t its =>
        obtain ⟨vals, mbs, h1, h2, rfl⟩ := hca
        exact ⟨mbs.flatten, fun av β hv hn => ⟨⟨vals, mbs, by rw [hv]; exact h1, h2, hn, by rw [hv]⟩, by simp only [paramObj, tops, hv, hn]⟩⟩
    obtain ⟨nb, one⟩ := one
    refine ⟨⟨pid i j, paramObj t e rows, 0, v, m1, nb⟩ :: E, ?_, ?_, fun av β hb => ?_⟩
    · simp only [initCells, List.headD_cons, List.tail_cons, List.map_cons, e1, DC.asRows]
    · simp only [List.flatMap_cons, e2]
    · obtain ⟨k1, k2⟩ := e3 av β (fun x hx => hb x (List.mem_cons_of_mem _ hx))
      have hv := (hb _ (List.mem_cons_self ..)).2
      simp only at hv
      refine ⟨?_, fun x hx => ?_⟩
      · simp only [initCells, List.headD_cons, List.tail_cons, SVRL]
        refine ⟨v, us', rfl, ?_, k1⟩
        simp only [SVR]
        exact ⟨hv.1.symm, hca.one⟩
      · rcases List.mem_cons.1 hx with rfl | hx
        · exact one av β hv.1 hv.2
        · exact k2 x hx

theorem CellA.lt {t : TT} {e : List CT} {rows : List (List DC)} {v : Value} {mb : List Nat} (h : CellA w t e rows v mb) : ∀ b ∈ mb, b < w.heap.size := by
  cases t with
  | flat t =>
    obtain ⟨_, vals, fps, h1, _, rfl⟩ := h
    exact h1.lt
  | deep t its =>
    obtain ⟨vals, mbs, h1, h2, rfl⟩ := h
    intro b hb
    rcases List.mem_append.1 hb with hb | hb
    · exact h1.lt b hb
    · exact h2.lt b hb

/-- What a slice of an argument reads as. -/
theorem CellA.reads {t : TT} {e : List CT} {rows : List (List DC)} {v : Value} {mb : List Nat} (h : CellA w t e rows v mb) : ∃ tt vals fps, OwnR w tt e.length false v rows.length vals ∧ InR w e rows vals fps := by
  cases t with
  | flat t =>
    obtain ⟨_, vals, fps, h1, h2, _⟩ := h
    exact ⟨t, vals, fps, h1, h2⟩
  | deep t its =>
    obtain ⟨vals, mbs, h1, h2, _⟩ := h
    obtain ⟨fps, h3, _⟩ := h2.reads
    exact ⟨t, vals, fps, h1, h3⟩

theorem ArgA.length : ∀ (cs : List CT) (ts : List TT) (ds : List DC) (us : List Value) (mb : List Nat), ArgA w cs ts ds us mb → ds.length = cs.length
  | [], ts, ds, us, mb, h => by simp only [ArgA] at h; simp [h.2.1]
  | .sl e :: cs, ts, ds, us, mb, h => by
    simp only [ArgA] at h
    obtain ⟨t, ts', rows, ds', v, us', m1, mb', rfl, rfl, rfl, _, h, _⟩ := h
    simp [ArgA.length cs ts' ds' us' mb' h]
  | .int k :: cs, ts, ds, us, mb, h => by
    simp only [ArgA] at h
    obtain ⟨d, ds', v, us', rfl, rfl, _, h⟩ := h
    simp [ArgA.length cs ts ds' us' mb h]
  | .bool :: cs, ts, ds, us, mb, h => by
    simp only [ArgA] at h
    obtain ⟨d, ds', v, us', rfl, rfl, _, h⟩ := h
    simp [ArgA.length cs ts ds' us' mb h]
  | .str :: cs, ts, ds, us, mb, h => by
    simp only [ArgA] at h
    obtain ⟨d, ds', v, us', rfl, rfl, _, h⟩ := h
    simp [ArgA.length cs ts ds' us' mb h]

theorem initCells_app : ∀ (j : Nat) (cs : List CT) (ts : List TT) (d1 d2 : List DC), cs.length ≤ d1.length → initCells i j cs ts (d1 ++ d2) = initCells i j cs ts d1
  | _, [], _, _, _, _ => rfl
  | j, c :: cs, ts, d1, d2, hl => by
    cases d1 with
    | nil => simp at hl
    | cons x d1 =>
      have hl' : cs.length ≤ d1.length := by simpa using hl
      cases c <;> simp only [List.cons_append, initCells, List.headD_cons, List.tail_cons] <;> rw [initCells_app _ cs _ d1 d2 hl']

theorem init_ok : ∀ (i : Nat) (ks : List AK) (ms : List (Option MK)) (ds : List DC) (vs : List Value) (fp mb : List Nat), MArgs w ks ms ds vs fp mb →
    ∃ E : List EN, (initM i ks ms ds).2 = E.map (fun x => (x.id, x.o)) ∧ E.flatMap (·.φ) = mb ∧ ∀ (av : Nat → Prop) (β : Env), (∀ x ∈ E, β.blk x.id = x.blk ∧ β.val x.id = x.val ∧ β.nb x.id = x.nb) → (∀ b ∈ fp, ¬ av b) →
      (∀ n, lkV (initM i ks ms ds).1 n = .unk ∨ ∃ j v, n = i + j ∧ vs[j]? = some v ∧ SVR w av β (lkV (initM i ks ms ds).1 n) v) ∧ ∀ x ∈ E, x.ok w av β
  | i, [], ms, ds, vs, fp, mb, hm => by
    simp only [MArgs] at hm
    obtain ⟨rfl, rfl, rfl, rfl, rfl⟩ := hm
    exact ⟨[], rfl, rfl, fun av β _ _ => ⟨fun n => .inl rfl, by simp⟩⟩
  | i, k :: ks, ms, ds, vs, fp, mb, hm => by
    simp only [MArgs] at hm
    obtain ⟨m, ms, d1, d2, v, vs, f1, f2, b1, b2, rfl, rfl, rfl, ha, hm, rfl, rfl⟩ := hm
    obtain ⟨E, e1, e2, e3⟩ := init_ok (i + 1) ks ms d2 vs f2 b2 hm
    have step : ∀ (av : Nat → Prop) (β : Env) (s : SV) (l : List (Nat × SV)), (∀ n, lkV l n = .unk ∨ ∃ j u, n = i + 1 + j ∧ vs[j]? = some u ∧ SVR w av β (lkV l n) u) → SVR w av β s v →
        ∀ n, lkV ((i, s) :: l) n = .unk ∨ ∃ j u, n = i + j ∧ (v :: vs)[j]? = some u ∧ SVR w av β (lkV ((i, s) :: l) n) u := by
      intro av β s l hl hs n
      simp only [lkV]
      cases hk : Nat.beq i n
      · simp only [cond_false]
        rcases hl n with h3 | ⟨j, u, hn, hj, hu⟩
        · exact .inl h3
        · exact .inr ⟨j + 1, u, by omega, by simpa using hj, hu⟩
      · have := Nat.eq_of_beq_eq_true hk
        subst this
        simp only [cond_true]
        exact .inr ⟨0, v, rfl, rfl, hs⟩
    cases m with
    | none =>
      simp only [MArg] at ha
      obtain ⟨ha, rfl⟩ := ha
      have hl : d1.length = k.cts.length := by
        obtain ⟨us, _, _, hr, _⟩ := ha
        exact RdL.length _ _ _ _ hr
      have hdr : (d1 ++ d2).drop k.cts.length = d2 := by rw [← hl, List.drop_left]
      refine ⟨E, by simp only [initM, List.headD_cons, List.tail_cons, hdr, e1], by simpa using e2, fun av β hb hfp => ?_⟩
      obtain ⟨k1, k2⟩ := e3 av β hb (fun b hb => hfp b (List.mem_append_right _ hb))
      refine ⟨?_, k2⟩
      simp only [initM, List.headD_cons, List.tail_cons, hdr]
      refine step av β _ _ k1 ?_
      rw [ofDCs_app _ _ _ _ (by omega)]
      exact arg_sv ha (fun b hb => hfp b (List.mem_append_left _ hb))
    | some m =>
      cases m with
      | box t =>
        simp only [MArg] at ha
        obtain ⟨g, us, rfl, hg, hone, hr, hlu, rfl⟩ := ha
        have hl : d1.length = k.cts.length := RdL.length _ _ _ _ hr
        have hdr : (d1 ++ d2).drop k.cts.length = d2 := by rw [← hl, List.drop_left]
        refine ⟨⟨pid i 0, .box t (ofDCs k.cts d1 0), g, undef, [g], []⟩ :: E, ?_, by simp [e2], fun av β hb hfp => ?_⟩
        · simp only [initM, List.headD_cons, List.tail_cons, hdr, e1, List.map_cons]
          rw [ofDCs_app _ _ _ _ (by omega)]
        · obtain ⟨k1, k2⟩ := e3 av β (fun x hx => hb x (List.mem_cons_of_mem _ hx)) (fun b hb => hfp b (List.mem_append_right _ hb))
          have hbk := (hb _ (List.mem_cons_self ..)).1
          simp only at hbk
          refine ⟨?_, fun x hx => ?_⟩
          · simp only [initM, List.headD_cons, List.tail_cons, hdr]
            refine step av β _ _ k1 ?_
            simp only [SVR, hbk]
          · rcases List.mem_cons.1 hx with rfl | hx
            · obtain ⟨vs', l1, l2, l3, l4⟩ := RdL.svs (β := β) (av := av) hr (fun b hb => hfp b (List.mem_append_left _ hb)) k.cts.length 0 (by omega)
              have ee : vs' = us := by
                apply List.ext_getElem?
                intro j
                by_cases hj : j < vs'.length
                · have := l2 j vs'[j] (by simp)
                  simp only [Nat.zero_add] at this
                  rw [this]
                  simp
                · rw [List.getElem?_eq_none (by omega), List.getElem?_eq_none (by omega)]
              subst ee
              simp only [List.drop_zero, List.take_length] at l3
              exact ⟨⟨vs', by rw [hbk]; exact hg, l3, hone, by simp only [hbk]⟩, by simp only [tops, hbk]⟩
            · exact k2 x hx
      | rows ts =>
        simp only [MArg] at ha
        obtain ⟨us, hus, hone, hra, rfl⟩ := ha
        obtain ⟨E1, a1, a2, a3⟩ := initCells_ok (i := i) 0 k.cts ts d1 us b1 hra
        have hl : d1.length = k.cts.length := ArgA.length _ _ _ _ _ hra
        have hdr : (d1 ++ d2).drop k.cts.length = d2 := by rw [← hl, List.drop_left]
        have hic : initCells i 0 k.cts ts (d1 ++ d2) = initCells i 0 k.cts ts d1 := initCells_app _ _ _ _ _ (by omega)
        refine ⟨E1 ++ E, ?_, by simp [a2, e2], fun av β hb hfp => ?_⟩
        · simp only [initM, List.headD_cons, List.tail_cons, hdr, hic, e1, a1, List.map_append]
        · obtain ⟨k1, k2⟩ := e3 av β (fun x hx => hb x (List.mem_append_right _ hx)) (fun b hb => hfp b (by simpa using hb))
          obtain ⟨c1, c2⟩ := a3 av β (fun x hx => hb x (List.mem_append_left _ hx))
          refine ⟨?_, fun x hx => ?_⟩
          · simp only [initM, List.headD_cons, List.tail_cons, hdr, hic]
            refine step av β _ _ k1 ?_
            cases hk : k.agg with
            | true =>
              rw [hk] at hus
              simp only [cond_true] at hus ⊢
              simp only [SVR]
              exact ⟨us, hus, c1, hone⟩
            | false =>
              rw [hk] at hus
              simp only [cond_false] at hus ⊢
              rw [hus.1] at c1
              generalize (initCells i 0 k.cts ts d1).1 = q at c1
              cases q with
              | nil => simp [SVRL] at c1
              | cons y l =>
                simp only [SVRL] at c1
                obtain ⟨v', l', e0, e5, _⟩ := c1
                injection e0 with e0
                subst e0
                simpa using e5
          · rcases List.mem_append.1 hx with hx | hx
            · exact c2 x hx
            · exact k2 x hx

theorem ArgA.lt : ∀ (cs : List CT) (ts : List TT) (ds : List DC) (us : List Value) (mb : List Nat), ArgA w cs ts ds us mb → ∀ b ∈ mb, b < w.heap.size
  | [], ts, ds, us, mb, h => by simp only [ArgA] at h; simp [h.2.2.2]
  | .sl e :: cs, ts, ds, us, mb, h => by
    simp only [ArgA] at h
    obtain ⟨t, ts', rows, ds', v, us', m1, mb', rfl, rfl, rfl, h1, h, rfl⟩ := h
    intro b hb
    rcases List.mem_append.1 hb with hb | hb
    · exact h1.lt b hb
    · exact ArgA.lt cs ts' ds' us' mb' h b hb
  | .int k :: cs, ts, ds, us, mb, h => by
    simp only [ArgA] at h
    obtain ⟨d, ds', v, us', rfl, rfl, _, h⟩ := h
    exact ArgA.lt cs ts ds' us' mb h
  | .bool :: cs, ts, ds, us, mb, h => by
    simp only [ArgA] at h
    obtain ⟨d, ds', v, us', rfl, rfl, _, h⟩ := h
    exact ArgA.lt cs ts ds' us' mb h
  | .str :: cs, ts, ds, us, mb, h => by
    simp only [ArgA] at h
    obtain ⟨d, ds', v, us', rfl, rfl, _, h⟩ := h
    exact ArgA.lt cs ts ds' us' mb h

theorem MArgs.facts : ∀ (ks : List AK) (ms : List (Option MK)) (ds : List DC) (vs : List Value) (fp mb : List Nat), MArgs w ks ms ds vs fp mb → (∀ b ∈ mb, b < w.heap.size) ∧ (∀ b ∈ fp, b < w.heap.size) ∧ vs.length = ks.length
  | [], ms, ds, vs, fp, mb, h => by
    simp only [MArgs] at h
    obtain ⟨_, _, rfl, rfl, rfl⟩ := h
    simp
  | k :: ks, ms, ds, vs, fp, mb, h => by
    simp only [MArgs] at h
    obtain ⟨m, ms', d1, d2, v, vs', f1, f2, b1, b2, rfl, rfl, rfl, ha, h, rfl, rfl⟩ := h
    obtain ⟨k1, k2, k3⟩ := MArgs.facts ks ms' d2 vs' f2 b2 h
    have one : (∀ b ∈ b1, b < w.heap.size) ∧ ∀ b ∈ f1, b < w.heap.size := by
      cases m with
      | none =>
        simp only [MArg] at ha
        obtain ⟨⟨us, _, _, hr, _⟩, rfl⟩ := ha
        exact ⟨by simp, RdL.lt _ _ _ _ hr⟩
      | some m =>
        cases m with
        | box t =>
          simp only [MArg] at ha
          obtain ⟨g, us, _, hg, _, hr, _, rfl⟩ := ha
          refine ⟨fun b hb => ?_, RdL.lt _ _ _ _ hr⟩
          simp only [List.mem_singleton] at hb
          subst hb
          exact (Array.getElem?_eq_some_iff.1 hg).1
        | rows ts =>
          simp only [MArg] at ha
          obtain ⟨us, _, _, hra, rfl⟩ := ha
          exact ⟨ArgA.lt _ _ _ _ _ hra, by simp⟩
    refine ⟨fun b hb => ?_, fun b hb => ?_, by simp [k3]⟩
    · rcases List.mem_append.1 hb with hb | hb
      · exact one.1 b hb
      · exact k1 b hb
    · rcases List.mem_append.1 hb with hb | hb
      · exact one.2 b hb
      · exact k2 b hb

theorem flat_apart {E : List EN} (h : (E.flatMap (·.φ)).Nodup) : (∀ x ∈ E, x.φ.Nodup) ∧ ∀ x ∈ E, ∀ y ∈ E, x ≠ y → ∀ b ∈ x.φ, b ∉ y.φ := by
  induction E with
  | nil => simp
  | cons z l ih =>
    rw [List.flatMap_cons, List.nodup_append] at h
    obtain ⟨h1, h2, h3⟩ := h
    obtain ⟨i1, i2⟩ := ih h2
    refine ⟨fun x hx => ?_, fun x hx y hy hxy b hb hb' => ?_⟩
    · rcases List.mem_cons.1 hx with rfl | hx
      · exact h1
      · exact i1 x hx
    · rcases List.mem_cons.1 hx with hx1 | hx1 <;> rcases List.mem_cons.1 hy with hy1 | hy1
      · exact hxy (hx1.trans hy1.symm)
      · subst hx1
        exact h3 b hb b (List.mem_flatMap.2 ⟨y, hy1, hb'⟩) rfl
      · subst hy1
        exact h3 b hb' b (List.mem_flatMap.2 ⟨x, hx1, hb⟩) rfl
      · exact i2 x hx1 y hy1 hxy b hb hb'

theorem ResV.count {w : World} : ∀ (rks : List RK) (ds : List DC) (vs : List Value) (φ im tp : List Nat), ResV w rks ds vs φ im tp → ds.length = resCount rks
  | [], ds, vs, φ, im, tp, h => by simp only [ResV] at h; simp [h.1, resCount]
  | r :: rs, ds, vs, φ, im, tp, h => by
    simp only [ResV] at h
    obtain ⟨d1, d2, v, vs', us, φ1, φ2, i1, i2, t1, t2, rfl, rfl, _, _, h1, h2, _⟩ := h
    simp only [List.length_append, resCount, ResL.length _ _ _ _ _ _ h1, ResV.count rs d2 vs' _ _ _ h2]

theorem ArgA.wt : ∀ (cs : List CT) (ts : List TT) (ds : List DC) (us : List Value) (mb : List Nat), ArgA w cs ts ds us mb → WtL cs ds
  | [], ts, ds, us, mb, h => by simp only [ArgA] at h; simp only [WtL]; exact h.2.1
  | .sl e :: cs, ts, ds, us, mb, h => by
    simp only [ArgA] at h
    obtain ⟨t, ts', rows, ds', v, us', m1, mb', rfl, rfl, rfl, hca, h, _⟩ := h
    obtain ⟨tt, vals, fps, h1, h2⟩ := hca.reads
    simp only [WtL, WtC]
    refine ⟨_, _, rfl, ⟨rows, rfl, ?_, fun r hr => ?_⟩, ArgA.wt cs ts' ds' us' mb' h⟩
    · rcases h1.2 with ⟨_, hn, _⟩ | ⟨g, cap, cur, _, _, h3, h4, _⟩
      · rw [hn]; exact Nat.zero_le _
      · omega
    · obtain ⟨i, hi, rfl⟩ := List.getElem_of_mem hr
      have hi' : i < fps.length := by have := h2.1; omega
      exact RdL.wt e _ _ _ (h2.2 i rows[i] fps[i] (by simp) (by simp [hi']))
  | .int k :: cs, ts, ds, us, mb, h => by
    simp only [ArgA] at h
    obtain ⟨d, ds', v, us', rfl, rfl, h1, h⟩ := h
    simp only [WtL]
    exact ⟨d, ds', rfl, RdC.wt _ _ _ _ h1, ArgA.wt cs ts ds' us' mb h⟩
  | .bool :: cs, ts, ds, us, mb, h => by
    simp only [ArgA] at h
    obtain ⟨d, ds', v, us', rfl, rfl, h1, h⟩ := h
    simp only [WtL]
    exact ⟨d, ds', rfl, RdC.wt _ _ _ _ h1, ArgA.wt cs ts ds' us' mb h⟩
  | .str :: cs, ts, ds, us, mb, h => by
    simp only [ArgA] at h
    obtain ⟨d, ds', v, us', rfl, rfl, h1, h⟩ := h
    simp only [WtL]
    exact ⟨d, ds', rfl, RdC.wt _ _ _ _ h1, ArgA.wt cs ts ds' us' mb h⟩

theorem MArgs.wt : ∀ (ks : List AK) (ms : List (Option MK)) (ds : List DC) (vs : List Value) (fp mb : List Nat), MArgs w ks ms ds vs fp mb → WtL (ctsAll ks) ds
  | [], ms, ds, vs, fp, mb, h => by
    simp only [MArgs] at h
    simp only [ctsAll, WtL]
    exact h.2.1
  | k :: ks, ms, ds, vs, fp, mb, h => by
    simp only [MArgs] at h
    obtain ⟨m, ms', d1, d2, v, vs', f1, f2, b1, b2, rfl, rfl, rfl, ha, h, _⟩ := h
    refine WtL.append ?_ (MArgs.wt ks ms' d2 vs' f2 b2 h)
    cases m with
    | none =>
      simp only [MArg] at ha
      obtain ⟨⟨us, _, _, hr, _⟩, _⟩ := ha
      exact RdL.wt _ _ _ _ hr
    | some m =>
      cases m with
      | box t =>
        simp only [MArg] at ha
        obtain ⟨g, us, _, _, _, hr, _⟩ := ha
        exact RdL.wt _ _ _ _ hr
      | rows ts =>
        simp only [MArg] at ha
        obtain ⟨us, _, _, hra, _⟩ := ha
        exact ArgA.wt _ _ _ _ _ hra

def lkE : List EN → Nat → Option EN
  | [], _ => none
  | x :: l, i => if i = x.id then some x else lkE l i

theorem lkE_mem {E : List EN} {j : Nat} {x : EN} (h : lkE E j = some x) : x ∈ E ∧ x.id = j := by
  induction E with
  | nil => simp [lkE] at h
  | cons y l ih =>
    simp only [lkE] at h
    split at h
    · rename_i hj
      injection h with h
      subst h
      exact ⟨List.mem_cons_self .., hj.symm⟩
    · obtain ⟨h1, h2⟩ := ih h
      exact ⟨List.mem_cons_of_mem _ h1, h2⟩

theorem lkE_some {E : List EN} {x : EN} (hx : x ∈ E) (hn : (E.map (·.id)).Nodup) : lkE E x.id = some x := by
  induction E with
  | nil => simp at hx
  | cons y l ih =>
    simp only [List.map_cons, List.nodup_cons] at hn
    simp only [lkE]
    rcases List.mem_cons.1 hx with rfl | hx
    · simp
    · have : x.id ≠ y.id := fun e => hn.1 (e ▸ List.mem_map_of_mem hx)
      rw [if_neg this]
      exact ih hx hn.2

theorem lkO_E {E : List EN} {j : Nat} {o : VObj} (h : lkO (E.map fun x => (x.id, x.o)) j = some o) : ∃ x, lkE E j = some x ∧ x.o = o := by
  induction E with
  | nil => simp [lkO] at h
  | cons y l ih =>
    simp only [List.map_cons, lkO] at h
    simp only [lkE]
    cases hb : Nat.beq y.id j
    · rw [hb] at h
      rw [if_neg (fun e => Nat.ne_of_beq_eq_false hb e.symm)]
      exact ih h
    · rw [hb] at h
      have := Nat.eq_of_beq_eq_true hb
      subst this
      simp only [cond_true, Option.some.injEq] at h
      exact ⟨y, by simp, h⟩

theorem finM_ok {fn : Func} {s : Sum} {st : St} {r : List DC} (h : finM P fn s st = (true, r)) : st.ok = true := by
  unfold finM at h
  split at h
  · simp only [Prod.mk.injEq, Bool.and_eq_true] at h
    exact h.1.1.1
  · exact absurd h bad_ne

theorem finM_post {fn : Func} {s : Sum} {st : St} {r : List DC} {w w' : World} {ds : List DC} {vals : List Value} {fp mb : List Nat} {a : Act} (hsh : shares s = false) (hm : MArgs w s.ps s.ms ds vals fp mb)
    (h : finM P fn s st = (true, r)) (hR : Rel w ⟨fun b => b ∈ mb, fun b => b < w.heap.size ∧ b ∉ fp ∧ b ∉ mb, (vals.zipIdx.filter (fun x => Nat.blt x.2 (loOf s.ms))).map (fun x => (x.2, x.1))⟩ st a w') :
    a.defers = [] ∧ ∃ v, (results fn a.tmps).run P w' = .ok v w' ∧ ∃ vs φ im tp im2 rd od ψ, Ending.returned v = .returned (pack vs) ∧ r = rd ++ od ∧ rd.length = resCount s.rs ∧ Kept ⟨fun b => b ∈ mb, fun _ => False, []⟩ w w' ∧ ResV w' s.rs rd vs φ im tp ∧ φ.Nodup ∧
      (∀ b ∈ φ, w.heap.size ≤ b ∧ b < w'.heap.size) ∧ MOuts w' s.ps s.ms od vals im2 ψ ∧ ψ.Nodup ∧ (∀ b ∈ ψ, (b ∈ mb ∨ w.heap.size ≤ b) ∧ b < w'.heap.size ∧ b ∉ φ) ∧ ∀ b ∈ im2, (b ∈ fp ∨ w.heap.size ≤ b) ∧ b ∉ tp ∧ b ∉ ψ := by
  obtain ⟨_, _, hvl⟩ := MArgs.facts _ _ _ _ _ _ hm
  unfold finM at h
  split at h
  case h_2 => exact absurd h bad_ne
  rename_i rd own im od ids x hr
  simp only [Prod.mk.injEq, Bool.and_eq_true] at h
  obtain ⟨⟨⟨_, hown⟩, hkind⟩, rfl⟩ := h
  obtain ⟨β, φ, hc⟩ := hR.core
  have hval := M.val_of_run _ hr
  simp only [M.val_bind, Option.bind_eq_some_iff, M.val_pure, Option.some.injEq, Prod.mk.injEq] at hval
  obtain ⟨ss, h1, q, h2, q2, h3, e1, e2⟩ := hval
  subst e1
  subst e2
  obtain ⟨vs, g1, g2⟩ := resSVs_ok hc _ _ h1
  obtain ⟨φ', im', tp', k1, k2, k3, k4, k5⟩ := finVals_ok hc _ _ _ _ g2 h2
  have hfx : ∀ (j : Nat) v m, vals[j]? = some v → s.ms[j]? = some (some m) → a.tmps.getD (0 + j) undef = v := by
    intro j v m hj hm
    have := (hR.fx (j, v) (List.mem_map.2 ⟨(v, j), List.mem_filter.2 ⟨by rw [List.mem_zipIdx_iff_getElem?]; exact hj, Nat.ble_eq_true_of_le (loOf_lt hm)⟩, rfl⟩)).2
    simpa using this
  obtain ⟨im2, ψ, o1, o2, o4, o5, o6, o3⟩ := outs_ok hc 0 s.ps s.ms vals _ hfx hvl h3
  have hnd := nodupN_iff hown
  rw [List.nodup_append] at hnd
  have hψid : ∀ b ∈ ψ, ∀ i ∈ own, ∀ o, st.obj i = some o → b ∉ φ i := by
    intro b hb i hi o hio hbi
    obtain ⟨id, hid, o', ho', hbt⟩ := o5 b hb
    have hne : i ≠ id := fun e => hnd.2.2 i hi id hid e
    exact absurd (tops_sub (hc.objs _ _ ho') b hbt) (hc.sep i id o o' hne hio ho' b hbi)
  have hφ'ψ : ∀ b ∈ ψ, b ∉ φ' := by
    intro b hb hbφ
    obtain ⟨i, hi, ⟨o, hio⟩, hbi⟩ := k2 b hbφ
    exact hψid b hb i hi o hio hbi
  have hψav : ∀ b ∈ ψ, Av st.obj β b := fun b hb => by
    obtain ⟨id, hid, o', ho', hbt⟩ := o5 b hb
    exact .inl ⟨id, o', ho', hbt⟩
  have him2 : ∀ b ∈ im2, b < w.heap.size → b ∉ fp → False := by
    intro b hb hlt hf
    rcases Bool.or_eq_true_iff.1 hkind with hkd | hkd
    · have hmb : ∀ b ∈ mb, ∃ id ∈ ids, ∃ o, st.obj id = some o ∧ b ∈ tops β id o := o3 hkd w ds fp mb hm
      have hav := o2 b hb
      have hnm : b ∉ mb := fun hbm => by
        obtain ⟨id, hid, o', ho', hbt⟩ := hmb b hbm
        exact hav (.inl ⟨id, o', ho', hbt⟩)
      refine absurd (.inr ?_) hav
      rw [hc.bars]
      exact ⟨hlt, hf, hnm⟩
    · rw [Bool.and_eq_true] at hkd
      rw [o4 hkd.1] at hb
      simp at hb
  refine ⟨hR.defers, pack vs, results_run g1, vs, φ', im', tp', im2, rd, od, ψ, rfl, rfl, ResV.count _ _ _ _ _ _ k1, ⟨hR.kept.os, hR.kept.tape, hR.kept.output, hR.kept.size, hR.kept.block⟩, k1, k4 hnd.1, ?_, o1, o6 hnd.2.1, ?_, ?_⟩
  · intro b hb
    obtain ⟨i, hi, ⟨o, hio⟩, hbi⟩ := k2 b hb
    have hf := (hc.fresh i o hio).2 b hbi
    rcases hf.1 with h4 | h4
    · exact ⟨h4, hf.2⟩
    · rcases Bool.or_eq_true_iff.1 hkind with hkd | hkd
      · obtain ⟨id, hid, o', ho', hbt⟩ := o3 hkd w ds fp mb hm b h4
        have hne : i ≠ id := fun e => hnd.2.2 i hi id hid e
        exact absurd (tops_sub (hc.objs _ _ ho') b hbt) (hc.sep i id o o' hne hio ho' b hbi)
      · rw [Bool.and_eq_true] at hkd
        rw [List.isEmpty_iff.1 hkd.2] at hi
        simp at hi
  · intro b hb
    obtain ⟨id, hid, o', ho', hbt⟩ := o5 b hb
    have hf := (hc.fresh id o' ho').2 b (tops_sub (hc.objs _ _ ho') b hbt)
    exact ⟨hf.1.symm, hf.2, hφ'ψ b hb⟩
  · intro b hb
    have hav := o2 b hb
    refine ⟨?_, fun hbt => ?_, fun hbψ => hav (hψav b hbψ)⟩
    · by_cases hlt : b < w.heap.size
      · by_cases hf : b ∈ fp
        · exact .inl hf
        · exact (him2 b hb hlt hf).elim
      · exact .inr (by omega)
    · obtain ⟨j, oj, _, hj, hbj⟩ := k3 b hbt
      exact hav (.inl ⟨j, oj, hj, hbj⟩)

/-- A contract of a function that writes through parameters, out of runs. -/
theorem holdsM_of_run (hΓ : CtxHolds P Γ) {g : Nat} {fn : Func} {s : Sum} (hf : P.funcs[g]? = some fn) (hbd : fn.body.isSome = true) (hn : (fn.name == "runtime.NumGoroutine") = false) (hlen : s.ps.length ≤ fn.ntmps) (hnt : fn.ntmps < 1099511627776)
    (hsh : shares s = false) (hid : ∀ ds, nodupN ((initM 0 s.ps s.ms ds).2.map (·.1)) = true)
    (h : ∀ ds, WtL (ctsAll s.ps) ds → (s.fn ds).1 = true → ∃ N, runFM P Γ A N fn s ds = (true, (s.fn ds).2)) : HoldsM P g s := by
  refine ⟨⟨fn, hf, hbd, hn⟩, fun w ds vals fp mb hargs hmbn hmbf hok => ?_⟩
  obtain ⟨N, hrun⟩ := h ds (MArgs.wt _ _ _ _ _ _ hargs) hok
  obtain ⟨c, hc⟩ := Option.isSome_iff_exists.1 hbd
  unfold runFM at hrun
  rw [hc] at hrun
  simp only at hrun
  obtain ⟨hmlt, hflt, hvl⟩ := MArgs.facts _ _ _ _ _ _ hargs
  refine calls_of_wp hf hc ?_
  let S : Own := ⟨fun b => b ∈ mb, fun b => b < w.heap.size ∧ b ∉ fp ∧ b ∉ mb, (vals.zipIdx.filter (fun x => Nat.blt x.2 (loOf s.ms))).map (fun x => (x.2, x.1))⟩
  obtain ⟨E, e1, e2, e3⟩ := init_ok 0 s.ps s.ms ds vals fp mb hargs
  have hidE : (E.map (·.id)).Nodup := by
    have := nodupN_iff (hid ds)
    rw [e1, List.map_map] at this
    exact this
  let β : Env := ⟨fun j => match lkE E j with | some x => x.blk | none => 0, fun j => match lkE E j with | some x => x.val | none => undef, S.bar, fun j => match lkE E j with | some x => x.nb | none => []⟩
  have hβ : ∀ x ∈ E, β.blk x.id = x.blk ∧ β.val x.id = x.val ∧ β.nb x.id = x.nb := by
    intro x hx
    simp only [β, lkE_some hx hidE, and_self]
  have hφmb : ∀ x ∈ E, ∀ b ∈ x.φ, b ∈ mb := fun x hx b hb => by rw [← e2]; exact List.mem_flatMap.2 ⟨x, hx, hb⟩
  -- tops, whatever is written
  have htops : ∀ x ∈ E, tops β x.id x.o = x.φ := fun x hx => ((e3 (fun _ => False) β hβ (fun _ _ h => h)).2 x hx).2
  have hnav : ∀ b ∈ fp, ¬ Av (lkO (initM 0 s.ps s.ms ds).2) β b := by
    rintro b hb (⟨j, o, ho, hbt⟩ | hx)
    · rw [e1] at ho
      obtain ⟨x, hx, rfl⟩ := lkO_E ho
      obtain ⟨hm, rfl⟩ := lkE_mem hx
      rw [htops x hm] at hbt
      exact hmbf b (hφmb x hm b hbt) hb
    · exact hx.2.1 hb
  obtain ⟨hsl, hob⟩ := e3 (Av (lkO (initM 0 s.ps s.ms ds).2) β) β hβ hnav
  have hR : Rel w S { n := fn.ntmps + loOf s.ms * 1099511627776, sl := (initM 0 s.ps s.ms ds).1, hp := (initM 0 s.ps s.ms ds).2, ok := true, ls := [], lm := [] } { tmps := vals.toArray ++ Array.replicate (fn.ntmps - vals.toArray.size) undef, defers := [] } w := by
    have hget : ∀ (j : Nat) v, vals[j]? = some v → (vals.toArray ++ Array.replicate (fn.ntmps - vals.toArray.size) undef).getD j undef = v := by
      intro j v hj
      have hjl : j < vals.length := (List.getElem?_eq_some_iff.1 hj).1
      rw [Array.getD_eq_getD_getElem?, Array.getElem?_append_left (by simp; omega)]
      simp [hj]
    refine ⟨by simp; omega, ?_, rfl, ⟨rfl, rfl, rfl, Nat.le_refl _, fun _ _ _ => rfl⟩, β, fun j => match lkE E j with | some x => x.φ | none => [], ?_⟩
    · intro x hx
      obtain ⟨⟨v, j⟩, hvj, rfl⟩ := List.mem_map.1 hx
      obtain ⟨hvj, hlo⟩ := List.mem_filter.1 hvj
      have hlo : j < loOf s.ms := Nat.le_of_ble_eq_true hlo
      rw [List.mem_zipIdx_iff_getElem?] at hvj
      have hjl : j < vals.length := (List.getElem?_eq_some_iff.1 hvj).1
      exact ⟨by simp only; omega, hget j v hvj⟩
    · refine ⟨fun i => ?_, fun id o ho => ?_, fun id o ho => ?_, fun i j oi oj hne hi hj b hb => ?_, fun b hb => ⟨hb.1, hb.2.2⟩, rfl⟩
      · rcases hsl i with h1 | ⟨j, v, hi, hj, hs⟩
        · show SVR w _ _ (lkV (initM 0 s.ps s.ms ds).1 i) _
          rw [h1]
          simp [SVR]
        · have : i = j := by omega
          subst this
          rw [hget i v hj]
          exact hs
      · have ho' : lkO (initM 0 s.ps s.ms ds).2 id = some o := ho
        rw [e1] at ho'
        obtain ⟨x, hx, rfl⟩ := lkO_E ho'
        obtain ⟨hm, rfl⟩ := lkE_mem hx
        simp only [hx]
        exact (hob x hm).1
      · have ho' : lkO (initM 0 s.ps s.ms ds).2 id = some o := ho
        rw [e1] at ho'
        obtain ⟨x, hx, rfl⟩ := lkO_E ho'
        obtain ⟨hm, rfl⟩ := lkE_mem hx
        simp only [hx]
        refine ⟨?_, fun b hb => ⟨.inr (hφmb x hm b hb), hmlt b (hφmb x hm b hb)⟩⟩
        exact (flat_apart (E := E) (by rw [e2]; exact hmbn)).1 x hm
      · have hi' : lkO (initM 0 s.ps s.ms ds).2 i = some oi := hi
        have hj' : lkO (initM 0 s.ps s.ms ds).2 j = some oj := hj
        rw [e1] at hi' hj'
        obtain ⟨x, hx, rfl⟩ := lkO_E hi'
        obtain ⟨y, hy, rfl⟩ := lkO_E hj'
        simp only [hx] at hb
        simp only [hy]
        have hxm := lkE_mem hx
        have hym := lkE_mem hy
        have hxy : x ≠ y := by
          rintro rfl
          exact hne (hxm.2.symm.trans hym.2)
        exact (flat_apart (E := E) (by rw [e2]; exact hmbn)).2 x hxm.1 y hym.1 hxy b hb
  refine run_sound (r := (s.fn ds).2) hΓ c _ { nrm := finM P fn s, ext := fun _ _ => bad, ret := finM P fn s } _ w _ ⟨fun st hst => finM_ok hst, fun i st hst => absurd hst bad_ne, fun st hst => finM_ok hst⟩ hR hrun ⟨?_, ?_, ?_⟩
  · intro st a w' hR' hst
    exact finM_post hsh hargs hst hR'
  · intro i st a w' _ hst
    exact absurd hst bad_ne
  · intro st a w' hR' hst
    exact finM_post hsh hargs hst hR'

end
end Go.Proofs.YthpmalpdnnbkgaaGreat.Vm

/- The value machine: loops of functions that write through parameters. Conditions: none; these are definitions. -/
namespace Go.Proofs.YthpmalpdnnbkgaaGreat.Vm

/-- One round of the loop at a place of a body, for a function that writes through parameters. -/
def loopBM (P : Program) (Γ : Ctx) (A : List (Nat × Ann)) (N : Nat) (fn : Func) (s : Sum) (p : List Bool) (is : List (St → Res)) (ih : St → Res) (st : St) : Res :=
  match fn.body with
  | some c => match focus P Γ A N p is c { nrm := finM P fn s, ext := fun _ _ => bad, ret := finM P fn s } with
    | (.loop a, K) => match (firstReg a).bind (lkA A) with
      | some an => run P Γ A N a st { nrm := fun s' => ih (canon P an s'), ext := K.ext, ret := K.ret }
      | none => bad
    | _ => bad
  | none => bad

end Go.Proofs.YthpmalpdnnbkgaaGreat.Vm
