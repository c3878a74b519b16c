/- The value machine: a region whose order is drawn ends, whatever the order, as in the order of its text. Conditions: the contracts of the context hold; what may not be exchanged is ordered by the region's edges. -/
import Derived.Test.YtjknoknkbfhelaaVmV
set_option linter.unusedVariables false
set_option linter.unusedSimpArgs false
namespace Go.Proofs.Ytjknoknkbfhelaa.Vm

section
variable {P : Program} {Γ : Ctx} {w0 : World} {S : Own} {ops : Array Oper} {gs : List Nat}

/-! ### The order that the edges force -/

theorem mem_unionN {i : Nat} : ∀ {l m : List Nat}, i ∈ unionN l m → i ∈ l ∨ i ∈ m
  | [], m, h => .inr h
  | k :: l, m, h => by
    simp only [unionN] at h
    cases hk : memN k m
    · simp only [hk, cond_false, List.mem_cons] at h
      rcases h with rfl | h
      · exact .inl (List.mem_cons_self ..)
      · exact (mem_unionN h).imp (List.mem_cons_of_mem _) id
    · simp only [hk, cond_true] at h
      exact (mem_unionN h).imp (List.mem_cons_of_mem _) id

def GoodK (ops : Array Oper) (L : Nat → Bool) (k : Nat) : Prop := ∀ o, ops[k]? = some o → ∀ e ∈ o.after, Region.binds .any e = true → L e.on = true

theorem foldr_anc {acc : List (List Nat)} {j : Nat} : ∀ (l : List Edge), j ∈ l.foldr (fun e r => bif Region.binds .any e then unionN (unionN [e.on] (acc.getD e.on [])) r else r) [] →
    ∃ e ∈ l, Region.binds .any e = true ∧ (j = e.on ∨ j ∈ acc.getD e.on [])
  | [], h => by simp at h
  | e :: l, h => by
    simp only [List.foldr_cons] at h
    cases hb : Region.binds .any e
    · simp only [hb, cond_false] at h
      obtain ⟨x, hx, h1⟩ := foldr_anc l h
      exact ⟨x, List.mem_cons_of_mem _ hx, h1⟩
    · simp only [hb, cond_true] at h
      rcases mem_unionN h with h | h
      · refine ⟨e, List.mem_cons_self .., hb, ?_⟩
        rcases mem_unionN h with h | h
        · exact .inl (by simpa using h)
        · exact .inr h
      · obtain ⟨x, hx, h1⟩ := foldr_anc l h
        exact ⟨x, List.mem_cons_of_mem _ hx, h1⟩

theorem ancs_spec {L : Nat → Bool} (hcl : ∀ k, L k = true → GoodK ops L k) : ∀ (l : List Oper) (acc : List (List Nat)) (pre : List Oper), ops.toList = pre ++ l → acc.length = pre.length →
    (∀ k j, GoodK ops L k → j ∈ acc.getD k [] → L j = true) → ∀ k j, GoodK ops L k → j ∈ (ancs l acc).getD k [] → L j = true
  | [], acc, pre, _, _, h => by simpa [ancs] using h
  | o :: l, acc, pre, hops, hlen, h => by
    rw [ancs]
    refine ancs_spec hcl l _ (pre ++ [o]) (by simp [hops]) (by simp [hlen]) ?_
    intro k j hk hj
    rcases Nat.lt_trichotomy k acc.length with hlt | heq | hgt
    · refine h k j hk ?_
      rw [List.getD_eq_getElem?_getD, List.getElem?_append_left hlt] at hj
      rwa [List.getD_eq_getElem?_getD]
    · subst heq
      rw [List.getD_eq_getElem?_getD, List.getElem?_append_right (Nat.le_refl _)] at hj
      simp only [Nat.sub_self, List.getElem?_cons_zero, Option.getD_some] at hj
      obtain ⟨e, he, hb, hj⟩ := foldr_anc _ hj
      have ho : ops[acc.length]? = some o := by
        rw [← Array.getElem?_toList, hops, hlen]
        simp
      have hL := hk o ho e (by simpa using he) hb
      rcases hj with rfl | hj
      · exact hL
      · exact h e.on j (hcl _ hL) hj
    · rw [List.getD_eq_getElem?_getD, List.getElem?_eq_none (by simp; omega)] at hj
      simp at hj

theorem edgesOk_spec : ∀ (l : List Oper) (i : Nat), edgesOk l i = true → ∀ k o, l[k]? = some o → ∀ e ∈ o.after, Region.binds .any e = true → e.on < i + k
  | [], _, _, k, o, h, _, _, _ => by simp at h
  | x :: l, i, h, k, o, hk, e, he, hb => by
    simp only [edgesOk, Bool.and_eq_true, List.all_eq_true] at h
    cases k with
    | zero =>
      simp only [List.getElem?_cons_zero, Option.some.injEq] at hk
      subst hk
      have := h.1 e (by simpa using he)
      rw [hb] at this
      simp only [Bool.not_true, Bool.false_or] at this
      exact Nat.le_of_ble_eq_true this
    | succ k =>
      simp only [List.getElem?_cons_succ] at hk
      have := edgesOk_spec l (i + 1) h.2 k o hk e he hb
      omega

/-! ### Pairs -/

theorem pairsOk_spec {an : List (List Nat)} {a : OpLog} : ∀ (l : List OpLog), pairsOk an a l = true → ∀ b ∈ l, (clash a b = true → a.i ∈ an.getD b.i []) ∧ clash1 b a = false
  | [], _ => by simp
  | c :: l, h => by
    simp only [pairsOk, Bool.and_eq_true, Bool.not_eq_true'] at h
    intro b hb
    rcases List.mem_cons.1 hb with rfl | hb
    · refine ⟨fun hc => ?_, h.1.2⟩
      have := h.1.1
      rw [hc] at this
      simp only [Bool.not_true, Bool.false_or] at this
      exact memN_iff.1 this
    · exact pairsOk_spec l h.2 b hb

theorem allOk_spec {an : List (List Nat)} : ∀ (l : List OpLog), allOk an l = true → l.Pairwise (fun a b => (clash a b = true → a.i ∈ an.getD b.i []) ∧ clash1 b a = false)
  | [], _ => .nil
  | a :: l, h => by
    simp only [allOk, Bool.and_eq_true] at h
    exact .cons (pairsOk_spec l h.1) (allOk_spec l h.2)

theorem anyIn_of {l m : List Nat} {i : Nat} (h1 : i ∈ l) (h2 : i ∈ m) : anyIn l m = true := by
  induction m with
  | nil => simp at h2
  | cons k m ih =>
    simp only [anyIn, Bool.or_eq_true]
    rcases List.mem_cons.1 h2 with rfl | h2
    · exact .inl (memN_iff.2 h1)
    · exact .inr (ih h2)

theorem path_get {rest : List Oper} {st : St} {l : List PS} {fin : St} (h : Path P Γ ops gs rest 0 st l fin) {p : PS} (hp : p ∈ l) : l[p.i]? = some p ∧ rest[p.i]? = some p.o ∧ p.i < rest.length := by
  obtain ⟨k, hk, rfl⟩ := List.getElem_of_mem hp
  have h1 := (path_index h).1
  have h2 := (path_index h).2.1
  have hl : l.length = rest.length := by rw [← h2]; simp
  have e : l[k].i = k := by
    have : (l.map (·.i))[k]? = (List.range' 0 rest.length)[k]? := by rw [h1]
    rw [List.getElem?_map, List.getElem?_eq_getElem hk, List.getElem?_range' (by omega)] at this
    simpa using this
  rw [e]
  refine ⟨List.getElem?_eq_getElem hk, ?_, by omega⟩
  rw [← h2, List.getElem?_map, List.getElem?_eq_getElem hk]
  rfl

theorem path_pair {rest : List Oper} {st : St} {l : List PS} {fin : St} {an : List (List Nat)} (h : Path P Γ ops gs rest 0 st l fin) (hall : allOk an (l.map (·.log)) = true) {p q : PS} (hp : p ∈ l) (hq : q ∈ l) (hlt : p.i < q.i) :
    (clash p.log q.log = true → p.i ∈ an.getD q.i []) ∧ clash1 q.log p.log = false := by
  have hpw := List.pairwise_map.1 (allOk_spec _ hall)
  have gp := (path_get h hp).1
  have gq := (path_get h hq).1
  rw [List.pairwise_iff_getElem] at hpw
  have lp := (List.getElem?_eq_some_iff.1 gp).1
  have lq := (List.getElem?_eq_some_iff.1 gq).1
  have := hpw p.i q.i lp lq hlt
  rw [(List.getElem?_eq_some_iff.1 gp).2, (List.getElem?_eq_some_iff.1 gq).2] at this
  have ei := ((path_index h).2.2 p hp).1
  have ej := ((path_index h).2.2 q hq).1
  rw [ei, ej] at this
  exact this

/-! ### What a step reads, turns, names -/

theorem log_wo {p : PS} (hs : StepIs P Γ ops p) {id : Nat} (ht : p.tH id) : id ∈ p.log.wo := by
  rcases hs with ⟨_, he, _, _⟩ | ⟨_, e, s, r, hr, _, hl, he⟩
  · rw [PS.tH, he] at ht
    simp at ht
  · rw [hl]
    simp only [logOf, hr]
    have h1 : p.e.ow = e.ow ∧ p.e.cw = e.cw := by
      rcases he with rfl | ⟨d, g, _, _, he⟩
      · exact ⟨rfl, rfl⟩
      · rw [he]; exact ⟨rfl, rfl⟩
    rw [PS.tH, h1.1, h1.2] at ht
    rcases ht with ht | ⟨off, svs, hc⟩
    · exact List.mem_append_right _ ht
    · rw [hc]
      exact List.mem_append_left _ (List.mem_singleton.2 rfl)

theorem log_sv {p : PS} (hs : StepIs P Γ ops p) {j : Nat} (hj : j ∈ svIds p.e.sv) : j ∈ p.log.m := by
  rcases hs with ⟨_, he, _, _⟩ | ⟨_, e, s, r, hr, _, hl, he⟩
  · rw [he] at hj
    simp [svIds] at hj
  · rw [hl]
    simp only [logOf, hr]
    rcases he with rfl | ⟨d, g, _, _, he⟩
    · exact List.mem_append_left _ hj
    · rw [he] at hj
      simp [svIds] at hj

theorem lkW_mem {ow : List (Nat × Option VObj)} {id : Nat} {x : Option VObj} (h : lkW ow id = some x) : (id, x) ∈ ow := by
  induction ow with
  | nil => simp [lkW] at h
  | cons y l ih =>
    obtain ⟨i, ob⟩ := y
    simp only [lkW] at h
    split at h
    · rename_i hi
      subst hi
      simp only [Option.some.injEq] at h
      subst h
      exact List.mem_cons_self ..
    · exact List.mem_cons_of_mem _ (ih h)

theorem log_ow {p : PS} (hs : StepIs P Γ ops p) {id : Nat} {ob : VObj} (hj : (id, some ob) ∈ p.e.ow) : id ∈ p.log.m ∧ ∀ j ∈ objIds ob, j ∈ p.log.m := by
  rcases hs with ⟨_, he, _, _⟩ | ⟨_, e, s, r, hr, _, hl, he⟩
  · rw [he] at hj
    simp at hj
  · rw [hl]
    simp only [logOf, hr]
    have h1 : p.e.ow = e.ow := by
      rcases he with rfl | ⟨d, g, _, _, he⟩
      · rfl
      · rw [he]
    rw [h1] at hj
    unfold effIds
    constructor
    · exact List.mem_append_right _ (List.mem_append_right _ (List.mem_flatMap.2 ⟨_, hj, List.mem_cons_self ..⟩))
    · intro j hj'
      exact List.mem_append_right _ (List.mem_append_right _ (List.mem_flatMap.2 ⟨_, hj, List.mem_cons_of_mem _ hj'⟩))

theorem log_cw {p : PS} (hs : StepIs P Γ ops p) {i off : Nat} {svs : List SV} (hc : p.e.cw = some (i, off, svs)) : ∀ j ∈ svIdsL svs, j ∈ p.log.m := by
  rcases hs with ⟨_, he, _, _⟩ | ⟨_, e, s, r, hr, _, hl, he⟩
  · rw [he] at hc
    simp at hc
  · rw [hl]
    simp only [logOf, hr]
    have h1 : p.e.cw = e.cw := by
      rcases he with rfl | ⟨d, g, _, _, he⟩
      · rfl
      · rw [he]
    rw [h1] at hc
    intro j hj
    unfold effIds
    refine List.mem_append_right _ (List.mem_append_left _ ?_)
    rw [hc]
    exact hj

theorem svIdsL_append (a b : List SV) : svIdsL (a ++ b) = svIdsL a ++ svIdsL b := by
  induction a with
  | nil => rfl
  | cons x a ih => simp [svIdsL, ih]

theorem svIdsL_take {a : List SV} {n j : Nat} (h : j ∈ svIdsL (a.take n)) : j ∈ svIdsL a := by
  have := List.take_append_drop n a
  rw [← this, svIdsL_append]
  exact List.mem_append_left _ h

theorem svIdsL_drop {a : List SV} {n j : Nat} (h : j ∈ svIdsL (a.drop n)) : j ∈ svIdsL a := by
  have := List.take_append_drop n a
  rw [← this, svIdsL_append]
  exact List.mem_append_right _ h

/-- Where a name comes from. -/
def Orig (ds : List Nat) (L : Nat → Bool) (l : List PS) (j : Nat) : Prop := j / 64 ∉ ds ∨ ∃ p ∈ l, L p.i = true ∧ j ∈ p.log.m

theorem foldF_orig {ds : List Nat} {L : Nat → Bool} {s : Nat} : ∀ (l l0 : List PS) (v : SV), (∀ p ∈ l, StepIs P Γ ops p) → (∀ p ∈ l, p ∈ l0) → (∀ j ∈ svIds v, Orig ds L l0 j) → ∀ j ∈ svIds (foldF L l s v), Orig ds L l0 j
  | [], _, v, _, _, hv => hv
  | p :: l, l0, v, hs, hsub, hv => by
    unfold foldF
    simp only [List.foldl_cons]
    refine foldF_orig l l0 _ (fun q hq => hs q (List.mem_cons_of_mem _ hq)) (fun q hq => hsub q (List.mem_cons_of_mem _ hq)) ?_
    intro j hj
    split at hj
    · rename_i hL
      unfold PS.f at hj
      split at hj
      · exact .inr ⟨p, hsub p (List.mem_cons_self ..), hL, log_sv (hs p (List.mem_cons_self ..)) hj⟩
      · exact hv j hj
    · exact hv j hj

def OrigO (ds : List Nat) (L : Nat → Bool) (l : List PS) (id : Nat) (o : Option VObj) : Prop := ∀ ob, o = some ob → Orig ds L l id ∧ ∀ j ∈ objIds ob, Orig ds L l j

theorem foldH_orig {ds : List Nat} {L : Nat → Bool} {id : Nat} : ∀ (l l0 : List PS) (v : Option VObj), (∀ p ∈ l, StepIs P Γ ops p) → (∀ p ∈ l, p ∈ l0) → OrigO ds L l0 id v → OrigO ds L l0 id (foldH L l id v)
  | [], _, v, _, _, hv => hv
  | p :: l, l0, v, hs, hsub, hv => by
    unfold foldH
    simp only [List.foldl_cons]
    refine foldH_orig l l0 _ (fun q hq => hs q (List.mem_cons_of_mem _ hq)) (fun q hq => hsub q (List.mem_cons_of_mem _ hq)) ?_
    split
    · rename_i hL
      have hsp := hs p (List.mem_cons_self ..)
      have hmem := hsub p (List.mem_cons_self ..)
      unfold PS.h
      split
      · rename_i x hx
        rintro ob rfl
        have := log_ow hsp (lkW_mem hx)
        exact ⟨.inr ⟨p, hmem, hL, this.1⟩, fun j hj => .inr ⟨p, hmem, hL, this.2 j hj⟩⟩
      · unfold cwAt
        split
        · rename_i i off svs hcw
          split
          · split
            · rename_i t cells
              rintro ob hob
              simp only [Option.some.injEq] at hob
              subst hob
              have h0 := hv _ rfl
              refine ⟨h0.1, fun j hj => ?_⟩
              simp only [objIds, writeCells, svIdsL_append, List.mem_append] at hj
              rcases hj with hj | hj | hj
              · exact h0.2 j (svIdsL_take hj)
              · exact .inr ⟨p, hmem, hL, log_cw hsp hcw j hj⟩
              · exact h0.2 j (svIdsL_drop hj)
            · exact hv
          · exact hv
        · exact hv
    · exact hv

/-! ### Clashes -/

theorem clash_ds {a b : OpLog} {s : Nat} (ha : a.d = some s) (hb : s ∈ b.rs) : clash a b = true := by
  have : anyIn (optN a.d) (b.rs ++ optN b.d) = true := anyIn_of (i := s) (by simp [ha, optN]) (List.mem_append_left _ hb)
  simp [clash, this]
theorem clash_dd {a b : OpLog} {s : Nat} (ha : a.d = some s) (hb : b.d = some s) : clash a b = true := by
  have : anyIn (optN a.d) (b.rs ++ optN b.d) = true := anyIn_of (i := s) (by simp [ha, optN]) (List.mem_append_right _ (by simp [hb, optN]))
  simp [clash, this]
theorem clash_sd {a b : OpLog} {s : Nat} (ha : s ∈ a.rs) (hb : b.d = some s) : clash a b = true := by
  have : anyIn a.rs (optN b.d) = true := anyIn_of (i := s) ha (by simp [hb, optN])
  simp [clash, this]
theorem clash_ww {a b : OpLog} {s : Nat} (ha : s ∈ a.wo) (hb : s ∈ b.wo) : clash a b = true := by
  have : anyIn a.wo (b.ro ++ b.wo) = true := anyIn_of (i := s) ha (List.mem_append_right _ hb)
  simp [clash, this]
theorem clash_wr {a b : OpLog} {s : Nat} (ha : s ∈ a.wo) (hb : s ∈ b.ro) : clash a b = true := by
  have : anyIn a.wo (b.ro ++ b.wo) = true := anyIn_of (i := s) ha (List.mem_append_left _ hb)
  simp [clash, this]
theorem clash_rw {a b : OpLog} {s : Nat} (ha : s ∈ a.ro) (hb : s ∈ b.wo) : clash a b = true := by
  have : anyIn a.ro b.wo = true := anyIn_of (i := s) ha hb
  simp [clash, this]
theorem clash_dm {a b : OpLog} {j : Nat} (ha : a.d = some (j / 64)) (hb : j ∈ b.m) : clash a b = true := by
  have : (b.m.any fun i => Nat.beq (i / 64) (j / 64)) = true := by
    simp only [List.any_eq_true]
    exact ⟨j, hb, Nat.beq_refl _⟩
  unfold clash
  rw [ha]
  simp only [this, Bool.or_true]
theorem clash1_dm {a b : OpLog} {j : Nat} (ha : b.d = some (j / 64)) (hb : j ∈ a.m) : clash1 b a = true := by
  unfold clash1
  rw [ha]
  simp only [List.any_eq_true]
  exact ⟨j, hb, Nat.beq_refl _⟩

/-! ### Counting -/

theorem countP_lt {p q : Nat → Bool} : ∀ (l : List Nat), (∀ k ∈ l, q k = true → p k = true) → (∃ k ∈ l, p k = true ∧ q k = false) → l.countP q < l.countP p
  | [], _, h => by simp at h
  | x :: l, h, ⟨k, hk, hp, hq⟩ => by
    have hle : l.countP q ≤ l.countP p := List.countP_mono_left (fun y hy hqy => h y (List.mem_cons_of_mem _ hy) hqy)
    simp only [List.countP_cons]
    rcases List.mem_cons.1 hk with rfl | hk
    · rw [hp, hq]
      simp
      omega
    · have := countP_lt l (fun y hy => h y (List.mem_cons_of_mem _ hy)) ⟨k, hk, hp, hq⟩
      have hx := h x (List.mem_cons_self ..)
      cases hqx : q x
      · simp; omega
      · rw [hx hqx]; simp; omega

def unl (ops : Array Oper) (listed : Array Bool) : Nat := (List.range ops.size).countP fun k => !(listed.getD k true)

/-! ### The state behind a set of steps -/

def Cur (w0 : World) (S : Own) (st : St) (l : List PS) (L : Nat → Bool) (a : Act) (w : World) : Prop :=
  ∃ stS : St, Rel w0 S stS a w ∧ stS.n = st.n ∧ (∀ s, stS.get s = foldF L l s (st.get s)) ∧ ∀ id, stS.obj id = foldH L l id (st.obj id)

theorem fold_here {α : Type} {step : PS → α → α} {T : PS → Prop} (hid : ∀ p v, ¬ T p → step p v = v) {L : Nat → Bool} {l : List PS} {p : PS} (v : α)
    (h1 : ∀ q ∈ l, T q → q.i < p.i → L q.i = true) (h2 : ∀ q ∈ l, T q → p.i < q.i → L q.i = false) (h3 : L p.i = false) :
    l.foldl (fun v q => if L q.i then step q v else v) v = l.foldl (fun v q => if decide (q.i < p.i) then step q v else v) v := by
  refine fold_congr step T hid (L := L) (L' := fun k => decide (k < p.i)) l v (fun q hq ht => ?_)
  rcases Nat.lt_trichotomy q.i p.i with hlt | heq | hgt
  · rw [h1 q hq ht hlt]; simp [hlt]
  · rw [heq, h3]; simp
  · rw [h2 q hq ht hgt]; simp; omega

theorem mem_dsts {o : Oper} {d : Nat} : ∀ {l : List Oper}, o ∈ l → o.dst = some d → d ∈ dsts l
  | [], hm, _ => by simp at hm
  | x :: r, hm, hdd => by
    simp only [dsts]
    rcases List.mem_cons.1 hm with rfl | hm
    · rw [hdd]; exact List.mem_cons_self ..
    · split
      · exact List.mem_cons_of_mem _ (mem_dsts hm hdd)
      · exact mem_dsts hm hdd

theorem one_step (hΓ : CtxHolds P Γ) {st : St} {l : List PS} {fin : St} (hpath : Path P Γ ops gs ops.toList 0 st l fin) (hall : allOk (ancs ops.toList []) (l.map (·.log)) = true)
    (hfr : freshFor (dsts ops.toList) st = true) {L : Nat → Bool} (hcl : ∀ k, L k = true → GoodK ops L k) {p : PS} (hp : p ∈ l) (hg : GoodK ops L p.i) (hL : L p.i = false)
    {Q : Exit → Act → World → Prop} {a : Act} {w : World} (hcur : Cur w0 S st l L a w) {K : Act → World → Prop} (hK : ∀ a' w', Cur w0 S st l (fun k => L k || k == p.i) a' w' → K a' w') : wpOp P ops Q p.i K a w := by
  obtain ⟨stS, hR, hn, hget, hobj⟩ := hcur
  have hsteps := path_steps hpath
  have hstates := path_states hpath
  have hsp := hsteps p hp
  have hanc := ancs_spec hcl ops.toList [] [] rfl rfl (by simp)
  have hd : ∀ q ∈ l, q.log.d = q.o.dst := fun q hq => ((path_index hpath).2.2 q hq).2
  have hA : ∀ q ∈ l, q.i < p.i → clash q.log p.log = true → L q.i = true := fun q hq hlt hc => hanc p.i q.i hg ((path_pair hpath hall hq hp hlt).1 hc)
  have hB : ∀ q ∈ l, p.i < q.i → clash p.log q.log = true → L q.i = false := by
    intro q hq hlt hc
    cases hLq : L q.i
    · rfl
    · have := hanc q.i p.i (hcl _ hLq) ((path_pair hpath hall hp hq hlt).1 hc)
      rw [hL] at this
      cases this
  obtain ⟨hg1, hg2, hg3⟩ := hstates.1 p hp
  have hslot : ∀ s ∈ p.log.rs, stS.get s = p.st.get s := by
    intro s hs
    rw [hget s, hg1 s]
    refine fold_here (step := fun q v => PS.f q s v) (T := fun q => q.tF s) (fun q v h => PS.f_id h v) _ (fun q hq ht hlt => hA q hq hlt (clash_ds ((hd q hq).trans ht) hs)) (fun q hq ht hlt => hB q hq hlt (clash_sd hs ((hd q hq).trans ht))) hL
  have hob : ∀ id ∈ p.log.ro, stS.obj id = p.st.obj id := by
    intro id hs
    rw [hobj id, hg2 id]
    refine fold_here (step := fun q v => PS.h q id v) (T := fun q => q.tH id) (fun q v h => PS.h_id h v) _ (fun q hq ht hlt => hA q hq hlt (clash_wr (log_wo (hsteps q hq) ht) hs)) (fun q hq ht hlt => hB q hq hlt (clash_rw hs (log_wo (hsteps q hq) ht))) hL
  have hnd : (l.map (·.i)).Nodup := by
    rw [(path_index hpath).1]
    exact List.nodup_range'
  have hpw : l.Pairwise (fun a b => a.i < b.i) := by
    have := List.pairwise_lt_range' (s := 0) (n := ops.toList.length)
    rw [← (path_index hpath).1] at this
    exact List.pairwise_map.1 this
  have insF : ∀ s, foldF (fun k => L k || k == p.i) l s (st.get s) = p.f s (stS.get s) := by
    intro s
    rw [hget s]
    exact fold_insert (fun q v => PS.f q s v) (fun q => q.tF s) (fun q v h => PS.f_id h v) (L := L) (q := p) l (st.get s) hp hnd hL hpw (fun q hq hlt h1 h2 => hB q hq hlt (clash_dd ((hd p hp).trans h1) ((hd q hq).trans h2)))
  have insH : ∀ id, foldH (fun k => L k || k == p.i) l id (st.obj id) = p.h id (stS.obj id) := by
    intro id
    rw [hobj id]
    exact fold_insert (fun q v => PS.h q id v) (fun q => q.tH id) (fun q v h => PS.h_id h v) (L := L) (q := p) l (st.obj id) hp hnd hL hpw (fun q hq hlt h1 h2 => hB q hq hlt (clash_ww (log_wo hsp h1) (log_wo (hsteps q hq) h2)))
  have hopi : ops[p.i]? = some p.o := by
    rw [← Array.getElem?_toList]
    exact (path_get hpath hp).2.1
  have hds : ∀ d, p.o.dst = some d → d ∈ dsts ops.toList := by
    intro d hdd
    have hm : p.o ∈ ops.toList := List.mem_of_getElem? (path_get hpath hp).2.1
    exact mem_dsts hm hdd
  have hguard : guardSlot ops p.o ⊆ p.log.rs := by
    rcases hsp with ⟨_, _, _, hl⟩ | ⟨_, e, s, r, hr, _, hl, _⟩
    · rw [hl]; exact fun _ h => h
    · rw [hl]; simp only [logOf, hr]; exact fun _ h => List.mem_append_left _ h
  have hwant : wantB ops stS p.o = wantB ops p.st p.o := by
    unfold wantB
    split
    · rfl
    · rename_i j want hgd
      split
      · rfl
      · rename_i s hs
        rw [hslot s (hguard (by unfold guardSlot; simp [hgd, hs, optN]))]
  unfold wpOp
  rw [hopi]
  simp only
  have hw : wantB ops stS p.o = some true ∨ wantB ops stS p.o = some false := by
    rw [hwant]
    rcases hsp with ⟨h, _⟩ | ⟨h, _⟩
    · exact .inr h
    · exact .inl h
  rcases hsp with ⟨hw0, he, hok, hl⟩ | ⟨hw0, e, s, r, hr, hok, hl, he⟩
  · rw [← hwant] at hw0
    rw [if_neg (by rw [wanted_of hR hw0]; simp)]
    refine hK _ _ ⟨stS.skip p.o.dst, ?_, hn, fun s => ?_, fun id => ?_⟩
    · have hok' : ∀ d, p.o.dst = some d → DstOk stS.n d := by
        intro d hdd
        simp only [St.skip, St.apply, andt_eq] at hok
        have := hok.2
        rw [hdd] at this
        have := dstB_ok this
        rw [hn, ← hg3]
        exact this
      obtain ⟨β, φ, hc⟩ := hR.core
      exact rel_put (e := { sv := .undef }) hR hok' hR.kept ⟨β, φ, hc, by simp [SVR]⟩
    · rw [insF s]
      unfold St.skip
      rw [← he]
      exact (apply_f stS p s)
    · rw [insH id]
      unfold St.skip
      rw [← he]
      exact (apply_h stS p id)
  · rw [← hwant] at hw0
    rw [if_pos (wanted_of hR hw0)]
    refine .inl ?_
    have hrs : ∀ k ∈ s, stS.get k = p.st.get k := fun k hk => hslot k (by rw [hl]; simp only [logOf, hr]; exact List.mem_append_right _ hk)
    have hro : ∀ k ∈ r, stS.obj k = p.st.obj k := fun k hk => hob k (by rw [hl]; simp only [logOf, hr]; exact List.mem_append_right _ hk)
    have hrun := M.run_congr (evalOp P Γ p.o) hr hrs hro
    simp only [St.apply, andt_eq] at hok
    have hgood := op_sound hΓ hR (M.val_of_run _ hrun) hok.1.2 (fun d hdd => by
        have := hok.2
        rw [hdd] at this
        have := dstB_ok this
        rw [hn, ← hg3]
        exact this) (fun _ d hdd => ?_) Q
    · refine Oper.wp_mono ?_ hgood
      rintro a' w' ⟨v, rfl, hR'⟩
      rcases he with he | ⟨d, g, hdd, hsv, he⟩
      · refine hK _ _ ⟨stS.apply p.o.dst e, hR', hn, fun s => ?_, fun id => ?_⟩
        · rw [insF s, ← he]; exact apply_f stS p s
        · rw [insH id, ← he]; exact apply_h stS p id
      · have hb : (stS.apply p.o.dst e).get d = .bool g := by
          rw [hdd, apply_get, hsv]
          simp [upd]
        have hslot' := hR'.slot_bool hb
        refine hK _ _ ⟨(stS.apply p.o.dst e).reset.know d g, hR'.reset.know hslot', hn, fun s => ?_, fun id => ?_⟩
        · rw [insF s]; exact know_f hdd p rfl he s
        · rw [insH id]; exact know_h p rfl he id
    · have key : ∀ j, Orig (dsts ops.toList) L l j → j / 64 ≠ d := by
        rintro j (hj | ⟨q, hq, hLq, hj⟩) rfl
        · exact hj (hds _ hdd)
        · rcases Nat.lt_trichotomy q.i p.i with hlt | heq | hgt
          · have := (path_pair hpath hall hq hp hlt).2
            rw [clash1_dm ((hd p hp).trans hdd) hj] at this
            cases this
          · rw [heq, hL] at hLq
            cases hLq
          · have := hB q hq hgt (clash_dm ((hd p hp).trans hdd) hj)
            rw [this] at hLq
            cases hLq
      have hf0 := fun d' hd' => fresh_of hfr d' hd'
      constructor
      · intro i j hj
        rw [hget i] at hj
        refine key j (foldF_orig l l _ hsteps (fun _ h => h) (fun k hk => .inl (fun hm => ?_)) j hj)
        exact (hf0 _ hm).slot i k hk rfl
      · intro j ob hjo
        rw [hobj j] at hjo
        have h0 : OrigO (dsts ops.toList) L l j (st.obj j) := by
          intro ob' hob'
          refine ⟨.inl (fun hm => ((hf0 _ hm).obj j ob' hob').1 rfl), fun k hk => .inl (fun hm => ((hf0 _ hm).obj j ob' hob').2 k hk rfl)⟩
        have := foldH_orig l l _ hsteps (fun _ h => h) h0 ob hjo
        exact ⟨key j this.1, fun k hk => key k (this.2 k hk)⟩

theorem wpAny_drawn (hΓ : CtxHolds P Γ) {st : St} {l : List PS} {fin : St} (hpath : Path P Γ ops gs ops.toList 0 st l fin) (hall : allOk (ancs ops.toList []) (l.map (·.log)) = true)
    (hfr : freshFor (dsts ops.toList) st = true) (hed : edgesOk ops.toList 0 = true) {Q : Exit → Act → World → Prop} (hQ : ∀ a w, Rel w0 S fin a w → Q .normal a w) :
    ∀ (fuel : Nat) (listed : Array Bool) (a : Act) (w : World), listed.size = ops.size → (∀ k, listed.getD k false = true → GoodK ops (fun k => listed.getD k false) k) → unl ops listed ≤ fuel →
      Cur w0 S st l (fun k => listed.getD k false) a w → wpAny P .any ops Q fuel listed a w := by
  have hstates := path_states hpath
  have hlen : l.length = ops.size := by
    have : (l.map (·.o)).length = ops.toList.length := by rw [(path_index hpath).2.1]
    simpa using this
  have done : ∀ (listed : Array Bool) (a : Act) (w : World), listed.size = ops.size → Region.ready .any ops listed = [] → Cur w0 S st l (fun k => listed.getD k false) a w → Q .normal a w := by
    intro listed a w hsz hr ⟨stS, hR, hn, hget, hobj⟩
    have hall' : ∀ k, k < ops.size → listed.getD k false = true := by
      intro k
      induction k using Nat.strongRecOn with
      | ind k ih =>
        intro hk
        cases hLk : listed.getD k false
        · have : k ∈ Region.ready .any ops listed := by
            rw [mem_ready]
            refine ⟨?_, ops[k], Array.getElem?_eq_getElem hk, fun e he hb => ?_⟩
            · rw [← hLk]
              simp only [Array.getD_eq_getD_getElem?, Array.getElem?_eq_getElem (show k < listed.size by omega), Option.getD_some]
            · have := edgesOk_spec ops.toList 0 hed k ops[k] (by simp [Array.getElem?_toList, hk]) e he hb
              exact ih e.on (by omega) (by omega)
          rw [hr] at this
          cases this
        · rfl
    refine hQ a w ?_
    have hLl : ∀ q ∈ l, listed.getD q.i false = true := by
      intro q hq
      have := (path_get hpath hq).2.2
      exact hall' q.i (by simpa using this)
    have e1 : stS.get = fin.get := by
      funext s
      rw [hget s, hstates.2.1 s]
      exact fold_congr (fun q v => PS.f q s v) (fun _ => True) (fun _ _ h => absurd trivial h) (L := fun k => listed.getD k false) (L' := fun _ => true) l _ (fun q hq _ => hLl q hq)
    have e2 : stS.obj = fin.obj := by
      funext s
      rw [hobj s, hstates.2.2.1 s]
      exact fold_congr (fun q v => PS.h q s v) (fun _ => True) (fun _ _ h => absurd trivial h) (L := fun k => listed.getD k false) (L' := fun _ => true) l _ (fun q hq _ => hLl q hq)
    obtain ⟨β, φ, hc⟩ := hR.core
    refine ⟨?_, fun x hx => by rw [hstates.2.2.2, ← hn]; exact hR.fx x hx, hR.defers, hR.kept, β, φ, ?_⟩
    · rw [hR.size, hn, hstates.2.2.2]
    · rw [← e1, ← e2]; exact hc
  intro fuel
  induction fuel with
  | zero =>
    intro listed a w hsz hcl hun hcur
    have hr : Region.ready .any ops listed = [] := by
      cases hrr : Region.ready .any ops listed with
      | nil => rfl
      | cons x xs =>
        have hx : x ∈ Region.ready .any ops listed := by rw [hrr]; exact List.mem_cons_self ..
        obtain ⟨h1, o, ho, _⟩ := mem_ready.1 hx
        have hlt := (Array.getElem?_eq_some_iff.1 ho).1
        have : 0 < unl ops listed := by
          unfold unl
          rw [List.countP_pos_iff]
          exact ⟨x, List.mem_range.2 hlt, by simp only [h1]; rfl⟩
        omega
    exact ⟨hr, done listed a w hsz hr hcur⟩
  | succ fuel ih =>
    intro listed a w hsz hcl hun hcur
    refine ⟨fun hr => done listed a w hsz hr hcur, fun i hi => ?_⟩
    obtain ⟨h1, o, ho, hed'⟩ := mem_ready.1 hi
    have hlt := (Array.getElem?_eq_some_iff.1 ho).1
    have hil : i < l.length := by omega
    have hpi : l[i].i = i := by
      have : (l.map (·.i))[i]? = (List.range' 0 ops.toList.length)[i]? := by rw [(path_index hpath).1]
      rw [List.getElem?_map, List.getElem?_eq_getElem hil, List.getElem?_range' (by simpa using hlt)] at this
      simpa using this
    have hset : ∀ k, (listed.setIfInBounds i true).getD k false = (listed.getD k false || k == i) := by
      intro k
      simp only [Array.getD_eq_getD_getElem?, Array.getElem?_setIfInBounds]
      by_cases hk : i = k
      · subst hk
        simp [show i < listed.size by omega]
      · have : (k == i) = false := by simpa using fun h => hk h.symm
        simp [hk, this]
    have hLi : listed.getD i false = false := by
      rw [← h1]
      simp only [Array.getD_eq_getD_getElem?, Array.getElem?_eq_getElem (show i < listed.size by omega), Option.getD_some]
    have hgi : GoodK ops (fun k => listed.getD k false) i := by
      intro o' ho' e he hb
      rw [ho] at ho'
      injection ho' with ho'
      subst ho'
      exact hed' e he hb
    have := one_step (w0 := w0) (S := S) (Q := Q) hΓ hpath hall hfr hcl (p := l[i]) (List.getElem_mem hil) (by rw [hpi]; exact hgi) (by rw [hpi]; exact hLi) hcur
      (K := wpAny P .any ops Q fuel (listed.setIfInBounds i true)) (fun a' w' hc => ?_)
    · rw [hpi] at this
      exact this
    · refine ih _ a' w' (by simpa using hsz) (fun k hk => ?_) ?_ ?_
      · intro o' ho' e he hb
        show (listed.setIfInBounds i true).getD e.on false = true
        rw [hset] at hk ⊢
        simp only [Bool.or_eq_true, beq_iff_eq] at hk ⊢
        rcases hk with hk | rfl
        · exact .inl (hcl k hk o' ho' e he hb)
        · exact .inl (hgi o' ho' e he hb)
      · have : unl ops (listed.setIfInBounds i true) < unl ops listed := by
          unfold unl
          refine countP_lt _ (fun k hk hq => ?_) ⟨i, List.mem_range.2 hlt, by simp only [h1]; rfl, ?_⟩
          · simp only [Bool.not_eq_true', Array.getD_eq_getD_getElem?, Array.getElem?_setIfInBounds] at hq ⊢
            split at hq
            · split at hq <;> simp at hq
            · exact hq
          · simp [Array.getElem?_setIfInBounds, show i < listed.size by omega]
        omega
      · have e : (fun k => (listed.setIfInBounds i true).getD k false) = (fun k => listed.getD k false || k == i) := funext hset
        rw [e]
        rw [hpi] at hc
        exact hc

theorem Rel.drew {st : St} {a : Act} {w : World} (hR : Rel w0 S st a w) : Rel w0 S st a { w with drawn := w.drawn + 1 } := by
  obtain ⟨β, φ, hc⟩ := hR.core
  refine ⟨hR.size, hR.fx, hR.defers, ⟨hR.kept.os, hR.kept.tape, hR.kept.output, hR.kept.size, hR.kept.block⟩, β, φ, ?_⟩
  exact hc.step (h' := st.obj) (β' := β) (φ' := φ) (w' := { w with drawn := w.drawn + 1 }) (fun _ => False) (Nat.le_refl _) (fun _ _ _ => rfl) (fun b hb => .inl hb) (fun _ _ _ h => h) (fun _ _ => ⟨rfl, rfl⟩)
    (fun id o ho => .inl ⟨fun h => h, ho, rfl, fun _ _ h => h, fun _ _ => rfl⟩) hc.sep

theorem region_sound (hΓ : CtxHolds P Γ) {st : St} {a : Act} {w : World} {id : Nat} {draw : Bool} {Q : Exit → Act → World → Prop} (hR : Rel w0 S st a w) (h : (execRegion P Γ ops draw st).ok = true)
    (hQ : ∀ a' w', Rel w0 S (execRegion P Γ ops draw st) a' w' → Q .normal a' w') : (Code.region id ops draw).wp P Q a w := by
  cases draw with
  | false => exact region_seq hΓ hR h hQ
  | true =>
    unfold execRegion at h hQ
    simp only [cond_true] at h hQ
    cases hf : freshFor (dsts ops.toList) st && edgesOk ops.toList 0 && P.follows .mixedOrders
    · simp [hf, fail_ok] at h
    · simp only [hf, cond_true] at h hQ
      simp only [Bool.and_eq_true] at hf
      obtain ⟨l, fin, hpath, _, hchk, hrel⟩ := execOps_path _ _ _ _ h
      refine wp_region_any hf.2 (wpAny_drawn hΓ hpath (by simpa using hchk) hf.1.1 hf.1.2 (fun a' w' hR' => hQ a' w' (hrel w0 S a' w' hR')) _ _ a _ (by simp) (fun k hk => ?_) ?_ ?_)
      · rw [Array.getD_eq_getD_getElem?, Array.getElem?_replicate] at hk
        split at hk <;> simp at hk
      · unfold unl
        have := List.countP_le_length (p := fun k => !((Array.replicate ops.size false).getD k true)) (l := List.range ops.size)
        simpa using this
      · refine ⟨st, hR.drew, rfl, fun s => ?_, fun o => ?_⟩
        · refine (fold_none (fun q v => PS.f q s v) (L := fun k => (Array.replicate ops.size false).getD k false) l (st.get s) (fun q _ => ?_)).symm
          rw [Array.getD_eq_getD_getElem?, Array.getElem?_replicate]
          split <;> rfl
        · refine (fold_none (fun q v => PS.h q o v) (L := fun k => (Array.replicate ops.size false).getD k false) l (st.obj o) (fun q _ => ?_)).symm
          rw [Array.getD_eq_getD_getElem?, Array.getElem?_replicate]
          split <;> rfl

end

end Go.Proofs.Ytjknoknkbfhelaa.Vm
