/- The value machine: contracts, and calls by contract. Conditions: as each lemma says. -/
import Derived.Test.YtjknoknkbfhelaaVmP
set_option linter.unusedVariables false
set_option linter.unusedSimpArgs false
namespace Go.Proofs.Ytjknoknkbfhelaa.Vm

/-- One argument reads as its cells' data. -/
def ArgR (w : World) (k : AK) (ds : List DC) (v : Value) (fp : List Nat) : Prop :=
  ∃ vs : List Value, (bif k.agg then v = .agg vs.toArray else (vs = [v] ∧ v.oneCell' = true)) ∧ (∀ x ∈ vs, x.oneCell' = true) ∧ RdL w k.cts ds (fun j => vs[j]?) fp ∧ vs.length = k.cts.length

def ArgsR (w : World) : List AK → List DC → List Value → List Nat → Prop
  | [], ds, vs, fp => ds = [] ∧ vs = [] ∧ fp = []
  | k :: ks, ds, vs, fp => ∃ d1 d2 v vs' f1 f2, ds = d1 ++ d2 ∧ vs = v :: vs' ∧ ArgR w k d1 v f1 ∧ ArgsR w ks d2 vs' f2 ∧ fp = f1 ++ f2

/-- The cells of one result: their data; the blocks of the rows that are the call's own; the blocks behind what is only read; the rows' own blocks. -/
def ResL (w : World) : List RC → List DC → List Value → List Nat → List Nat → List Nat → Prop
  | [], ds, vs, φ, im, tp => ds = [] ∧ vs = [] ∧ φ = [] ∧ im = [] ∧ tp = []
  | .imm c :: cs, ds, vs, φ, im, tp => ∃ d ds' v vs' f1 im', ds = d :: ds' ∧ vs = v :: vs' ∧ RdC w c d v f1 ∧ ResL w cs ds' vs' φ im' tp ∧ im = f1 ++ im'
  | .own t e :: cs, ds, vs, φ, im, tp => ∃ rows ds' v vs' vals fps φ' tp', ds = .sl rows :: ds' ∧ vs = v :: vs' ∧ OwnR w t e.length false v rows.length vals ∧ InR w e rows vals fps ∧
      ResL w cs ds' vs' φ' im tp' ∧ φ = (v.ownBlock.toList ++ fps.flatten) ++ φ' ∧ tp = v.ownBlock.toList ++ tp'

def ResV (w : World) : List RK → List DC → List Value → List Nat → List Nat → List Nat → Prop
  | [], ds, vs, φ, im, tp => ds = [] ∧ vs = [] ∧ φ = [] ∧ im = [] ∧ tp = []
  | k :: ks, ds, vs, φ, im, tp => ∃ d1 d2 v vs' us φ1 φ2 i1 i2 t1 t2, ds = d1 ++ d2 ∧ vs = v :: vs' ∧ (bif k.agg then v = .agg us.toArray else us = [v]) ∧ (∀ x ∈ us, x.oneCell' = true) ∧ ResL w k.cells d1 us φ1 i1 t1 ∧
      ResV w ks d2 vs' φ2 i2 t2 ∧ φ = φ1 ++ φ2 ∧ im = i1 ++ i2 ∧ tp = t1 ++ t2

def pack : List Value → Value
  | [x] => x
  | l => .tuple l.toArray

/-- What a contract says of a function. -/
def Holds (P : Program) (g : Nat) (s : Sum) : Prop :=
  (∃ fn, P.funcs[g]? = some fn ∧ fn.body.isSome = true ∧ (fn.name == "runtime.NumGoroutine") = false) ∧
  ∀ (w : World) (ds : List DC) (vals : List Value) (fp : List Nat), ArgsR w s.ps ds vals fp → (s.fn ds).1 = true →
    Calls P g vals.toArray w fun e w' => ∃ vs φ im tp, e = .returned (pack vs) ∧ Kept Own.none w w' ∧ ResV w' s.rs (s.fn ds).2 vs φ im tp ∧ φ.Nodup ∧
      (∀ b ∈ φ, w.heap.size ≤ b ∧ b < w'.heap.size) ∧ ∀ b ∈ im, (b ∈ fp ∨ w.heap.size ≤ b) ∧ b ∉ tp

/-- The cells of an argument whose rows are written in place: what they hold; the rows' blocks. -/
def RowsA (w : World) : List CT → List TypeId → List DC → List Value → List Nat → Prop
  | [], ts, ds, us, mb => ts = [] ∧ ds = [] ∧ us = [] ∧ mb = []
  | .sl e :: cs, ts, ds, us, mb => ∃ t ts' rows ds' v us' vals fps mb', ts = t :: ts' ∧ ds = .sl rows :: ds' ∧ us = v :: us' ∧ flatB e = true ∧ OwnR w t e.length false v rows.length vals ∧ InR w e rows vals fps ∧
      RowsA w cs ts' ds' us' mb' ∧ mb = v.ownBlock.toList ++ mb'
  | c :: cs, ts, ds, us, mb => ∃ d ds' v us', ds = d :: ds' ∧ us = v :: us' ∧ RdC w c d v [] ∧ RowsA w cs ts ds' us' mb

/-- What the rows hold behind the call. -/
def RowsO (w : World) : List CT → List TypeId → List DC → List Value → Prop
  | [], _, ds, us => ds = [] ∧ us = []
  | .sl e :: cs, ts, ds, us => ∃ t ts' rows ds' v us' vals fps, ts = t :: ts' ∧ ds = .sl rows :: ds' ∧ us = v :: us' ∧ OwnR w t e.length false v rows.length vals ∧ InR w e rows vals fps ∧ RowsO w cs ts' ds' us'
  | _ :: cs, ts, ds, us => ∃ v us', us = v :: us' ∧ RowsO w cs ts ds us'

def MArg (w : World) (k : AK) : Option MK → List DC → Value → List Nat → List Nat → Prop
  | none, d, v, f, b => ArgR w k d v f ∧ b = []
  | some (.box t), d, v, f, b => ∃ (g : Nat) (us : List Value), v = .pointer (some ⟨g, 0, none⟩) ∧ w.heap[g]? = some (.cells us.toArray t (0, 0)) ∧ (∀ x ∈ us, x.oneCell' = true) ∧ RdL w k.cts d (fun j => us[j]?) f ∧ us.length = k.cts.length ∧ b = [g]
  | some (.rows ts), d, v, f, b => ∃ us : List Value, (bif k.agg then v = .agg us.toArray else (us = [v] ∧ v.oneCell' = true)) ∧ (∀ x ∈ us, x.oneCell' = true) ∧ RowsA w k.cts ts d us b ∧ f = []

def MArgs (w : World) : List AK → List (Option MK) → List DC → List Value → List Nat → List Nat → Prop
  | [], ms, ds, vs, fp, mb => ms = [] ∧ ds = [] ∧ vs = [] ∧ fp = [] ∧ mb = []
  | k :: ks, ms, ds, vs, fp, mb => ∃ m ms' d1 d2 v vs' f1 f2 b1 b2, ms = m :: ms' ∧ ds = d1 ++ d2 ∧ vs = v :: vs' ∧ MArg w k m d1 v f1 b1 ∧ MArgs w ks ms' d2 vs' f2 b2 ∧ fp = f1 ++ f2 ∧ mb = b1 ++ b2

def MOut (w : World) (k : AK) : Option MK → List DC → Value → List Nat → Prop
  | none, d, _, im => d = [] ∧ im = []
  | some (.box t), d, v, im => ∃ (g : Nat) (us : List Value), v = .pointer (some ⟨g, 0, none⟩) ∧ w.heap[g]? = some (.cells us.toArray t (0, 0)) ∧ (∀ x ∈ us, x.oneCell' = true) ∧ RdL w k.cts d (fun j => us[j]?) im ∧ us.length = k.cts.length
  | some (.rows ts), d, v, im => ∃ us : List Value, (bif k.agg then v = .agg us.toArray else us = [v]) ∧ RowsO w k.cts ts d us ∧ im = []

def MOuts (w : World) : List AK → List (Option MK) → List DC → List Value → List Nat → Prop
  | [], _, ds, vs, im => ds = [] ∧ vs = [] ∧ im = []
  | k :: ks, ms, ds, vs, im => ∃ m ms' d1 d2 v vs' i1 i2, ms = m :: ms' ∧ ds = d1 ++ d2 ∧ vs = v :: vs' ∧ MOut w k m d1 v i1 ∧ MOuts w ks ms' d2 vs' i2 ∧ im = i1 ++ i2

/-- What a contract says of a function that writes through parameters. -/
def HoldsM (P : Program) (g : Nat) (s : Sum) : Prop :=
  (∃ fn, P.funcs[g]? = some fn ∧ fn.body.isSome = true ∧ (fn.name == "runtime.NumGoroutine") = false) ∧
  ∀ (w : World) (ds : List DC) (vals : List Value) (fp mb : List Nat), MArgs w s.ps s.ms ds vals fp mb → mb.Nodup → (∀ b ∈ mb, b ∉ fp) → (s.fn ds).1 = true →
    Calls P g vals.toArray w fun e w' => ∃ vs φ im tp im2 rd od, e = .returned (pack vs) ∧ (s.fn ds).2 = rd ++ od ∧ rd.length = resCount s.rs ∧ Kept ⟨fun b => b ∈ mb, fun _ => False, []⟩ w w' ∧ ResV w' s.rs rd vs φ im tp ∧ φ.Nodup ∧
      (∀ b ∈ φ, w.heap.size ≤ b ∧ b < w'.heap.size) ∧ MOuts w' s.ps s.ms od vals im2 ∧ ∀ b ∈ im2, (b ∈ fp ∨ w.heap.size ≤ b) ∧ b ∉ tp ∧ b ∉ mb

def HoldsAny (P : Program) (g : Nat) (s : Sum) : Prop :=
  match s.ms with
  | [] => Holds P g s
  | _ :: _ => HoldsM P g s

def CtxHolds (P : Program) (Γ : Ctx) : Prop := ∀ g s, lkS Γ g = some s → HoldsAny P g s

section
variable {P : Program} {Γ : Ctx} {w0 : World} {S : Own} {st : St} {o : Oper} {e : Eff} {a : Act} {w : World}
variable {f : Nat → SV} {h : Nat → Option VObj} {β : Env} {φ : Nat → List Nat} {tm : Array Value}

theorem argsM_ok (hc : Core w0 S f h β φ tm w) : ∀ (ks : List AK) (ss : List SV) (vs : List Value) (q : List DC × Met), SVRL w (Av h β) β ss vs → (argsM ks ss).val f h = some q →
    ∃ fp, ArgsR w ks q.1 vs fp ∧ MetOk h q.2 ∧ ∀ b ∈ fp, (¬ Av h β b) ∨ ∃ x ∈ q.2, b ∈ (β.val x.1).ownBlock.toList
  | [], [], vs, q, hs, hq => by
    simp only [argsM, M.val_pure, Option.some.injEq] at hq
    subst hq
    simp only [SVRL] at hs
    exact ⟨[], ⟨rfl, hs, rfl⟩, by simp [MetOk], by simp⟩
  | [], _ :: _, vs, q, hs, hq => by simp [argsM] at hq
  | _ :: _, [], vs, q, hs, hq => by simp [argsM] at hq
  | k :: ks, s :: ss, vs, q, hs, hq => by
    simp only [SVRL] at hs
    obtain ⟨v, l, rfl, h1, h2⟩ := hs
    simp only [argsM, M.val_bind, Option.bind_eq_some_iff, M.val_pure, Option.some.injEq] at hq
    obtain ⟨q1, hq1, q2, hq2, rfl⟩ := hq
    obtain ⟨fp2, ha2, hm2, hav2⟩ := argsM_ok hc ks ss l q2 h2 hq2
    have one : ∃ fp1, ArgR w k q1.1 v fp1 ∧ MetOk h q1.2.1 ∧ ∀ b ∈ fp1, (¬ Av h β b) ∨ ∃ x ∈ q1.2.1, b ∈ (β.val x.1).ownBlock.toList := by
      cases hk : k.agg with
      | true =>
        cases s with
        | agg cs =>
          simp only [hk] at hq1
          simp only [SVR] at h1
          obtain ⟨us, rfl, hus, hone⟩ := h1
          obtain ⟨fp1, hr, hm, hav, _⟩ := toDCs_ok hc k.cts cs us q1 hus hq1
          have hl := SVRL.length _ _ hus
          have hl2 := toDCs_length _ _ _ hq1
          exact ⟨fp1, ⟨us, by rw [hk]; rfl, hone, hr, by omega⟩, hm, hav⟩
        | _ => simp [hk] at hq1
      | false =>
        have hq1' : (toDCs k.cts [s]).val f h = some q1 := by
          cases s <;> simp only [hk] at hq1 <;> first | exact hq1 | (simp at hq1)
        have hsing : SVRL w (Av h β) β [s] [v] := by simp only [SVRL]; exact ⟨v, [], rfl, h1, rfl⟩
        obtain ⟨fp1, hr, hm, hav, _⟩ := toDCs_ok hc k.cts [s] [v] q1 hsing hq1'
        have hl2 := toDCs_length _ _ _ hq1'
        have hone : v.oneCell' = true := by
          cases hcts : k.cts with
          | nil => rw [hcts] at hl2; simp at hl2
          | cons c cs =>
            rw [hcts] at hr
            simp only [RdL] at hr
            obtain ⟨d, r', v', f1, f2, _, h0, h3, _⟩ := hr
            simp at h0
            subst h0
            exact h3.one
        exact ⟨fp1, ⟨[v], by rw [hk]; exact ⟨rfl, hone⟩, by simpa using hone, hr, by simpa using hl2⟩, hm, hav⟩
    obtain ⟨fp1, ha1, hm1, hav1⟩ := one
    refine ⟨fp1 ++ fp2, ⟨q1.1, q2.1, v, l, fp1, fp2, rfl, rfl, ha1, ha2, rfl⟩, metOk_append hm1 hm2, ?_⟩
    intro b hb
    rcases List.mem_append.1 hb with hb | hb
    · rcases hav1 b hb with h3 | ⟨x, hx, h3⟩
      · exact .inl h3
      · exact .inr ⟨x, List.mem_append_left _ hx, h3⟩
    · rcases hav2 b hb with h3 | ⟨x, hx, h3⟩
      · exact .inl h3
      · exact .inr ⟨x, List.mem_append_right _ hx, h3⟩

/-- A new row out of a call. -/
structure NewRow where
  id : Nat
  t : TypeId
  e : List CT
  rows : List (List DC)
  v : Value
  fps : List (List Nat)

def NewRow.obj (x : NewRow) : VObj := .row x.t x.e x.rows false true
def NewRow.blks (x : NewRow) : List Nat := x.v.ownBlock.toList ++ x.fps.flatten
def NewRow.ok (w : World) (x : NewRow) : Prop := ∃ vals, OwnR w x.t x.e.length false x.v x.rows.length vals ∧ InR w x.e x.rows vals x.fps

def lkN : List NewRow → Nat → Option NewRow
  | [], _ => none
  | x :: l, i => if i = x.id then some x else lkN l i

theorem lkN_mem {N : List NewRow} {j : Nat} {x : NewRow} (h : lkN N j = some x) : x ∈ N ∧ x.id = j := by
  induction N with
  | nil => simp [lkN] at h
  | cons y l ih =>
    simp only [lkN] at h
    split at h
    · rename_i hj
      injection h with h
      subst h
      exact ⟨List.mem_cons_self .., hj.symm⟩
    · obtain ⟨h1, h2⟩ := ih h
      exact ⟨List.mem_cons_of_mem _ h1, h2⟩

theorem lkN_some {N : List NewRow} {x : NewRow} (hx : x ∈ N) (hn : (N.map (·.id)).Nodup) : lkN N x.id = some x := by
  induction N with
  | nil => simp at hx
  | cons y l ih =>
    simp only [List.map_cons, List.nodup_cons] at hn
    simp only [lkN]
    rcases List.mem_cons.1 hx with rfl | hx
    · simp
    · have : x.id ≠ y.id := fun e => hn.1 (e ▸ List.mem_map_of_mem hx)
      rw [if_neg this]
      exact ih hx hn.2

def rowsOw (N : List NewRow) : List (Nat × Option VObj) := N.map fun x => (x.id, some x.obj)

theorem fo_rows (N : List NewRow) (l : List (Nat × Option VObj)) (j : Nat) : fo (rowsOw N ++ l) h j = match lkN N j with | some x => some x.obj | none => fo l h j := by
  induction N with
  | nil => rfl
  | cons y N ih =>
    simp only [rowsOw, List.map_cons, List.cons_append, fo, upd, lkN]
    split
    · rfl
    · exact ih

def Env.setN (β : Env) (N : List NewRow) : Env := ⟨β.blk, fun j => match lkN N j with | some x => x.v | none => β.val j, β.bar⟩

theorem blks_apart {N : List NewRow} (h : (N.flatMap NewRow.blks).Nodup) : (∀ x ∈ N, x.blks.Nodup) ∧ ∀ x ∈ N, ∀ y ∈ N, x ≠ y → ∀ b ∈ x.blks, b ∉ y.blks := by
  induction N with
  | nil => simp
  | cons z l ih =>
    rw [List.flatMap_cons, List.nodup_append] at h
    obtain ⟨h1, h2, h3⟩ := h
    obtain ⟨i1, i2⟩ := ih h2
    refine ⟨fun x hx => ?_, fun x hx y hy hxy b hb hb' => ?_⟩
    · rcases List.mem_cons.1 hx with rfl | hx
      · exact h1
      · exact i1 x hx
    · rcases List.mem_cons.1 hx with hx1 | hx1 <;> rcases List.mem_cons.1 hy with hy1 | hy1
      · exact hxy (hx1.trans hy1.symm)
      · subst hx1
        exact h3 b hb b (List.mem_flatMap.2 ⟨y, hy1, hb'⟩) rfl
      · subst hy1
        exact h3 b hb' b (List.mem_flatMap.2 ⟨x, hx1, hb⟩) rfl
      · exact i2 x hx1 y hy1 hxy b hb hb'

theorem Core.creates (hc : Core w0 S f h β φ tm w) {w' : World} {N : List NewRow} (hs : w.heap.size ≤ w'.heap.size) (hw : ∀ b, b < w.heap.size → w'.heap[b]? = w.heap[b]?) (hk : w0.heap.size ≤ w.heap.size)
    (hfresh : ∀ x ∈ N, h x.id = none ∧ (∀ i, x.id ∉ svIds (f i)) ∧ ∀ k o, h k = some o → x.id ∉ objIds o) (hok : ∀ x ∈ N, NewRow.ok w' x) (hid : (N.map (·.id)).Nodup)
    (hnd : (N.flatMap NewRow.blks).Nodup) (hal : ∀ b ∈ N.flatMap NewRow.blks, w.heap.size ≤ b ∧ b < w'.heap.size) :
    Core w0 S f (fun j => match lkN N j with | some x => some x.obj | none => h j) (β.setN N) (fun j => match lkN N j with | some x => x.blks | none => φ j) tm w' := by
  have hφmem : ∀ x ∈ N, ∀ b ∈ x.blks, b ∈ N.flatMap NewRow.blks := fun x hx b hb => List.mem_flatMap.2 ⟨x, hx, hb⟩
  have htop_eq : ∀ j oj, lkN N j = none → tops (β.setN N) j oj = tops β j oj := by
    intro j oj hj
    cases oj <;> simp [tops, Env.setN, hj]
  have htop_new : ∀ j x, lkN N j = some x → tops (β.setN N) j x.obj = x.v.ownBlock.toList := by
    intro j x hj
    simp [tops, NewRow.obj, Env.setN, hj]
  have hha : ∀ b, Av (fun j => match lkN N j with | some x => some x.obj | none => h j) (β.setN N) b → Av h β b ∨ (w.heap.size ≤ b ∧ ∃ x ∈ N, b ∈ x.v.ownBlock.toList) := by
    rintro b (⟨j, oj, hj, hbj⟩ | hb)
    case inr => exact .inl (.inr hb)
    cases hl : lkN N j with
    | none =>
      simp only [hl] at hj
      rw [htop_eq j oj hl] at hbj
      exact .inl (.inl ⟨j, oj, hj, hbj⟩)
    | some x =>
      simp only [hl, Option.some.injEq] at hj
      subst hj
      rw [htop_new j x hl] at hbj
      have hx := (lkN_mem hl).1
      exact .inr ⟨(hal b (hφmem x hx b (List.mem_append_left _ hbj))).1, x, hx, hbj⟩
  refine hc.step (fun j => (lkN N j).isSome = true) hs (fun b hb _ => hw b hb) (fun b hb => (hha b hb).imp id (·.1)) ?_ ?_ ?_ ?_
  · intro i j hj hx
    obtain ⟨x, hx⟩ := Option.isSome_iff_exists.1 hx
    obtain ⟨hm, rfl⟩ := lkN_mem hx
    exact (hfresh x hm).2.1 i hj
  · intro j hj
    have : lkN N j = none := by simpa using hj
    simp [Env.setN, this]
  · intro j oj hj
    cases hl : lkN N j with
    | none =>
      simp only [hl] at hj
      refine .inl ⟨by simp [hl], hj, by simp, ?_, fun b hb => hw b ?_⟩
      · intro i hi hx
        obtain ⟨x, hx⟩ := Option.isSome_iff_exists.1 hx
        obtain ⟨hm, rfl⟩ := lkN_mem hx
        exact (hfresh x hm).2.2 j oj hj hi
      · exact ((hc.fresh j oj hj).2 b (tops_sub (hc.objs j oj hj) b hb)).2
    | some x =>
      simp only [hl, Option.some.injEq] at hj
      subst hj
      obtain ⟨hm, rfl⟩ := lkN_mem hl
      obtain ⟨vals, h1, h2⟩ := hok x hm
      have hval : (β.setN N).val x.id = x.v := by simp [Env.setN, hl]
      refine .inr ⟨⟨vals, x.fps, by rw [hval]; exact h1, h2, ?_, by rw [hval]; rfl⟩, ?_, ?_⟩
      · intro b hb hx
        have hbφ : b ∈ x.blks := List.mem_append_right _ hb
        have hbig := (hal b (hφmem x hm b hbφ)).1
        rcases hha b hx with hx' | ⟨_, y, hy, hby⟩
        · have := hc.av_lt hk hx'
          omega
        · by_cases hxy : y = x
          · subst hxy
            have := (blks_apart hnd).1 y hm
            unfold NewRow.blks at this
            rw [List.nodup_append] at this
            exact this.2.2 b hby b hb rfl
          · exact (blks_apart hnd).2 y hy x hm hxy b (List.mem_append_left _ hby) hbφ
      · exact (blks_apart hnd).1 x hm
      · intro b hb
        have := hal b (hφmem x hm b hb)
        exact ⟨.inl (by omega), this.2⟩
  · intro i j oi oj hne hi hj b hb
    cases hli : lkN N i with
    | none =>
      simp only [hli] at hi hb
      cases hlj : lkN N j with
      | none =>
        simp only [hlj] at hj ⊢
        exact hc.sep i j oi oj hne hi hj b hb
      | some y =>
        simp only
        intro hby
        have := (hal b (hφmem y (lkN_mem hlj).1 b hby)).1
        have := ((hc.fresh i oi hi).2 b hb).2
        omega
    | some x =>
      simp only [hli] at hi hb
      have hxm := (lkN_mem hli).1
      cases hlj : lkN N j with
      | none =>
        simp only [hlj] at hj ⊢
        intro hbj
        have := (hal b (hφmem x hxm b hb)).1
        have := ((hc.fresh j oj hj).2 b hbj).2
        omega
      | some y =>
        simp only
        intro hby
        have hym := (lkN_mem hlj).1
        have hxy : x ≠ y := by
          rintro rfl
          exact hne ((lkN_mem hli).2.symm.trans (lkN_mem hlj).2)
        exact (blks_apart hnd).2 x hxm y hym hxy b hb hby

def lkU : List (Nat × VObj) → Nat → Option VObj
  | [], _ => none
  | (k, o) :: l, i => if i = k then some o else lkU l i

theorem lkU_mem {U : List (Nat × VObj)} {j : Nat} {o : VObj} (h : lkU U j = some o) : (j, o) ∈ U := by
  induction U with
  | nil => simp [lkU] at h
  | cons y l ih =>
    simp only [lkU] at h
    split at h
    · rename_i hj
      injection h with h
      subst h
      subst hj
      exact List.mem_cons_self ..
    · exact List.mem_cons_of_mem _ (ih h)

/-- Objects that are turned, and new rows. -/
theorem Core.acts (hc : Core w0 S f h β φ tm w) {w' : World} {N : List NewRow} {U : List (Nat × VObj)} {im : List Nat} (hs : w.heap.size ≤ w'.heap.size) (hk : w0.heap.size ≤ w.heap.size)
    (hw : ∀ b, b < w.heap.size → (∀ x ∈ U, b ∉ tops β x.1 x.2) → w'.heap[b]? = w.heap[b]?)
    (hU : ∀ x ∈ U, ∃ o, h x.1 = some o ∧ tops β x.1 x.2 = tops β x.1 o ∧ objIds x.2 = [])
    (hUo : ∀ x ∈ U, ∀ (av : Nat → Prop) (β' : Env), β'.val x.1 = β.val x.1 → β'.blk x.1 = β.blk x.1 → (∀ b ∈ im, ¬ av b) → ObjR w' av β' x.1 x.2 (φ x.1))
    (him : ∀ b ∈ im, ¬ Av (fun j => match lkN N j with | some x => some x.obj | none => match lkU U j with | some o => some o | none => h j) (β.setN N) b)
    (hfresh : ∀ x ∈ N, h x.id = none ∧ (∀ i, x.id ∉ svIds (f i)) ∧ ∀ k o, h k = some o → x.id ∉ objIds o) (hok : ∀ x ∈ N, NewRow.ok w' x)
    (hnd : (N.flatMap NewRow.blks).Nodup) (hal : ∀ b ∈ N.flatMap NewRow.blks, w.heap.size ≤ b ∧ b < w'.heap.size) :
    Core w0 S f (fun j => match lkN N j with | some x => some x.obj | none => match lkU U j with | some o => some o | none => h j) (β.setN N) (fun j => match lkN N j with | some x => x.blks | none => φ j) tm w' := by
  have hφmem : ∀ x ∈ N, ∀ b ∈ x.blks, b ∈ N.flatMap NewRow.blks := fun x hx b hb => List.mem_flatMap.2 ⟨x, hx, hb⟩
  have hUN : ∀ x ∈ U, lkN N x.1 = none := by
    intro x hx
    cases hl : lkN N x.1 with
    | none => rfl
    | some y =>
      obtain ⟨hm, he⟩ := lkN_mem hl
      obtain ⟨o, ho, _⟩ := hU x hx
      have := (hfresh y hm).1
      rw [he, ho] at this
      cases this
  have htop_eq : ∀ j oj, lkN N j = none → tops (β.setN N) j oj = tops β j oj := by
    intro j oj hj
    cases oj <;> simp [tops, Env.setN, hj]
  have htop_new : ∀ j x, lkN N j = some x → tops (β.setN N) j x.obj = x.v.ownBlock.toList := by
    intro j x hj
    simp [tops, NewRow.obj, Env.setN, hj]
  have hha : ∀ b, Av (fun j => match lkN N j with | some x => some x.obj | none => match lkU U j with | some o => some o | none => h j) (β.setN N) b → Av h β b ∨ (w.heap.size ≤ b ∧ ∃ x ∈ N, b ∈ x.v.ownBlock.toList) := by
    rintro b (⟨j, oj, hj, hbj⟩ | hb)
    case inr => exact .inl (.inr hb)
    cases hl : lkN N j with
    | none =>
      simp only [hl] at hj
      rw [htop_eq j oj hl] at hbj
      cases hu : lkU U j with
      | none =>
        simp only [hu] at hj
        exact .inl (.inl ⟨j, oj, hj, hbj⟩)
      | some o =>
        simp only [hu, Option.some.injEq] at hj
        subst hj
        obtain ⟨o1, ho1, ht, _⟩ := hU _ (lkU_mem hu)
        simp only at ho1 ht
        rw [ht] at hbj
        exact .inl (.inl ⟨j, o1, ho1, hbj⟩)
    | some x =>
      simp only [hl, Option.some.injEq] at hj
      subst hj
      rw [htop_new j x hl] at hbj
      have hx := (lkN_mem hl).1
      exact .inr ⟨(hal b (hφmem x hx b (List.mem_append_left _ hbj))).1, x, hx, hbj⟩
  refine hc.step (fun j => (lkN N j).isSome = true) hs ?_ (fun b hb => (hha b hb).imp id (·.1)) ?_ ?_ ?_ ?_
  · intro b hb hn
    refine hw b hb (fun x hx hbx => hn ?_)
    obtain ⟨o, ho, ht, _⟩ := hU x hx
    rw [ht] at hbx
    exact .inl ⟨x.1, o, ho, hbx⟩
  · intro i j hj hx
    obtain ⟨x, hx⟩ := Option.isSome_iff_exists.1 hx
    obtain ⟨hm, rfl⟩ := lkN_mem hx
    exact (hfresh x hm).2.1 i hj
  · intro j hj
    have : lkN N j = none := by simpa using hj
    simp [Env.setN, this]
  · intro j oj hj
    cases hl : lkN N j with
    | none =>
      simp only [hl] at hj
      cases hu : lkU U j with
      | none =>
        simp only [hu] at hj
        refine .inl ⟨by simp [hl], hj, by simp, ?_, fun b hb => hw b ?_ ?_⟩
        · intro i hi hx
          obtain ⟨x, hx⟩ := Option.isSome_iff_exists.1 hx
          obtain ⟨hm, rfl⟩ := lkN_mem hx
          exact (hfresh x hm).2.2 j oj hj hi
        · exact ((hc.fresh j oj hj).2 b (tops_sub (hc.objs j oj hj) b hb)).2
        · intro x hx hbx
          obtain ⟨o, ho, ht, _⟩ := hU x hx
          rw [ht] at hbx
          have hne : j ≠ x.1 := by
            rintro rfl
            have : lkU U x.1 ≠ none := by
              intro hn
              have : ∀ (U : List (Nat × VObj)), x ∈ U → lkU U x.1 ≠ none := by
                intro U hx
                induction U with
                | nil => simp at hx
                | cons y l ih =>
                  obtain ⟨k, ob⟩ := y
                  simp only [lkU]
                  split
                  · simp
                  · rename_i hne
                    rcases List.mem_cons.1 hx with h1 | h1
                    · subst h1; exact absurd rfl hne
                    · exact ih h1
              exact this U hx hn
            exact this hu
          exact hc.sep j x.1 oj o hne hj ho b (tops_sub (hc.objs j oj hj) b hb) (tops_sub (hc.objs _ o ho) b hbx)
      | some o =>
        simp only [hu, Option.some.injEq] at hj
        subst hj
        have hm := lkU_mem hu
        obtain ⟨o1, ho1, ht, _⟩ := hU _ hm
        simp only at ho1
        refine .inr ⟨?_, ?_, ?_⟩
        · simp only [hl]
          exact hUo _ hm _ _ (by simp [Env.setN, hl]) rfl him
        · simp only [hl]
          exact (hc.fresh j o1 ho1).1
        · simp only [hl]
          intro b hb
          have := (hc.fresh j o1 ho1).2 b hb
          exact ⟨this.1, by omega⟩
    | some x =>
      simp only [hl, Option.some.injEq] at hj
      subst hj
      obtain ⟨hm, rfl⟩ := lkN_mem hl
      obtain ⟨vals, h1, h2⟩ := hok x hm
      have hval : (β.setN N).val x.id = x.v := by simp [Env.setN, hl]
      refine .inr ⟨⟨vals, x.fps, by rw [hval]; exact h1, h2, ?_, by rw [hval]; simp only [hl]; rfl⟩, ?_, ?_⟩
      · intro b hb hx
        have hbφ : b ∈ x.blks := List.mem_append_right _ hb
        have hbig := (hal b (hφmem x hm b hbφ)).1
        rcases hha b hx with hx' | ⟨_, y, hy, hby⟩
        · have := hc.av_lt hk hx'
          omega
        · by_cases hxy : y = x
          · subst hxy
            have := (blks_apart hnd).1 y hm
            unfold NewRow.blks at this
            rw [List.nodup_append] at this
            exact this.2.2 b hby b hb rfl
          · exact (blks_apart hnd).2 y hy x hm hxy b (List.mem_append_left _ hby) hbφ
      · simp only [hl]
        exact (blks_apart hnd).1 x hm
      · simp only [hl]
        intro b hb
        have := hal b (hφmem x hm b hb)
        exact ⟨.inl (by omega), this.2⟩
  · intro i j oi oj hne hi hj b hb
    have key : ∀ j oj, lkN N j = none → (match lkN N j with | some x => some x.obj | none => match lkU U j with | some o => some o | none => h j) = some oj → ∃ o, h j = some o := by
      intro j oj hl hj
      simp only [hl] at hj
      cases hu : lkU U j with
      | none =>
        simp only [hu] at hj
        exact ⟨oj, hj⟩
      | some o =>
        obtain ⟨o1, ho1, _⟩ := hU _ (lkU_mem hu)
        exact ⟨o1, ho1⟩
    cases hli : lkN N i with
    | none =>
      obtain ⟨oi', hi'⟩ := key i oi hli hi
      simp only [hli] at hb
      cases hlj : lkN N j with
      | none =>
        obtain ⟨oj', hj'⟩ := key j oj hlj hj
        simp only
        exact hc.sep i j oi' oj' hne hi' hj' b hb
      | some y =>
        simp only
        intro hby
        have := (hal b (hφmem y (lkN_mem hlj).1 b hby)).1
        have := ((hc.fresh i oi' hi').2 b hb).2
        omega
    | some x =>
      simp only [hli] at hb
      have hxm := (lkN_mem hli).1
      cases hlj : lkN N j with
      | none =>
        obtain ⟨oj', hj'⟩ := key j oj hlj hj
        simp only
        intro hbj
        have := (hal b (hφmem x hxm b hb)).1
        have := ((hc.fresh j oj' hj').2 b hbj).2
        omega
      | some y =>
        simp only
        intro hby
        have hym := (lkN_mem hlj).1
        have hxy : x ≠ y := by
          rintro rfl
          exact hne ((lkN_mem hli).2.symm.trans (lkN_mem hlj).2)
        exact (blks_apart hnd).2 x hxm y hym hxy b hb hby

end

end Go.Proofs.Ytjknoknkbfhelaa.Vm
