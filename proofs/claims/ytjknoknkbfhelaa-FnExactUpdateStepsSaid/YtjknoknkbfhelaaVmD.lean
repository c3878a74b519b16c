/- The value machine: the relation between its states and the model's, and how steps keep it. Conditions: as each lemma says. -/
import Derived.Test.YtjknoknkbfhelaaVmC
namespace Go.Proofs.Ytjknoknkbfhelaa.Vm

/-- A row of the call's own: nil, or a block of its own whose first cells are 'vals'. -/
def OwnR (w : World) (t size : Nat) (fz : Bool) (v : Value) (n : Nat) (vals : List Value) : Prop :=
  vals.length = n * size ∧
  ((v = .slice none 0 0 ∧ n = 0 ∧ fz = false) ∨
   ∃ (g cap : Nat) (cur : Array Value), v = .slice (some ⟨g, 0, none⟩) n cap ∧ w.heap[g]? = some (.cells cur t (bif fz then (cur.size, cur.size + 1) else (0, 0))) ∧
     n ≤ cap ∧ cap ≤ maxLen ∧ cur.size = cap * size ∧ cur.toList.take (n * size) = vals)

/-- The cells of a row read as the rows' data. -/
def InR (w : World) (e : List CT) (rows : List (List DC)) (vals : List Value) (fps : List (List Nat)) : Prop :=
  fps.length = rows.length ∧ ∀ i r f, rows[i]? = some r → fps[i]? = some f → RdL w e r (fun j => vals[i * e.length + j]?) f

def tops (β : Env) (id : Nat) : VObj → List Nat
  | .box _ _ => [β.blk id]
  | .row _ _ _ _ _ => (β.val id).ownBlock.toList
  | .imm _ _ => []

/-- The blocks that may still be written, and those that the call was not handed. -/
def Av (h : Nat → Option VObj) (β : Env) (b : Nat) : Prop := (∃ id o, h id = some o ∧ b ∈ tops β id o) ∨ β.bar b

def ObjR (w : World) (av : Nat → Prop) (β : Env) (id : Nat) : VObj → List Nat → Prop
  | .box t cells, φ => ∃ vs : List Value, w.heap[β.blk id]? = some (.cells vs.toArray t (0, 0)) ∧ SVRL w av β cells vs ∧ (∀ x ∈ vs, x.oneCell' = true) ∧ φ = [β.blk id]
  | .row t e rows fz u, φ => ∃ vals fps, OwnR w t e.length fz (β.val id) rows.length vals ∧ InR w e rows vals fps ∧ (∀ b ∈ fps.flatten, ¬ av b) ∧
      φ = (β.val id).ownBlock.toList ++ (bif u then fps.flatten else [])
  | .imm e rows, φ => SVR w av β (.sl e rows) (β.val id) ∧ φ = []

/-- The old blocks that the call may write; those that it was not handed. -/
structure Own where
  may : Nat → Prop
  bar : Nat → Prop
  fx : List (Nat × Value)
instance : CoeFun Own (fun _ => Nat → Prop) := ⟨Own.may⟩
def Own.none : Own := ⟨fun _ => False, fun _ => False, []⟩

structure Kept (S : Own) (w0 w : World) : Prop where
  os : w.os = w0.os
  tape : w.tape = w0.tape
  output : w.output = w0.output
  size : w0.heap.size ≤ w.heap.size
  block : ∀ k, k < w0.heap.size → ¬ S k → w.heap[k]? = w0.heap[k]?

structure Core (w0 : World) (S : Own) (f : Nat → SV) (h : Nat → Option VObj) (β : Env) (φ : Nat → List Nat) (tm : Array Value) (w : World) : Prop where
  slots : ∀ i, SVR w (Av h β) β (f i) (tm.getD i undef)
  objs : ∀ id o, h id = some o → ObjR w (Av h β) β id o (φ id)
  fresh : ∀ id o, h id = some o → (φ id).Nodup ∧ ∀ b ∈ φ id, (w0.heap.size ≤ b ∨ S b) ∧ b < w.heap.size
  sep : ∀ i j o p, i ≠ j → h i = some o → h j = some p → ∀ b ∈ φ i, b ∉ φ j
  bar : ∀ b, β.bar b → b < w0.heap.size ∧ ¬ S b
  bars : β.bar = S.bar

theorem InR.lt {w : World} {e : List CT} {rows : List (List DC)} {vals : List Value} {fps : List (List Nat)} (h : InR w e rows vals fps) : ∀ b ∈ fps.flatten, b < w.heap.size := by
  intro b hb
  obtain ⟨f, hf, hb⟩ := List.mem_flatten.1 hb
  obtain ⟨i, hi, rfl⟩ := List.getElem_of_mem hf
  have hi' : i < rows.length := by have := h.1; omega
  exact RdL.lt e _ _ _ (h.2 i rows[i] fps[i] (by simp) (by simp)) b hb

theorem InR.mono {w w' : World} {e : List CT} {rows : List (List DC)} {vals : List Value} {fps : List (List Nat)} (h : InR w e rows vals fps) (hs : w.heap.size ≤ w'.heap.size)
    (hb : ∀ b ∈ fps.flatten, w'.heap[b]? = w.heap[b]?) : InR w' e rows vals fps :=
  ⟨h.1, fun i r f hi hf => RdL.mono hs e r _ _ f (h.2 i r f hi hf) (fun _ => rfl) (fun b hx => hb b (List.mem_flatten.2 ⟨f, List.mem_of_getElem? hf, hx⟩))⟩

theorem OwnR.mono {w w' : World} {t size : Nat} {fz : Bool} {v : Value} {n : Nat} {vals : List Value} (h : OwnR w t size fz v n vals)
    (hb : ∀ b ∈ v.ownBlock.toList, w'.heap[b]? = w.heap[b]?) : OwnR w' t size fz v n vals := by
  refine ⟨h.1, ?_⟩
  rcases h.2 with hn | ⟨g, cap, cur, rfl, hg, rest⟩
  · exact .inl hn
  · exact .inr ⟨g, cap, cur, rfl, (hb g (by simp [Value.ownBlock])).trans hg, rest⟩

theorem OwnR.one {w : World} {t size : Nat} {fz : Bool} {v : Value} {n : Nat} {vals : List Value} (h : OwnR w t size fz v n vals) : v.oneCell' = true := by
  rcases h.2 with ⟨rfl, _⟩ | ⟨g, cap, cur, rfl, _⟩ <;> rfl

theorem OwnR.lt {w : World} {t size : Nat} {fz : Bool} {v : Value} {n : Nat} {vals : List Value} (h : OwnR w t size fz v n vals) : ∀ b ∈ v.ownBlock.toList, b < w.heap.size := by
  rcases h.2 with ⟨rfl, _⟩ | ⟨g, cap, cur, rfl, hg, _⟩
  · simp [Value.ownBlock]
  · intro b hb
    simp [Value.ownBlock] at hb
    subst hb
    exact (Array.getElem?_eq_some_iff.1 hg).1

theorem OwnR.owns {w : World} {t size : Nat} {v : Value} {n : Nat} {vals : List Value} (h : OwnR w t size false v n vals) : w.ownsRow 0 t size v n vals := by
  refine ⟨h.1, ?_⟩
  rcases h.2 with ⟨hv, hn, _⟩ | ⟨g, cap, cur, hv, hg, rest⟩
  · exact .inl ⟨hv, hn⟩
  · exact .inr ⟨g, cap, cur, hv, Nat.zero_le _, by simpa using hg, rest⟩

theorem OwnR.ofOwns {w : World} {t size : Nat} {v : Value} {n : Nat} {vals : List Value} {base : Nat} (h : w.ownsRow base t size v n vals) : OwnR w t size false v n vals := by
  refine ⟨h.1, ?_⟩
  rcases h.2 with ⟨hv, hn⟩ | ⟨g, cap, cur, hv, _, hg, rest⟩
  · exact .inl ⟨hv, hn, rfl⟩
  · exact .inr ⟨g, cap, cur, hv, by simpa using hg, rest⟩

theorem tops_sub {w : World} {av : Nat → Prop} {β : Env} {id : Nat} {o : VObj} {φ : List Nat} (h : ObjR w av β id o φ) : ∀ b ∈ tops β id o, b ∈ φ := by
  cases o with
  | box t cells =>
    obtain ⟨vs, _, _, _, rfl⟩ := h
    simp [tops]
  | row t e rows fz u =>
    obtain ⟨vals, fps, _, _, _, rfl⟩ := h
    intro b hb
    exact List.mem_append_left _ hb
  | imm e rows => simp [tops]

theorem ObjR.mono {w w' : World} {av av' : Nat → Prop} {β β' : Env} {id : Nat} {o : VObj} {φ : List Nat} (h : ObjR w av β id o φ) (hs : w.heap.size ≤ w'.heap.size)
    (hw : ∀ b, b < w.heap.size → ¬ av b → w'.heap[b]? = w.heap[b]?) (ha : ∀ b, av' b → av b ∨ w.heap.size ≤ b)
    (hβ : ∀ i, i = id ∨ i ∈ objIds o → β'.val i = β.val i ∧ β'.blk i = β.blk i) (ht : ∀ b ∈ tops β id o, w'.heap[b]? = w.heap[b]?) : ObjR w' av' β' id o φ := by
  have key : ∀ x, x < w.heap.size → ¬ av x → ¬ av' x := fun x hx hn hx' => by
    rcases ha x hx' with h | h
    · exact hn h
    · omega
  have h0 := hβ id (.inl rfl)
  cases o with
  | box t cells =>
    obtain ⟨vs, h1, h2, h3, rfl⟩ := h
    refine ⟨vs, ?_, SVRL.mono hs hw ha _ _ h2 (fun i hi => hβ i (.inr hi)), h3, by rw [h0.2]⟩
    rw [h0.2, ht _ (by simp [tops])]
    exact h1
  | row t e rows fz u =>
    obtain ⟨vals, fps, h1, h2, h3, rfl⟩ := h
    refine ⟨vals, fps, ?_, h2.mono hs (fun b hb => hw b (h2.lt b hb) (h3 b hb)), fun b hb => key b (h2.lt b hb) (h3 b hb), by rw [h0.1]⟩
    rw [h0.1]
    exact h1.mono ht
  | imm e rows =>
    obtain ⟨h1, rfl⟩ := h
    refine ⟨?_, rfl⟩
    rw [h0.1]
    exact SVR.mono hs hw ha _ _ h1 (by simp [svIds])

theorem Core.step {w0 : World} {S : Own} {f : Nat → SV} {h h' : Nat → Option VObj} {β β' : Env} {φ φ' : Nat → List Nat} {tm : Array Value} {w w' : World}
    (hc : Core w0 S f h β φ tm w) (X : Nat → Prop)
    (hs : w.heap.size ≤ w'.heap.size) (hw : ∀ b, b < w.heap.size → ¬ Av h β b → w'.heap[b]? = w.heap[b]?) (ha : ∀ b, Av h' β' b → Av h β b ∨ w.heap.size ≤ b)
    (hf : ∀ i, ∀ id ∈ svIds (f i), ¬ X id) (hβ : ∀ id, ¬ X id → β'.val id = β.val id ∧ β'.blk id = β.blk id)
    (hk : ∀ id o, h' id = some o →
      (¬ X id ∧ h id = some o ∧ φ' id = φ id ∧ (∀ i ∈ objIds o, ¬ X i) ∧ ∀ b ∈ tops β id o, w'.heap[b]? = w.heap[b]?) ∨
      (ObjR w' (Av h' β') β' id o (φ' id) ∧ (φ' id).Nodup ∧ ∀ b ∈ φ' id, (w0.heap.size ≤ b ∨ S b) ∧ b < w'.heap.size))
    (hsep : ∀ i j o p, i ≠ j → h' i = some o → h' j = some p → ∀ b ∈ φ' i, b ∉ φ' j) (hbar : β'.bar = β.bar := by rfl) : Core w0 S f h' β' φ' tm w' where
  slots i := SVR.mono hs hw ha _ _ (hc.slots i) (fun id hid => hβ id (hf i id hid))
  objs id o ho := by
    rcases hk id o ho with ⟨hx, h1, h2, h3, h4⟩ | h1
    · rw [h2]
      exact (hc.objs id o h1).mono hs hw ha (fun i hi => hβ i (hi.elim (fun e => e ▸ hx) (h3 i))) h4
    · exact h1.1
  fresh id o ho := by
    rcases hk id o ho with ⟨hx, h1, h2, h3, h4⟩ | h1
    · rw [h2]
      refine ⟨(hc.fresh id o h1).1, fun b hb => ?_⟩
      have := (hc.fresh id o h1).2 b hb
      exact ⟨this.1, by omega⟩
    · exact h1.2
  sep := hsep
  bar b hb := hc.bar b (hbar ▸ hb)
  bars := hbar.trans hc.bars

theorem Core.av_lt {w0 : World} {S : Own} {f : Nat → SV} {h : Nat → Option VObj} {β : Env} {φ : Nat → List Nat} {tm : Array Value} {w : World} (hc : Core w0 S f h β φ tm w) (hk : w0.heap.size ≤ w.heap.size) {b : Nat} (hb : Av h β b) : b < w.heap.size := by
  rcases hb with ⟨j, oj, hj, hbj⟩ | hb
  · exact ((hc.fresh j oj hj).2 b (tops_sub (hc.objs j oj hj) b hbj)).2
  · have := (hc.bar b hb).1
    omega

/-- What an object owns was not kept from the call. -/
theorem Core.not_bar {w0 : World} {S : Own} {f : Nat → SV} {h : Nat → Option VObj} {β : Env} {φ : Nat → List Nat} {tm : Array Value} {w : World} (hc : Core w0 S f h β φ tm w) {j : Nat} {oj : VObj} (hj : h j = some oj) {b : Nat} (hb : b ∈ φ j) : ¬ β.bar b := by
  intro hx
  have h1 := hc.bar b hx
  rcases ((hc.fresh j oj hj).2 b hb).1 with h2 | h2
  · omega
  · exact h1.2 h2

def upd {α : Type} (f : Nat → α) (d : Nat) (x : α) : Nat → α := fun i => if i = d then x else f i

theorem Core.put {w0 : World} {S : Own} {f : Nat → SV} {h : Nat → Option VObj} {β : Env} {φ : Nat → List Nat} {tm : Array Value} {w : World}
    (hc : Core w0 S f h β φ tm w) (d : Nat) (s : SV) (v : Value) (hd : d < tm.size) (hv : SVR w (Av h β) β s v) : Core w0 S (upd f d s) h β φ (tm.setIfInBounds d v) w where
  slots i := by
    by_cases hi : i = d
    · subst hi
      simpa [upd, Array.getD, hd] using hv
    · have := hc.slots i
      have e : (tm.setIfInBounds d v).getD i undef = tm.getD i undef := by
        simp only [Array.getD_eq_getD_getElem?, Array.getElem?_setIfInBounds]
        rw [if_neg (fun e => hi e.symm)]
      rw [e]
      simpa [upd, hi] using this
  objs := hc.objs
  fresh := hc.fresh
  sep := hc.sep
  bar := hc.bar
  bars := hc.bars

structure Rel (w0 : World) (S : Own) (st : St) (a : Act) (w : World) : Prop where
  size : a.tmps.size = st.n % 1099511627776
  fx : ∀ x ∈ S.fx, x.1 < st.n / 1099511627776 ∧ a.tmps.getD x.1 undef = x.2
  defers : a.defers = []
  kept : Kept S w0 w
  core : ∃ β φ, Core w0 S st.get st.obj β φ a.tmps w

/-- The value of a reading computation, without what it read. -/
def M.val {α : Type} (f : Nat → SV) (h : Nat → Option VObj) : M α → Option α
  | .pure a => some a
  | .fail => none
  | .slot i k => (k (f i)).val f h
  | .obj i k => match h i with
    | some x => (k x).val f h
    | none => none

theorem M.val_of_run {α : Type} {f : Nat → SV} {h : Nat → Option VObj} : ∀ (m : M α) {a : α} {s o : List Nat}, m.run f h = some (a, s, o) → m.val f h = some a
  | .pure a, _, _, _, e => by simp only [M.run, Option.some.injEq, Prod.mk.injEq] at e; simp [M.val, e.1]
  | .fail, _, _, _, e => by simp [M.run] at e
  | .slot i k, a, s, o, e => by
    simp only [M.run] at e
    split at e
    · rename_i b s' o' hk
      simp only [Option.some.injEq, Prod.mk.injEq] at e
      obtain ⟨rfl, _, _⟩ := e
      exact M.val_of_run (k (f i)) hk
    · cases e
  | .obj i k, a, s, o, e => by
    simp only [M.run] at e
    split at e
    · rename_i x hx
      split at e
      · rename_i b s' o' hk
        simp only [Option.some.injEq, Prod.mk.injEq] at e
        obtain ⟨rfl, _, _⟩ := e
        simp only [M.val, hx]
        exact M.val_of_run (k x) hk
      · cases e
    · cases e

@[simp] theorem M.val_bind {α β : Type} {f : Nat → SV} {h : Nat → Option VObj} (k : α → M β) : ∀ (m : M α), (m.bind k).val f h = (m.val f h).bind fun a => (k a).val f h
  | .pure a => rfl
  | .fail => rfl
  | .slot i q => by simp only [M.bind, M.val]; exact M.val_bind k (q (f i))
  | .obj i q => by
    simp only [M.bind, M.val]
    cases h i with
    | none => rfl
    | some x => exact M.val_bind k (q x)

@[simp] theorem M.val_pure {α : Type} {f : Nat → SV} {h : Nat → Option VObj} (a : α) : (M.pure a).val f h = some a := rfl
@[simp] theorem M.val_fail {α : Type} {f : Nat → SV} {h : Nat → Option VObj} : (M.fail : M α).val f h = none := rfl
@[simp] theorem M.val_obj {α : Type} {f : Nat → SV} {h : Nat → Option VObj} (i : Nat) (k : VObj → M α) : (M.obj i k).val f h = (h i).bind fun x => (k x).val f h := by
  simp only [M.val]
  cases h i <;> rfl
@[simp] theorem M.val_slot {α : Type} {f : Nat → SV} {h : Nat → Option VObj} (i : Nat) (k : SV → M α) : (M.slot i k).val f h = (k (f i)).val f h := rfl

def evS (f : Nat → SV) : Operand → SV
  | .tmp t => f t
  | .const v => ofConst v
  | _ => .unk

theorem evM_val {f : Nat → SV} {h : Nat → Option VObj} {x : Operand} {s : SV} (e : (evM x).val f h = some s) : s = evS f x := by
  cases x <;> simp [evM, M.val] at e <;> simp [evS, e]

theorem ofConst_ok {w : World} {av : Nat → Prop} {β : Env} (v : Value) : SVR w av β (ofConst v) v := by
  unfold ofConst
  split
  · simp [SVR]
  · rename_i k n
    cases hi : inR k n <;> simp [SVR, hi]
  · rename_i s
    cases hi : Nat.ble s.data.toList.length maxLen
    · simp [SVR]
    · simp only [cond_true, SVR]
      exact ⟨by simp, Nat.le_of_ble_eq_true hi⟩
  · simp [SVR]
  · simp [SVR]

theorem Core.ev {w0 : World} {S : Own} {f : Nat → SV} {h : Nat → Option VObj} {β : Env} {φ : Nat → List Nat} {a : Act} {w : World}
    (hc : Core w0 S f h β φ a.tmps w) {x : Operand} {s : SV} (e : (evM x).val f h = some s) : SVR w (Av h β) β s (a.eval x) := by
  have := evM_val e
  subst this
  cases x with
  | tmp t => exact hc.slots t
  | const v => exact ofConst_ok v
  | global g => simp [evS, SVR]
  | func g => simp [evS, SVR]

end Go.Proofs.Ytjknoknkbfhelaa.Vm
