/- The value machine: what each plain operation does in the model. Conditions: as each lemma says. -/
import Derived.Test.YtjknoknkbfhelaaVmD
import Derived.Lib.Strings
namespace Go.Proofs.Ytjknoknkbfhelaa.Vm

/-! ### Objects as functions -/

def fo : List (Nat × Option VObj) → (Nat → Option VObj) → Nat → Option VObj
  | [], h => h
  | (i, x) :: l, h => upd (fo l h) i x

def fc : Option (Nat × Nat × List SV) → (Nat → Option VObj) → Nat → Option VObj
  | none, h => h
  | some (i, off, svs), h => match h i with
    | some (.box t cells) => upd h i (some (.box t (writeCells cells off svs)))
    | _ => h

theorem lkO_erO (h : List (Nat × VObj)) (i j : Nat) : lkO (erO h i) j = if j = i then none else lkO h j := by
  induction h with
  | nil => simp [erO, lkO]
  | cons x l ih =>
    obtain ⟨k, o⟩ := x
    simp only [erO, lkO]
    cases hk : Nat.beq k i
    · simp only [cond_false, lkO]
      cases hj : Nat.beq k j
      · simpa using ih
      · have e1 := Nat.eq_of_beq_eq_true hj
        have e2 := Nat.ne_of_beq_eq_false hk
        subst e1
        simp [e2]
    · have e1 := Nat.eq_of_beq_eq_true hk
      subst e1
      simp only [cond_true]
      rw [ih]
      by_cases hj : j = k
      · simp [hj]
      · have : Nat.beq k j = false := by
          cases hb : Nat.beq k j
          · rfl
          · exact absurd (Nat.eq_of_beq_eq_true hb).symm hj
        simp [hj, this]

theorem lkO_cons (h : List (Nat × VObj)) (i j : Nat) (o : VObj) : lkO ((i, o) :: h) j = if j = i then some o else lkO h j := by
  simp only [lkO]
  cases hk : Nat.beq i j
  · have e2 := Nat.ne_of_beq_eq_false hk
    rw [if_neg (fun e => e2 e.symm)]
    rfl
  · simp [(Nat.eq_of_beq_eq_true hk).symm]

theorem lkO_putO (ow : List (Nat × Option VObj)) (h : List (Nat × VObj)) : lkO (putO ow h) = fo ow (lkO h) := by
  induction ow with
  | nil => rfl
  | cons x l ih =>
    obtain ⟨i, o⟩ := x
    funext j
    cases o with
    | none => simp only [putO, lkO_erO, fo, upd, ih]
    | some o =>
      simp only [putO, lkO_cons, lkO_erO, fo, upd, ih]
      split <;> rfl

theorem lkO_putC (cw : Option (Nat × Nat × List SV)) (h : List (Nat × VObj)) : lkO (putC cw h) = fc cw (lkO h) := by
  cases cw with
  | none => rfl
  | some x =>
    obtain ⟨i, off, svs⟩ := x
    simp only [putC, fc]
    cases hb : lkO h i with
    | none => rfl
    | some b =>
      cases b with
      | box t cells =>
        funext j
        simp only [lkO_cons, lkO_erO, upd]
        split <;> rfl
      | row => rfl
      | imm => rfl

theorem apply_obj (st : St) (d : Option Nat) (e : Eff) : (st.apply d e).obj = fo e.ow (fc e.cw st.obj) := by
  show lkO (putO e.ow (putC e.cw st.hp)) = _
  rw [lkO_putO, lkO_putC]
  rfl

theorem apply_get (st : St) (d : Nat) (e : Eff) : (st.apply (some d) e).get = upd st.get d e.sv := by
  funext i
  show lkV ((d, e.sv) :: st.sl) i = _
  simp only [lkV, upd, St.get]
  cases hk : Nat.beq d i
  · have e2 := Nat.ne_of_beq_eq_false hk
    rw [if_neg (fun h => e2 h.symm)]
    rfl
  · simp [(Nat.eq_of_beq_eq_true hk).symm]

theorem apply_get_none (st : St) (e : Eff) : (st.apply none e).get = st.get := rfl

/-! ### Operations that end in a value -/

def Good (P : Program) (w0 : World) (S : Own) (st : St) (o : Oper) (e : Eff) (a : Act) (w : World) : Prop :=
  ∀ Q, o.wp P a w (fun a' w' => ∃ v, a' = a.put o.dst v ∧ Rel w0 S (st.apply o.dst e) a' w') Q

theorem rel_put {w0 : World} {S : Own} {st : St} {o : Oper} {e : Eff} {a : Act} {w w' : World} {v : Value} (hR : Rel w0 S st a w) (hd : ∀ d, o.dst = some d → DstOk st.n d)
    (hk : Kept S w0 w') (hc : ∃ β φ, Core w0 S st.get (fo e.ow (fc e.cw st.obj)) β φ a.tmps w' ∧ SVR w' (Av (fo e.ow (fc e.cw st.obj)) β) β e.sv v) :
    Rel w0 S (st.apply o.dst e) (a.put o.dst v) w' := by
  obtain ⟨β, φ, hc, hv⟩ := hc
  cases hdst : o.dst with
  | none =>
    refine ⟨hR.size, hR.fx, hR.defers, hk, β, φ, ?_⟩
    rw [apply_obj, apply_get_none]
    exact hc
  | some d =>
    refine ⟨?_, ?_, hR.defers, hk, β, φ, ?_⟩
    · simp only [Act.put, Array.size_setIfInBounds]
      exact hR.size
    · intro x hx
      have h1 := hR.fx x hx
      have h2 := (hd d hdst).2
      refine ⟨h1.1, ?_⟩
      simp only [Act.put, Array.getD_eq_getD_getElem?, Array.getElem?_setIfInBounds]
      rw [if_neg (by omega), ← Array.getD_eq_getD_getElem?]
      exact h1.2
    · rw [apply_obj, apply_get]
      exact hc.put d e.sv v (by rw [hR.size]; exact (hd d hdst).1) hv

theorem good_value {P : Program} {w0 : World} {S : Own} {st : St} {o : Oper} {e : Eff} {a : Act} {w w' : World} {v : Value} (hR : Rel w0 S st a w) (hd : ∀ d, o.dst = some d → DstOk st.n d)
    (hrun : (execOp a.eval o).run P w = .ok (.value v) w') (hk : Kept S w0 w')
    (hc : ∃ β φ, Core w0 S st.get (fo e.ow (fc e.cw st.obj)) β φ a.tmps w' ∧ SVR w' (Av (fo e.ow (fc e.cw st.obj)) β) β e.sv v) : Good P w0 S st o e a w := by
  intro Q
  unfold Oper.wp
  rw [hrun]
  exact ⟨v, rfl, rel_put hR hd hk hc⟩

theorem good_skip {P : Program} {w0 : World} {S : Own} {st : St} {o : Oper} {e : Eff} {a : Act} {w w' : World} (hR : Rel w0 S st a w) (hd : ∀ d, o.dst = some d → DstOk st.n d)
    (hrun : (execOp a.eval o).run P w = .ok .skip w') (hk : Kept S w0 w')
    (hc : ∃ β φ, Core w0 S st.get (fo e.ow (fc e.cw st.obj)) β φ a.tmps w' ∧ SVR w' (Av (fo e.ow (fc e.cw st.obj)) β) β e.sv undef) : Good P w0 S st o e a w := by
  intro Q
  unfold Oper.wp
  rw [hrun]
  exact ⟨undef, rfl, rel_put hR hd hk hc⟩

/-- An operation that turns nothing. -/
theorem good_pure {P : Program} {w0 : World} {S : Own} {st : St} {o : Oper} {e : Eff} {a : Act} {w : World} (hR : Rel w0 S st a w) (hd : ∀ d, o.dst = some d → DstOk st.n d)
    (hcw : e.cw = none) (how : e.ow = [])
    (h : ∀ β φ, Core w0 S st.get st.obj β φ a.tmps w → ∃ v, (execOp a.eval o).run P w = .ok (.value v) w ∧ SVR w (Av st.obj β) β e.sv v) : Good P w0 S st o e a w := by
  obtain ⟨β, φ, hc⟩ := hR.core
  obtain ⟨v, hrun, hv⟩ := h β φ hc
  refine good_value hR hd hrun hR.kept ⟨β, φ, ?_, ?_⟩
  · rw [hcw, how]; exact hc
  · rw [hcw, how]; exact hv

/-! ### Integers -/

theorem inR_iff {k : IntKind} {n : Int} : inR k n = true ↔ k.min ≤ n ∧ n ≤ k.max := by simp [inR]
theorem inR_wrap (k : IntKind) (n : Int) : inR k (k.wrap n) = true := inR_iff.2 (wrap_within k n)
theorem inR_bits (op : BinOp) (k : IntKind) (x y : Int) : inR k (bits op k x y) = true := inR_iff.2 (bits_within op k x y)
theorem min_le_zero (k : IntKind) : k.min ≤ 0 := by cases k <;> decide
theorem zero_le_max (k : IntKind) : 0 ≤ k.max := by cases k <;> decide

theorem tmod_between (x y : Int) : (0 ≤ x → 0 ≤ x.tmod y ∧ x.tmod y ≤ x) ∧ (x ≤ 0 → x ≤ x.tmod y ∧ x.tmod y ≤ 0) := by
  have hpos : ∀ z : Int, 0 ≤ z → 0 ≤ z.tmod y ∧ z.tmod y ≤ z := by
    intro z hz
    refine ⟨Int.tmod_nonneg y hz, ?_⟩
    have h := Int.natAbs_tmod z y
    have h1 : z.natAbs % y.natAbs ≤ z.natAbs := Nat.mod_le _ _
    have h2 := Int.tmod_nonneg y hz
    omega
  refine ⟨hpos x, fun hx => ?_⟩
  have h := hpos (-x) (by omega)
  rw [Int.neg_tmod] at h
  omega

theorem inR_tmod {k : IntKind} {x : Int} (y : Int) (h : inR k x = true) : inR k (x.tmod y) = true := by
  rw [inR_iff] at *
  have h0 := min_le_zero k
  have h1 := zero_le_max k
  have ht := tmod_between x y
  rcases Int.le_total 0 x with hx | hx
  · have := ht.1 hx; omega
  · have := ht.2 hx; omega

theorem fdiv_between (x : Int) (n : Nat) : (0 ≤ x → 0 ≤ x.fdiv (2 ^ n) ∧ x.fdiv (2 ^ n) ≤ x) ∧ (x ≤ 0 → x ≤ x.fdiv (2 ^ n) ∧ x.fdiv (2 ^ n) ≤ 0) := by
  have hm : (1 : Int) ≤ 2 ^ n := by
    have : 0 < 2 ^ n := Nat.two_pow_pos n
    have h2 : ((2 ^ n : Nat) : Int) = (2 : Int) ^ n := by simp
    omega
  rw [Int.fdiv_eq_ediv_of_nonneg x (by omega)]
  generalize (2 : Int) ^ n = m at hm
  refine ⟨fun hx => ⟨Int.ediv_nonneg hx (by omega), Int.ediv_le_self m hx⟩, fun hx => ⟨?_, ?_⟩⟩
  · rw [Int.le_ediv_iff_mul_le (by omega)]
    have := Int.mul_le_mul_of_nonpos_left hx hm
    simpa using this
  · have := Int.ediv_le_ediv (by omega : (0 : Int) < m) hx
    simpa using this

theorem inR_fdiv {k : IntKind} {x : Int} (n : Nat) (h : inR k x = true) : inR k (x.fdiv (2 ^ n)) = true := by
  rw [inR_iff] at *
  have h0 := min_le_zero k
  have h1 := zero_le_max k
  have ht := fdiv_between x n
  rcases Int.le_total 0 x with hx | hx
  · have := ht.1 hx; omega
  · have := ht.2 hx; omega

theorem run_intOp {P : Program} {w : World} {op : BinOp} {k : IntKind} {x y : Int} {t : TypeId} {s : SV} {c : Bool} (h : intOp op k x y = some (s, c)) (hc : c = true) (hx : inR k x = true)
    {av : Nat → Prop} {β : Env} : ∃ v, (binOp op t (.int k x) (.int k y)).run P w = .ok v w ∧ SVR w av β s v := by
  unfold intOp at h
  split at h <;> simp only [Option.some.injEq, Prod.mk.injEq, reduceCtorEq] at h
  all_goals obtain ⟨rfl, hcc⟩ := h
  · exact ⟨_, by simp [binOp, Op.intArith]; rfl, by simp [SVR, inR_wrap]⟩
  · exact ⟨_, by simp [binOp, Op.intArith]; rfl, by simp [SVR, inR_wrap]⟩
  · exact ⟨_, by simp [binOp, Op.intArith]; rfl, by simp [SVR, inR_wrap]⟩
  · have hy : y ≠ 0 := by rw [← hcc] at hc; simpa using hc
    exact ⟨_, by simp [binOp, Op.intDiv, hy]; rfl, by simp [SVR, inR_wrap]⟩
  · have hy : y ≠ 0 := by rw [← hcc] at hc; simpa using hc
    exact ⟨_, by simp [binOp, Op.intDiv, hy]; rfl, by simp [SVR, inR_tmod y hx]⟩
  · exact ⟨.int k (bits .and k x y), by simp only [binOp, ne_eq, not_true_eq_false, if_false]; rfl, by simp [SVR, inR_bits]⟩
  · exact ⟨.int k (bits .or k x y), by simp only [binOp, ne_eq, not_true_eq_false, if_false]; rfl, by simp [SVR, inR_bits]⟩
  · exact ⟨.int k (bits .xor k x y), by simp only [binOp, ne_eq, not_true_eq_false, if_false]; rfl, by simp [SVR, inR_bits]⟩
  · exact ⟨.int k (bits .andNot k x y), by simp only [binOp, ne_eq, not_true_eq_false, if_false]; rfl, by simp [SVR, inR_bits]⟩
  all_goals exact ⟨_, by simp [binOp, Op.intCmp]; rfl, by simp [SVR]⟩

end Go.Proofs.Ytjknoknkbfhelaa.Vm
