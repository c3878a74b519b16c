/- The value machine: a loop inside a body, and what is proved of it round by round. Conditions: none. -/
import Derived.Test.YtjknoknkbfhelaaVmZB
namespace Go.Proofs.Ytjknoknkbfhelaa.Vm

/-- The code at a place of a body, and what follows it there. -/
def focus (P : Program) (Γ : Ctx) (A : List (Nat × Ann)) (N : Nat) : List Bool → List (St → Res) → Code → Kont → Code × Kont
  | [], _, c, K => (c, K)
  | x :: p, is, c, K =>
    match c with
    | .seq a b => bif x then focus P Γ A N p is b K else focus P Γ A N p is a { nrm := fun s => run P Γ A N b s K, ext := K.ext, ret := K.ret }
    | .cond _ a b => bif x then focus P Γ A N p is b K else focus P Γ A N p is a K
    | .block id a => focus P Γ A N p is a { nrm := K.nrm, ext := fun i s => bif Nat.beq i id then K.nrm s else K.ext i s, ret := K.ret }
    | .loop a => match is, (firstReg a).bind (lkA A) with
      | ih :: is', some an => focus P Γ A N p is' a { nrm := fun s' => ih (canon P an s'), ext := K.ext, ret := K.ret }
      | _, _ => (c, K)
    | _ => (c, K)

/-- One round of the loop at a place of a function's body. -/
def loopB (P : Program) (Γ : Ctx) (A : List (Nat × Ann)) (N : Nat) (fn : Func) (s : Sum) (p : List Bool) (is : List (St → Res)) (ih : St → Res) (st : St) : Res :=
  match fn.body with
  | some c => match focus P Γ A N p is c { nrm := fin P fn s, ext := fun _ _ => bad, ret := fin P fn s } with
    | (.loop a, K) => match (firstReg a).bind (lkA A) with
      | some an => run P Γ A N a st { nrm := fun s' => ih (canon P an s'), ext := K.ext, ret := K.ret }
      | none => bad
    | _ => bad
  | none => bad

def loopN (B : (St → Res) → St → Res) (n : Nat) : St → Res := Nat.rec (motive := fun _ => St → Res) (fun _ => bad) (fun _ ih s => B ih s) n

/-- Rounds of the machine's loop are rounds of a plain one. -/
theorem loopN_eq {V : Type} {B : (St → Res) → St → Res} {C : (V → Res) → V → Res} {m : V → St} (h : ∀ ih v, B ih (m v) = C (fun v => ih (m v)) v) (n : Nat) :
    (fun v => loopN B n (m v)) = Nat.rec (motive := fun _ => V → Res) (fun _ => bad) (fun _ ih v => C ih v) n := by
  induction n with
  | zero => rfl
  | succ n ih =>
    funext v
    show B (loopN B n) (m v) = C _ v
    rw [h, ih]

theorem cond_k {α β : Type} {c : Bool} {x y : α} {a b : β} {K : β → α} (h1 : x = K a) (h2 : y = K b) : (bif c then x else y) = K (bif c then a else b) := by
  cases c
  · exact h2
  · exact h1

theorem ctx_nil {P : Program} : CtxHolds P [] := fun _ _ h => by simp [lkS] at h
theorem ctx_cons {P : Program} {g : Nat} {s : Sum} {Γ : Ctx} (h : HoldsAny P g s) (hΓ : CtxHolds P Γ) : CtxHolds P ((g, s) :: Γ) := by
  intro g' s' h'
  simp only [lkS] at h'
  cases hb : Nat.beq g g'
  · rw [hb] at h'; exact hΓ g' s' h'
  · rw [hb] at h'
    have := Nat.eq_of_beq_eq_true hb
    subst this
    simp only [cond_true, Option.some.injEq] at h'
    subst h'
    exact h

end Go.Proofs.Ytjknoknkbfhelaa.Vm
