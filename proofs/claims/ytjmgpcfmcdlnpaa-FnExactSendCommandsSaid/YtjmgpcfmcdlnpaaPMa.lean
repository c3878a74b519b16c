/- What functions of the program compute, in plain Lean, as the value machine runs them. Conditions: none. -/
import Derived.Test.YtjmgpcfmcdlnpaaPBa
set_option linter.unusedVariables false
set_option linter.unusedSimpArgs false
namespace Go.Proofs.Ytjmgpcfmcdlnpaa.Pl
open Vm
noncomputable section


def impl_MailboxOk_t {α : Type} (k_ : Bool → α) (b : SMailbox) : α :=
  k_ (bif FilterOk b.Filter then bif between b.Last 0 1000000000000 then between b.Done 0 1000000000000 else false else false)
def MailboxOk (b : SMailbox) : Bool := impl_MailboxOk_t id b
theorem impl_MailboxOk_c {α : Type} (k_ : Bool → α) (b : SMailbox) : impl_MailboxOk_t k_ b = k_ (MailboxOk b) := by
  rfl

def spec_MailboxOk_t {α : Type} (k_ : Bool → α) (b : SMailbox) : α :=
  k_ (bif FilterOk b.Filter then bif between b.Last 0 1000000000000 then between b.Done 0 1000000000000 else false else false)
theorem spec_MailboxOk_c {α : Type} (k_ : Bool → α) (b : SMailbox) (h_b : WtL SMailbox.ct b.enc) : spec_MailboxOk_t k_ b = k_ (MailboxOk b) := by
  exact rfl

def laws_FnExactMailboxOk_t {α : Type} (bad : α) (k_ : Bool → α) (aB : SMailbox) : α :=
  bif decide (laws_szMailbox aB 1048576 < 0) then k_ true
  else bif andt true (laws_toMailbox_ok aB) then
      bif andt true (laws_toMailbox_ok aB) then
        bif !((MailboxOk (idf aB)) == (MailboxOk (idf aB))) then k_ false
        else bif andt (andt true (laws_toMailbox_ok aB)) (same (idf aB) (idf aB)) then
            bif !(yes2 (idf aB) (idf aB)) then k_ false
            else k_ true
          else bad
      else bad
    else bad
theorem laws_FnExactMailboxOk_c {α : Type} (bad : α) (k_ : Bool → α) (aB : SMailbox) (h_aB : WtL SMailbox.ct aB.enc) (hok : fitL (SMailbox.ct ++ ([])) (aB.enc ++ ([])) = true) : laws_FnExactMailboxOk_t bad k_ aB = k_ true := by
  unfold laws_FnExactMailboxOk_t
  by_cases c0 : laws_szMailbox aB 1048576 < 0
  · simp only [c0, decide_true, decide_false, cond_true, cond_false]
  have k0 := laws_szMailbox_ok h_aB (by omega) (by omega) (Int.not_lt.1 c0)
  simp only [c0, decide_false, cond_false, cond_true, idf, k0.2, andt_true_l, andt_true_r, same_refl, yes2, beq_self_eq_true, bne_self_eq_false, Bool.not_true, okm_tt]

end
end Go.Proofs.Ytjmgpcfmcdlnpaa.Pl
