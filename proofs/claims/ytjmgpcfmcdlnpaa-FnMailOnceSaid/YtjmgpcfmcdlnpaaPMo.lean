/- What functions of the program compute, in plain Lean, as the value machine runs them. Conditions: none. -/
import Derived.Test.YtjmgpcfmcdlnpaaPMl
import Derived.Test.YtjmgpcfmcdlnpaaPMc
set_option linter.unusedVariables false
set_option linter.unusedSimpArgs false
namespace Go.Proofs.Ytjmgpcfmcdlnpaa.Pl
open Vm
noncomputable section



theorem itN_last {σ : Type} (f : Nat → σ → σ) : ∀ (m i : Nat) (s : σ), itN f (m + 1) i s = f (i + m) (itN f m i s)
  | 0, i, s => rfl
  | m + 1, i, s => by
    rw [itN, itN_last f m (i + 1), itN]
    rw [show i + 1 + m = i + (m + 1) by omega]
/-- However often it is sent: what is handed over once. -/
theorem inn_once {lost : Rows} {x : SMessage} {o0 H1 : SMailbox} {H2 : Int} (h1 : HandleMessage o0 x = (H1, H2)) (h2 : HandleMessage H1 x = (H1, H2)) :
    ∀ (m a : Nat) (o : SMailbox), (o = o0 ∨ o = H1) → lost.length ≤ a + m → (inn lost x (m + 1) a o).1 = H1 ∧ (inn lost x (m + 1) a o).2.1 = H2
  | 0, a, o, ho, hl => by
    have e : HandleMessage o x = (H1, H2) := by rcases ho with rfl | rfl <;> assumption
    unfold inn
    rw [lbI_past (show lost.length ≤ a by omega), lbI_past (show lost.length ≤ a + 1 by omega), e]
    exact ⟨rfl, rfl⟩
  | m + 1, a, o, ho, hl => by
    have e : HandleMessage o x = (H1, H2) := by rcases ho with rfl | rfl <;> assumption
    rw [inn]
    cases lbI lost (a : Int)
    · cases lbI lost ((a + 1 : Nat) : Int)
      · simp only [cond_false, e, and_self]
      · simp only [cond_false, cond_true, e]
        exact inn_once h1 h2 m (a + 2) H1 (.inr rfl) (by omega)
    · simp only [cond_true]
      exact inn_once h1 h2 m (a + 1) o ho (by omega)
def scI (list_ : Rows) (last : Int) (k : Nat) (s : SMailbox × Rows) : SMailbox × Rows := ((HandleMessage s.1 (scX list_ last k)).1, s.2 ++ [[.int (HandleMessage s.1 (scX list_ last k)).2]])
theorem handle_again {n : Int} {b : SMailbox} {x : SMessage} (h : MbIn n b) (hn : n ≤ 1000) (hx : x.Seq = b.Last) : HandleMessage b x = (b, b.Answer) := by
  have hm := h.ok hn
  unfold HandleMessage
  rw [hm, show (x.Seq == b.Last) = true by simpa using hx]
  rfl
theorem sc_ideal {b : SMailbox} {list_ lost : Rows} (hb : MbIn 4 b) (hl : list_.length ≤ 100) : ∀ i, i ≤ list_.length →
    (itN (scF list_ lost b.Last) i 0 (0, b, [])).2 = itN (scI list_ b.Last) i 0 (b, []) ∧ MbIn (4 + (i : Int)) (itN (scI list_ b.Last) i 0 (b, [])).1 ∧ (itN (scI list_ b.Last) i 0 (b, [])).1.Last = b.Last + i ∧
    (itN (scI list_ b.Last) i 0 (b, [])).1.Done = b.Done + i ∧ (itN (scI list_ b.Last) i 0 (b, [])).2.length = i
  | 0, _ => ⟨rfl, by simpa [itN] using hb, by simp [itN], by simp [itN], rfl⟩
  | i + 1, hi => by
    obtain ⟨e1, e2, e3, e4, e5⟩ := sc_ideal (lost := lost) hb hl i (by omega)
    rw [itN_last, itN_last, Nat.zero_add]
    generalize itN (scI list_ b.Last) i 0 (b, []) = s at e1 e2 e3 e4 e5 ⊢
    have hb2 := hb
    obtain ⟨_, _, c, d, _, _⟩ := hb2
    have ex : scX list_ b.Last i = (⟨s.1.Last + 1, rI (nth list_ i) 1, rI (nth list_ i) 2⟩ : SMessage) := by
      unfold scX
      rw [w64_in (n := b.Last + 1) (by omega) (by omega), w64_in (by omega) (by omega), e3]
      congr 1
      omega
    have hn := handle_next (op := rI (nth list_ i) 1) (arg := rI (nth list_ i) 2) e2 (by omega)
    have hin := handle_in (op := rI (nth list_ i) 1) (arg := rI (nth list_ i) 2) e2
    have ha := handle_again (x := (⟨s.1.Last + 1, rI (nth list_ i) 1, rI (nth list_ i) 2⟩ : SMessage)) hin (by omega) rfl
    have key := inn_once (lost := lost) hn ha (lost.length + list_.length + 1) (itN (scF list_ lost b.Last) i 0 (0, b, [])).1 s.1 (.inl rfl) (by omega)
    rw [show lost.length + list_.length + 1 + 1 = lost.length + list_.length + 2 from rfl] at key
    generalize itN (scF list_ lost b.Last) i 0 (0, b, []) = S at e1 key ⊢
    subst e1
    refine ⟨?_, ?_, ?_, ?_, ?_⟩
    · unfold scF scI
      rw [ex]
      simp only [key.1, key.2, hn]
    · unfold scI
      rw [ex]
      simp only [hn]
      rw [show 4 + ((i + 1 : Nat) : Int) = 4 + (i : Int) + 1 by omega]
      exact hin
    · unfold scI
      rw [ex]
      simp only [hn]
      omega
    · unfold scI
      rw [ex]
      simp only [hn]
      omega
    · unfold scI
      simp only [List.length_append, List.length_cons, List.length_nil, e5]
theorem send_ideal {b : SMailbox} {list_ lost : Rows} (hb : MbIn 4 b) (hl : list_.length ≤ 100) (hl2 : lost.length ≤ 1000) : SendCommands b list_ lost = itN (scI list_ b.Last) list_.length 0 (b, []) := by
  unfold SendCommands
  rw [hb.ok (by omega), decide_eq_false (show ¬ 100 < len list_ by simp only [len]; omega), decide_eq_false (show ¬ 1000 < len lost by simp only [len]; omega)]
  exact (sc_ideal hb hl list_.length (Nat.le_refl _)).1

def laws_FnMailOnce_t {α : Type} (bad : α) (k_ : Bool → α) (code : Rows) : α :=
  let z0 : SMailbox × Rows := SendCommands ((DrawMailbox code).1) ((DrawMailbox code).2.1) ((DrawMailbox code).2.2)
  let z1 : SMailbox × Rows := SendCommands ((DrawMailbox code).1) ((DrawMailbox code).2.1) []
  let z2 : Int := z0.1.Done
  let z3 : Int := z0.1.Last
  let z4 : SFilter := z0.1.Filter
  let z5 : Int := z4.Mac
  let z6 : SMessage := (⟨z3, 1, 77⟩ : SMessage)
  let z7 : SMailbox × Int := HandleMessage z0.1 z6
  let z8 : SMailbox := z7.1
  bif big code then k_ true
  else bif andt true (SendCommands_ok ((DrawMailbox code).1) ((DrawMailbox code).2.1) ((DrawMailbox code).2.2)) then
      bif andt true (SendCommands_ok ((DrawMailbox code).1) ((DrawMailbox code).2.1) []) then
        bif bif !(sameInts z0.2 z1.2) then true else bif z2 != (w64 ((((DrawMailbox code).1).Done) + (len ((DrawMailbox code).2.1)))) then true else bif z1.1.Done != z2 then true else bif z3 != (w64 ((((DrawMailbox code).1).Last) + (len ((DrawMailbox code).2.1)))) then true else bif !(sameInts z4.Vlans z1.1.Filter.Vlans) then true else z5 != z1.1.Filter.Mac then k_ false
        else bif andt true (mbSm2 z0.1 z6) then
            k_ (bif MailboxOk z0.1 then bif z7.2 == z0.1.Answer then bif z8.Done == z2 then bif z8.Filter.Mac == z5 then (len z0.2) == (len ((DrawMailbox code).2.1)) else false else false else false else false)
          else bad
      else bad
    else bad
theorem laws_FnMailOnce_c {α : Type} (bad : α) (k_ : Bool → α) (code : Rows) (h_code : WtC (.sl [.int .u8]) (.sl code)) (hok : fitL ((.sl [.int .u8]) :: ([])) (.sl code :: ([])) = true) : laws_FnMailOnce_t bad k_ code = k_ true := by
  have hb0 : MbIn 4 (DrawMailbox code).1 := l35Box_in (l01New code)
  have hln : (DrawMailbox code).2.1.length ≤ 5 ∧ (DrawMailbox code).2.2.length ≤ 15 := l35Script_len (l35Box (l01New code)).2
  unfold laws_FnMailOnce_t
  cases big code
  · simp only [cond_false]
    generalize (DrawMailbox code).1 = b at hb0 ⊢
    generalize (DrawMailbox code).2.1 = list_ at hln ⊢
    generalize (DrawMailbox code).2.2 = lost at hln ⊢
    have s1 := send_ideal (list_ := list_) (lost := lost) hb0 (by omega) (by omega)
    have s2 := send_ideal (list_ := list_) (lost := []) hb0 (by omega) (by simp)
    obtain ⟨_, e2, e3, e4, e5⟩ := sc_ideal (lost := lost) hb0 (show list_.length ≤ 100 by omega) list_.length (Nat.le_refl _)
    have ko : ∀ l, SendCommands_ok b list_ l = true := fun _ => hb0.2.1
    rw [s1, s2]
    generalize itN (scI list_ b.Last) list_.length 0 (b, []) = s at e2 e3 e4 e5 ⊢
    have hb2 := hb0
    obtain ⟨_, _, c, d, e, f⟩ := hb2
    have w1 : w64 (b.Done + len list_) = s.1.Done := by rw [w64_in (by simp only [len]; omega) (by simp only [len]; omega), e4]; rfl
    have w2 : w64 (b.Last + len list_) = s.1.Last := by rw [w64_in (by simp only [len]; omega) (by simp only [len]; omega), e3]; rfl
    have hk : ∀ x, mbSm2 s.1 x = true := fun _ => e2.2.1
    have ha := handle_again (x := (⟨s.1.Last, 1, 77⟩ : SMessage)) e2 (by omega) rfl
    have hm := e2.ok (show 4 + (list_.length : Int) ≤ 1000 by omega)
    have hlen : (len s.2 == len list_) = true := by simp only [len, e5]; simp
    simp only [ko, w1, w2, hk, ha, hm, hlen, sameInts_refl, bne_self_eq_false, beq_self_eq_true, Bool.not_true, andt_true_l, cond_true, cond_false]
  · rfl

end
end Go.Proofs.Ytjmgpcfmcdlnpaa.Pl
