/- What functions of the program compute, in plain Lean, as the value machine runs them. Conditions: none. -/
import Derived.Test.YtfnkhejoihnlnaaPFo
import Derived.Test.YtfnkhejoihnlnaaPTk
import Derived.Test.YtfnkhejoihnlnaaPSy
import Derived.Test.YtfnkhejoihnlnaaPPk
set_option linter.unusedVariables false
set_option linter.unusedSimpArgs false
set_option maxRecDepth 100000
namespace Go.Proofs.Ytfnkhejoihnlnaa.Pl
open Vm
noncomputable section


def impl_SpendTokens_t {α : Type} (k_ : SBucket → Bool → α) (b : SBucket) (n : Int) : α :=
  bif bif !(BucketOk b) then true else !(between n 0 b.Tokens) then k_ b false
  else k_ (⟨b.Rate, b.Burst, w64 (b.Tokens - n)⟩ : SBucket) true
def SpendTokens (b : SBucket) (n : Int) : SBucket × Bool := impl_SpendTokens_t (fun r0 r1 => (r0, r1)) b n
theorem impl_SpendTokens_c {α : Type} (k_ : SBucket → Bool → α) (b : SBucket) (n : Int) : impl_SpendTokens_t k_ b n = k_ (SpendTokens b n).1 (SpendTokens b n).2 := by
  exact cond_k (K := fun r : SBucket × Bool => k_ r.1 r.2) rfl rfl

def spec_SpendTokens_t {α : Type} (k_ : SBucket → Bool → α) (b : SBucket) (n : Int) : α :=
  bif bif !(BucketOk b) then true else !(between n 0 b.Tokens) then k_ b false
  else k_ (⟨b.Rate, b.Burst, w64 (b.Tokens - n)⟩ : SBucket) true
theorem spec_SpendTokens_c {α : Type} (k_ : SBucket → Bool → α) (b : SBucket) (n : Int) (h_b : WtL SBucket.ct b.enc) (h_n : WtC (.int .i64) (.int n)) : spec_SpendTokens_t k_ b n = k_ (SpendTokens b n).1 (SpendTokens b n).2 := by
  exact cond_k (K := fun r : SBucket × Bool => k_ r.1 r.2) rfl rfl

def impl_SendFrom_t {α : Type} (bad : α) (k_ : Rows → Rows → Bool → α) (list_ : Rows) (ports : Rows) (k : Int) (p : SPacket) : α :=
  let z0 : Bool := andt true (inl (Int.toNat k) (idf list_))
  let z1 : Bool := !(rB (nth (idf list_) (Int.toNat k)) 5)
  let z2 : Bool := decide (EntryVlan ports (rI (nth (idf list_) (Int.toNat k)) 1) p < 0)
  let z3 : Bool := andt z0 (inl (Int.toNat k) (idf list_))
  let z4 : SBucket × Bool := SpendTokens (SBucket.decAt (nth (idf list_) (Int.toNat k)) 2) (len ((BuildImage p).1))
  let z5 : Rows := List.set (idf list_) (Int.toNat k) (splice (nth (idf list_) (Int.toNat k)) 6 [.int (w64 ((rI (nth (idf list_) (Int.toNat k)) 6) + 1))])
  let z6 : SBucket := z4.1
  let z7 : Rows := List.set z5 (Int.toNat k) (splice (nth z5 (Int.toNat k)) 2 (SBucket.enc z6))
  bif andt true (sm list_) then
    bif bif !(FunctionsOk list_ ports) then true else bif !(PacketOk p) then true else !(between k 0 (w64 ((len list_) - 1))) then k_ (idf list_) [] false
    else bif andt true (idx k (idf list_)) then
        bif z0 then
          bif okm z1 z0 (okm z2 z3 z3) then
            bif bif z1 then true else bif z2 then true else !z4.2 then
              bif z3 then
                k_ (List.set (idf list_) (Int.toNat k) (splice (nth (idf list_) (Int.toNat k)) 7 [.int (w64 ((rI (nth (idf list_) (Int.toNat k)) 7) + 1))])) [] false
              else bad
            else bif z3 then
                bif andt true (inl (Int.toNat k) z5) then
                  bif andt true (inl (Int.toNat k) z7) then
                    k_ z7 (SwitchPacket ports (rI (nth z7 (Int.toNat k)) 1) p) true
                  else bad
                else bad
              else bad
          else bad
        else bad
      else bad
  else bad
def sfSpend (p : SPacket) (r : List DC) : SBucket × Bool := SpendTokens (SBucket.decAt r 2) (len (BuildImage p).1)
def sfNo (ports : Rows) (p : SPacket) (r : List DC) : Bool := bif !(rB r 5) then true else bif decide (EntryVlan ports (rI r 1) p < 0) then true else !(sfSpend p r).2
def sfBad (r : List DC) : List DC := splice r 7 [.int (w64 (rI r 7 + 1))]
def sfSent (p : SPacket) (r : List DC) : List DC := splice (splice r 6 [.int (w64 (rI r 6 + 1))]) 2 (SBucket.enc (sfSpend p r).1)
def SendFrom_ok (list_ ports : Rows) (k : Int) (p : SPacket) : Bool := sm list_
def SendFrom (list_ : Rows) (ports : Rows) (k : Int) (p : SPacket) : Rows × Rows × Bool :=
  bif bif !(FunctionsOk list_ ports) then true else bif !(PacketOk p) then true else !(between k 0 (len list_ - 1)) then (list_, [], false)
  else bif sfNo ports p (nth list_ (Int.toNat k)) then (list_.set (Int.toNat k) (sfBad (nth list_ (Int.toNat k))), [], false)
  else (list_.set (Int.toNat k) (sfSent p (nth list_ (Int.toNat k))), SwitchPacket ports (rI (nth list_ (Int.toNat k)) 1) p, true)
theorem impl_SendFrom_c {α : Type} (bad : α) (k_ : Rows → Rows → Bool → α) (list_ : Rows) (ports : Rows) (k : Int) (p : SPacket) (h_list_ : WtC (.sl [.int .i64, .int .i64, .int .i64, .int .i64, .int .i64, .bool, .int .i64, .int .i64]) (.sl list_)) (h_ports : WtC (.sl [.int .i64, .sl [.int .i64], .int .i64, .bool]) (.sl ports)) (h_k : WtC (.int .i64) (.int k)) (h_p : WtL SPacket.ct p.enc) (hok : SendFrom_ok list_ ports k p = true) : impl_SendFrom_t bad k_ list_ ports k p = k_ (SendFrom list_ ports k p).1 (SendFrom list_ ports k p).2.1 (SendFrom list_ ports k p).2.2 := by
  obtain ⟨hl, hw⟩ := wt_sl h_list_
  have hsm : sm list_ = true := hok
  have hs1 := sm_le hsm
  have hl0 : 0 ≤ len list_ := by simp [len]
  have hl1 : len list_ ≤ 9223372036854775807 := by simp only [len]; omega
  unfold impl_SendFrom_t SendFrom
  rw [show idf list_ = list_ from rfl]
  simp only [hsm, andt_true_l, cond_true]
  have hcmp : (!(between k 0 (w64 (len list_ - 1)))) = !(between k 0 (len list_ - 1)) := by
    rw [w64_in (by omega) (by omega)]
  simp only [hcmp]
  refine cond_c (K := fun r : Rows × Rows × Bool => k_ r.1 r.2.1 r.2.2) (fun _ => rfl) (fun hg => ?_)
  have hb : 0 ≤ k ∧ k < len list_ := by
    cases hc : between k 0 (len list_ - 1)
    · rw [hc] at hg
      cases h1 : FunctionsOk list_ ports <;> cases h2 : PacketOk p <;> rw [h1, h2] at hg <;> cases hg
    · have := between_iff.1 hc
      omega
  have hi : Int.toNat k < list_.length := by simp only [len] at hb; omega
  have x1 : idx k list_ = true := by simp only [len] at hb; simp only [idx, Bool.and_eq_true, decide_eq_true_eq]; omega
  have x2 : inl (Int.toNat k) list_ = true := inl_nat hi
  have x3 : ∀ r : List DC, inl (Int.toNat k) (list_.set (Int.toNat k) r) = true := fun r => inl_nat (by rw [List.length_set]; exact hi)
  have x4 : ∀ r : List DC, idx k (list_.set (Int.toNat k) r) = true := fun r => by rw [idx_setl]; exact x1
  have x5 : ∀ r : List DC, nth (list_.set (Int.toNat k) r) (Int.toNat k) = r := fun r => nth_setl hi r
  have hr := wtl_len (hw (nth list_ (Int.toNat k)) (nth_mem hi))
  simp only [x1, x2, x3, x4, x5, List.set_set, andt_true_l, andt_true_r, okm_tt, cond_true]
  refine cond_c (K := fun r : Rows × Rows × Bool => k_ r.1 r.2.1 r.2.2) (fun _ => rfl) (fun _ => ?_)
  unfold sfSent sfSpend
  generalize nth list_ (Int.toNat k) = r at hr
  match r, hr with
  | [a, b, c, d, e, f, x, y], _ => rfl

def spec_SendFrom_t {α : Type} (bad : α) (k_ : Rows → Rows → Bool → α) (list_ : Rows) (ports : Rows) (k : Int) (p : SPacket) : α :=
  let z0 : Bool := !(rB (nth list_ (Int.toNat k)) 5)
  let z1 : Bool := decide (EntryVlan ports (rI (nth list_ (Int.toNat k)) 1) p < 0)
  let z2 : Bool := andt (andt true (idx k list_)) (idx k list_)
  let z3 : Bool := andt (andt true (idx k list_)) (inl (Int.toNat k) list_)
  let z4 : Rows := List.set list_ (Int.toNat k) (splice (nth list_ (Int.toNat k)) 2 (SBucket.enc ((SpendTokens (SBucket.decAt (nth list_ (Int.toNat k)) 2) (len ((BuildImage p).1))).1)))
  let z5 : Bool := idx k z4
  let z6 : Bool := inl (Int.toNat k) z4
  let z7 : List DC := nth z4 (Int.toNat k)
  bif andt true (room2 64 [] list_) then
    bif bif !(FunctionsOk list_ ports) then true else bif !(PacketOk p) then true else bif decide (k < 0) then true else decide (len list_ ≤ k) then k_ list_ [] false
    else bif andt true (idx k list_) then
        bif okm z0 (andt true (idx k list_)) (okm z1 z2 z2) then
          bif bif z0 then true else bif z1 then true else !((SpendTokens (SBucket.decAt (nth list_ (Int.toNat k)) 2) (len ((BuildImage p).1))).2) then
            bif andt (andt z3 (idx k list_)) (inl (Int.toNat k) list_) then
              k_ (List.set list_ (Int.toNat k) (splice (nth list_ (Int.toNat k)) 7 [.int (w64 ((rI (nth list_ (Int.toNat k)) 7) + 1))])) [] false
            else bad
          else bif z3 then
              bif andt (andt (andt (andt true z5) z6) z5) z6 then
                bif andt true (idx k list_) then
                  k_ (List.set z4 (Int.toNat k) (splice z7 6 [.int (w64 ((rI z7 6) + 1))])) (SwitchPacket ports (rI (nth list_ (Int.toNat k)) 1) p) true
                else bad
              else bad
            else bad
        else bad
      else bad
  else bad
theorem spec_SendFrom_c {α : Type} (bad : α) (k_ : Rows → Rows → Bool → α) (list_ : Rows) (ports : Rows) (k : Int) (p : SPacket) (h_list_ : WtC (.sl [.int .i64, .int .i64, .int .i64, .int .i64, .int .i64, .bool, .int .i64, .int .i64]) (.sl list_)) (h_ports : WtC (.sl [.int .i64, .sl [.int .i64], .int .i64, .bool]) (.sl ports)) (h_k : WtC (.int .i64) (.int k)) (h_p : WtL SPacket.ct p.enc) (hok : SendFrom_ok list_ ports k p = true) : spec_SendFrom_t bad k_ list_ ports k p = k_ (SendFrom list_ ports k p).1 (SendFrom list_ ports k p).2.1 (SendFrom list_ ports k p).2.2 := by
  obtain ⟨hl, hw⟩ := wt_sl h_list_
  have hsm : sm list_ = true := hok
  have hs1 := sm_le hsm
  have hl0 : 0 ≤ len list_ := by simp [len]
  have hl1 : len list_ ≤ 9223372036854775807 := by simp only [len]; omega
  unfold spec_SendFrom_t SendFrom
  have r0 : room2 64 [] list_ = true := room2_sm hsm (by omega)
  simp only [r0, andt_true_l, cond_true]
  have hcmp : (bif decide (k < 0) then true else decide (len list_ ≤ k)) = !(between k 0 (len list_ - 1)) := by
    by_cases h1 : k < 0
    · have : between k 0 (len list_ - 1) = false := by
        cases hb : between k 0 (len list_ - 1)
        · rfl
        · have := between_iff.1 hb; omega
      simp [h1, this]
    · by_cases h2 : len list_ ≤ k
      · have : between k 0 (len list_ - 1) = false := by
          cases hb : between k 0 (len list_ - 1)
          · rfl
          · have := between_iff.1 hb; omega
        simp [h1, h2, this]
      · have : between k 0 (len list_ - 1) = true := between_iff.2 (by omega)
        simp [h1, h2, this]

  simp only [hcmp]
  refine cond_c (K := fun r : Rows × Rows × Bool => k_ r.1 r.2.1 r.2.2) (fun _ => rfl) (fun hg => ?_)
  have hb : 0 ≤ k ∧ k < len list_ := by
    cases hc : between k 0 (len list_ - 1)
    · rw [hc] at hg
      cases h1 : FunctionsOk list_ ports <;> cases h2 : PacketOk p <;> rw [h1, h2] at hg <;> cases hg
    · have := between_iff.1 hc
      omega
  have hi : Int.toNat k < list_.length := by simp only [len] at hb; omega
  have x1 : idx k list_ = true := by simp only [len] at hb; simp only [idx, Bool.and_eq_true, decide_eq_true_eq]; omega
  have x2 : inl (Int.toNat k) list_ = true := inl_nat hi
  have x3 : ∀ r : List DC, inl (Int.toNat k) (list_.set (Int.toNat k) r) = true := fun r => inl_nat (by rw [List.length_set]; exact hi)
  have x4 : ∀ r : List DC, idx k (list_.set (Int.toNat k) r) = true := fun r => by rw [idx_setl]; exact x1
  have x5 : ∀ r : List DC, nth (list_.set (Int.toNat k) r) (Int.toNat k) = r := fun r => nth_setl hi r
  have hr := wtl_len (hw (nth list_ (Int.toNat k)) (nth_mem hi))
  simp only [x1, x2, x3, x4, x5, List.set_set, andt_true_l, andt_true_r, okm_tt, cond_true]
  refine cond_c (K := fun r : Rows × Rows × Bool => k_ r.1 r.2.1 r.2.2) (fun _ => rfl) (fun _ => ?_)
  unfold sfSent sfSpend
  generalize nth list_ (Int.toNat k) = r at hr
  match r, hr with
  | [a, b, c, d, e, f, x, y], _ => rfl

end
end Go.Proofs.Ytfnkhejoihnlnaa.Pl
