/- What functions of the program compute, in plain Lean, as the value machine runs them. Conditions: none. -/
import Derived.Test.YtbcjbeckcgoanaaPPa
set_option linter.unusedVariables false
set_option linter.unusedSimpArgs false
namespace Go.Proofs.Ytbcjbeckcgoanaa.Pl
open Vm
noncomputable section


def impl_copyInts_t {α : Type} (bad : α) (k_ : Rows → α) (l : Rows) : α :=
  bif andt true (room2 8 [] l) then
    k_ l
  else bad
theorem impl_copyInts_c {α : Type} (bad : α) (k_ : Rows → α) (l : Rows) (h_l : WtC (.sl [.int .i64]) (.sl l)) (hok : sm l = true) : impl_copyInts_t bad k_ l = k_ (idf l) := by
  unfold impl_copyInts_t
  rw [room2_sm hok (show 8 ≤ 8388608 by omega)]
  rfl

def impl_copyPause_t {α : Type} (bad : α) (k_ : SPauseLink → α) (p : SPauseLink) : α :=
  bif andt true (sm p.Flying) then
    bif andt true (room2 1 [] p.Signals) then
      k_ (⟨p.Capacity, p.High, p.Low, p.Delay, p.Fill, p.Paused, idf p.Flying, p.Signals, p.Stopped, p.Lost⟩ : SPauseLink)
    else bad
  else bad
def plSm (p : SPauseLink) : Bool := bif sm p.Flying then sm p.Signals else false
theorem plSm_iff {p : SPauseLink} : plSm p = true ↔ sm p.Flying = true ∧ sm p.Signals = true := by
  unfold plSm
  cases sm p.Flying <;> simp
theorem impl_copyPause_c {α : Type} (bad : α) (k_ : SPauseLink → α) (p : SPauseLink) (h_p : WtL SPauseLink.ct p.enc) (hok : plSm p = true) : impl_copyPause_t bad k_ p = k_ (idf p) := by
  obtain ⟨h1, h2⟩ := plSm_iff.1 hok
  unfold impl_copyPause_t
  simp only [h1, room2_sm h2 (show 1 ≤ 8388608 by omega), andt_true_l, cond_true, idf]

def spec_l31Copy_t {α : Type} (bad : α) (k_ : SPauseLink → α) (p : SPauseLink) : α :=
  bif andt true (room2 8 [] p.Flying) then
    bif andt true (room2 1 [] p.Signals) then
      k_ p
    else bad
  else bad
theorem spec_l31Copy_c {α : Type} (bad : α) (k_ : SPauseLink → α) (p : SPauseLink) (h_p : WtL SPauseLink.ct p.enc) (hok : plSm p = true) : spec_l31Copy_t bad k_ p = k_ (idf p) := by
  obtain ⟨h1, h2⟩ := plSm_iff.1 hok
  unfold spec_l31Copy_t
  simp only [room2_sm h1 (show 8 ≤ 8388608 by omega), room2_sm h2 (show 1 ≤ 8388608 by omega), andt_true_l, cond_true, idf]


theorem subL_one {α : Type} (l : List α) : subL l 1 = l.drop 1 := by simp [subL]
theorem PauseOk_len {p : SPauseLink} (h : PauseOk p = true) : 1 ≤ p.Flying.length ∧ p.Flying.length ≤ 8 ∧ p.Signals.length = p.Flying.length := by
  cases hd : between p.Delay 1 8
  · rw [PauseOk_delay hd] at h; cases h
  · obtain ⟨d1, d2⟩ := between_of hd
    unfold PauseOk at h
    cases hc : (bif decide (p.Low < 0) then true else bif decide (p.High < p.Low) then true else bif decide (p.Capacity < p.High) then true else bif decide (1000 < p.Capacity) then true else bif !(between p.Delay 1 8) then true else bif !(between p.Fill 0 p.Capacity) then true else !(between p.Lost 0 1000000000000))
    · rw [hc] at h
      cases ha : p.Flying.all (fun r => between (rI r 0) 0 1000)
      · rw [ha] at h; cases h
      · rw [ha] at h
        cases hl : (len p.Flying) == p.Delay
        · rw [hl] at h; cases h
        · rw [hl] at h
          have h1 : len p.Flying = p.Delay := by simpa using hl
          have h2 : len p.Signals = p.Delay := by simpa using h
          simp only [len] at h1 h2
          omega
    · rw [hc] at h; cases h
def ptF (p : SPauseLink) : Int := bif decide (w64 (p.Fill + rI (nth p.Flying 0) 0) ≤ p.Capacity) then w64 (p.Fill + rI (nth p.Flying 0) 0) else p.Fill
def ptL (p : SPauseLink) : Int := bif decide (w64 (p.Fill + rI (nth p.Flying 0) 0) ≤ p.Capacity) then p.Lost else w64 (p.Lost + rI (nth p.Flying 0) 0)
def ptD (p : SPauseLink) (drain : Int) : Int := maxI (w64 (ptF p - drain)) 0
def ptP (p : SPauseLink) (drain : Int) : Bool := bif decide (ptD p drain ≤ p.Low) then false else bif decide (p.High < ptD p drain) then true else p.Paused
def PauseTick_ok (p : SPauseLink) (offer : Int) (drain : Int) : Bool := plSm p
def PauseTick (p : SPauseLink) (offer : Int) (drain : Int) : SPauseLink × Int :=
  bif bif !(PauseOk p) then true else bif !(between offer 0 1000) then true else !(between drain 0 1000) then (p, 0)
  else (⟨p.Capacity, p.High, p.Low, p.Delay, ptD p drain, ptP p drain, p.Flying.drop 1 ++ [[.int (bif rB (nth p.Signals 0) 0 then 0 else offer)]], p.Signals.drop 1 ++ [[.bool (ptP p drain)]], rB (nth p.Signals 0) 0, ptL p⟩, bif rB (nth p.Signals 0) 0 then 0 else offer)
theorem pt_cond {p : SPauseLink} {a b : Bool} (h : (bif !(PauseOk p) then true else bif a then true else b) = false) : PauseOk p = true := by
  cases h1 : PauseOk p
  · rw [h1] at h; cases h
  · rfl
theorem PauseTick_len (p : SPauseLink) (o d : Int) : (PauseTick p o d).1.Flying.length = p.Flying.length ∧ (PauseTick p o d).1.Signals.length = p.Signals.length := by
  unfold PauseTick
  cases hc : (bif !(PauseOk p) then true else bif !(between o 0 1000) then true else !(between d 0 1000))
  · obtain ⟨h1, h2, h3⟩ := PauseOk_len (pt_cond hc)
    simp only [cond_false, List.length_append, List.length_drop, List.length_cons, List.length_nil]
    omega
  · exact ⟨rfl, rfl⟩
theorem PauseTick_sm {p : SPauseLink} (h : plSm p = true) (o d : Int) : plSm (PauseTick p o d).1 = true := by
  obtain ⟨h1, h2⟩ := plSm_iff.1 h
  obtain ⟨e1, e2⟩ := PauseTick_len p o d
  rw [plSm_iff]
  simp only [sm, e1, e2]
  exact ⟨h1, h2⟩

def impl_PauseTick_t {α : Type} (bad : α) (k_ : SPauseLink → Int → α) (p : SPauseLink) (offer : Int) (drain : Int) : α :=
  let z0 : Bool := andt true (idx 0 p.Flying)
  let z1 : Int := w64 (((idf p).Fill) + (rI (nth p.Flying 0) 0))
  let z2 : Int := maxI (w64 (z1 - drain)) 0
  let z3 : Bool := decide (z2 ≤ (idf p).Low)
  let z4 : Bool := andt (andt (andt true (okL p.Flying 1)) (sm (subL p.Flying 1))) (room2 8 (idf (subL p.Flying 1)) ([[.int (bif rB (nth p.Signals 0) 0 then 0 else offer)]]))
  let z5 : Bool := andt (andt true (okL p.Signals 1)) (room2 1 [] (subL p.Signals 1))
  let z6 : Bool := andt z5 (room2 1 (subL p.Signals 1) ([[.bool false]]))
  let z7 : Rows := (idf (subL p.Flying 1)) ++ ([[.int (bif rB (nth p.Signals 0) 0 then 0 else offer)]])
  let z8 : Rows := (subL p.Signals 1) ++ ([[.bool false]])
  let z9 : SPauseLink := (⟨(idf p).Capacity, (idf p).High, (idf p).Low, (idf p).Delay, z2, false, z7, z8, rB (nth p.Signals 0) 0, (idf p).Lost⟩ : SPauseLink)
  let z10 : Int := bif rB (nth p.Signals 0) 0 then 0 else offer
  let z11 : Bool := andt z5 (room2 1 (subL p.Signals 1) ([[.bool true]]))
  let z12 : Rows := (subL p.Signals 1) ++ ([[.bool true]])
  let z13 : Bool := andt z5 (room2 1 (subL p.Signals 1) ([[.bool ((idf p).Paused)]]))
  let z14 : Rows := (subL p.Signals 1) ++ ([[.bool ((idf p).Paused)]])
  let z15 : Int := maxI (w64 (((idf p).Fill) - drain)) 0
  let z16 : Bool := decide (z15 ≤ (idf p).Low)
  let z17 : Int := w64 (((idf p).Lost) + (rI (nth p.Flying 0) 0))
  let z18 : SPauseLink := (⟨(idf p).Capacity, (idf p).High, (idf p).Low, (idf p).Delay, z15, false, z7, z8, rB (nth p.Signals 0) 0, z17⟩ : SPauseLink)
  bif andt true (plSm p) then
    bif bif !(PauseOk p) then true else bif !(between offer 0 1000) then true else !(between drain 0 1000) then k_ (idf p) 0
    else bif andt true (idx 0 p.Signals) then
        bif z0 then
          bif decide (z1 ≤ (idf p).Capacity) then
            bif z0 then
              bif decide ((idf p).High < z2) then
                bif z3 then
                  bif z4 then
                    bif z6 then
                      k_ z9 z10
                    else bad
                  else bad
                else bif z4 then
                    bif z11 then
                      k_ (⟨(idf p).Capacity, (idf p).High, (idf p).Low, (idf p).Delay, z2, true, z7, z12, rB (nth p.Signals 0) 0, (idf p).Lost⟩ : SPauseLink) z10
                    else bad
                  else bad
              else bif z3 then
                bif z4 then
                  bif z6 then
                    k_ z9 z10
                  else bad
                else bad
              else bif z4 then
                  bif z13 then
                    k_ (⟨(idf p).Capacity, (idf p).High, (idf p).Low, (idf p).Delay, z2, (idf p).Paused, z7, z14, rB (nth p.Signals 0) 0, (idf p).Lost⟩ : SPauseLink) z10
                  else bad
                else bad
            else bad
          else bif z0 then
              bif decide ((idf p).High < z15) then
                bif z16 then
                  bif z4 then
                    bif z6 then
                      k_ z18 z10
                    else bad
                  else bad
                else bif z4 then
                    bif z11 then
                      k_ (⟨(idf p).Capacity, (idf p).High, (idf p).Low, (idf p).Delay, z15, true, z7, z12, rB (nth p.Signals 0) 0, z17⟩ : SPauseLink) z10
                    else bad
                  else bad
              else bif z16 then
                bif z4 then
                  bif z6 then
                    k_ z18 z10
                  else bad
                else bad
              else bif z4 then
                  bif z13 then
                    k_ (⟨(idf p).Capacity, (idf p).High, (idf p).Low, (idf p).Delay, z15, (idf p).Paused, z7, z14, rB (nth p.Signals 0) 0, z17⟩ : SPauseLink) z10
                  else bad
                else bad
            else bad
        else bad
      else bad
  else bad
theorem impl_PauseTick_c {α : Type} (bad : α) (k_ : SPauseLink → Int → α) (p : SPauseLink) (offer : Int) (drain : Int) (h_p : WtL SPauseLink.ct p.enc) (h_offer : WtC (.int .i64) (.int offer)) (h_drain : WtC (.int .i64) (.int drain)) (hok : PauseTick_ok p offer drain = true) : impl_PauseTick_t bad k_ p offer drain = k_ (PauseTick p offer drain).1 (PauseTick p offer drain).2 := by
  obtain ⟨s1, s2⟩ := plSm_iff.1 (show plSm p = true from hok)
  unfold impl_PauseTick_t PauseTick
  have hcp : plSm p = true := hok
  simp only [idf, hcp, andt_true_l, cond_true]
  refine cond_c (K := fun r : SPauseLink × Int => k_ r.1 r.2) (fun _ => rfl) (fun hg => ?_)
  obtain ⟨l1, l2, l3⟩ := PauseOk_len (pt_cond hg)
  have i1 : idx 0 p.Flying = true := by simp only [idx, Bool.and_eq_true, decide_eq_true_eq]; omega
  have i2 : idx 0 p.Signals = true := by simp only [idx, Bool.and_eq_true, decide_eq_true_eq]; omega
  have o1 : okL p.Flying 1 = true := by simp only [okL, Bool.and_eq_true, decide_eq_true_eq]; omega
  have o2 : okL p.Signals 1 = true := by simp only [okL, Bool.and_eq_true, decide_eq_true_eq]; omega
  have q1 : sm (p.Flying.drop 1) = true := by simp only [sm, List.length_drop, decide_eq_true_eq]; omega
  have q2 : ∀ x : List DC, room2 8 (p.Flying.drop 1) [x] = true := fun x => room2_le (by simp only [List.length_drop, List.length_cons, List.length_nil]; omega) (by omega)
  have q3 : room2 1 [] (p.Signals.drop 1) = true := room2_le (by simp only [List.length_drop, List.length_nil]; omega) (by omega)
  have q4 : ∀ x : List DC, room2 1 (p.Signals.drop 1) [x] = true := fun x => room2_le (by simp only [List.length_drop, List.length_cons, List.length_nil]; omega) (by omega)

  simp only [i1, i2, o1, o2, subL_one, q1, q2, q3, q4, andt_true_l, andt_true_r, cond_true]
  unfold ptP ptD ptL ptF
  by_cases c1 : w64 (p.Fill + rI (nth p.Flying 0) 0) ≤ p.Capacity
  · simp only [c1, decide_true, cond_true]
    by_cases c2 : p.High < maxI (w64 (w64 (p.Fill + rI (nth p.Flying 0) 0) - drain)) 0 <;> by_cases c3 : maxI (w64 (w64 (p.Fill + rI (nth p.Flying 0) 0) - drain)) 0 ≤ p.Low <;> simp only [c2, c3, decide_true, decide_false, cond_true, cond_false]
  · simp only [c1, decide_false, cond_false]
    by_cases c2 : p.High < maxI (w64 (p.Fill - drain)) 0 <;> by_cases c3 : maxI (w64 (p.Fill - drain)) 0 ≤ p.Low <;> simp only [c2, c3, decide_true, decide_false, cond_true, cond_false]

def spec_PauseTick_t {α : Type} (bad : α) (k_ : SPauseLink → Int → α) (p : SPauseLink) (offer : Int) (drain : Int) : α :=
  let z0 : Bool := andt true (idx 0 p.Flying)
  let z1 : Int := w64 (((idf p).Fill) + (rI (nth p.Flying 0) 0))
  let z2 : Int := maxI 0 (w64 (z1 - drain))
  let z3 : Bool := decide (z2 ≤ (idf p).Low)
  let z4 : Bool := andt (andt true ((okL ((idf p).Flying) 1) && (decide (0 < List.length ((idf p).Flying))))) ((room2 8 (List.drop 1 ((idf p).Flying)) ([[.int (bif rB (nth p.Signals 0) 0 then 0 else offer)]])) && (decide (1 ≤ List.length ((idf p).Flying))))
  let z5 : Bool := andt true ((okL ((idf p).Signals) 1) && (decide (0 < List.length ((idf p).Signals))))
  let z6 : Bool := andt z5 ((room2 1 (List.drop 1 ((idf p).Signals)) ([[.bool false]])) && (decide (1 ≤ List.length ((idf p).Signals))))
  let z7 : Rows := (List.drop 1 ((idf p).Flying)) ++ ([[.int (bif rB (nth p.Signals 0) 0 then 0 else offer)]])
  let z8 : Rows := (List.drop 1 ((idf p).Signals)) ++ ([[.bool false]])
  let z9 : SPauseLink := (⟨(idf p).Capacity, (idf p).High, (idf p).Low, (idf p).Delay, z2, false, z7, z8, rB (nth p.Signals 0) 0, (idf p).Lost⟩ : SPauseLink)
  let z10 : Bool := andt true (plSm z9)
  let z11 : SPauseLink := idf z9
  let z12 : Int := bif rB (nth p.Signals 0) 0 then 0 else offer
  let z13 : Bool := andt z5 ((room2 1 (List.drop 1 ((idf p).Signals)) ([[.bool true]])) && (decide (1 ≤ List.length ((idf p).Signals))))
  let z14 : Rows := (List.drop 1 ((idf p).Signals)) ++ ([[.bool true]])
  let z15 : SPauseLink := (⟨(idf p).Capacity, (idf p).High, (idf p).Low, (idf p).Delay, z2, true, z7, z14, rB (nth p.Signals 0) 0, (idf p).Lost⟩ : SPauseLink)
  let z16 : Bool := andt z5 ((room2 1 (List.drop 1 ((idf p).Signals)) ([[.bool ((idf p).Paused)]])) && (decide (1 ≤ List.length ((idf p).Signals))))
  let z17 : Rows := (List.drop 1 ((idf p).Signals)) ++ ([[.bool ((idf p).Paused)]])
  let z18 : SPauseLink := (⟨(idf p).Capacity, (idf p).High, (idf p).Low, (idf p).Delay, z2, (idf p).Paused, z7, z17, rB (nth p.Signals 0) 0, (idf p).Lost⟩ : SPauseLink)
  let z19 : Int := maxI 0 (w64 (((idf p).Fill) - drain))
  let z20 : Bool := decide (z19 ≤ (idf p).Low)
  let z21 : Int := w64 (((idf p).Lost) + (rI (nth p.Flying 0) 0))
  let z22 : SPauseLink := (⟨(idf p).Capacity, (idf p).High, (idf p).Low, (idf p).Delay, z19, false, z7, z8, rB (nth p.Signals 0) 0, z21⟩ : SPauseLink)
  let z23 : Bool := andt true (plSm z22)
  let z24 : SPauseLink := idf z22
  let z25 : SPauseLink := (⟨(idf p).Capacity, (idf p).High, (idf p).Low, (idf p).Delay, z19, true, z7, z14, rB (nth p.Signals 0) 0, z21⟩ : SPauseLink)
  let z26 : SPauseLink := (⟨(idf p).Capacity, (idf p).High, (idf p).Low, (idf p).Delay, z19, (idf p).Paused, z7, z17, rB (nth p.Signals 0) 0, z21⟩ : SPauseLink)
  bif andt true (plSm p) then
    bif bif !(PauseOk p) then true else bif !(between offer 0 1000) then true else !(between drain 0 1000) then k_ (idf p) 0
    else bif andt true (idx 0 p.Signals) then
        bif z0 then
          bif decide (z1 ≤ (idf p).Capacity) then
            bif z0 then
              bif decide ((idf p).High < z2) then
                bif z3 then
                  bif z4 then
                    bif z6 then
                      bif z10 then
                        k_ z11 z12
                      else bad
                    else bad
                  else bad
                else bif z4 then
                    bif z13 then
                      bif andt true (plSm z15) then
                        k_ (idf z15) z12
                      else bad
                    else bad
                  else bad
              else bif z3 then
                bif z4 then
                  bif z6 then
                    bif z10 then
                      k_ z11 z12
                    else bad
                  else bad
                else bad
              else bif z4 then
                  bif z16 then
                    bif andt true (plSm z18) then
                      k_ (idf z18) z12
                    else bad
                  else bad
                else bad
            else bad
          else bif z0 then
              bif decide ((idf p).High < z19) then
                bif z20 then
                  bif z4 then
                    bif z6 then
                      bif z23 then
                        k_ z24 z12
                      else bad
                    else bad
                  else bad
                else bif z4 then
                    bif z13 then
                      bif andt true (plSm z25) then
                        k_ (idf z25) z12
                      else bad
                    else bad
                  else bad
              else bif z20 then
                bif z4 then
                  bif z6 then
                    bif z23 then
                      k_ z24 z12
                    else bad
                  else bad
                else bad
              else bif z4 then
                  bif z16 then
                    bif andt true (plSm z26) then
                      k_ (idf z26) z12
                    else bad
                  else bad
                else bad
            else bad
        else bad
      else bad
  else bad
theorem spec_PauseTick_c {α : Type} (bad : α) (k_ : SPauseLink → Int → α) (p : SPauseLink) (offer : Int) (drain : Int) (h_p : WtL SPauseLink.ct p.enc) (h_offer : WtC (.int .i64) (.int offer)) (h_drain : WtC (.int .i64) (.int drain)) (hok : PauseTick_ok p offer drain = true) : spec_PauseTick_t bad k_ p offer drain = k_ (PauseTick p offer drain).1 (PauseTick p offer drain).2 := by
  obtain ⟨s1, s2⟩ := plSm_iff.1 (show plSm p = true from hok)
  unfold spec_PauseTick_t PauseTick
  have hcp : plSm p = true := hok
  simp only [idf, hcp, andt_true_l, cond_true]
  refine cond_c (K := fun r : SPauseLink × Int => k_ r.1 r.2) (fun _ => rfl) (fun hg => ?_)
  obtain ⟨l1, l2, l3⟩ := PauseOk_len (pt_cond hg)
  have i1 : idx 0 p.Flying = true := by simp only [idx, Bool.and_eq_true, decide_eq_true_eq]; omega
  have i2 : idx 0 p.Signals = true := by simp only [idx, Bool.and_eq_true, decide_eq_true_eq]; omega
  have o1 : okL p.Flying 1 = true := by simp only [okL, Bool.and_eq_true, decide_eq_true_eq]; omega
  have o2 : okL p.Signals 1 = true := by simp only [okL, Bool.and_eq_true, decide_eq_true_eq]; omega
  have q1 : sm (p.Flying.drop 1) = true := by simp only [sm, List.length_drop, decide_eq_true_eq]; omega
  have q2 : ∀ x : List DC, room2 8 (p.Flying.drop 1) [x] = true := fun x => room2_le (by simp only [List.length_drop, List.length_cons, List.length_nil]; omega) (by omega)
  have q3 : room2 1 [] (p.Signals.drop 1) = true := room2_le (by simp only [List.length_drop, List.length_nil]; omega) (by omega)
  have q4 : ∀ x : List DC, room2 1 (p.Signals.drop 1) [x] = true := fun x => room2_le (by simp only [List.length_drop, List.length_cons, List.length_nil]; omega) (by omega)

  have t1 : Int.toNat 1 = 1 := rfl
  have p1 : (0 < List.length p.Flying) = True := eq_true (by omega)
  have p2 : (0 < List.length p.Signals) = True := eq_true (by omega)
  have p3 : (1 ≤ List.length p.Flying) = True := eq_true (by omega)
  have p4 : (1 ≤ List.length p.Signals) = True := eq_true (by omega)
  have c1 : ∀ (a b c d e f : _) (x y : List DC) (h k : _), plSm (⟨a, b, c, d, e, f, p.Flying.drop 1 ++ [x], p.Signals.drop 1 ++ [y], h, k⟩ : SPauseLink) = true := fun a b c d e f x y h k => by
    rw [plSm_iff]
    simp only [sm, List.length_append, List.length_drop, List.length_cons, List.length_nil, decide_eq_true_eq]
    omega
  simp only [i1, i2, o1, o2, t1, p1, p2, p3, p4, c1, q1, q2, q3, q4, maxI_comm 0, decide_true, Bool.and_self, andt_true_l, andt_true_r, cond_true]
  unfold ptP ptD ptL ptF
  by_cases c1 : w64 (p.Fill + rI (nth p.Flying 0) 0) ≤ p.Capacity
  · simp only [c1, decide_true, cond_true]
    by_cases c2 : p.High < maxI (w64 (w64 (p.Fill + rI (nth p.Flying 0) 0) - drain)) 0 <;> by_cases c3 : maxI (w64 (w64 (p.Fill + rI (nth p.Flying 0) 0) - drain)) 0 ≤ p.Low <;> simp only [c2, c3, decide_true, decide_false, cond_true, cond_false]
  · simp only [c1, decide_false, cond_false]
    by_cases c2 : p.High < maxI (w64 (p.Fill - drain)) 0 <;> by_cases c3 : maxI (w64 (p.Fill - drain)) 0 ≤ p.Low <;> simp only [c2, c3, decide_true, decide_false, cond_true, cond_false]

def laws_FnExactPauseTick_t {α : Type} (bad : α) (k_ : Bool → α) (aP : SPauseLink) (aOffer : Int) (aDrain : Int) : α :=
  let z0 : Bool := andt (andt true (laws_toPauseLink_ok aP)) (PauseTick_ok (idf aP) aOffer aDrain)
  let z1 : Bool := !(yes2 ((PauseTick (idf aP) aOffer aDrain).1) ((PauseTick (idf aP) aOffer aDrain).1))
  let z2 : Bool := andt true (same ((PauseTick (idf aP) aOffer aDrain).1) ((PauseTick (idf aP) aOffer aDrain).1))
  let z3 : Bool := okm z1 z2 z2
  let z4 : Bool := bif z1 then true else ((PauseTick (idf aP) aOffer aDrain).2) != ((PauseTick (idf aP) aOffer aDrain).2)
  let z5 : Bool := decide ((markPauseLink (idf aP) 1).1 < 0)
  let z6 : Int × Rows × Rows := markPauseLink ((PauseTick (idf aP) aOffer aDrain).1) 1
  let z7 : SPauseLink := (⟨((PauseTick (idf aP) aOffer aDrain).1).Capacity, ((PauseTick (idf aP) aOffer aDrain).1).High, ((PauseTick (idf aP) aOffer aDrain).1).Low, ((PauseTick (idf aP) aOffer aDrain).1).Delay, ((PauseTick (idf aP) aOffer aDrain).1).Fill, ((PauseTick (idf aP) aOffer aDrain).1).Paused, z6.2.1, z6.2.2, ((PauseTick (idf aP) aOffer aDrain).1).Stopped, ((PauseTick (idf aP) aOffer aDrain).1).Lost⟩ : SPauseLink)
  let z8 : Bool := andt true (heldPauseLink_ok z7 1)
  let z9 : Int := heldPauseLink z7 1
  let z10 : Bool := decide (z9 < 0)
  let z11 : Bool := z9 != z6.1
  bif decide (laws_szPauseLink aP 1048576 < 0) then k_ true
  else bif z0 then
      bif andt true (laws_toPauseLink_ok aP) then
        bif andt true (PauseTick_ok (idf aP) aOffer aDrain) then
          bif z3 then
            bif z4 then k_ false
            else bif andt (andt true (laws_toPauseLink_ok aP)) (same (idf aP) (idf aP)) then
                bif !(yes2 (idf aP) (idf aP)) then k_ false
                else bif andt true (markPauseLink_ok (idf aP) 1) then
                    bif okm z5 true z3 then
                      bif bif z5 then true else z4 then k_ false
                      else bif andt true (markPauseLink_ok ((PauseTick (idf aP) aOffer aDrain).1) 1) then
                          bif z8 then
                            bif z10 then k_ false
                            else bif z11 then k_ false
                            else bif z0 then
                                bif z3 then
                                  bif z4 then k_ false
                                  else bif z8 then
                                      bif z10 then k_ false
                                      else bif z11 then k_ false
                                      else k_ true
                                    else bad
                                else bad
                              else bad
                          else bad
                        else bad
                    else bad
                  else bad
              else bad
          else bad
        else bad
      else bad
    else bad
theorem laws_FnExactPauseTick_c {α : Type} (bad : α) (k_ : Bool → α) (aP : SPauseLink) (aOffer : Int) (aDrain : Int) (h_aP : WtL SPauseLink.ct aP.enc) (h_aOffer : WtC (.int .i64) (.int aOffer)) (h_aDrain : WtC (.int .i64) (.int aDrain)) (hok : fitL (SPauseLink.ct ++ ((.int .i64) :: ((.int .i64) :: ([])))) (aP.enc ++ (.int aOffer :: (.int aDrain :: ([])))) = true) : laws_FnExactPauseTick_t bad k_ aP aOffer aDrain = k_ true := by
  unfold laws_FnExactPauseTick_t
  by_cases c0 : laws_szPauseLink aP 1048576 < 0
  · simp only [c0, decide_true, decide_false, cond_true, cond_false]
  have k0 := laws_szPauseLink_ok h_aP (by omega) (by omega) (Int.not_lt.1 c0)
  have hsm : plSm aP = true := by
    have k := k0.2
    cases h1 : sm aP.Flying
    · simp only [laws_toPauseLink_ok, laws_toPauseLink_t, h1] at k
      cases k
    · cases h2 : sm aP.Signals
      · simp only [laws_toPauseLink_ok, laws_toPauseLink_t, h1, h2] at k
        cases k
      · exact plSm_iff.2 ⟨h1, h2⟩
  obtain ⟨s1, s2⟩ := plSm_iff.1 hsm
  obtain ⟨m1, m2, m3, m4⟩ := mh_PauseLink aP (k := 1) (by omega) (by omega) s1 s2
  have m5 := Int.not_lt.2 m4

  have ko : PauseTick_ok aP aOffer aDrain = true := hsm
  obtain ⟨u1, u2⟩ := plSm_iff.1 (PauseTick_sm hsm aOffer aDrain)
  obtain ⟨q1, q2, q3, q4⟩ := mh_PauseLink (PauseTick aP aOffer aDrain).1 (k := 1) (by omega) (by omega) u1 u2
  have q5 := decide_eq_false (Int.not_lt.2 q4)
  simp only [c0, decide_false, cond_false, cond_true, idf, k0.2, m1, m5, ko, q1, q2, q3, q5, andt_true_l, andt_true_r, same_refl, yes2, beq_self_eq_true, bne_self_eq_false, Bool.not_true, okm_tt]

def impl_PauseRun_l0 {α : Type} (bad : α) (k_ : SPauseLink → Int → α) (offers : Rows) (drains : Rows) (ih0 : Int → Int → Int → Int → Int → Int → Int → Bool → Bool → Int → Rows → Rows → α) (n : Int) (i : Int) (out_ : Int) (out_1 : Int) (out_2 : Int) (out_3 : Int) (out_4 : Int) (out_5 : Bool) (out_6 : Bool) (out_7 : Int) (out_6_1 : Rows) (out_7_1 : Rows) : α :=
  let z0 : SPauseLink := (⟨out_, out_1, out_2, out_3, out_4, out_5, out_6_1, out_7_1, out_6, out_7⟩ : SPauseLink)
  let z1 : SPauseLink × Int := PauseTick z0 (rI (nth offers (Int.toNat i)) 0) (rI (nth drains (Int.toNat i)) 0)
  let z2 : SPauseLink := z1.1
  bif bif decide (i < len offers) then decide (i < len drains) else false then
    bif andt (andt (andt true (idx i offers)) (idx i drains)) (PauseTick_ok z0 (rI (nth offers (Int.toNat i)) 0) (rI (nth drains (Int.toNat i)) 0)) then
      ih0 (w64 (n + z1.2)) (w64 (i + 1)) z2.Capacity z2.High z2.Low z2.Delay z2.Fill z2.Paused z2.Stopped z2.Lost z2.Flying z2.Signals
    else bad
  else k_ z0 n
def impl_PauseRun_L0 {α : Type} (bad : α) (k_ : SPauseLink → Int → α) (N : Nat) (offers : Rows) (drains : Rows) (m_ : Nat) : Int → Int → Int → Int → Int → Int → Int → Bool → Bool → Int → Rows → Rows → α :=
  Nat.rec (motive := fun _ => Int → Int → Int → Int → Int → Int → Int → Bool → Bool → Int → Rows → Rows → α) (fun _ _ _ _ _ _ _ _ _ _ _ _ => bad) (fun _ ih0 => impl_PauseRun_l0 bad k_ offers drains ih0) m_
theorem impl_PauseRun_L0_z {α : Type} (bad : α) (k_ : SPauseLink → Int → α) (N : Nat) (offers : Rows) (drains : Rows) (n : Int) (i : Int) (out_ : Int) (out_1 : Int) (out_2 : Int) (out_3 : Int) (out_4 : Int) (out_5 : Bool) (out_6 : Bool) (out_7 : Int) (out_6_1 : Rows) (out_7_1 : Rows) : impl_PauseRun_L0 bad k_ N offers drains 0 n i out_ out_1 out_2 out_3 out_4 out_5 out_6 out_7 out_6_1 out_7_1 = bad := rfl
theorem impl_PauseRun_L0_s {α : Type} (bad : α) (k_ : SPauseLink → Int → α) (N : Nat) (offers : Rows) (drains : Rows) (m_ : Nat) (n : Int) (i : Int) (out_ : Int) (out_1 : Int) (out_2 : Int) (out_3 : Int) (out_4 : Int) (out_5 : Bool) (out_6 : Bool) (out_7 : Int) (out_6_1 : Rows) (out_7_1 : Rows) : impl_PauseRun_L0 bad k_ N offers drains (m_ + 1) n i out_ out_1 out_2 out_3 out_4 out_5 out_6 out_7 out_6_1 out_7_1 = impl_PauseRun_l0 bad k_ offers drains (impl_PauseRun_L0 bad k_ N offers drains m_) n i out_ out_1 out_2 out_3 out_4 out_5 out_6 out_7 out_6_1 out_7_1 := rfl
def impl_PauseRun_t {α : Type} (bad : α) (k_ : SPauseLink → Int → α) (l0 : Int → Int → Int → Int → Int → Int → Int → Bool → Bool → Int → Rows → Rows → α) (p : SPauseLink) (offers : Rows) (drains : Rows) : α :=
  bif andt true (plSm p) then
    l0 0 0 ((idf p).Capacity) ((idf p).High) ((idf p).Low) ((idf p).Delay) ((idf p).Fill) ((idf p).Paused) ((idf p).Stopped) ((idf p).Lost) ((idf p).Flying) ((idf p).Signals)
  else bad
def impl_PauseRun_f {α : Type} (bad : α) (k_ : SPauseLink → Int → α) (N : Nat) (p : SPauseLink) (offers : Rows) (drains : Rows) : α := impl_PauseRun_t bad k_ (impl_PauseRun_L0 bad k_ N offers drains N) p offers drains
def prF (offers drains : Rows) (i : Nat) (s : SPauseLink × Int) : SPauseLink × Int := ((PauseTick s.1 (rI (nth offers i) 0) (rI (nth drains i) 0)).1, w64 (s.2 + (PauseTick s.1 (rI (nth offers i) 0) (rI (nth drains i) 0)).2))
def PauseRun_ok (p : SPauseLink) (offers : Rows) (drains : Rows) : Bool := plSm p
def PauseRun (p : SPauseLink) (offers : Rows) (drains : Rows) : SPauseLink × Int := itN (prF offers drains) (min offers.length drains.length) 0 (p, 0)
theorem PauseRun_sm {p : SPauseLink} (h : plSm p = true) (offers drains : Rows) : plSm (PauseRun p offers drains).1 = true :=
  itN_inv (f := prF offers drains) (I := fun s : SPauseLink × Int => plSm s.1 = true) (B := min offers.length drains.length) (fun _ s _ hs => PauseTick_sm hs _ _) (min offers.length drains.length) 0 (p, 0) (by omega) h
theorem impl_PauseRun_c {α : Type} (bad : α) (k_ : SPauseLink → Int → α) (p : SPauseLink) (offers : Rows) (drains : Rows) (h_p : WtL SPauseLink.ct p.enc) (h_offers : WtC (.sl [.int .i64]) (.sl offers)) (h_drains : WtC (.sl [.int .i64]) (.sl drains)) (hok : PauseRun_ok p offers drains = true) : ∃ N, impl_PauseRun_f bad k_ N p offers drains = k_ (PauseRun p offers drains).1 (PauseRun p offers drains).2 := by
  obtain ⟨hl1, _⟩ := wt_sl h_offers
  obtain ⟨hl2, _⟩ := wt_sl h_drains
  have hcp : plSm p = true := hok
  refine ⟨min offers.length drains.length + 1, ?_⟩
  unfold impl_PauseRun_f impl_PauseRun_t PauseRun
  simp only [idf, hcp, andt_true_l, cond_true]
  refine (loop_inv (min offers.length drains.length) (fun n i (s : SPauseLink × Int) => impl_PauseRun_L0 bad k_ (min offers.length drains.length + 1) offers drains n s.2 i s.1.Capacity s.1.High s.1.Low s.1.Delay s.1.Fill s.1.Paused s.1.Stopped s.1.Lost s.1.Flying s.1.Signals) (prF offers drains) (fun s => k_ s.1 s.2) (fun _ s => plSm s.1 = true) ?_ ?_ ?_ (min offers.length drains.length + 1) (p, 0) hcp (by omega))
  · intro i s hi hs
    exact PauseTick_sm hs _ _
  · intro n i s hi hs
    show impl_PauseRun_L0 bad k_ (min offers.length drains.length + 1) offers drains (n + 1) s.2 (i : Int) s.1.Capacity s.1.High s.1.Low s.1.Delay s.1.Fill s.1.Paused s.1.Stopped s.1.Lost s.1.Flying s.1.Signals = _
    rw [impl_PauseRun_L0_s]
    have h1 : i < offers.length := by omega
    have h2 : i < drains.length := by omega
    have eta : (⟨s.1.Capacity, s.1.High, s.1.Low, s.1.Delay, s.1.Fill, s.1.Paused, s.1.Flying, s.1.Signals, s.1.Stopped, s.1.Lost⟩ : SPauseLink) = s.1 := rfl
    have hko : ∀ a b, PauseTick_ok s.1 a b = true := fun _ _ => hs
    simp only [impl_PauseRun_l0, lt_len h1, lt_len h2, idx_nat h1, idx_nat h2, w64_succ h1 hl1, eta, hko, Int.toNat_natCast, andt_true_l, andt_true_r, cond_true]
    rfl
  · intro n s hs
    show impl_PauseRun_L0 bad k_ (min offers.length drains.length + 1) offers drains (n + 1) s.2 ((min offers.length drains.length : Nat) : Int) s.1.Capacity s.1.High s.1.Low s.1.Delay s.1.Fill s.1.Paused s.1.Stopped s.1.Lost s.1.Flying s.1.Signals = _
    rw [impl_PauseRun_L0_s]
    have hc : (bif decide (((min offers.length drains.length : Nat) : Int) < len offers) then decide (((min offers.length drains.length : Nat) : Int) < len drains) else false) = false := by
      by_cases h1 : ((min offers.length drains.length : Nat) : Int) < len offers
      · have h2 : ¬ ((min offers.length drains.length : Nat) : Int) < len drains := by simp only [len] at h1 ⊢; omega
        simp [h1, h2]
      · simp [h1]
    simp only [impl_PauseRun_l0, hc, cond_false]

def spec_PauseRun_l0 {α : Type} (bad : α) (k_ : SPauseLink → Int → α) (offers : Rows) (drains : Rows) (ih0 : Int → Int → Int → Int → Int → Int → Int → Bool → Bool → Int → Rows → Rows → α) (sum : Int) (k : Int) (out_ : Int) (out_1 : Int) (out_2 : Int) (out_3 : Int) (out_4 : Int) (out_5 : Bool) (out_6 : Bool) (out_7 : Int) (out_6_1 : Rows) (out_7_1 : Rows) : α :=
  let z0 : SPauseLink := (⟨out_, out_1, out_2, out_3, out_4, out_5, out_6_1, out_7_1, out_6, out_7⟩ : SPauseLink)
  let z1 : SPauseLink × Int := PauseTick z0 (rI (nth offers (Int.toNat k)) 0) (rI (nth drains (Int.toNat k)) 0)
  let z2 : SPauseLink := z1.1
  bif bif decide (k < len offers) then decide (k < len drains) else false then
    bif andt (andt (andt true (idx k offers)) (idx k drains)) (PauseTick_ok z0 (rI (nth offers (Int.toNat k)) 0) (rI (nth drains (Int.toNat k)) 0)) then
      ih0 (w64 (sum + z1.2)) (w64 (k + 1)) z2.Capacity z2.High z2.Low z2.Delay z2.Fill z2.Paused z2.Stopped z2.Lost z2.Flying z2.Signals
    else bad
  else k_ z0 sum
def spec_PauseRun_L0 {α : Type} (bad : α) (k_ : SPauseLink → Int → α) (N : Nat) (offers : Rows) (drains : Rows) (m_ : Nat) : Int → Int → Int → Int → Int → Int → Int → Bool → Bool → Int → Rows → Rows → α :=
  Nat.rec (motive := fun _ => Int → Int → Int → Int → Int → Int → Int → Bool → Bool → Int → Rows → Rows → α) (fun _ _ _ _ _ _ _ _ _ _ _ _ => bad) (fun _ ih0 => spec_PauseRun_l0 bad k_ offers drains ih0) m_
theorem spec_PauseRun_L0_z {α : Type} (bad : α) (k_ : SPauseLink → Int → α) (N : Nat) (offers : Rows) (drains : Rows) (sum : Int) (k : Int) (out_ : Int) (out_1 : Int) (out_2 : Int) (out_3 : Int) (out_4 : Int) (out_5 : Bool) (out_6 : Bool) (out_7 : Int) (out_6_1 : Rows) (out_7_1 : Rows) : spec_PauseRun_L0 bad k_ N offers drains 0 sum k out_ out_1 out_2 out_3 out_4 out_5 out_6 out_7 out_6_1 out_7_1 = bad := rfl
theorem spec_PauseRun_L0_s {α : Type} (bad : α) (k_ : SPauseLink → Int → α) (N : Nat) (offers : Rows) (drains : Rows) (m_ : Nat) (sum : Int) (k : Int) (out_ : Int) (out_1 : Int) (out_2 : Int) (out_3 : Int) (out_4 : Int) (out_5 : Bool) (out_6 : Bool) (out_7 : Int) (out_6_1 : Rows) (out_7_1 : Rows) : spec_PauseRun_L0 bad k_ N offers drains (m_ + 1) sum k out_ out_1 out_2 out_3 out_4 out_5 out_6 out_7 out_6_1 out_7_1 = spec_PauseRun_l0 bad k_ offers drains (spec_PauseRun_L0 bad k_ N offers drains m_) sum k out_ out_1 out_2 out_3 out_4 out_5 out_6 out_7 out_6_1 out_7_1 := rfl
def spec_PauseRun_t {α : Type} (bad : α) (k_ : SPauseLink → Int → α) (l0 : Int → Int → Int → Int → Int → Int → Int → Bool → Bool → Int → Rows → Rows → α) (p : SPauseLink) (offers : Rows) (drains : Rows) : α :=
  bif andt true (plSm p) then
    l0 0 0 ((idf p).Capacity) ((idf p).High) ((idf p).Low) ((idf p).Delay) ((idf p).Fill) ((idf p).Paused) ((idf p).Stopped) ((idf p).Lost) ((idf p).Flying) ((idf p).Signals)
  else bad
def spec_PauseRun_f {α : Type} (bad : α) (k_ : SPauseLink → Int → α) (N : Nat) (p : SPauseLink) (offers : Rows) (drains : Rows) : α := spec_PauseRun_t bad k_ (spec_PauseRun_L0 bad k_ N offers drains N) p offers drains
theorem spec_PauseRun_c {α : Type} (bad : α) (k_ : SPauseLink → Int → α) (p : SPauseLink) (offers : Rows) (drains : Rows) (h_p : WtL SPauseLink.ct p.enc) (h_offers : WtC (.sl [.int .i64]) (.sl offers)) (h_drains : WtC (.sl [.int .i64]) (.sl drains)) (hok : PauseRun_ok p offers drains = true) : ∃ N, spec_PauseRun_f bad k_ N p offers drains = k_ (PauseRun p offers drains).1 (PauseRun p offers drains).2 := by
  obtain ⟨hl1, _⟩ := wt_sl h_offers
  obtain ⟨hl2, _⟩ := wt_sl h_drains
  have hcp : plSm p = true := hok
  refine ⟨min offers.length drains.length + 1, ?_⟩
  unfold spec_PauseRun_f spec_PauseRun_t PauseRun
  simp only [idf, hcp, andt_true_l, cond_true]
  refine (loop_inv (min offers.length drains.length) (fun n i (s : SPauseLink × Int) => spec_PauseRun_L0 bad k_ (min offers.length drains.length + 1) offers drains n s.2 i s.1.Capacity s.1.High s.1.Low s.1.Delay s.1.Fill s.1.Paused s.1.Stopped s.1.Lost s.1.Flying s.1.Signals) (prF offers drains) (fun s => k_ s.1 s.2) (fun _ s => plSm s.1 = true) ?_ ?_ ?_ (min offers.length drains.length + 1) (p, 0) hcp (by omega))
  · intro i s hi hs
    exact PauseTick_sm hs _ _
  · intro n i s hi hs
    show spec_PauseRun_L0 bad k_ (min offers.length drains.length + 1) offers drains (n + 1) s.2 (i : Int) s.1.Capacity s.1.High s.1.Low s.1.Delay s.1.Fill s.1.Paused s.1.Stopped s.1.Lost s.1.Flying s.1.Signals = _
    rw [spec_PauseRun_L0_s]
    have h1 : i < offers.length := by omega
    have h2 : i < drains.length := by omega
    have eta : (⟨s.1.Capacity, s.1.High, s.1.Low, s.1.Delay, s.1.Fill, s.1.Paused, s.1.Flying, s.1.Signals, s.1.Stopped, s.1.Lost⟩ : SPauseLink) = s.1 := rfl
    have hko : ∀ a b, PauseTick_ok s.1 a b = true := fun _ _ => hs
    simp only [spec_PauseRun_l0, lt_len h1, lt_len h2, idx_nat h1, idx_nat h2, w64_succ h1 hl1, eta, hko, Int.toNat_natCast, andt_true_l, andt_true_r, cond_true]
    rfl
  · intro n s hs
    show spec_PauseRun_L0 bad k_ (min offers.length drains.length + 1) offers drains (n + 1) s.2 ((min offers.length drains.length : Nat) : Int) s.1.Capacity s.1.High s.1.Low s.1.Delay s.1.Fill s.1.Paused s.1.Stopped s.1.Lost s.1.Flying s.1.Signals = _
    rw [spec_PauseRun_L0_s]
    have hc : (bif decide (((min offers.length drains.length : Nat) : Int) < len offers) then decide (((min offers.length drains.length : Nat) : Int) < len drains) else false) = false := by
      by_cases h1 : ((min offers.length drains.length : Nat) : Int) < len offers
      · have h2 : ¬ ((min offers.length drains.length : Nat) : Int) < len drains := by simp only [len] at h1 ⊢; omega
        simp [h1, h2]
      · simp [h1]
    simp only [spec_PauseRun_l0, hc, cond_false]

def laws_FnExactPauseRun_t {α : Type} (bad : α) (k_ : Bool → α) (aP : SPauseLink) (aOffers : Rows) (aDrains : Rows) : α :=
  let z0 : Bool := PauseRun_ok (idf aP) (idf aOffers) (idf aDrains)
  let z1 : Bool := andt (andt (andt (andt true (laws_toPauseLink_ok aP)) (sm aOffers)) (sm aDrains)) z0
  let z2 : SPauseLink × Int := PauseRun (idf aP) (idf aOffers) (idf aDrains)
  let z3 : Bool := !(yes2 z2.1 z2.1)
  let z4 : Bool := andt true (same z2.1 z2.1)
  let z5 : Bool := okm z3 z4 z4
  let z6 : Bool := bif z3 then true else z2.2 != z2.2
  let z7 : Bool := decide ((markIntS (idf aDrains) ((markIntS (idf aOffers) ((markPauseLink (idf aP) 1).1)).1)).1 < 0)
  let z8 : Int × Rows × Rows := markPauseLink z2.1 1
  let z9 : SPauseLink := (⟨z2.1.Capacity, z2.1.High, z2.1.Low, z2.1.Delay, z2.1.Fill, z2.1.Paused, z8.2.1, z8.2.2, z2.1.Stopped, z2.1.Lost⟩ : SPauseLink)
  let z10 : Bool := andt true (heldPauseLink_ok z9 1)
  let z11 : Int := heldPauseLink z9 1
  let z12 : Bool := decide (z11 < 0)
  let z13 : Bool := z11 != z8.1
  bif decide (1048576 < len aOffers) then k_ true
  else bif decide (1048576 < len aDrains) then k_ true
  else bif decide (laws_szPauseLink aP 1048576 < 0) then k_ true
  else bif z1 then
      bif andt true (laws_toPauseLink_ok aP) then
        bif andt true (sm aOffers) then
          bif andt true (sm aDrains) then
            bif andt true z0 then
              bif z5 then
                bif z6 then k_ false
                else bif andt (andt true (laws_toPauseLink_ok aP)) (same (idf aP) (idf aP)) then
                    bif !(yes2 (idf aP) (idf aP)) then k_ false
                    else bif andt (andt true (sm aOffers)) (same (idf aOffers) (idf aOffers)) then
                        bif !(yes2 (idf aOffers) (idf aOffers)) then k_ false
                        else bif andt (andt true (sm aDrains)) (same (idf aDrains) (idf aDrains)) then
                            bif !(yes2 (idf aDrains) (idf aDrains)) then k_ false
                            else bif andt true (markPauseLink_ok (idf aP) 1) then
                                bif andt true (mko 1 (idf aOffers) ((markPauseLink (idf aP) 1).1)) then
                                  bif andt true (mko 1 (idf aDrains) ((markIntS (idf aOffers) ((markPauseLink (idf aP) 1).1)).1)) then
                                    bif okm z7 true z5 then
                                      bif bif z7 then true else z6 then k_ false
                                      else bif andt true (markPauseLink_ok z2.1 1) then
                                          bif z10 then
                                            bif z12 then k_ false
                                            else bif z13 then k_ false
                                            else bif z1 then
                                                bif z5 then
                                                  bif z6 then k_ false
                                                  else bif z10 then
                                                      bif z12 then k_ false
                                                      else bif z13 then k_ false
                                                      else k_ true
                                                    else bad
                                                else bad
                                              else bad
                                          else bad
                                        else bad
                                    else bad
                                  else bad
                                else bad
                              else bad
                          else bad
                      else bad
                  else bad
              else bad
            else bad
          else bad
        else bad
      else bad
    else bad
theorem laws_FnExactPauseRun_c {α : Type} (bad : α) (k_ : Bool → α) (aP : SPauseLink) (aOffers : Rows) (aDrains : Rows) (h_aP : WtL SPauseLink.ct aP.enc) (h_aOffers : WtC (.sl [.int .i64]) (.sl aOffers)) (h_aDrains : WtC (.sl [.int .i64]) (.sl aDrains)) (hok : fitL (SPauseLink.ct ++ ((.sl [.int .i64]) :: ((.sl [.int .i64]) :: ([])))) (aP.enc ++ (.sl aOffers :: (.sl aDrains :: ([])))) = true) : laws_FnExactPauseRun_t bad k_ aP aOffers aDrains = k_ true := by
  unfold laws_FnExactPauseRun_t
  by_cases c0 : 1048576 < len aOffers
  · simp only [c0, decide_true, decide_false, cond_true, cond_false]
  have k0 : sm aOffers = true := len_sm (Int.not_lt.1 c0)
  by_cases c1 : 1048576 < len aDrains
  · simp only [c0, c1, decide_true, decide_false, cond_true, cond_false]
  have k1 : sm aDrains = true := len_sm (Int.not_lt.1 c1)
  by_cases c2 : laws_szPauseLink aP 1048576 < 0
  · simp only [c0, c1, c2, decide_true, decide_false, cond_true, cond_false]
  have k2 := laws_szPauseLink_ok h_aP (by omega) (by omega) (Int.not_lt.1 c2)
  have hsm : plSm aP = true := by
    have k := k2.2
    cases h1 : sm aP.Flying
    · simp only [laws_toPauseLink_ok, laws_toPauseLink_t, h1] at k
      cases k
    · cases h2 : sm aP.Signals
      · simp only [laws_toPauseLink_ok, laws_toPauseLink_t, h1, h2] at k
        cases k
      · exact plSm_iff.2 ⟨h1, h2⟩
  obtain ⟨s1, s2⟩ := plSm_iff.1 hsm
  have n1 := sm_le s1
  have n2 := sm_le s2
  have n3 := sm_le k0
  have n4 := sm_le k1
  obtain ⟨m1, m2, m3, m4⟩ := mh_PauseLink aP (k := 1) (by omega) (by omega) s1 s2
  have me : (markPauseLink aP 1).1 = 1 + 1 * aP.Flying.length + 1 * aP.Signals.length := by
    have a1 : mko 1 aP.Flying 1 = true := mko_mk s1 (by omega) (by omega)
    have a2 : mko 1 aP.Signals (markIntS aP.Flying 1).1 = true := mko_mk s2 (by simp only [markIntS]; omega) (by simp only [markIntS]; omega)
    simp only [markPauseLink, laws_markPauseLink_t, a1, a2, andt_true_l, cond_true]
    rfl
  have f1 : mko 1 aOffers (markPauseLink aP 1).1 = true := mko_mk k0 m4 (by rw [me]; omega)
  have f2 : mko 1 aDrains (markIntS aOffers (markPauseLink aP 1).1).1 = true := mko_mk k1 (by simp only [markIntS]; omega) (by simp only [markIntS, me]; omega)
  have f3 : ¬ (markIntS aDrains (markIntS aOffers (markPauseLink aP 1).1).1).1 < 0 := by simp only [markIntS]; omega
  have ko : PauseRun_ok aP aOffers aDrains = true := hsm
  obtain ⟨u1, u2⟩ := plSm_iff.1 (PauseRun_sm hsm aOffers aDrains)
  obtain ⟨q1, q2, q3, q4⟩ := mh_PauseLink (PauseRun aP aOffers aDrains).1 (k := 1) (by omega) (by omega) u1 u2
  have q5 := decide_eq_false (Int.not_lt.2 q4)
  simp only [c0, c1, c2, decide_false, cond_false, cond_true, idf, k0, k1, k2.2, m1, f1, f2, f3, ko, q1, q2, q3, q5, andt_true_l, andt_true_r, same_refl, yes2, beq_self_eq_true, bne_self_eq_false, Bool.not_true, okm_tt]

end
end Go.Proofs.Ytbcjbeckcgoanaa.Pl
