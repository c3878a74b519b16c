/- What functions of the program compute, in plain Lean, as the value machine runs them. Conditions: none. -/
import Derived.Test.YtjmgpcfmcdlnpaaPMa
import Derived.Test.YtjmgpcfmcdlnpaaPFi
set_option linter.unusedVariables false
set_option linter.unusedSimpArgs false
namespace Go.Proofs.Ytjmgpcfmcdlnpaa.Pl
open Vm
noncomputable section


def impl_command_t {α : Type} (bad : α) (k_ : SFilter → Int → α) (f : SFilter) (x : SMessage) : α :=
  let z0 : SFilter := (⟨x.Arg, (idf f).Promiscuous, (idf f).Vlans⟩ : SFilter)
  let z1 : Bool := andt true (fiSm1 f x.Arg)
  bif andt true (fiSm f) then
    bif x.Op == 1 then
      bif !(FilterOk z0) then
        bif andt true (fiSm f) then
          k_ (idf f) 0
        else bad
      else k_ z0 1
    else bif x.Op == 2 then
      bif z1 then
        bif !((AddVlan f x.Arg).2) then
          bif andt true (fiSm f) then
            k_ (idf f) 0
          else bad
        else k_ ((AddVlan f x.Arg).1) 1
      else bad
    else bif x.Op == 3 then
      bif z1 then
        bif !((DropVlan f x.Arg).2) then
          bif andt true (fiSm f) then
            k_ (idf f) 0
          else bad
        else k_ ((DropVlan f x.Arg).1) 1
      else bad
    else bif x.Op == 4 then k_ (idf f) f.Mac
    else bif andt true (fiSm f) then
        k_ (idf f) 0
      else bad
  else bad
def fiSm2 (f : SFilter) (_ : SMessage) : Bool := sm f.Vlans
def Perform (f : SFilter) (x : SMessage) : SFilter × Int :=
  bif x.Op == 1 then bif !(FilterOk (⟨x.Arg, f.Promiscuous, f.Vlans⟩ : SFilter)) then (f, 0) else ((⟨x.Arg, f.Promiscuous, f.Vlans⟩ : SFilter), 1)
  else bif x.Op == 2 then bif !(AddVlan f x.Arg).2 then (f, 0) else ((AddVlan f x.Arg).1, 1)
  else bif x.Op == 3 then bif !(DropVlan f x.Arg).2 then (f, 0) else ((DropVlan f x.Arg).1, 1)
  else bif x.Op == 4 then (f, f.Mac)
  else (f, 0)
theorem Perform_sm {f : SFilter} {x : SMessage} (h : sm f.Vlans = true) : sm (Perform f x).1.Vlans = true := by
  unfold Perform
  cases x.Op == 1
  · cases x.Op == 2
    · cases x.Op == 3
      · cases x.Op == 4 <;> exact h
      · simp only [cond_false, cond_true]
        cases (DropVlan f x.Arg).2
        · exact h
        · exact DropVlan_sm h
    · simp only [cond_false, cond_true]
      cases (AddVlan f x.Arg).2
      · exact h
      · exact AddVlan_sm h
  · simp only [cond_true]
    cases FilterOk (⟨x.Arg, f.Promiscuous, f.Vlans⟩ : SFilter) <;> exact h
theorem impl_command_c {α : Type} (bad : α) (k_ : SFilter → Int → α) (f : SFilter) (x : SMessage) (h_f : WtL SFilter.ct f.enc) (h_x : WtL SMessage.ct x.enc) (hok : fiSm2 f x = true) : impl_command_t bad k_ f x = k_ (Perform f x).1 (Perform f x).2 := by
  have hsm : sm f.Vlans = true := hok
  have hfs : fiSm f = true := hok
  have h1 : ∀ v, fiSm1 f v = true := fun _ => hok
  unfold impl_command_t Perform
  simp only [idf, hfs, h1, andt_true_l, cond_true]
  exact cond_k (K := fun r : SFilter × Int => k_ r.1 r.2) (cond_k (K := fun r : SFilter × Int => k_ r.1 r.2) rfl rfl) (cond_k (K := fun r : SFilter × Int => k_ r.1 r.2) (cond_k (K := fun r : SFilter × Int => k_ r.1 r.2) rfl rfl) (cond_k (K := fun r : SFilter × Int => k_ r.1 r.2) (cond_k (K := fun r : SFilter × Int => k_ r.1 r.2) rfl rfl) (cond_k (K := fun r : SFilter × Int => k_ r.1 r.2) rfl rfl)))

def spec_l35Perform_t {α : Type} (bad : α) (k_ : SFilter → Int → α) (f : SFilter) (x : SMessage) : α :=
  let z0 : SFilter := (⟨x.Arg, (idf f).Promiscuous, (idf f).Vlans⟩ : SFilter)
  let z1 : Bool := andt true (fiSm1 f x.Arg)
  bif andt true (fiSm f) then
    bif x.Op == 1 then
      bif !(FilterOk z0) then
        bif andt true (fiSm f) then
          k_ (idf f) 0
        else bad
      else k_ z0 1
    else bif x.Op == 2 then
      bif z1 then
        bif !((AddVlan f x.Arg).2) then
          bif andt true (fiSm f) then
            k_ (idf f) 0
          else bad
        else k_ ((AddVlan f x.Arg).1) 1
      else bad
    else bif x.Op == 3 then
      bif z1 then
        bif !((DropVlan f x.Arg).2) then
          bif andt true (fiSm f) then
            k_ (idf f) 0
          else bad
        else k_ ((DropVlan f x.Arg).1) 1
      else bad
    else bif x.Op == 4 then k_ (idf f) f.Mac
    else bif andt true (fiSm f) then
        k_ (idf f) 0
      else bad
  else bad
theorem spec_l35Perform_c {α : Type} (bad : α) (k_ : SFilter → Int → α) (f : SFilter) (x : SMessage) (h_f : WtL SFilter.ct f.enc) (h_x : WtL SMessage.ct x.enc) (hok : fiSm2 f x = true) : spec_l35Perform_t bad k_ f x = k_ (Perform f x).1 (Perform f x).2 := by
  have hsm : sm f.Vlans = true := hok
  have hfs : fiSm f = true := hok
  have h1 : ∀ v, fiSm1 f v = true := fun _ => hok
  unfold spec_l35Perform_t Perform
  simp only [idf, hfs, h1, andt_true_l, cond_true]
  exact cond_k (K := fun r : SFilter × Int => k_ r.1 r.2) (cond_k (K := fun r : SFilter × Int => k_ r.1 r.2) rfl rfl) (cond_k (K := fun r : SFilter × Int => k_ r.1 r.2) (cond_k (K := fun r : SFilter × Int => k_ r.1 r.2) rfl rfl) (cond_k (K := fun r : SFilter × Int => k_ r.1 r.2) (cond_k (K := fun r : SFilter × Int => k_ r.1 r.2) rfl rfl) (cond_k (K := fun r : SFilter × Int => k_ r.1 r.2) rfl rfl)))

def impl_copyMailbox_t {α : Type} (bad : α) (k_ : SMailbox → α) (b : SMailbox) : α :=
  bif andt true (fiSm b.Filter) then
    k_ (⟨idf b.Filter, b.Last, b.Answer, b.Done⟩ : SMailbox)
  else bad
def mbSm (b : SMailbox) : Bool := sm b.Filter.Vlans
theorem impl_copyMailbox_c {α : Type} (bad : α) (k_ : SMailbox → α) (b : SMailbox) (h_b : WtL SMailbox.ct b.enc) (hok : mbSm b = true) : impl_copyMailbox_t bad k_ b = k_ (idf b) := by
  unfold impl_copyMailbox_t
  rw [show fiSm b.Filter = true from hok]
  rfl

def spec_l35Copy_t {α : Type} (bad : α) (k_ : SMailbox → α) (b : SMailbox) : α :=
  bif andt true (fiSm b.Filter) then
    k_ (⟨idf b.Filter, b.Last, b.Answer, b.Done⟩ : SMailbox)
  else bad
theorem spec_l35Copy_c {α : Type} (bad : α) (k_ : SMailbox → α) (b : SMailbox) (h_b : WtL SMailbox.ct b.enc) (hok : mbSm b = true) : spec_l35Copy_t bad k_ b = k_ (idf b) := by
  unfold spec_l35Copy_t
  rw [show fiSm b.Filter = true from hok]
  rfl

def impl_HandleMessage_t {α : Type} (bad : α) (k_ : SMailbox → Int → α) (b : SMailbox) (x : SMessage) : α :=
  bif andt true (mbSm b) then
    bif !(MailboxOk b) then k_ (idf b) (-1)
    else bif x.Seq == b.Last then k_ (idf b) b.Answer
    else bif x.Seq != (w64 (b.Last + 1)) then k_ (idf b) (-1)
    else bif andt true (fiSm2 b.Filter x) then
        k_ (⟨(Perform b.Filter x).1, x.Seq, (Perform b.Filter x).2, w64 (((idf b).Done) + 1)⟩ : SMailbox) ((Perform b.Filter x).2)
      else bad
  else bad
def mbSm2 (b : SMailbox) (_ : SMessage) : Bool := sm b.Filter.Vlans
theorem MailboxOk_iff {b : SMailbox} : MailboxOk b = true ↔ FilterOk b.Filter = true ∧ (0 ≤ b.Last ∧ b.Last ≤ 1000000000000) ∧ (0 ≤ b.Done ∧ b.Done ≤ 1000000000000) := by
  have e : ∀ n a c : Int, between n a c = true ↔ a ≤ n ∧ n ≤ c := fun n a c => between_iff
  unfold MailboxOk impl_MailboxOk_t
  simp only [id]
  rw [← e, ← e]
  cases FilterOk b.Filter <;> cases between b.Last 0 1000000000000 <;> cases between b.Done 0 1000000000000 <;> simp
theorem MailboxOk_last {b : SMailbox} (h : MailboxOk b = true) : 0 ≤ b.Last ∧ b.Last ≤ 1000000000000 := (MailboxOk_iff.1 h).2.1
def HandleMessage (b : SMailbox) (x : SMessage) : SMailbox × Int :=
  bif !(MailboxOk b) then (b, -1)
  else bif x.Seq == b.Last then (b, b.Answer)
  else bif x.Seq != (b.Last + 1) then (b, -1)
  else (⟨(Perform b.Filter x).1, x.Seq, (Perform b.Filter x).2, w64 (b.Done + 1)⟩, (Perform b.Filter x).2)
theorem HandleMessage_sm {b : SMailbox} {x : SMessage} (h : sm b.Filter.Vlans = true) : sm (HandleMessage b x).1.Filter.Vlans = true := by
  unfold HandleMessage
  cases MailboxOk b
  · exact h
  · cases x.Seq == b.Last
    · simp only [Bool.not_true, cond_false]
      cases x.Seq != (b.Last + 1)
      · exact Perform_sm h
      · exact h
    · exact h
theorem impl_HandleMessage_c {α : Type} (bad : α) (k_ : SMailbox → Int → α) (b : SMailbox) (x : SMessage) (h_b : WtL SMailbox.ct b.enc) (h_x : WtL SMessage.ct x.enc) (hok : mbSm2 b x = true) : impl_HandleMessage_t bad k_ b x = k_ (HandleMessage b x).1 (HandleMessage b x).2 := by
  have hms : mbSm b = true := hok
  have hp : fiSm2 b.Filter x = true := hok
  have hx := wt_int (SMessage.wt_Seq h_x)
  unfold impl_HandleMessage_t HandleMessage
  simp only [idf, hms, hp, andt_true_l, cond_true]
  cases hm : MailboxOk b
  · rfl
  have hl := MailboxOk_last hm
  cases hs : x.Seq == b.Last
  · simp only [Bool.not_true, cond_false]
    have hne : x.Seq ≠ b.Last := by simpa using hs
    rw [w64_in (n := b.Last + 1) (by omega) (by omega)]
    exact cond_k (K := fun r : SMailbox × Int => k_ r.1 r.2) rfl rfl
  · rfl

def spec_HandleMessage_t {α : Type} (bad : α) (k_ : SMailbox → Int → α) (b : SMailbox) (x : SMessage) : α :=
  bif andt true (mbSm b) then
    bif !(MailboxOk b) then k_ (idf b) (-1)
    else bif x.Seq == b.Last then k_ (idf b) b.Answer
    else bif bif decide (x.Seq ≤ b.Last) then true else (w64 (x.Seq - 1)) != b.Last then k_ (idf b) (-1)
    else bif andt true (fiSm2 b.Filter x) then
        k_ (⟨(Perform b.Filter x).1, x.Seq, (Perform b.Filter x).2, w64 (((idf b).Done) + 1)⟩ : SMailbox) ((Perform b.Filter x).2)
      else bad
  else bad
theorem spec_HandleMessage_c {α : Type} (bad : α) (k_ : SMailbox → Int → α) (b : SMailbox) (x : SMessage) (h_b : WtL SMailbox.ct b.enc) (h_x : WtL SMessage.ct x.enc) (hok : mbSm2 b x = true) : spec_HandleMessage_t bad k_ b x = k_ (HandleMessage b x).1 (HandleMessage b x).2 := by
  have hms : mbSm b = true := hok
  have hp : fiSm2 b.Filter x = true := hok
  have hx := wt_int (SMessage.wt_Seq h_x)
  unfold spec_HandleMessage_t HandleMessage
  simp only [idf, hms, hp, andt_true_l, cond_true]
  cases hm : MailboxOk b
  · rfl
  have hl := MailboxOk_last hm
  cases hs : x.Seq == b.Last
  · simp only [Bool.not_true, cond_false]
    have hne : x.Seq ≠ b.Last := by simpa using hs
    have hc : (bif decide (x.Seq ≤ b.Last) then true else (w64 (x.Seq - 1)) != b.Last) = (x.Seq != (b.Last + 1)) := by
      by_cases h1 : x.Seq ≤ b.Last
      · rw [decide_eq_true h1, cond_true]
        symm
        simp only [bne_iff_ne, ne_eq]
        omega
      · rw [decide_eq_false h1, cond_false, w64_in (by omega) (by omega)]
        by_cases h2 : x.Seq = b.Last + 1
        · rw [h2]
          simp
        · have h3 : x.Seq - 1 ≠ b.Last := by omega
          rw [show (x.Seq != b.Last + 1) = true by simpa using h2]
          simpa using h3
    rw [hc]
    exact cond_k (K := fun r : SMailbox × Int => k_ r.1 r.2) rfl rfl
  · rfl

def laws_markFilter_t {α : Type} (bad : α) (k_ : Int → Rows → α) (a : SFilter) (k : Int) : α :=
  bif andt true (mko 1 a.Vlans k) then
    k_ ((markIntS a.Vlans k).1) ((markIntS a.Vlans k).2)
  else bad
def markFilter_ok (a : SFilter) (k : Int) : Bool := laws_markFilter_t false (fun _ _ => true) a k
def markFilter (a : SFilter) (k : Int) : Int × Rows := (laws_markFilter_t none (fun r0 r1 => some (r0, r1)) a k).getD (0, [])
theorem laws_markFilter_c {α : Type} (bad : α) (k_ : Int → Rows → α) (a : SFilter) (k : Int) (hok : markFilter_ok a k = true) : laws_markFilter_t bad k_ a k = k_ (markFilter a k).1 (markFilter a k).2 := by
  exact part_all (K := fun r : Int × Rows => k_ r.1 r.2) (part_guard (fun _ => ⟨_, rfl, rfl⟩)) hok

def laws_heldFilter_t {α : Type} (bad : α) (k_ : Int → α) (a : SFilter) (k : Int) : α :=
  bif andt true (hdo fIntS 1 a.Vlans k) then
    bif decide (heldIntS a.Vlans k < 0) then k_ (-1)
    else k_ (heldIntS a.Vlans k)
  else bad
def heldFilter_ok (a : SFilter) (k : Int) : Bool := laws_heldFilter_t false (fun _ => true) a k
def heldFilter (a : SFilter) (k : Int) : Int := (laws_heldFilter_t none (fun r0 => some (r0)) a k).getD 0
theorem laws_heldFilter_c {α : Type} (bad : α) (k_ : Int → α) (a : SFilter) (k : Int) (hok : heldFilter_ok a k = true) : laws_heldFilter_t bad k_ a k = k_ (heldFilter a k) := by
  exact part_all (K := fun r : Int => k_ r) (part_guard (part_cond part_leaf part_leaf)) hok

def laws_markMailbox_t {α : Type} (bad : α) (k_ : Int → Rows → α) (a : SMailbox) (k : Int) : α :=
  bif andt true (markFilter_ok a.Filter k) then
    k_ ((markFilter a.Filter k).1) ((markFilter a.Filter k).2)
  else bad
def markMailbox_ok (a : SMailbox) (k : Int) : Bool := laws_markMailbox_t false (fun _ _ => true) a k
def markMailbox (a : SMailbox) (k : Int) : Int × Rows := (laws_markMailbox_t none (fun r0 r1 => some (r0, r1)) a k).getD (0, [])
theorem laws_markMailbox_c {α : Type} (bad : α) (k_ : Int → Rows → α) (a : SMailbox) (k : Int) (hok : markMailbox_ok a k = true) : laws_markMailbox_t bad k_ a k = k_ (markMailbox a k).1 (markMailbox a k).2 := by
  exact part_all (K := fun r : Int × Rows => k_ r.1 r.2) (part_guard (fun _ => ⟨_, rfl, rfl⟩)) hok

def laws_heldMailbox_t {α : Type} (bad : α) (k_ : Int → α) (a : SMailbox) (k : Int) : α :=
  bif andt true (heldFilter_ok a.Filter k) then
    bif decide (heldFilter a.Filter k < 0) then k_ (-1)
    else k_ (heldFilter a.Filter k)
  else bad
def heldMailbox_ok (a : SMailbox) (k : Int) : Bool := laws_heldMailbox_t false (fun _ => true) a k
def heldMailbox (a : SMailbox) (k : Int) : Int := (laws_heldMailbox_t none (fun r0 => some (r0)) a k).getD 0
theorem laws_heldMailbox_c {α : Type} (bad : α) (k_ : Int → α) (a : SMailbox) (k : Int) (hok : heldMailbox_ok a k = true) : laws_heldMailbox_t bad k_ a k = k_ (heldMailbox a k) := by
  exact part_all (K := fun r : Int => k_ r) (part_guard (part_cond part_leaf part_leaf)) hok


theorem mh_Mailbox (p : SMailbox) {k : Int} (h0 : 0 ≤ k) (h1 : k ≤ 1000000000000) (hf : sm p.Filter.Vlans = true) :
    markMailbox_ok p k = true ∧
    heldMailbox_ok (⟨⟨p.Filter.Mac, p.Filter.Promiscuous, (markMailbox p k).2⟩, p.Last, p.Answer, p.Done⟩ : SMailbox) k = true ∧
    heldMailbox (⟨⟨p.Filter.Mac, p.Filter.Promiscuous, (markMailbox p k).2⟩, p.Last, p.Answer, p.Done⟩ : SMailbox) k = (markMailbox p k).1 ∧ (markMailbox p k).1 = k + 1 * p.Filter.Vlans.length := by
  have l1 := sm_le hf
  have a1 : mko 1 p.Filter.Vlans k = true := mko_mk hf h0 (by omega)
  have ef : markFilter p.Filter k = (k + 1 * p.Filter.Vlans.length, mkl fIntS 1 p.Filter.Vlans.length k) := by
    simp only [markFilter, laws_markFilter_t, a1, andt_true_l, cond_true]
    rfl
  have af : markFilter_ok p.Filter k = true := by simp only [markFilter_ok, laws_markFilter_t, a1, andt_true_l, cond_true]
  have e : markMailbox p k = (k + 1 * p.Filter.Vlans.length, mkl fIntS 1 p.Filter.Vlans.length k) := by
    simp only [markMailbox, laws_markMailbox_t, af, ef, andt_true_l, cond_true]
    rfl
  have b1 : hdo fIntS 1 (mkl fIntS 1 p.Filter.Vlans.length k) k = true := hdo_mk hf h0 (by omega)
  have c1 : heldIntS (mkl fIntS 1 p.Filter.Vlans.length k) k = k + 1 * p.Filter.Vlans.length := by simp only [heldIntS, mkl_length]
  have d1 : decide (k + 1 * (p.Filter.Vlans.length : Int) < 0) = false := decide_eq_false (by omega)
  have bf : heldFilter_ok (⟨p.Filter.Mac, p.Filter.Promiscuous, mkl fIntS 1 p.Filter.Vlans.length k⟩ : SFilter) k = true := by
    simp only [heldFilter_ok, laws_heldFilter_t, b1, c1, d1, andt_true_l, cond_true, cond_false]
  have cf : heldFilter (⟨p.Filter.Mac, p.Filter.Promiscuous, mkl fIntS 1 p.Filter.Vlans.length k⟩ : SFilter) k = k + 1 * p.Filter.Vlans.length := by
    simp only [heldFilter, laws_heldFilter_t, b1, c1, d1, andt_true_l, cond_true, cond_false]
    rfl
  refine ⟨?_, ?_, ?_, ?_⟩
  · simp only [markMailbox_ok, laws_markMailbox_t, af, andt_true_l, cond_true]
  · rw [e]
    simp only [heldMailbox_ok, laws_heldMailbox_t, bf, cf, d1, andt_true_l, cond_true, cond_false]
  · rw [e]
    simp only [heldMailbox, laws_heldMailbox_t, bf, cf, d1, andt_true_l, cond_true, cond_false]
    rfl
  · rw [e]

def laws_FnExactHandleMessage_t {α : Type} (bad : α) (k_ : Bool → α) (aB : SMailbox) (aX : SMessage) : α :=
  let z0 : Bool := andt (andt true (laws_toMailbox_ok aB)) (mbSm2 (idf aB) (idf aX))
  let z1 : Bool := !(yes2 ((HandleMessage (idf aB) (idf aX)).1) ((HandleMessage (idf aB) (idf aX)).1))
  let z2 : Bool := andt true (same ((HandleMessage (idf aB) (idf aX)).1) ((HandleMessage (idf aB) (idf aX)).1))
  let z3 : Bool := okm z1 z2 z2
  let z4 : Bool := bif z1 then true else ((HandleMessage (idf aB) (idf aX)).2) != ((HandleMessage (idf aB) (idf aX)).2)
  let z5 : Bool := decide ((markMailbox (idf aB) 1).1 < 0)
  let z6 : Int × Rows := markMailbox ((HandleMessage (idf aB) (idf aX)).1) 1
  let z7 : SMailbox := (⟨(⟨(((HandleMessage (idf aB) (idf aX)).1).Filter).Mac, (((HandleMessage (idf aB) (idf aX)).1).Filter).Promiscuous, z6.2⟩ : SFilter), ((HandleMessage (idf aB) (idf aX)).1).Last, ((HandleMessage (idf aB) (idf aX)).1).Answer, ((HandleMessage (idf aB) (idf aX)).1).Done⟩ : SMailbox)
  let z8 : Bool := andt true (heldMailbox_ok z7 1)
  let z9 : Int := heldMailbox z7 1
  let z10 : Bool := decide (z9 < 0)
  let z11 : Bool := z9 != z6.1
  bif decide (laws_szMailbox aB 1048576 < 0) then k_ true
  else bif z0 then
      bif andt true (laws_toMailbox_ok aB) then
        bif andt true (mbSm2 (idf aB) (idf aX)) then
          bif z3 then
            bif z4 then k_ false
            else bif andt (andt true (laws_toMailbox_ok aB)) (same (idf aB) (idf aB)) then
                bif !(yes2 (idf aB) (idf aB)) then k_ false
                else bif andt true (markMailbox_ok (idf aB) 1) then
                    bif okm z5 true z3 then
                      bif bif z5 then true else z4 then k_ false
                      else bif andt true (markMailbox_ok ((HandleMessage (idf aB) (idf aX)).1) 1) then
                          bif z8 then
                            bif z10 then k_ false
                            else bif z11 then k_ false
                            else bif z0 then
                                bif z3 then
                                  bif z4 then k_ false
                                  else bif z8 then
                                      bif z10 then k_ false
                                      else bif z11 then k_ false
                                      else k_ true
                                    else bad
                                else bad
                              else bad
                          else bad
                        else bad
                    else bad
                  else bad
              else bad
          else bad
        else bad
      else bad
    else bad
theorem laws_FnExactHandleMessage_c {α : Type} (bad : α) (k_ : Bool → α) (aB : SMailbox) (aX : SMessage) (h_aB : WtL SMailbox.ct aB.enc) (h_aX : WtL SMessage.ct aX.enc) (hok : fitL (SMailbox.ct ++ (SMessage.ct ++ ([]))) (aB.enc ++ (aX.enc ++ ([]))) = true) : laws_FnExactHandleMessage_t bad k_ aB aX = k_ true := by
  unfold laws_FnExactHandleMessage_t
  by_cases c0 : laws_szMailbox aB 1048576 < 0
  · simp only [c0, decide_true, decide_false, cond_true, cond_false]
  have k0 := laws_szMailbox_ok h_aB (by omega) (by omega) (Int.not_lt.1 c0)
  have hsm : sm aB.Filter.Vlans = true := by
    have k := k0.2
    cases h : sm aB.Filter.Vlans
    · simp only [laws_toMailbox_ok, laws_toMailbox_t, laws_toFilter_ok, laws_toFilter_t, h] at k
      cases k
    · rfl
  have hl := sm_le hsm
  obtain ⟨m1, m2, m3, m4⟩ := mh_Mailbox aB (k := 1) (by omega) (by omega) hsm
  have m5 : ¬ (markMailbox aB 1).1 < 0 := by rw [m4]; omega
  have ko : mbSm2 aB aX = true := hsm
  have hs2 := HandleMessage_sm (x := aX) hsm
  have hl2 := sm_le hs2
  obtain ⟨q1, q2, q3, q4⟩ := mh_Mailbox (HandleMessage aB aX).1 (k := 1) (by omega) (by omega) hs2
  have q5 : decide ((markMailbox (HandleMessage aB aX).1 1).1 < 0) = false := decide_eq_false (by rw [q4]; omega)
  simp only [c0, decide_false, cond_false, cond_true, idf, k0.2, m1, m5, ko, q1, q2, q3, q5, andt_true_l, andt_true_r, same_refl, yes2, beq_self_eq_true, bne_self_eq_false, Bool.not_true, okm_tt]

end
end Go.Proofs.Ytjmgpcfmcdlnpaa.Pl
