/- What functions of the program compute, in plain Lean, as the value machine runs them. Conditions: none. -/
import Derived.Test.YtjknoknkbfhelaaPIm
import Derived.Test.YtjknoknkbfhelaaPFd
set_option linter.unusedVariables false
set_option linter.unusedSimpArgs false
namespace Go.Proofs.Ytjknoknkbfhelaa.Pl
open Vm
noncomputable section


def spec_l36Image_t {α : Type} (bad : α) (k_ : Bytes → Sl01Cur → α) (c : Sl01Cur) : α :=
  let z0 : Rows := [[.int 0], [.int 1], [.int 2], [.int 255], [.int 1000000]]
  let z1 : Int × Sl01Cur := l01PickInt c z0
  let z2 : Int × Sl01Cur := l01Below z1.2 40
  let z3 : Sl01Cur := z2.2
  let z4 : Int := z2.1
  let z5 : Bytes × Sl01Cur := l01Text z3 z4
  let z6 : Bytes := z5.1
  bif andt (andt (andt (andt true (pickOk c z0)) (curOk1 z1.2 40)) (curOk1 z3 z4)) (MakeImage_ok z1.1 z6) then
    k_ ((MakeImage z1.1 z6).1) z5.2
  else bad
def imVs : Rows := [[.int 0], [.int 1], [.int 2], [.int 255], [.int 1000000]]
def imC (c : Sl01Cur) : Sl01Cur := (l01PickInt c imVs).2
def imT (c : Sl01Cur) : Bytes × Sl01Cur := l01Text (l01Below (imC c) 40).2 (l01Below (imC c) 40).1
def l36Image (c : Sl01Cur) : Bytes × Sl01Cur := ((MakeImage (l01PickInt c imVs).1 (imT c).1).1, (imT c).2)
theorem imT_len (c : Sl01Cur) : len (imT c).1 ≤ 39 := by
  have a := l01Below_range (imC c) 40
  have a2 := a.2 (by omega)
  unfold imT
  rw [l01Text_len _ a.1 (by omega)]
  omega
theorem im_v (c : Sl01Cur) : 0 ≤ (l01PickInt c imVs).1 ∧ (l01PickInt c imVs).1 ≤ 1000000 := by
  obtain ⟨k, h, e⟩ := l01PickInt_mem c (l := imVs) (by decide)
  rw [e]
  have : k = 0 ∨ k = 1 ∨ k = 2 ∨ k = 3 ∨ k = 4 := by simp only [imVs, List.length_cons, List.length_nil] at h; omega
  rcases this with rfl | rfl | rfl | rfl | rfl <;> decide
theorem l36Image_eq (c : Sl01Cur) : (l36Image c).1 = imgS (l01PickInt c imVs).1 (imT c).1 := by
  have h := im_v c
  have hl := imT_len c
  unfold l36Image
  rw [make_eq h.1 h.2 (by omega)]
theorem l36Image_len (c : Sl01Cur) : (l36Image c).1.length ≤ 51 := by
  have h := im_v c
  have hl := imT_len c
  rw [l36Image_eq, imgS_len h.1 h.2 (by omega)]
  simp only [len] at hl
  omega
theorem l36Image_cur {c : Sl01Cur} (h : curOk c = true) : curOk (l36Image c).2 = true := l01Text_cur (l01Below_cur (l01PickInt_cur h imVs) 40) _
theorem spec_l36Image_c {α : Type} (bad : α) (k_ : Bytes → Sl01Cur → α) (c : Sl01Cur) (h_c : WtL Sl01Cur.ct c.enc) (hok : curOk c = true) : spec_l36Image_t bad k_ c = k_ (l36Image c).1 (l36Image c).2 := by
  have h1 := l01PickInt_cur hok imVs
  have h2 := l01Below_cur h1 40
  have hl := imT_len c
  have o1 : pickOk c [[.int 0], [.int 1], [.int 2], [.int 255], [.int 1000000]] = true := by simp only [pickOk, hok]; rfl
  have o2 : curOk1 (l01PickInt c [[.int 0], [.int 1], [.int 2], [.int 255], [.int 1000000]]).2 40 = true := h1
  have o3 : ∀ n, curOk1 (l01Below (l01PickInt c [[.int 0], [.int 1], [.int 2], [.int 255], [.int 1000000]]).2 40).2 n = true := fun _ => h2
  have o4 : ∀ v, MakeImage_ok v (imT c).1 = true := fun v => decide_eq_true (by simp only [len] at hl; omega)
  have o5 : ∀ v, MakeImage_ok v (l01Text (l01Below (l01PickInt c [[.int 0], [.int 1], [.int 2], [.int 255], [.int 1000000]]).2 40).2 (l01Below (l01PickInt c [[.int 0], [.int 1], [.int 2], [.int 255], [.int 1000000]]).2 40).1).1 = true := o4
  unfold spec_l36Image_t l36Image
  simp only [o1, o2, o3, o5, andt_true_l, andt_true_r, cond_true]
  rfl

def spec_l36Flash_l0 {α : Type} (bad : α) (k_ : SFlash → Sl01Cur → α) (ih0 : Int → Rows → Int → Int → Rows → α) (k : Int) (b5000000 : Rows) (b5000000_1 : Int) (b5000000_2 : Int) (f_0 : Rows) : α :=
  let z0 : Bool × Sl01Cur := l01Once ((l36Image (⟨b5000000, b5000000_1, b5000000_2⟩ : Sl01Cur)).2) 5
  let z1 : Bytes × Sl01Cur := l01Text z0.2 30
  let z2 : Bytes := z1.1
  let z3 : Int := w64 (96 - (len z2))
  let z4 : Sl01Cur := z1.2
  let z5 : Int := w64 (96 - (len ((l36Image (⟨b5000000, b5000000_1, b5000000_2⟩ : Sl01Cur)).1)))
  bif decide (k < 2) then
    bif andt true (curOk (⟨b5000000, b5000000_1, b5000000_2⟩ : Sl01Cur)) then
      bif andt true (curOk1 ((l36Image (⟨b5000000, b5000000_1, b5000000_2⟩ : Sl01Cur)).2) 5) then
        bif z0.1 then
          bif andt true (curOk1 z0.2 30) then
            bif andt (andt (andt true (l01Long_ok z3 255)) (catOk z2 (l01Long z3 255))) (room2 16 f_0 ([[.str (z2 ++ (l01Long z3 255))]])) then
              ih0 (w64 (k + 1)) z4.b z4.i z4.h (f_0 ++ ([[.str (z2 ++ (l01Long z3 255))]]))
            else bad
          else bad
        else bif andt (andt (andt true (l01Long_ok z5 255)) (catOk ((l36Image (⟨b5000000, b5000000_1, b5000000_2⟩ : Sl01Cur)).1) (l01Long z5 255))) (room2 16 f_0 ([[.str (((l36Image (⟨b5000000, b5000000_1, b5000000_2⟩ : Sl01Cur)).1) ++ (l01Long z5 255))]])) then
            ih0 (w64 (k + 1)) z0.2.b z0.2.i z0.2.h (f_0 ++ ([[.str (((l36Image (⟨b5000000, b5000000_1, b5000000_2⟩ : Sl01Cur)).1) ++ (l01Long z5 255))]]))
          else bad
      else bad
    else bad
  else k_ (⟨f_0⟩ : SFlash) (⟨b5000000, b5000000_1, b5000000_2⟩ : Sl01Cur)
def spec_l36Flash_L0 {α : Type} (bad : α) (k_ : SFlash → Sl01Cur → α) (N : Nat) (m_ : Nat) : Int → Rows → Int → Int → Rows → α :=
  Nat.rec (motive := fun _ => Int → Rows → Int → Int → Rows → α) (fun _ _ _ _ _ => bad) (fun _ ih0 => spec_l36Flash_l0 bad k_ ih0) m_
theorem spec_l36Flash_L0_z {α : Type} (bad : α) (k_ : SFlash → Sl01Cur → α) (N : Nat) (k : Int) (b5000000 : Rows) (b5000000_1 : Int) (b5000000_2 : Int) (f_0 : Rows) : spec_l36Flash_L0 bad k_ N 0 k b5000000 b5000000_1 b5000000_2 f_0 = bad := rfl
theorem spec_l36Flash_L0_s {α : Type} (bad : α) (k_ : SFlash → Sl01Cur → α) (N : Nat) (m_ : Nat) (k : Int) (b5000000 : Rows) (b5000000_1 : Int) (b5000000_2 : Int) (f_0 : Rows) : spec_l36Flash_L0 bad k_ N (m_ + 1) k b5000000 b5000000_1 b5000000_2 f_0 = spec_l36Flash_l0 bad k_ (spec_l36Flash_L0 bad k_ N m_) k b5000000 b5000000_1 b5000000_2 f_0 := rfl
def spec_l36Flash_t {α : Type} (bad : α) (k_ : SFlash → Sl01Cur → α) (l0 : Int → Rows → Int → Int → Rows → α) (c : Sl01Cur) : α :=
  l0 0 c.b c.i c.h []
def spec_l36Flash_f {α : Type} (bad : α) (k_ : SFlash → Sl01Cur → α) (N : Nat) (c : Sl01Cur) : α := spec_l36Flash_t bad k_ (spec_l36Flash_L0 bad k_ N N) c
def pad (s : Bytes) : Bytes := s ++ l01Long (96 - len s) 255
def fbC (c : Sl01Cur) : Bool × Sl01Cur := l01Once (l36Image c).2 5
def fb (c : Sl01Cur) : Bytes × Sl01Cur := bif (fbC c).1 then (pad (l01Text (fbC c).2 30).1, (l01Text (fbC c).2 30).2) else (pad (l36Image c).1, (fbC c).2)
def l36Flash (c : Sl01Cur) : SFlash × Sl01Cur := (⟨[[.str (fb c).1], [.str (fb (fb c).2).1]]⟩, (fb (fb c).2).2)
theorem fb_key (O T : Bool × Sl01Cur) (X Y : Bytes) (C : Sl01Cur) (h1 : curOk O.2 = true) (h2 : curOk C = true) : curOk (bif O.1 then (X, C) else (Y, O.2)).2 = true := by
  cases O.1
  · exact h1
  · exact h2
theorem fb_step {α : Type} (F : Rows → Int → Int → Rows → α) (b : Bool) (X Y : Bytes) (C D : Sl01Cur) (f : Rows) : (bif b then F C.b C.i C.h (f ++ [[.str X]]) else F D.b D.i D.h (f ++ [[.str Y]])) = F (bif b then (X, C) else (Y, D)).2.b (bif b then (X, C) else (Y, D)).2.i (bif b then (X, C) else (Y, D)).2.h (f ++ [[.str (bif b then (X, C) else (Y, D)).1]]) := by cases b <;> rfl
theorem fb_cur {c : Sl01Cur} (h : curOk c = true) : curOk (fb c).2 = true := by
  have h1 : curOk (fbC c).2 = true := l01Once_cur (l36Image_cur h) 5
  have h2 := l01Text_cur (c := (fbC c).2) h1 30
  exact fb_key (fbC c) (fbC c) _ _ _ h1 h2
theorem l36Flash_cur {c : Sl01Cur} (h : curOk c = true) : curOk (l36Flash c).2 = true := fb_cur (fb_cur h)
theorem pad_len {s : Bytes} (h : s.length ≤ 96) : (pad s).length = 96 := by
  simp only [pad, l01Long, len, List.length_append, List.length_replicate]
  omega
theorem fb_len (c : Sl01Cur) : (fb c).1.length = 96 := by
  have h := l36Image_len c
  unfold fb
  cases (fbC c).1
  · simp only [cond_false]
    exact pad_len (by omega)
  · have := l01Text_len (fbC c).2 (n := 30) (by omega) (by omega)
    simp only [cond_true]
    exact pad_len (by simp only [len] at this; omega)
theorem spec_l36Flash_c {α : Type} (bad : α) (k_ : SFlash → Sl01Cur → α) (c : Sl01Cur) (h_c : WtL Sl01Cur.ct c.enc) (hok : curOk c = true) : ∃ N, spec_l36Flash_f bad k_ N c = k_ (l36Flash c).1 (l36Flash c).2 := by
  refine ⟨3, ?_⟩
  unfold spec_l36Flash_f spec_l36Flash_t l36Flash
  have round : ∀ (q k : Nat) (c : Sl01Cur) (f : Rows), curOk c = true → k < 2 → f.length ≤ 2 → spec_l36Flash_L0 bad k_ 3 (q + 1) (k : Int) c.b c.i c.h f = spec_l36Flash_L0 bad k_ 3 q ((k : Int) + 1) (fb c).2.b (fb c).2.i (fb c).2.h (f ++ [[.str (fb c).1]]) := by
    intro q k c f hc hk hf
    rw [spec_l36Flash_L0_s]
    have ec : (⟨c.b, c.i, c.h⟩ : Sl01Cur) = c := rfl
    have ew : w64 ((k : Int) + 1) = (k : Int) + 1 := w64_in (by omega) (by omega)
    have h1 := l36Image_cur hc
    have o1 : curOk1 (l36Image c).2 5 = true := h1
    have o2 : curOk1 (l01Once (l36Image c).2 5).2 30 = true := l01Once_cur h1 5
    have hl := l36Image_len c
    have ht := l01Text_len (l01Once (l36Image c).2 5).2 (n := 30) (by omega) (by omega)
    have w1 : w64 (96 - len (l36Image c).1) = 96 - len (l36Image c).1 := w64_in (by simp only [len]; omega) (by simp only [len]; omega)
    have w2 : w64 (96 - len (l01Text (l01Once (l36Image c).2 5).2 30).1) = 96 - len (l01Text (l01Once (l36Image c).2 5).2 30).1 := w64_in (by rw [ht]; omega) (by rw [ht]; omega)
    have l1 : l01Long_ok (96 - len (l36Image c).1) 255 = true := between_iff.2 (by simp only [len]; omega)
    have l2 : l01Long_ok (96 - len (l01Text (l01Once (l36Image c).2 5).2 30).1) 255 = true := between_iff.2 (by rw [ht]; omega)
    have hr : ∀ x : List DC, room2 16 f [x] = true := fun x => room2_le (by simp only [List.length_cons, List.length_nil]; omega) (by omega)
    have cc : ∀ (s : Bytes), s.length ≤ 96 → catOk s (l01Long (96 - len s) 255) = true := fun s hs => by simp only [catOk, l01Long, len, List.length_replicate, decide_eq_true_eq]; omega
    have c1 := cc (l36Image c).1 (by omega)
    have c2 := cc (l01Text (l01Once (l36Image c).2 5).2 30).1 (by simp only [len] at ht; omega)
    simp only [spec_l36Flash_l0, decide_eq_true (show (k : Int) < 2 by omega), ec, hc, o1, o2, ew, w1, w2, l1, l2, c1, c2, hr, andt_true_l, andt_true_r, cond_true]
    have eO : l01Once (l36Image c).2 5 = fbC c := rfl
    rw [eO]
    unfold fb
    clear w1 w2 l1 l2 c1 c2 ht o2 o1 h1 hl ec
    generalize l01Text (fbC c).2 30 = T
    generalize fbC c = O
    generalize l36Image c = I
    exact fb_step (spec_l36Flash_L0 bad k_ 3 q ((k : Int) + 1)) O.1 _ _ _ _ f
  have r0 := round 2 0 c [] hok (by omega) (by simp)
  have r1 := round 1 1 (fb c).2 ([] ++ [[.str (fb c).1]]) (fb_cur hok) (by omega) (by simp)
  have r2 : ∀ (b : Rows) (i h : Int) (f : Rows), spec_l36Flash_L0 bad k_ 3 1 2 b i h f = k_ (⟨f⟩ : SFlash) (⟨b, i, h⟩ : Sl01Cur) := by
    intro b i h f
    rw [spec_l36Flash_L0_s]
    simp only [spec_l36Flash_l0, show decide ((2 : Int) < 2) = false from rfl, cond_false]
  generalize fb (fb c).2 = B at r1 ⊢
  generalize fb c = A at r0 r1 ⊢
  have e1 : ((0 : Nat) : Int) + 1 = ((1 : Nat) : Int) := rfl
  have e2 : ((1 : Nat) : Int) + 1 = 2 := rfl
  rw [e1] at r0
  rw [e2, r2] at r1
  exact r0.trans r1

def spec_DrawUpdate_t {α : Type} (bad : α) (k_ : SFlash → Bytes → Int → Int → α) (code : Rows) : α :=
  let z0 : Int × Sl01Cur := l01Below ((l36Image ((l36Flash (l01New code)).2)).2) 12
  bif andt true (curOk (l01New code)) then
    bif andt true (curOk ((l36Flash (l01New code)).2)) then
      bif andt true (curOk1 ((l36Image ((l36Flash (l01New code)).2)).2) 12) then
        bif andt true (curOk1 z0.2 12) then
          k_ ((l36Flash (l01New code)).1) ((l36Image ((l36Flash (l01New code)).2)).1) z0.1 ((l01Below z0.2 12).1)
        else bad
      else bad
    else bad
  else bad
def duF (code : Rows) : SFlash × Sl01Cur := l36Flash (l01New code)
def duI (code : Rows) : Bytes × Sl01Cur := l36Image (duF code).2
def DrawUpdate (code : Rows) : SFlash × Bytes × Int × Int := ((duF code).1, (duI code).1, (l01Below (duI code).2 12).1, (l01Below (l01Below (duI code).2 12).2 12).1)
theorem spec_DrawUpdate_c {α : Type} (bad : α) (k_ : SFlash → Bytes → Int → Int → α) (code : Rows) (h_code : WtC (.sl [.int .u8]) (.sl code)) : spec_DrawUpdate_t bad k_ code = k_ (DrawUpdate code).1 (DrawUpdate code).2.1 (DrawUpdate code).2.2.1 (DrawUpdate code).2.2.2 := by
  have h0 := l01New_ok (wt_sl h_code).1
  have h1 := l36Flash_cur h0
  have h2 := l36Image_cur h1
  have o1 : curOk1 (l36Image (l36Flash (l01New code)).2).2 12 = true := h2
  have o2 : curOk1 (l01Below (l36Image (l36Flash (l01New code)).2).2 12).2 12 = true := l01Below_cur h2 12
  unfold spec_DrawUpdate_t DrawUpdate
  simp only [h0, h1, o1, o2, andt_true_l, andt_true_r, cond_true]
  rfl

end
end Go.Proofs.Ytjknoknkbfhelaa.Pl
