/- For every clock the law FnExactClockOk returns true and its argument reads as it did. No conditions. -/
import Derived.Test.YtpkkffngnchieaaRows
import Derived.Test.YtpkkffngnchieaaLaw
import Derived.WalkKit
import Derived.ProofKit
import Derived.OpenShut
import Derived.WalkSpells
import Derived.WalkLawsBesides
import Derived.Carry
import Derived.Laws.Rows
namespace Go.Proofs.Ytpkkffngnchieaa.ClockOk
open Go.ChangeShapes Go.WideShapes Go.ChangeAt Go.RowKit
def inB (n lo hi : Int) : Bool := decide (lo ≤ n) && decide (n ≤ hi)
theorem in_any (n lo hi : Int) (w : World) :
    Calls Try.prog 29 #[.int .i64 n, .int .i64 lo, .int .i64 hi] w fun e w' => e = .returned (.bool (inB n lo hi)) ∧ w = w' := by
  go_enter Try.func29, Try.ntmps29
  go_wp2
  all_goals (go_ret; simp [inB]; try omega)
theorem between_any (n lo hi : Int) (w : World) :
    Calls Try.prog 30 #[.int .i64 n, .int .i64 lo, .int .i64 hi] w fun e w' => e = .returned (.bool (inB n lo hi)) ∧ w = w' := by
  go_enter Try.func30, Try.ntmps30
  go_wp2
  all_goals (go_ret; simp [inB]; try omega)
def clockOk (t f r d : Int) : Bool := inB t 0 1125899906842624 && inB f 0 1048575 && inB r 0 67108864 && inB d 0 1099511627776
theorem spec_ok (t f r d : Int) (w : World) :
    Calls Try.prog 12 #[.agg #[.int .i64 t, .int .i64 f, .int .i64 r, .int .i64 d]] w fun e w' => e = .returned (.bool (clockOk t f r d)) ∧ Below w.heap.size w w' := by
  have key : ∀ b1 b2 b3 b4 : Bool, inB t 0 1125899906842624 = b1 → inB f 0 1048575 = b2 → inB r 0 67108864 = b3 → inB d 0 1099511627776 = b4 → Calls Try.prog 12 #[.agg #[.int .i64 t, .int .i64 f, .int .i64 r, .int .i64 d]] w fun e w' => e = .returned (.bool (b1 && b2 && b3 && b4)) ∧ Below w.heap.size w w' := by
    intro b1 b2 b3 b4 h1 h2 h3 h4
    cases b1 <;> cases b2 <;> cases b3 <;> cases b4 <;>
    (go_enter Try.func12, Try.ntmps12
     go_wp2_with (go_at_call 29; refine (in_any _ _ _ _).mono ?_; rintro e w' ⟨rfl, rfl⟩; try simp only [h1, h2, h3, h4])
     all_goals (go_ret; exact ⟨rfl, by repeat (first | exact Below.refl _ _ | apply Below.drew | exact Below.alloc (Below.refl _ _) (Nat.le_refl _) _)⟩))
  exact key _ _ _ _ rfl rfl rfl rfl
theorem impl_ok (t f r d : Int) (w : World) :
    Calls Try.prog 14 #[.agg #[.int .i64 t, .int .i64 f, .int .i64 r, .int .i64 d]] w fun e w' => e = .returned (.bool (clockOk t f r d)) ∧ Below w.heap.size w w' := by
  have key : ∀ b1 b2 b3 b4 : Bool, inB t 0 1125899906842624 = b1 → inB f 0 1048575 = b2 → inB r 0 67108864 = b3 → inB d 0 1099511627776 = b4 → Calls Try.prog 14 #[.agg #[.int .i64 t, .int .i64 f, .int .i64 r, .int .i64 d]] w fun e w' => e = .returned (.bool (b1 && b2 && b3 && b4)) ∧ Below w.heap.size w w' := by
    intro b1 b2 b3 b4 h1 h2 h3 h4
    cases b1 <;> cases b2 <;> cases b3 <;> cases b4 <;>
    (go_enter Try.func14, Try.ntmps14
     go_wp2_with (go_at_call 30; refine (between_any _ _ _ _).mono ?_; rintro e w' ⟨rfl, rfl⟩; try simp only [h1, h2, h3, h4])
     all_goals (go_ret; exact ⟨rfl, by repeat (first | exact Below.refl _ _ | apply Below.drew | exact Below.alloc (Below.refl _ _) (Nat.le_refl _) _)⟩))
  exact key _ _ _ _ rfl rfl rfl rfl

theorem size_alloc (w : World) (o : Obj) : (w.alloc o).heap.size = w.heap.size + 1 := by
  show (w.heap.push o).size = _
  simp

theorem toClock_any (t f r d : Int) (w : World) :
    Calls Try.prog 13 #[.agg #[.int .i64 t, .int .i64 f, .int .i64 r, .int .i64 d]] w fun e w' => e = .returned (.agg #[.int .i64 t, .int .i64 f, .int .i64 r, .int .i64 d]) ∧ Below w.heap.size w w' := by
  go_enter Try.func13, Try.ntmps13
  go_wp2
  refine ⟨rfl, _, results_cell_row (p := 2) (ty := 25) rfl _ _ (w.heap.size + 1) 25 #[.int .i64 t, .int .i64 f, .int .i64 r, .int .i64 d] (0, 0) _ rfl ?_ Try.underlying25 rfl (by kernel_rfl), rfl, ?_⟩
  · rw [Below.heap_alloc _ _ _ (by rw [size_alloc, size_alloc]; omega), ← size_alloc w, Go.heap_alloc_new]
  · refine Below.alloc (Below.alloc (Below.alloc (Below.refl _ _) (Nat.le_refl _) _) ?_ _) ?_ _
    all_goals (simp only [size_alloc]; omega)

theorem cell_after {w w1 w2 : World} {c : Array Value} {y : TypeId} (b1 : Below (w.alloc (.cells c y)).heap.size (w.alloc (.cells c y)) w1) (b2 : Below w1.heap.size w1 w2) (i : Nat) :
    w2.cell? { block := w.heap.size, off := i } = c[i]? := by
  have h1 : w.heap.size < (w.alloc (.cells c y)).heap.size := by rw [size_alloc]; omega
  have h2 : w.heap.size < w1.heap.size := Nat.lt_of_lt_of_le h1 b1.size
  rw [b2.cell h2, b1.cell h1]
  unfold World.cell?
  rw [Go.heap_alloc_new]
  rfl

theorem below_chain {w w1 w2 : World} {o : Obj} (b1 : Below (w.alloc o).heap.size (w.alloc o) w1) (b2 : Below w1.heap.size w1 w2) : Below w.heap.size w w2 := by
  have h0 : Below w.heap.size w (w.alloc o) := Below.alloc (Below.refl _ _) (Nat.le_refl _) _
  have h1 : Below w.heap.size w w1 := h0.trans (b1.mono (by rw [size_alloc]; omega))
  exact h1.trans (b2.mono h1.size)

theorem walk (t f r d : Int) (w : World) :
    Calls Try.prog 3 #[.agg #[.int .i64 t, .int .i64 f, .int .i64 r, .int .i64 d]] w fun e w' => e = .returned (.bool true) ∧ Below w.heap.size w w' := by
  go_enter Try.func3, Try.ntmps3
  go_wp2_with (first
    | (go_at_call 13; refine (toClock_any _ _ _ _ _).mono ?_; rintro e w1 ⟨rfl, b1⟩)
    | (go_at_call 12; refine (spec_ok _ _ _ _ _).mono ?_; rintro e w2 ⟨rfl, b2⟩; have b12 := below_chain b1 b2; have c0 := cell_after b1 b2 0; have c1 := cell_after b1 b2 1; have c2 := cell_after b1 b2 2; have c3 := cell_after b1 b2 3; simp only [List.getElem?_toArray, List.getElem?_cons_zero, List.getElem?_cons_succ] at c0 c1 c2 c3)
    | (go_at_call 14; refine (impl_ok _ _ _ _ _).mono ?_; rintro e w3 ⟨rfl, b3⟩))
  go_ret
  exact ⟨rfl, (b12.trans (b1.mono b12.size)).trans (b3.mono (Nat.le_trans b12.size b1.size))⟩

/-- The clock's cells. -/
theorem open_clock {W : World} {r : Reach} {base : Nat} {v : Value} (h : Value.okWide Try.prog W r base 23 v) :
    ∃ t f r d : Int, v = .agg #[.int .i64 t, .int .i64 f, .int .i64 r, .int .i64 d] := by
  have h' := h
  unfold Value.okWide at h'
  rw [Try.underlying23] at h'
  obtain ⟨cs, rfl, hs, ts, hts, _, hc⟩ := h'
  have e1 : Try.prog.cellTypes Try.prog.depth 23 = some [3, 3, 3, 3] := by kernel_rfl
  rw [e1] at hts
  obtain rfl := Option.some.inj hts
  have e2 : Try.prog.cellsOf 23 = 4 := by kernel_rfl
  rw [e2] at hs
  have key : ∀ i, i < 4 → ∃ n : Int, cs[i]? = some (.int .i64 n) := by
    intro i hi
    obtain ⟨u, hu, hk⟩ := hc i _ (Array.getElem?_eq_getElem (show i < cs.size by omega))
    have : u = 3 := by
      have : i = 0 ∨ i = 1 ∨ i = 2 ∨ i = 3 := by omega
      rcases this with rfl | rfl | rfl | rfl <;> simpa using hu.symm
    subst this
    have hv : Value.okWide Try.prog W r base 3 cs[i] := by
      unfold Value.okWide
      rw [Try.underlying3]
      exact hk
    obtain ⟨n, hn⟩ := okWide_int Try.underlying3 hv
    exact ⟨n, by rw [Array.getElem?_eq_getElem (show i < cs.size by omega), hn]⟩
  obtain ⟨t, ht⟩ := key 0 (by omega)
  obtain ⟨f, hf⟩ := key 1 (by omega)
  obtain ⟨r, hr⟩ := key 2 (by omega)
  obtain ⟨d, hd⟩ := key 3 (by omega)
  refine ⟨t, f, r, d, ?_⟩
  congr 1
  apply Array.ext_getElem?
  intro i
  by_cases hi : i < 4
  · have : i = 0 ∨ i = 1 ∨ i = 2 ∨ i = 3 := by omega
    rcases this with rfl | rfl | rfl | rfl <;> simp [ht, hf, hr, hd]
  · rw [Array.getElem?_eq_none (by omega), Array.getElem?_eq_none (by simp; omega)]

theorem own : ownKnob Try.prog.godebug = none := by kernel_rfl
set_option maxRecDepth 100000 in
theorem lifted (os : Os) (started : os.Started) (H : Type) (enc : TypeId × Value → H) :
    ReturnsInHanded {} Try.checked os 3 .any (Rows.fnExactClockOkSpec.pre6 enc Try.prog Try.f3 Rows.fnExactClockOkRow.domain false) (Rows.fnExactClockOkSpec.post enc Try.prog Try.f3 false true false false) := by
  refine returnsInHanded_of_change (C := Try.checked) own started (by kernel_rfl) Try.func3
    (ChangeSpec.witness6 (enc := enc) (C := Try.checked) false ⟨#[], #[.agg #[.int .i64 0, .int .i64 0, .int .i64 0, .int .i64 0]], []⟩ 8 (by kernel_rfl) (by kernel_rfl) (by kernel_rfl) (by kernel_rfl)) ?_
  intro W base args ds gs before hval hW _ _
  have hW' := hW
  obtain ⟨p, q, hA0, _, _, _, _⟩ := hW
  have hA : DataW.TrodAll enc Try.prog W 0 (fun _ => true) true Try.f3.params.toList args.toList ds p := hA0
  rw [Try.params3] at hA
  obtain ⟨v0, vs0, d0, ds0, p0, q0, hargs, rfl, rfl, h0, r0⟩ := trodAll_cons hA
  obtain ⟨rfl, rfl, rfl⟩ := trodAll_nil r0
  obtain rfl : args = #[v0] := by cases args; simp_all
  obtain ⟨t, f, r, d, rfl⟩ := open_clock (hval 0 23 v0 (by rw [show Try.checked.prog = Try.prog from rfl] at *; exact (by kernel_rfl : Try.f3.params[0]? = some 23)) rfl)
  refine (walk t f r d W).mono fun e W' ⟨he, hb⟩ => ?_
  subst he
  exact ⟨_, rfl, Law.law_post (t4 := 4) (by kernel_rfl) rfl (by rw [Try.params3]; intro t ht; simp at ht; subst ht; exact ⟨by kernel_rfl, of_decide_eq_true (by kernel_rfl)⟩) (by kernel_rfl) Try.underlying4 hW' rfl rfl rfl hb⟩

theorem over : Rows.fnExactClockOkRow.holds Try.pinned (OpenSpec.ofChange Rows.fnExactClockOkSpec) :=
  OpenClaim.holds_of_wide 3 Try.f3 rfl rfl rfl rfl rfl rfl rfl ⟨rfl, rfl, rfl, rfl, rfl⟩ rfl rfl rfl rfl rfl (by kernel_rfl) Try.func3 (by kernel_rfl)
    (of_decide_eq_true (by kernel_rfl)) (by unfold Func.isWrapper; first | (rw [if_pos (by decide +kernel)]; kernel_rfl) | (rw [if_neg (by decide +kernel)]; exact ⟨rfl, rfl⟩))
    (fun os started H enc _ => lifted os started H enc)

theorem proved : Rows.FnExactClockOkSaid := over
#print axioms proved
end Go.Proofs.Ytpkkffngnchieaa.ClockOk
