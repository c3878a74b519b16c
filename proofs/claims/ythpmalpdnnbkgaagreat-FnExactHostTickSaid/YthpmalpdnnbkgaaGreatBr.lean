/- From a law's contract in the value machine to the law's statement: the arguments are opened, their sizes are told. Conditions: the contract holds. -/
import Derived.Test.YthpmalpdnnbkgaaGreatPre
import Derived.Test.YthpmalpdnnbkgaaGreatLaw
import Derived.Test.YthpmalpdnnbkgaaGreatRows
import Derived.JoinedCond
import Derived.Deep.CondSized
namespace Go.Proofs.YthpmalpdnnbkgaaGreat.Br
open Go.ChangeShapes Go.WideShapes Go.ChangeAt Go.RowKit Vm Pl

/-- The fields lie one behind the other. -/
def fieldsOk (P : Program) (n : Nat) (ok : TypeId → Bool) : List Field → Nat → Bool
  | [], o => Nat.beq o n
  | f :: l, o => Nat.beq f.offset o && ok f.type && fieldsOk P n ok l (o + P.cellsOf f.type)

def tyOk (P : Program) : Nat → TypeId → Bool
  | 0, _ => false
  | n + 1, t =>
    match P.underlying t with
    | some .bool => Nat.beq (P.cellsOf t) 1
    | some (.int _) => Nat.beq (P.cellsOf t) 1
    | some .string => Nat.beq (P.cellsOf t) 1
    | some (.slice e) => Nat.beq (P.cellsOf t) 1 && tyOk P n e && Nat.blt 0 (P.cellsOf e) && (match ctsOf P n e with | some l => decide (ctsBytes l ≤ P.bytesOf e) | none => false)
    | some (.struct fs) => fieldsOk P (P.cellsOf t) (tyOk P n) fs.toList 0
    | _ => false

theorem RdL.append {w : World} : ∀ {cs cs' : List CT} {d d' : List DC} {f g : Nat → Option Value} {p q : List Nat}, RdL w cs d f p → RdL w cs' d' g q → (∀ j, g j = f (cs.length + j)) → RdL w (cs ++ cs') (d ++ d') f (p ++ q)
  | [], cs', d, d', f, g, p, q, h, h', hj => by
    simp only [RdL] at h
    obtain ⟨rfl, rfl⟩ := h
    have : g = f := by funext j; rw [hj]; simp
    subst this
    simpa using h'
  | c :: cs, cs', _, d', f, g, _, q, h, h', hj => by
    simp only [RdL] at h
    obtain ⟨d, r', v, f1, f2, rfl, h1, h2, h3, rfl⟩ := h
    simp only [List.cons_append, RdL]
    refine ⟨d, r' ++ d', v, f1, f2 ++ q, rfl, h1, h2, RdL.append h3 h' (fun j => ?_), by simp⟩
    rw [hj]
    simp only [List.length_cons]
    congr 1
    omega

theorem RdL.congr {w : World} {cs : List CT} {d : List DC} {f g : Nat → Option Value} {p : List Nat} (h : RdL w cs d f p) (hj : ∀ j, j < cs.length → g j = f j) : RdL w cs d g p := by
  induction cs generalizing d f g p with
  | nil => simpa only [RdL] using h
  | cons c cs ih =>
    simp only [RdL] at h ⊢
    obtain ⟨x, r', v, f1, f2, rfl, h1, h2, h3, rfl⟩ := h
    refine ⟨x, r', v, f1, f2, rfl, ?_, h2, ih h3 (fun j hj' => hj (j + 1) (by simp only [List.length_cons]; omega)), rfl⟩
    rw [hj 0 (by simp)]
    exact h1

theorem bulkL_append (a b : List DC) : bulkL (a ++ b) = bulkL a + bulkL b := by
  induction a with
  | nil => simp [bulkL]
  | cons d l ih => simp only [List.cons_append, bulkL, ih]; omega

theorem fitL_append : ∀ {cs cs' : List CT} {a b : List DC}, a.length = cs.length → fitL (cs ++ cs') (a ++ b) = (fitL cs a && fitL cs' b)
  | [], cs', a, b, h => by
    have : a = [] := List.length_eq_zero_iff.1 h
    subst this
    simp [fitL]
  | c :: cs, cs', a, b, h => by
    cases a with
    | nil => simp at h
    | cons x a =>
      simp only [List.cons_append, fitL, List.headD_cons, List.tail_cons]
      rw [fitL_append (by simpa using h), Bool.and_assoc]

section
variable {H : Type} {enc : TypeId × Value → H} {P : Program} {w : World}

def Opened (P : Program) (w : World) (t : TypeId) (cts : List CT) (cs : List Value) (d : DataW H) : Prop :=
  ∃ ds fp, RdL w cts ds (fun j => cs[j]?) fp ∧ cs.length = cts.length ∧ cts.length = P.cellsOf t ∧ (∀ v ∈ cs, v.oneCell' = true) ∧ bulkL ds + 1 ≤ Rows.uptoBulk d ∧
    ((DataW.weights P t d).all (· ≤ reachBytes) = true → fitL cts ds = true)

theorem cells_get {a : Addr} {n : Nat} {cs : List Value} (h : w.cells? 0 a n = some cs) : cs.length = n ∧ ∀ j, j < n → w.cell? (a.add j) = cs[j]? := by
  unfold World.cells? at h
  rw [if_pos (Nat.zero_le _)] at h
  refine ⟨by simpa using mapM_some_length h, fun j hj => ?_⟩
  exact mapM_some_get h j j (by simp [hj])

theorem cell_some {a : Addr} {v : Value} (h : w.cell? a = some v) : a.spot = none ∧ a.block < w.heap.size := by
  unfold World.cell? at h
  split at h
  · rename_i c _ _ hb
    refine ⟨?_, ?_⟩
    · cases hs : a.spot with
      | none => rfl
      | some s => simp [hs] at h
    · exact (Array.getElem?_eq_some_iff.1 hb).1
  · simp at h

theorem fields_open {n m fuel : Nat} {spare : Nat → Bool} {cs : List Value}
    (ih : ∀ t cts (cs : List Value) (x : DataW H × List MemPlace), ctsOf P n t = some cts → tyOk P n t = true → DataW.trod enc P w 0 spare true fuel t cs = some x → Opened P w t cts cs x.1) :
    ∀ (fs : List Field) (xs : List (DataW H × List MemPlace)) (cts : List CT) (o : Nat), fieldsOk P m (tyOk P n) fs o = true → cs.length = m → o ≤ m →
      fs.foldr (fun f r => match ctsOf P n f.type, r with | some l, some m => some (l ++ m) | _, _ => none) (some []) = some cts → xs.length = fs.length →
      (∀ (i : Nat) (f : Field), fs[i]? = some f → DataW.trod enc P w 0 spare true fuel f.type ((cs.drop f.offset).take (P.cellsOf f.type)) = xs[i]?) →
      ∃ ds fp, RdL w cts ds (fun j => (cs.drop o)[j]?) fp ∧ o + cts.length = m ∧ (∀ v ∈ cs.drop o, v.oneCell' = true) ∧ bulkL ds + xs.length ≤ Rows.uptoBulkAll (xs.map (·.1)) ∧
        ((DataW.weightsEach P (fs.map (·.type)) (xs.map (·.1))).all (· ≤ reachBytes) = true → fitL cts ds = true)
  | [], xs, cts, o, hf, hm, hom, hc, hx, ht => by
    simp only [List.foldr_nil, Option.some.injEq] at hc
    subst hc
    have := List.length_eq_zero_iff.1 hx
    subst this
    have ho : o = m := Nat.eq_of_beq_eq_true (by simpa only [fieldsOk] using hf)
    subst ho
    refine ⟨[], [], by simp [RdL], by simp, ?_, by simp [bulkL, Rows.uptoBulkAll], fun _ => by simp [fitL]⟩
    rw [List.drop_eq_nil_of_le (by omega)]
    simp
  | f :: fs, xs, cts, o, hf, hm, hom, hc, hx, ht => by
    simp only [fieldsOk, Bool.and_eq_true] at hf
    obtain ⟨⟨ho, hty⟩, hf⟩ := hf
    have ho := Nat.eq_of_beq_eq_true ho
    simp only [List.foldr_cons] at hc
    cases xs with
    | nil => simp at hx
    | cons x xs =>
      split at hc
      case h_2 => cases hc
      rename_i l r hl hr
      simp only [Option.some.injEq] at hc
      subst hc
      have h0 := ht 0 f rfl
      simp only [List.getElem?_cons_zero] at h0
      obtain ⟨ds, fp, g1, g2, g3, g4, g5, g6⟩ := ih _ _ _ _ hl hty h0
      have hsz : P.cellsOf f.type ≤ m - o := by
        simp only [List.length_take, List.length_drop] at g2
        omega
      obtain ⟨ds', fp', k1, k2, k3, k4, k5⟩ := fields_open ih fs xs r (o + P.cellsOf f.type) hf hm (by omega) hr (by simpa using hx) (fun i f' hf' => by have := ht (i + 1) f' (by simpa using hf'); simpa using this)
      have hlen : ds.length = l.length := RdL.length _ _ _ _ g1
      refine ⟨ds ++ ds', fp ++ fp', RdL.append (RdL.congr g1 (fun j hj => ?_)) k1 (fun j => ?_), by simp; omega, ?_, ?_, ?_⟩
      · rw [List.getElem?_take_of_lt (by omega), ho]
      · simp only [List.getElem?_drop]
        congr 1
        omega
      · intro v hv
        obtain ⟨j, hj⟩ := List.getElem?_of_mem hv
        simp only [List.getElem?_drop] at hj
        by_cases hlt : j < P.cellsOf f.type
        · exact g4 v (List.mem_of_getElem? (i := j) (by rw [List.getElem?_take_of_lt hlt, List.getElem?_drop, ho]; exact hj))
        · refine k3 v (List.mem_of_getElem? (i := j - P.cellsOf f.type) ?_)
          rw [List.getElem?_drop, ← hj]
          congr 1
          omega
      · rw [bulkL_append]
        simp only [List.map_cons, Rows.uptoBulkAll, List.length_cons]
        omega
      · intro hw
        simp only [List.map_cons, DataW.weightsEach, List.all_append, Bool.and_eq_true] at hw
        rw [fitL_append hlen, Bool.and_eq_true]
        exact ⟨g6 hw.1, k5 hw.2⟩

theorem bulkAll_ge : ∀ (l : List (DataW H)) (f : List (List DC)), l.length = f.length → (∀ (i : Nat) d r, l[i]? = some d → f[i]? = some r → bulkL r + 1 ≤ Rows.uptoBulk d) → f.length + bulkR f ≤ Rows.uptoBulkAll l
  | [], [], _, _ => by simp [bulkR, Rows.uptoBulkAll]
  | [], _ :: _, h, _ => by simp at h
  | _ :: _, [], h, _ => by simp at h
  | d :: l, r :: f, h, hi => by
    have h1 := hi 0 d r rfl rfl
    have h2 := bulkAll_ge l f (by simpa using h) (fun i d r hd hr => hi (i + 1) d r (by simpa using hd) (by simpa using hr))
    simp only [List.length_cons, bulkR, Rows.uptoBulkAll]
    omega

theorem weightsAll_mem : ∀ (l : List (DataW H)) (e : TypeId) (i : Nat) (d : DataW H), (DataW.weightsAll P e l).all (· ≤ reachBytes) = true → l[i]? = some d → (DataW.weights P e d).all (· ≤ reachBytes) = true
  | [], _, i, d, _, h => by simp at h
  | x :: l, e, i, d, hw, h => by
    simp only [DataW.weightsAll, List.all_append, Bool.and_eq_true] at hw
    cases i with
    | zero =>
      simp only [List.getElem?_cons_zero, Option.some.injEq] at h
      subst h
      exact hw.1
    | succ i => exact weightsAll_mem l e i d hw.2 (by simpa using h)

theorem open_cells {spare : Nat → Bool} : ∀ (n : Nat) (fuel : Nat) (t : TypeId) (cts : List CT) (cs : List Value) (x : DataW H × List MemPlace), ctsOf P n t = some cts → tyOk P n t = true → DataW.trod enc P w 0 spare true fuel t cs = some x → Opened P w t cts cs x.1
  | 0, _, _, _, _, _, h, _, _ => by simp [ctsOf] at h
  | n + 1, fuel, t, cts, cs, x, hc, hty, ht => by
    unfold ctsOf at hc
    unfold tyOk at hty
    cases hu : P.underlying t with
    | none => simp [hu] at hc
    | some u =>
      rw [hu] at hc hty
      cases u with
      | bool =>
        simp only [Option.some.injEq] at hc hty
        subst hc
        obtain ⟨b, rfl, rfl⟩ := DataW.trod_bool hu ht
        refine ⟨[.bool b], [], ?_, rfl, (Nat.eq_of_beq_eq_true hty).symm, by simp [Value.oneCell'], by simp [bulkL, bulkC, Rows.uptoBulk], fun _ => by simp [fitL, fitC]⟩
        simp only [RdL, RdC]
        exact ⟨_, _, _, _, _, rfl, rfl, ⟨b, rfl, rfl, rfl⟩, ⟨rfl, rfl⟩, rfl⟩
      | int k =>
        simp only [Option.some.injEq] at hc hty
        subst hc
        obtain ⟨b, rfl, rfl, hwf⟩ := DataW.trod_int hu ht
        refine ⟨[.int b], [], ?_, rfl, (Nat.eq_of_beq_eq_true hty).symm, by simp [Value.oneCell'], by simp [bulkL, bulkC, Rows.uptoBulk], fun _ => by simp [fitL, fitC]⟩
        simp only [RdL, RdC]
        exact ⟨_, _, _, _, _, rfl, rfl, ⟨b, rfl, rfl, hwf, rfl⟩, ⟨rfl, rfl⟩, rfl⟩
      | string =>
        simp only [Option.some.injEq] at hc hty
        subst hc
        obtain ⟨s, rfl, rfl, hsz⟩ := DataW.trod_string hu ht
        have hsz' : s.data.toList.length ≤ maxLen := by simpa using hsz
        refine ⟨[.str s.data.toList], [], ?_, rfl, (Nat.eq_of_beq_eq_true hty).symm, by simp [Value.oneCell'], by simp [bulkL, bulkC, Rows.uptoBulk], fun hw => ?_⟩
        · simp only [RdL, RdC]
          exact ⟨_, _, _, _, _, rfl, rfl, ⟨s.data.toList, rfl, by simp, hsz', rfl⟩, ⟨rfl, rfl⟩, rfl⟩
        · simp only [DataW.weights, List.all_cons, List.all_nil, Bool.and_true] at hw
          have := of_decide_eq_true hw
          simp only [fitL, fitC, List.headD_cons, DC.asStr, Bool.and_true]
          exact decide_eq_true this
      | slice e =>
        simp only at hc hty
        cases he : ctsOf P n e with
        | none => simp [he] at hc
        | some l =>
          rw [he] at hc hty
          simp only [Option.some.injEq, Bool.and_eq_true, decide_eq_true_eq] at hc hty
          subst hc
          obtain ⟨⟨⟨h1, hte⟩, hpos⟩, hby⟩ := hty
          rcases DataW.trod_slice hu ht with ⟨rfl, rfl⟩ | ⟨a, len, cap, elems, rest, n', rfl, rfl, rfl, _, hlc, hcm, hel, hget, hsp, hsp'⟩
          · refine ⟨[.sl []], [], ?_, rfl, (Nat.eq_of_beq_eq_true h1).symm, by simp [Value.oneCell'], by simp [bulkL, bulkC, bulkR, Rows.uptoBulk], fun _ => by simp [fitL, fitC, DC.asRows]⟩
            simp only [RdL, RdC]
            exact ⟨_, _, _, _, _, rfl, rfl, ⟨[], none, 0, 0, rfl, rfl, rfl, Nat.le_refl _, Nat.zero_le _, .inl ⟨rfl, rfl⟩⟩, ⟨rfl, rfl⟩, rfl⟩
          · have hop : ∀ i, i < len → ∃ y cs', elems[i]? = some y ∧ w.cells? 0 (a.add (i * P.cellsOf e)) (P.cellsOf e) = some cs' ∧ Opened P w e l cs' y.1 := by
              intro i hi
              have h := hget i hi
              have hi' : i < elems.length := by omega
              rw [List.getElem?_eq_getElem hi'] at h
              simp only [Option.bind_eq_some_iff] at h
              obtain ⟨cs', hcs, htr⟩ := h
              exact ⟨elems[i], cs', List.getElem?_eq_getElem hi', hcs, open_cells n n' e l cs' _ he hte htr⟩
            -- the rows
            have hrows : ∃ (rows : List (List DC)) (fps : List (List Nat)), rows.length = len ∧ fps.length = len ∧ ∀ i r f, rows[i]? = some r → fps[i]? = some f →
                ∃ y cs', elems[i]? = some y ∧ w.cells? 0 (a.add (i * P.cellsOf e)) (P.cellsOf e) = some cs' ∧ l.length = P.cellsOf e ∧ RdL w l r (fun j => cs'[j]?) f ∧ bulkL r + 1 ≤ Rows.uptoBulk y.1 ∧
                  ((DataW.weights P e y.1).all (· ≤ reachBytes) = true → fitL l r = true) := by
              clear hget hsp hsp' ht hel hlc hcm
              induction len with
              | zero => exact ⟨[], [], rfl, rfl, fun i r f h => by simp at h⟩
              | succ m ihm =>
                obtain ⟨rows, fps, hr, hf, hh⟩ := ihm (fun i hi => hop i (by omega))
                obtain ⟨y, cs', hy, hcs, ds, fp, o1, o2, o3, o4, o5, o6⟩ := hop m (by omega)
                refine ⟨rows ++ [ds], fps ++ [fp], by simp [hr], by simp [hf], fun i r f hir hif => ?_⟩
                by_cases hi : i < m
                · exact hh i r f (by rwa [List.getElem?_append_left (by omega)] at hir) (by rwa [List.getElem?_append_left (by omega)] at hif)
                · have hlt : i < (rows ++ [ds]).length := (List.getElem?_eq_some_iff.1 hir).1
                  simp only [List.length_append, List.length_cons, List.length_nil] at hlt
                  have him : i = m := by omega
                  subst him
                  rw [List.getElem?_append_right (by omega), hr] at hir
                  rw [List.getElem?_append_right (by omega), hf] at hif
                  simp only [Nat.sub_self, List.getElem?_cons_zero, Option.some.injEq] at hir hif
                  subst hir
                  subst hif
                  exact ⟨y, cs', hy, hcs, o3, o1, o5, o6⟩
            obtain ⟨rows, fps, hr, hf, hh⟩ := hrows
            have hl0 : 0 < len → 0 < l.length ∧ l.length = P.cellsOf e ∧ a.spot = none ∧ a.block < w.heap.size := by
              intro h0
              obtain ⟨y, cs', _, hcs, hle, hrd, _⟩ := hh 0 rows[0] fps[0] (by simp) (by simp)
              have hp : 0 < P.cellsOf e := Nat.le_of_ble_eq_true hpos
              have hg := cells_get hcs
              have hc0 := hg.2 0 hp
              rw [List.getElem?_eq_getElem (by omega)] at hc0
              have := cell_some hc0
              simp only [Addr.add, Nat.zero_mul, if_true] at this
              exact ⟨by omega, hle, this.1, this.2⟩
            refine ⟨[.sl rows], if len = 0 then [] else a.block :: fps.flatten, ?_, rfl, (Nat.eq_of_beq_eq_true h1).symm, by simp [Value.oneCell'], ?_, ?_⟩
            · simp only [RdL, RdC]
              refine ⟨_, _, _, if len = 0 then [] else a.block :: fps.flatten, [], rfl, rfl, ⟨rows, some a, len, cap, rfl, rfl, hr, hlc, hcm, ?_⟩, ⟨rfl, rfl⟩, by simp⟩
              by_cases h0 : len = 0
              · exact .inl ⟨h0, by simp [h0]⟩
              · obtain ⟨p1, p2, p3, p4⟩ := hl0 (by omega)
                refine .inr ⟨by omega, a.block, a.off, fps, ?_, p4, hf, by simp [h0], fun i r f hir hif => ?_⟩
                · cases a
                  simp only at p3
                  subst p3
                  rfl
                · obtain ⟨y, cs', _, hcs, hle, hrd, _⟩ := hh i r f hir hif
                  have hg := cells_get hcs
                  refine RdL.congr hrd (fun j hj => ?_)
                  rw [← hg.2 j (by omega)]
                  congr 1
                  cases a
                  simp only at p3
                  subst p3
                  simp only [Addr.add]
                  rw [p2]
                  split <;> split <;> simp_all <;> omega
            · have := bulkAll_ge (elems.map (·.1)) rows (by simp [hr, hel]) (fun i d r hd hr' => by
                have hi : i < fps.length := by
                  have := (List.getElem?_eq_some_iff.1 hr').1
                  omega
                obtain ⟨y, cs', hy, _, _, _, hb, _⟩ := hh i r fps[i] hr' (by simp [hi])
                simp only [List.getElem?_map, hy, Option.map_some, Option.some.injEq] at hd
                subst hd
                exact hb)
              simp only [bulkL, bulkC, Rows.uptoBulk]
              omega
            · intro hw
              simp only [DataW.weights, hu, List.all_cons, List.all_append, Bool.and_eq_true] at hw
              simp only [fitL, fitC, List.headD_cons, DC.asRows, Bool.and_true, Bool.and_eq_true, List.all_eq_true]
              refine ⟨decide_eq_true ?_, fun r hr' => ?_⟩
              · have : rows.length * ctsBytes l ≤ (elems.map (·.1)).length * P.bytesOf e := Nat.mul_le_mul (by simp; omega) hby
                have h2 : (elems.map (·.1)).length * P.bytesOf e ≤ ((elems.map (·.1)).length + (rest.map (·.1)).length) * P.bytesOf e := Nat.mul_le_mul (by omega) (Nat.le_refl _)
                have h3 := of_decide_eq_true hw.1
                have h4 : reachBytes = 140737488351232 := rfl
                omega
              · obtain ⟨i, hi⟩ := List.getElem?_of_mem hr'
                have hi' : i < fps.length := by
                  have := (List.getElem?_eq_some_iff.1 hi).1
                  omega
                obtain ⟨y, cs', hy, _, _, _, _, hfit⟩ := hh i r fps[i] hi (by simp [hi'])
                exact hfit (weightsAll_mem (elems.map (·.1)) e i y.1 hw.2.1 (by simp [hy]))
      | struct fs =>
        simp only at hc hty
        obtain ⟨xs, n', rfl, rfl, hlen, hxs, hget⟩ := DataW.trod_struct hu ht
        obtain ⟨ds, fp, g1, g2, g3, g4, g5⟩ := fields_open (fun t cts cs x h1 h2 h3 => open_cells n n' t cts cs x h1 h2 h3) fs.toList xs cts 0 hty hlen (Nat.zero_le _) hc (by simpa using hxs) (fun i f hf => hget i f (by simpa using hf))
        refine ⟨ds, fp, by simpa using g1, by omega, by omega, by simpa using g3, ?_, ?_⟩
        · simp only [Rows.uptoBulk]
          omega
        · intro hw
          simp only [DataW.weights, hu] at hw
          exact g5 hw
      | _ => simp at hc

def aksOf (P : Program) : List TypeId → Option (List AK)
  | [] => some []
  | t :: ts => match ctsOf P 16 t, aksOf P ts with
    | some c, some l => some (⟨c, isAggB P t⟩ :: l)
    | _, _ => none

def noArr (P : Program) (t : TypeId) : Bool := match P.underlying t with | some (.array _ _) => false | some _ => true | none => false

theorem oneCell_noagg {v : Value} (h : v.oneCell' = true) : ∀ c, v ≠ .agg c := by
  rintro c rfl
  simp [Value.oneCell'] at h

theorem okWide_cells {t : TypeId} {v : Value} {r : Reach} {base : Nat} (h : Value.okWide P w r base t v) (hna : noArr P t = true) : bif isAggB P t then ∃ cs, v = .agg cs else ∀ c, v ≠ .agg c := by
  unfold Value.okWide at h
  unfold isAggB
  unfold noArr at hna
  cases hu : P.underlying t with
  | none => simp [hu] at hna
  | some u =>
    rw [hu] at h hna
    cases u with
    | struct fs =>
      obtain ⟨cs, rfl, _⟩ := h
      exact ⟨cs, rfl⟩
    | array a b => simp at hna
    | _ =>
      simp only [cond_false]
      rintro c rfl
      unfold Cell.okWide at h
      rw [hu] at h
      simp [Cell.ok, hu] at h

theorem open_args {base : Nat} {r : Reach} : ∀ (ts : List TypeId) (ks : List AK) (vs : List Value) (ds : List (DataW H)) (ps : List MemPlace), aksOf P ts = some ks → ts.all (fun t => tyOk P 16 t && noArr P t) = true →
    DataW.TrodAll enc P w 0 (fun _ => true) true ts vs ds ps → (∀ (j : Nat) t v, ts[j]? = some t → vs[j]? = some v → Value.okWide P w r base t v) →
    ∃ dcs fp, ArgsR w ks dcs vs fp ∧ bulkL dcs ≤ Rows.uptoBulkAll ds ∧ ((DataW.weightsEach P ts ds).all (· ≤ reachBytes) = true → fitL (ctsAll ks) dcs = true)
  | [], ks, vs, ds, ps, hk, _, ht, _ => by
    simp only [aksOf, Option.some.injEq] at hk
    subst hk
    obtain ⟨rfl, rfl, _⟩ := trodAll_nil ht
    exact ⟨[], [], ⟨rfl, rfl, rfl⟩, by simp [bulkL], fun _ => by simp [ctsAll, fitL]⟩
  | t :: ts, ks, vs, ds, ps, hk, hall, ht, hv => by
    simp only [aksOf] at hk
    split at hk
    case h_2 => cases hk
    rename_i c l hc hl
    simp only [Option.some.injEq] at hk
    subst hk
    simp only [List.all_cons, Bool.and_eq_true] at hall
    obtain ⟨⟨hty, hna⟩, hall⟩ := hall
    obtain ⟨v, vs', d, ds', p, q, rfl, rfl, rfl, h1, h2⟩ := trodAll_cons ht
    obtain ⟨dcs, fp, k1, k2, k3⟩ := open_args ts l vs' ds' q hl (by simpa using hall) h2 (fun j t v ht hv' => hv (j + 1) t v (by simpa using ht) (by simpa using hv'))
    obtain ⟨fuel, h1⟩ := h1
    obtain ⟨ds1, fp1, g1, g2, g3, g4, g5, g6⟩ := open_cells 16 fuel t c _ _ hc hty h1
    have hag := okWide_cells (hv 0 t v rfl rfl) hna
    have hlen : ds1.length = c.length := RdL.length _ _ _ _ g1
    refine ⟨ds1 ++ dcs, fp1 ++ fp, ⟨ds1, dcs, v, vs', fp1, fp, rfl, rfl, ⟨v.cells.toList, ?_, g4, g1, g2⟩, k1, rfl⟩, ?_, ?_⟩
    · cases ha : isAggB P t with
      | true =>
        rw [ha] at hag
        obtain ⟨cs, rfl⟩ := hag
        simp [Value.cells]
      | false =>
        rw [ha] at hag
        have : v.cells = #[v] := by
          cases v <;> first | rfl | exact absurd rfl (hag _)
        simp only [cond_false]
        rw [this] at g4 ⊢
        exact ⟨rfl, g4 v (by simp)⟩
    · rw [bulkL_append]
      simp only [Rows.uptoBulkAll]
      simp only at g5
      omega
    · intro hw
      simp only [DataW.weightsEach, List.all_append, Bool.and_eq_true] at hw
      show fitL (c ++ ctsAll l) (ds1 ++ dcs) = true
      rw [fitL_append hlen, Bool.and_eq_true]
      exact ⟨g6 hw.1, k3 hw.2⟩

/-- A law's contract gives what its row asks. -/
theorem law_calls {f : Nat} {fn : Func} {s : Sum} {sp : ChangeSpec} {W : World} {base : Nat} {args : Array Value} {ds gs : List (DataW H)} {before : List MemPlace} {t4 : TypeId} {r : Reach} {ks : List AK}
    (hl : laidOutB P = true) (hs : Holds P f s) (hks : aksOf P fn.params.toList = some ks) (hps : s.ps = ks) (hrs : s.rs = [⟨[.imm .bool], false⟩]) (hall : fn.params.toList.all (fun t => tyOk P 16 t && noArr P t) = true)
    (hv : sp.vars = []) (hrec : ∀ t ∈ fn.params.toList, P.readableRec t = true ∧ t < P.types.size) (hrt : fn.resultTypes = #[t4]) (hu : P.underlying t4 = some .bool)
    (hval : ∀ (j : Nat) t v, fn.params[j]? = some t → args[j]? = some v → Value.okWide P W r base t v)
    (hW : DataW.Whole enc P fn.params.toList sp.vars false W args.toList ds gs before)
    (hres : (sp.fn H ds).results = [.lit (.bool true)]) (hargs : (sp.fn H ds).args = ds) (hvars : (sp.fn H ds).vars = [])
    (hok : ∀ dcs, bulkL dcs ≤ Rows.uptoBulkAll ds → ((DataW.weightsEach P fn.params.toList ds).all (· ≤ reachBytes) = true → fitL (ctsAll s.ps) dcs = true) → s.fn dcs = (true, [.bool true])) :
    Calls P f args W fun e W' => ∃ v, e = .returned v ∧ sp.post enc P fn false true false false W args v W' := by
  have hW' := hW
  obtain ⟨p, q, hA, _, _, _, _⟩ := hW
  obtain ⟨dcs, fp, k1, k2, k3⟩ := open_args (r := r) (base := base) fn.params.toList ks args.toList ds p hks hall hA (fun j t v ht hv' => hval j t v (by simpa using ht) (by simpa using hv'))
  subst hps
  have hfn := hok dcs k2 k3
  have hc := hs.2 W dcs args.toList fp k1 (by rw [hfn])
  rw [show args.toList.toArray = args by simp] at hc
  refine hc.mono fun e W' hx => ?_
  obtain ⟨vs, φ, im, tp, rfl, hk, hr, _⟩ := hx
  rw [hfn, hrs] at hr
  simp only [ResV, ResL, RdC] at hr
  obtain ⟨d1, d2, v, vs', us, φ1, φ2, i1, i2, t1, t2, hds, rfl, hus, _, ⟨d, ds', v', vs2, f1, im', rfl, rfl, ⟨b, rfl, rfl, _⟩, ⟨rfl, rfl, _⟩, _⟩, ⟨rfl, rfl, _⟩, _⟩ := hr
  simp only [cond_false, List.cons.injEq, and_true] at hus
  subst hus
  simp only [List.append_nil, List.cons.injEq, DC.bool.injEq, and_true] at hds
  subst hds
  refine ⟨_, rfl, Law.law_post hl hv hrec hrt hu hW' hres hargs hvars ⟨hk.os, hk.tape, hk.output, hk.size, fun k hk' => hk.block k hk' (fun h => h.elim)⟩⟩

end
end Go.Proofs.YthpmalpdnnbkgaaGreat.Br
