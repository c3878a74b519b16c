/- The value machine: new rows. Conditions: as each lemma says. -/
import Derived.Test.YtjknoknkbfhelaaVmK
import Derived.Great.BuildSlice
namespace Go.Proofs.Ytjknoknkbfhelaa.Vm

section
variable {P : Program} {Γ : Ctx} {w0 : World} {S : Own} {st : St} {o : Oper} {e : Eff} {a : Act} {w : World}
variable {f : Nat → SV} {h : Nat → Option VObj} {β : Env} {φ : Nat → List Nat} {tm : Array Value}

theorem InR.cons {ct : List CT} {r : List DC} {l : List Value} {g : List Nat} {rows : List (List DC)} {vals : List Value} {fps : List (List Nat)} (h1 : RdL w ct r (fun j => l[j]?) g) (hl : l.length = ct.length)
    (h2 : InR w ct rows vals fps) : InR w ct (r :: rows) (l ++ vals) (g :: fps) := by
  refine ⟨by simp [h2.1], fun i r' f' hi hf => ?_⟩
  cases i with
  | zero =>
    simp at hi hf
    subst hi hf
    refine row_reads.RdL.ofSub (fun j u hj => ?_) h1
    simp only [Nat.zero_mul, Nat.zero_add]
    rw [List.getElem?_append_left (by have := List.getElem?_eq_some_iff.1 hj; exact this.1)]
    exact hj
  | succ i =>
    have := h2.2 i r' f' (by simpa using hi) (by simpa using hf)
    refine row_reads.RdL.ofSub (fun j u hj => ?_) this
    rw [List.getElem?_append_right (by rw [hl, Nat.succ_mul]; omega)]
    rw [← hj]
    congr 1
    rw [hl, Nat.succ_mul]
    omega

theorem InR.nil {ct : List CT} {vals : List Value} : InR w ct [] vals [] := ⟨rfl, by simp⟩

theorem InR.append {ct : List CT} {rows rows' : List (List DC)} {vals vals' : List Value} {fps fps' : List (List Nat)} (h1 : InR w ct rows vals fps) (hl : vals.length = rows.length * ct.length)
    (h2 : InR w ct rows' vals' fps') : InR w ct (rows ++ rows') (vals ++ vals') (fps ++ fps') := by
  refine ⟨by simp [h1.1, h2.1], fun i r f hi hf => ?_⟩
  rcases Nat.lt_or_ge i rows.length with hlt | hge
  · rw [List.getElem?_append_left hlt] at hi
    rw [List.getElem?_append_left (by rw [h1.1]; exact hlt)] at hf
    refine row_reads.RdL.ofSub (fun j u hj => ?_) (h1.2 i r f hi hf)
    rw [List.getElem?_append_left (by have := List.getElem?_eq_some_iff.1 hj; exact this.1)]
    exact hj
  · rw [List.getElem?_append_right hge] at hi
    rw [List.getElem?_append_right (by rw [h1.1]; exact hge), h1.1] at hf
    refine row_reads.RdL.ofSub (fun j u hj => ?_) (h2.2 _ r f hi hf)
    have e1 : i * ct.length + j = rows.length * ct.length + ((i - rows.length) * ct.length + j) := by
      have : i * ct.length = rows.length * ct.length + (i - rows.length) * ct.length := by rw [← Nat.add_mul]; congr 1; omega
      omega
    rw [List.getElem?_append_right (by omega)]
    rw [← hj]
    congr 1
    omega

theorem frozen_obj {m : Met} {j : Nat} {ob : VObj} (hj : fo (metFreeze m) h j = some ob) : (h j = some ob) ∨ (∃ e' r, ob = .imm e' r ∧ ∃ y ∈ m, y.1 = j) := by
  induction m with
  | nil => exact .inl hj
  | cons x l ih =>
    obtain ⟨i, e', r, u⟩ := x
    simp only [metFreeze, fo, upd] at hj
    split at hj
    · rename_i hji
      injection hj with hj
      exact .inr ⟨e', r, hj.symm, _, List.mem_cons_self .., hji.symm⟩
    · rcases ih hj with h1 | ⟨e'', r', h1, y, hy, h2⟩
      · exact .inl h1
      · exact .inr ⟨e'', r', h1, y, List.mem_cons_of_mem _ hy, h2⟩

theorem frozenφ_in {m : Met} {j : Nat} (hjm : ∃ y ∈ m, y.1 = j) : frozenφ φ m j = [] := by
  induction m with
  | nil => obtain ⟨y, hy, _⟩ := hjm; simp at hy
  | cons z l ih =>
    obtain ⟨y, hy, rfl⟩ := hjm
    simp only [frozenφ, upd]
    by_cases hyz : y.1 = z.1
    · rw [if_pos hyz]
    · rw [if_neg hyz]
      rcases List.mem_cons.1 hy with rfl | hy
      · exact absurd rfl hyz
      · exact ih ⟨y, hy, rfl⟩

/-- A new row beside rows that are written no more. -/
theorem sound_newrow (hR : Rel w0 S st a w) {d : Nat} (hdst : o.dst = some d) (hd : DstOk st.n d) (hfr : FreshAt st d) {t : TypeId} {ct : List CT} {rows : List (List DC)} {fz u : Bool} {m : Met} {w' : World} {v : Value}
    (hrun : (execOp a.eval o).run P w = .ok (.value v) w') (hk : Kept S w0 w') (hs : w.heap.size ≤ w'.heap.size) (hw : ∀ b, b < w.heap.size → w'.heap[b]? = w.heap[b]?)
    (hB : ∀ b ∈ v.ownBlock.toList, b = w.heap.size) (hm : MetOk st.obj m) (hmn : metNodup m = true) {vals : List Value} (hown : OwnR w' t ct.length fz v rows.length vals)
    (hin : ∀ β φ, Core w0 S st.get st.obj β φ a.tmps w → ∃ fps, InR w ct rows vals fps ∧ (∀ b ∈ fps.flatten, (¬ Av st.obj β b) ∨ ∃ x ∈ m, b ∈ (β.val x.1).ownBlock.toList) ∧
      (u = true → (∀ b ∈ fps.flatten, ∃ x ∈ m, b ∈ φ x.1) ∧ fps.flatten.Nodup))
    (hsv : e.sv = .own (newId d 0)) (hcw : e.cw = none) (how : e.ow = (newId d 0, some (.row t ct rows fz u)) :: metFreeze m) : Good P w0 S st o e a w := by
  obtain ⟨β, φ, hc⟩ := hR.core
  obtain ⟨fps, hin, hav, hu⟩ := hin β φ hc
  have hc1 := hc.freezes m hm hmn
  have hnew : newId d 0 / 64 = d := newId_div d 0 (by omega)
  have hβ : ∀ j, j ≠ newId d 0 → (β.setV (newId d 0) v).val j = β.val j ∧ (β.setV (newId d 0) v).blk j = β.blk j := by
    intro j hj
    exact ⟨by simp [Env.setV, upd, hj], rfl⟩
  have hval : (β.setV (newId d 0) v).val (newId d 0) = v := by simp [Env.setV, upd]
  have htop : ∀ b ∈ tops (β.setV (newId d 0) v) (newId d 0) (.row t ct rows fz u), w.heap.size ≤ b := by
    intro b hb
    simp only [tops, hval] at hb
    rw [hB b hb]
    exact Nat.le_refl _
  have hlt := hin.lt
  have hle := hR.kept.size
  have hav1 : ∀ b ∈ fps.flatten, ¬ Av (fo (metFreeze m) st.obj) β b := by
    intro b hb
    rcases hav b hb with h1 | ⟨x, hx, hbx⟩
    · exact fun h2 => h1 (av_frozen h2)
    · exact not_av_met hc hm hx hbx
  refine good_value hR (fun d' h' => by rw [hdst] at h'; injection h' with h'; exact h' ▸ hd) hrun hk
    ⟨β.setV (newId d 0) v, upd (frozenφ φ m) (newId d 0) (v.ownBlock.toList ++ (bif u then fps.flatten else [])), ?_, ?_⟩
  · rw [how, hcw]
    refine hc1.create hs hw (fun i hi => hfr.slot i _ hi hnew) (fun j ob hj hi => ?_) ?_ hβ htop ?_ ?_ ?_
    · rcases frozen_obj hj with h1 | ⟨e', r, rfl, _⟩
      · exact (hfr.obj j ob h1).2 _ hi hnew
      · simp [objIds] at hi
    · cases hn : fo (metFreeze m) st.obj (newId d 0) with
      | none => rfl
      | some ob =>
        rcases frozen_obj hn with h1 | ⟨e', r, rfl, y, hy, h2⟩
        · exact absurd hnew (hfr.obj _ ob h1).1
        · obtain ⟨t', fz', h3⟩ := hm y hy
          rw [h2] at h3
          exact absurd hnew (hfr.obj _ _ h3).1
    · refine ⟨vals, fps, by rw [hval]; exact hown, hin.mono hs (fun b hb => hw b (hlt b hb)), fun b hb hx => ?_, by rw [hval]⟩
      rcases hx with ⟨j, oj, hj, hbj⟩ | hx
      case inr => exact hav1 b hb (.inr hx)
      by_cases hjj : j = newId d 0
      · subst hjj
        simp only [upd, if_true, Option.some.injEq] at hj
        subst hj
        have := htop b hbj
        have := hlt b hb
        omega
      · simp only [upd, hjj, if_false] at hj
        refine hav1 b hb (.inl ⟨j, oj, hj, ?_⟩)
        cases oj <;> simp only [tops, hβ j hjj] at hbj ⊢ <;> exact hbj
    · have hnd1 : v.ownBlock.toList.Nodup := by cases v.ownBlock <;> simp
      cases u with
      | false => simpa using hnd1
      | true =>
        rw [cond_true, List.nodup_append]
        refine ⟨hnd1, (hu rfl).2, fun b hb c hc' hbc => ?_⟩
        have h1 := hB b hb
        have h2 := hlt c hc'
        omega
    · intro b hb
      rcases List.mem_append.1 hb with hb | hb
      · have h1 := hB b hb
        subst h1
        refine ⟨⟨.inl hle, ?_⟩, fun j ob hj hbj => ?_⟩
        · have := hown.lt _ hb
          exact this
        · have := ((hc1.fresh j ob hj).2 _ hbj).2
          omega
      · cases u with
        | false => simp at hb
        | true =>
          simp only [cond_true] at hb
          obtain ⟨x, hx, hbx⟩ := (hu rfl).1 b hb
          obtain ⟨t', fz', h3⟩ := hm x hx
          have h4 := (hc.fresh x.1 _ h3).2 b hbx
          refine ⟨⟨h4.1, by omega⟩, fun j ob hj hbj => ?_⟩
          by_cases hjm : ∃ y ∈ m, y.1 = j
          · rw [frozenφ_in hjm] at hbj
            simp at hbj
          · have hno : ∀ y ∈ m, y.1 ≠ j := fun y hy e => hjm ⟨y, hy, e⟩
            rw [fo_frozen_other hno] at hj
            rw [frozenφ_other hno] at hbj
            exact hc.sep x.1 j _ _ (hno x hx) h3 hj b hbx hbj
  · rw [hsv]
    unfold SVR
    exact ⟨hval.symm, hown.one⟩

/-! ### Constants as data -/

theorem toDC_const {ct : CT} {v : Value} {q : DC × Met × Bool} (hq : (toDC ct (ofConst v)).val f h = some q) : q.2.1 = [] ∧ q.2.2 = true := by
  unfold ofConst at hq
  split at hq
  · simp only [toDC] at hq
    split at hq <;> simp at hq
    subst hq; exact ⟨rfl, rfl⟩
  · rename_i k n
    cases hi : inR k n
    · simp [hi, toDC] at hq
    · simp only [hi, cond_true, toDC] at hq
      split at hq
      · rename_i k'
        by_cases hk : k = k'
        · simp [hk] at hq; subst hq; exact ⟨rfl, rfl⟩
        · simp [hk] at hq
      · simp at hq
  · generalize Nat.ble _ _ = c at hq
    cases c
    · simp [toDC] at hq
    · simp only [cond_true, toDC] at hq
      split at hq <;> simp at hq
      subst hq; exact ⟨rfl, rfl⟩
  · simp only [toDC] at hq
    split at hq <;> simp at hq
    subst hq; exact ⟨rfl, rfl⟩
  · simp [toDC] at hq

theorem toDCs_const : ∀ (cts : List CT) (l : List Value) (q : List DC × Met × Bool), (toDCs cts (l.map ofConst)).val f h = some q → q.2.1 = [] ∧ q.2.2 = true
  | [], [], q, hq => by simp [toDCs] at hq; subst hq; exact ⟨rfl, rfl⟩
  | [], _ :: _, q, hq => by simp [toDCs] at hq
  | _ :: _, [], q, hq => by simp [toDCs] at hq
  | c :: cs, v :: l, q, hq => by
    simp only [List.map_cons, toDCs, M.val_bind, Option.bind_eq_some_iff, M.val_pure, Option.some.injEq] at hq
    obtain ⟨q1, hq1, q2, hq2, rfl⟩ := hq
    obtain ⟨h1, h2⟩ := toDC_const hq1
    obtain ⟨h3, h4⟩ := toDCs_const cs l q2 hq2
    simp [h1, h2, h3, h4]

theorem toDCs_length : ∀ (cts : List CT) (l : List SV) (q : List DC × Met × Bool), (toDCs cts l).val f h = some q → l.length = cts.length
  | [], [], q, hq => rfl
  | [], _ :: _, q, hq => by simp [toDCs] at hq
  | _ :: _, [], q, hq => by simp [toDCs] at hq
  | c :: cs, v :: l, q, hq => by
    simp only [toDCs, M.val_bind, Option.bind_eq_some_iff, M.val_pure, Option.some.injEq] at hq
    obtain ⟨q1, hq1, q2, hq2, rfl⟩ := hq
    simp [toDCs_length cs l q2 hq2]

theorem InR.replicate {ct : List CT} {r : List DC} {z : List Value} (h1 : RdL w ct r (fun j => z[j]?) []) (hl : z.length = ct.length) : ∀ n, InR w ct (List.replicate n r) (List.replicate n z).flatten (List.replicate n [])
  | 0 => InR.nil
  | n + 1 => by
    simp only [List.replicate_succ, List.flatten_cons]
    exact InR.cons h1 hl (InR.replicate h1 hl n)

theorem made_eq (z : Array Value) : ∀ n, (madeCells z (n * z.size)).toList = (List.replicate n z.toList).flatten := by
  intro n
  apply List.ext_getElem?
  intro i
  simp only [madeCells]
  rcases Nat.eq_zero_or_pos z.size with h0 | hp
  · have hz : z = #[] := by simpa using h0
    subst hz
    simp
  · rcases Nat.lt_or_ge i (n * z.size) with hi | hi
    · have hr : (List.replicate n z.toList).flatten[i]? = z.toList[i % z.size]? := by
        have key : ∀ n i, i < n * z.size → (List.replicate n z.toList).flatten[i]? = z.toList[i % z.size]? := by
          intro n
          induction n with
          | zero => intro i hi; simp at hi
          | succ n ih =>
            intro i hi
            simp only [List.replicate_succ, List.flatten_cons]
            rcases Nat.lt_or_ge i z.size with h1 | h1
            · rw [List.getElem?_append_left (by simpa using h1), Nat.mod_eq_of_lt h1]
            · rw [List.getElem?_append_right (by simpa using h1)]
              have h2 : i - z.toList.length < n * z.size := by simp; rw [Nat.succ_mul] at hi; omega
              rw [ih _ h2]
              congr 1
              simp only [Array.length_toList]
              rw [← Nat.mod_eq_sub_mod h1]
        exact key n i hi
      rw [hr]
      have hm : i % z.size < z.size := Nat.mod_lt _ hp
      simp [hi, hm]
    · rw [List.getElem?_eq_none (by simp; omega), List.getElem?_eq_none (by simp; omega)]

theorem sound_make (hR : Rel w0 S st a w) {d : Nat} (hdst : o.dst = some d) (hd : DstOk st.n d) (hfr : FreshAt st d) {t et : TypeId} {l c : Operand} (ho : o.op = .makeSlice t l c) {n m : Int} {ct : List CT} {i : TypeInfo} {z : List SV} {r : List DC × Met × Bool}
    (hl : (evM l).val st.get st.obj = some (.int .i64 n)) (hm : (evM c).val st.get st.obj = some (.int .i64 m)) (hu : P.underlying t = some (.slice et)) (hi : P.info? et = some i) (hsz : i.size = ct.length)
    (hz : (zeroM P et).val st.get st.obj = some z) (hr : (toDCs ct z).val st.get st.obj = some r)
    (he : e = { sv := .own (newId d 0), ow := [(newId d 0, some (.row et ct (List.replicate n.toNat r.1) false true))], ok := decide (0 ≤ n) && decide (n ≤ m) && decide (m.toNat * i.bytes ≤ 140737488355328) && decide (m ≤ 9223372036854775807) })
    (hok : e.ok = true) : Good P w0 S st o e a w := by
  subst he
  simp only [Bool.and_eq_true, decide_eq_true_eq] at hok
  obtain ⟨⟨⟨h0, hnm⟩, hby⟩, hmx⟩ := hok
  obtain ⟨i', zv, hi', hzv, rfl, hone⟩ := zeroM_ok hz
  rw [hi] at hi'
  injection hi' with hi'
  subst hi'
  obtain ⟨hmet, hfrz⟩ := toDCs_const _ _ _ hr
  have hzl : zv.cells.toList.length = ct.length := by simpa using toDCs_length _ _ _ hr
  have hmade : (madeCells zv.cells (m.toNat * i.size)).toList = (List.replicate m.toNat zv.cells.toList).flatten := by
    have := made_eq zv.cells m.toNat
    rw [hsz, ← hzl]
    simpa using this
  obtain ⟨β0, φ0, hc0⟩ := hR.core
  have hx := hc0.ev hl
  have hy := hc0.ev hm
  simp only [SVR] at hx hy
  have hb : (i.bytes : Int) * m ≤ 281474976710656 := by
    have h1 : ((m.toNat * i.bytes : Nat) : Int) ≤ 140737488355328 := by omega
    rw [Int.natCast_mul, Int.toNat_of_nonneg (by omega), Int.mul_comm] at h1
    omega
  have hrun := run_make (P := P) w t et i zv hu hi hzv .i64 .i64 n m h0 hnm hb hmx
  refine sound_newrow hR hdst hd hfr (m := []) (fz := false) (u := true) (vals := (List.replicate n.toNat zv.cells.toList).flatten) (v := .slice (some ⟨w.heap.size, 0, none⟩) n.toNat m.toNat)
    (w' := w.alloc (.cells (madeCells zv.cells (m.toNat * i.size)) et)) ?_ (hR.kept.alloc _) (by rw [alloc_size]; omega) (fun b hb => alloc_old _ b hb) (by simp [Value.ownBlock]) (by simp [MetOk]) rfl ?_ ?_ rfl rfl rfl
  · simp [execOp, ho, hx.1, hy.1, hrun]
  · refine ⟨by simp [hzl], .inr ⟨w.heap.size, m.toNat, _, by simp, by simpa using alloc_new _, by simp; omega, by simp only [maxLen]; omega, by rw [size_madeCells, hsz], ?_⟩⟩
    rw [hmade]
    have : List.replicate m.toNat zv.cells.toList = List.replicate n.toNat zv.cells.toList ++ List.replicate (m.toNat - n.toNat) zv.cells.toList := by
      rw [List.replicate_append_replicate]
      congr 1
      omega
    rw [this, List.flatten_append, List.take_append_of_le_length (by simp [hzl]), List.take_of_length_le (by simp [hzl])]
  · intro β φ hc
    obtain ⟨fp, hrd, _, _, hfp⟩ := toDCs_ok hc ct _ _ r (ofConsts_ok zv.cells.toList) hr
    have hnil : fp = [] := by
      have := (hfp hfrz).1
      cases fp with
      | nil => rfl
      | cons b l =>
        obtain ⟨x, hx, _⟩ := this b (List.mem_cons_self ..)
        rw [hmet] at hx
        simp at hx
    subst hnil
    refine ⟨List.replicate n.toNat [], InR.replicate hrd hzl n.toNat, ?_, ?_⟩
    · intro b hb
      simp at hb
    · intro _
      constructor
      · intro b hb; simp at hb
      · have : (List.replicate n.toNat ([] : List Nat)).flatten = [] := by simp
        rw [this]
        simp

/-! ### Slice literals -/

theorem buildRowsM_ok (hc : Core w0 S st.get st.obj β φ a.tmps w) {ct : List CT} : ∀ (parts : List (Nat × Operand)) (k : Nat) (q : List (List DC) × Met × Bool), (buildRowsM ct k parts).val st.get st.obj = some q →
    ∃ (vals : List Value) (fps : List (List Nat)), vals.length = parts.length * ct.length ∧ q.1.length = parts.length ∧ (∀ x ∈ vals, x.oneCell' = true) ∧ InR w ct q.1 vals fps ∧ MetOk st.obj q.2.1 ∧
      (∀ b ∈ fps.flatten, (¬ Av st.obj β b) ∨ ∃ x ∈ q.2.1, b ∈ (β.val x.1).ownBlock.toList) ∧ (q.2.2 = true → (∀ b ∈ fps.flatten, ∃ x ∈ q.2.1, b ∈ φ x.1) ∧ (metNodup q.2.1 = true → fps.flatten.Nodup)) ∧
      ∀ (pre suf : List Value), pre.length = k * ct.length → suf.length = parts.length * ct.length →
        Instr.fill (fun i => some (i * ct.length, ct.length)) (pre ++ suf).toArray (parts.map fun x => (x.1, a.eval x.2)) = some (pre ++ vals).toArray
  | [], k, q, hq => by
    simp only [buildRowsM, M.val_pure, Option.some.injEq] at hq
    subst hq
    refine ⟨[], [], by simp, rfl, by simp, InR.nil, by simp [MetOk], by simp, by simp, fun pre suf h1 h2 => ?_⟩
    have : suf = [] := by simpa using h2
    subst this
    simp [Instr.fill]
  | (i, x) :: rest, k, q, hq => by
    simp only [buildRowsM] at hq
    cases hik : Nat.beq i k
    · simp [hik] at hq
    have hik := Nat.eq_of_beq_eq_true hik
    subst hik
    simp only [Nat.beq_refl, cond_true, M.val_bind, Option.bind_eq_some_iff, M.val_pure, Option.some.injEq] at hq
    obtain ⟨s, hs, cs, hcs, r, hr, q2, hq2, rfl⟩ := hq
    obtain ⟨hsv, hone⟩ := cells_ok (hc.ev hs) hcs
    have hcl := toDCs_length _ _ _ hr
    have hvl := SVRL.length _ _ hsv
    have hsize : (a.eval x).cells.size = ct.length := by simpa [hcl] using hvl
    obtain ⟨fp, hrd, hm1, ha1, hu1⟩ := toDCs_ok hc ct cs _ r hsv hr
    obtain ⟨vals, fps, hl2, hl3, hone2, hin2, hm2, ha2, hu2, hfill2⟩ := buildRowsM_ok hc rest (i + 1) q2 hq2
    refine ⟨(a.eval x).cells.toList ++ vals, fp :: fps, ?_, by simp [hl3], ?_, InR.cons hrd (by simpa using hsize) hin2, metOk_append hm1 hm2, ?_, ?_, ?_⟩
    · simp only [List.length_append, hl2, List.length_cons, Array.length_toList, hsize, Nat.succ_mul]
      omega
    · intro y hy
      rcases List.mem_append.1 hy with hy | hy
      · exact hone y hy
      · exact hone2 y hy
    · intro b hb
      simp only [List.flatten_cons, List.mem_append] at hb
      rcases hb with hb | hb
      · rcases ha1 b hb with h1 | ⟨y, hy, h1⟩
        · exact .inl h1
        · exact .inr ⟨y, List.mem_append_left _ hy, h1⟩
      · rcases ha2 b hb with h1 | ⟨y, hy, h1⟩
        · exact .inl h1
        · exact .inr ⟨y, List.mem_append_right _ hy, h1⟩
    · intro hu
      simp only [Bool.and_eq_true] at hu
      refine ⟨fun b hb => ?_, fun hn => ?_⟩
      · simp only [List.flatten_cons, List.mem_append] at hb
        rcases hb with hb | hb
        · obtain ⟨y, hy, h1⟩ := (hu1 hu.1).1 b hb
          exact ⟨y, List.mem_append_left _ hy, h1⟩
        · obtain ⟨y, hy, h1⟩ := (hu2 hu.2).1 b hb
          exact ⟨y, List.mem_append_right _ hy, h1⟩
      · obtain ⟨hn1, hn2, hne⟩ := metNodup_append hn
        simp only [List.flatten_cons]
        exact apart hc hm1 hm2 hne (hu1 hu.1).1 (hu2 hu.2).1 ((hu1 hu.1).2 hn1) ((hu2 hu.2).2 hn2)
    · intro pre suf h1 h2
      simp only [List.length_cons, Nat.succ_mul] at h2
      simp only [List.map_cons]
      rw [fill_cons (off := i * ct.length) (by rw [hsize]) (by simp [h1, hsize]; omega)]
      have e1 : ((pre ++ suf).toArray.toList.take (i * ct.length) ++ ((a.eval x).cells.toList ++ (pre ++ suf).toArray.toList.drop (i * ct.length + (a.eval x).cells.size))) = (pre ++ (a.eval x).cells.toList) ++ suf.drop ct.length := by
        simp only [hsize, ← h1]
        simp [List.drop_append]
      rw [e1, hfill2 (pre ++ (a.eval x).cells.toList) (suf.drop ct.length) (by simp [h1, hsize, Nat.succ_mul]) (by simp [h2])]
      simp

theorem sound_buildSlice (hR : Rel w0 S st a w) {d : Nat} (hdst : o.dst = some d) (hd : DstOk st.n d) (hfr : FreshAt st d) {t et : TypeId} {len : Nat} {parts : Array (Nat × Operand)} (ho : o.op = .buildSlice t len parts) {ct : List CT} {q : List (List DC) × Met × Bool}
    (hu : P.underlying t = some (.slice et)) (hsz : sizeB P et ct.length = true) (hpos : 0 < ct.length) (hlen : len = parts.toList.length) (hsm : len * ct.length ≤ 16777216)
    (hq : (buildRowsM ct 0 parts.toList).val st.get st.obj = some q) (hz : ∃ z, (zeroM P et).val st.get st.obj = some z) (hn : metNodup q.2.1 = true)
    (he : e = { sv := .own (newId d 0), ow := (newId d 0, some (.row et ct q.1 false q.2.2)) :: metFreeze q.2.1 }) : Good P w0 S st o e a w := by
  subst he
  obtain ⟨i, hi, hsize⟩ := sizeB_size hsz
  obtain ⟨β0, φ0, hc0⟩ := hR.core
  obtain ⟨vals, _, hvl, hrl, hone, _, hm, _, _, hfill⟩ := buildRowsM_ok hc0 parts.toList 0 q hq
  obtain ⟨z, hz⟩ := hz
  obtain ⟨i', zv, hi', hzv, _, _⟩ := zeroM_ok hz
  rw [hi] at hi'
  injection hi' with hi'
  subst hi'
  have hle : len ≤ maxLen := by
    have : len ≤ len * ct.length := Nat.le_mul_of_pos_right _ hpos
    simp only [maxLen]
    omega
  have hrun : (Instr.buildSlice t len (parts.map fun x => (x.1, a.eval x.2))).run P w = .ok (.slice (some ⟨w.heap.size, 0, none⟩) len len) (w.alloc (.cells vals.toArray et)) := by
    rcases Nat.eq_zero_or_pos len with h0 | h0
    · have hp : parts = #[] := by
        have : parts.toList.length = 0 := by omega
        simpa using this
      have hv : vals = [] := by
        have : vals.length = 0 := by rw [hvl, ← hlen, h0, Nat.zero_mul]
        simpa using this
      subst hp hv h0
      simp [Instr.buildSlice, run_underlying hu, sizeOf, typeInfo, hi, Instr.fill, newRow, Array.range_zero']
    · refine run_buildSlice (P := P) w t et len _ vals.toArray i zv hu hi hzv (by rw [hsize]; omega) (by rw [hsize]; exact Nat.ne_of_gt (Nat.mul_pos h0 hpos)) ?_
      have := hfill [] ((Array.range (len * ct.length)).map (zv.cells[· % zv.cells.size]!)).toList (by simp) (by simp [hlen])
      rw [hsize]
      generalize (Array.range (len * ct.length)).map (zv.cells[· % zv.cells.size]!) = A at this ⊢
      simpa using this
  refine sound_newrow hR hdst hd hfr (m := q.2.1) (fz := false) (u := q.2.2) (vals := vals) (v := .slice (some ⟨w.heap.size, 0, none⟩) len len) (w' := w.alloc (.cells vals.toArray et)) ?_ (hR.kept.alloc _)
    (by rw [alloc_size]; omega) (fun b hb => alloc_old _ b hb) (by simp [Value.ownBlock]) hm hn ?_ ?_ rfl rfl rfl
  · simp [execOp, ho, hrun]
  · refine ⟨by rw [hvl, hrl], .inr ⟨w.heap.size, len, vals.toArray, by rw [hrl, ← hlen], by simpa using alloc_new _, by rw [hrl, ← hlen]; exact Nat.le_refl _, hle, by simp [hvl, hlen], ?_⟩⟩
    rw [hrl, ← hvl]
    simp
  · intro β φ hc
    obtain ⟨vals', fps, hvl', hrl', hone', hin, hm', hav, huu, hfill'⟩ := buildRowsM_ok hc parts.toList 0 q hq
    have hvv : vals' = vals := by
      have h1 := hfill [] (List.replicate (parts.toList.length * ct.length) undef) (by simp) (by simp)
      have h2 := hfill' [] (List.replicate (parts.toList.length * ct.length) undef) (by simp) (by simp)
      rw [h1] at h2
      simpa using h2.symm
    subst hvv
    exact ⟨fps, hin, hav, fun h => ⟨(huu h).1, (huu h).2 hn⟩⟩

end

end Go.Proofs.Ytjknoknkbfhelaa.Vm
