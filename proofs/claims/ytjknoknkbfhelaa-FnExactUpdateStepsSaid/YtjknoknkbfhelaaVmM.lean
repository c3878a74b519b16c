/- The value machine: stores. Conditions: as each lemma says. -/
import Derived.Test.YtjknoknkbfhelaaVmL
import Derived.Laws.CopyRow
namespace Go.Proofs.Ytjknoknkbfhelaa.Vm

theorem run_storeCells_free (P : Program) (g o : Nat) (t : TypeId) (fz : Nat × Nat) : ∀ (vs : List Value) (i : Nat) (cur : Array Value) (w : World), w.heap[g]? = some (.cells cur t fz) → (∀ j, j < cur.size → ¬ (fz.1 ≤ j ∧ j < fz.2)) →
    o + i + vs.length ≤ cur.size → (∀ v ∈ vs, v.oneCell' = true) →
    (storeCells ⟨g, o, none⟩ vs i).run P w = .ok () (w.setRow g (cur.toList.take (o + i) ++ (vs ++ cur.toList.drop (o + i + vs.length))).toArray)
  | [], i, cur, w, hg, _, _, _ => by
    simp only [storeCells, List.nil_append, List.length_nil, Nat.add_zero, List.take_append_drop, Array.toArray_toList]
    rw [setRow_self w g cur t fz hg]
    rfl
  | v :: rest, i, cur, w, hg, hfz, hl, h1 => by
    have hi : o + i < cur.size := by simp at hl; omega
    have hcell : w.cell? ⟨g, o + i, none⟩ = some cur[o + i] := by simp [World.cell?, hg, hi]
    have hfro : w.frozen? ⟨g, o + i, none⟩ = false := by
      have := hfz (o + i) hi
      obtain ⟨lo, hi'⟩ := fz
      simp only [World.frozen?, hg, Bool.and_eq_false_iff, decide_eq_false_iff_not]
      simp only at this
      omega
    have hst : (store ((⟨g, o, none⟩ : Addr).add i) v).run P w = .ok () (w.setRow g (cur.setIfInBounds (o + i) v)) := by
      rw [addr_add, run_store P w _ v _ (h1 v (by simp)), hcell]
      simp [hfro, setCell_eq_setRow w g (o + i) cur t fz v hg]
    have ih := run_storeCells_free P g o t fz rest (i + 1) (cur.setIfInBounds (o + i) v) (w.setRow g (cur.setIfInBounds (o + i) v)) (setRow_heap w g cur _ t _ hg) (by simpa using hfz) (by simp at hl ⊢; omega) (fun x hx => h1 x (by simp [hx]))
    simp only [storeCells, Sem.run_bind, hst, Result.andThen_ok, ih, setRow_setRow]
    congr 3
    have := list_seg_step cur.toList (o + i) v rest (by simp at hl ⊢; omega)
    simp only [Array.toList_setIfInBounds, List.length_cons]
    rw [← Nat.add_assoc]
    simpa [List.append_assoc] using this

theorem RdL.split {w : World} : ∀ (cs1 cs2 : List CT) (r : List DC) (f : Nat → Option Value) (fp : List Nat), RdL w (cs1 ++ cs2) r f fp →
    ∃ fp1 fp2, RdL w cs1 (r.take cs1.length) f fp1 ∧ RdL w cs2 (r.drop cs1.length) (fun j => f (cs1.length + j)) fp2 ∧ fp = fp1 ++ fp2
  | [], cs2, r, f, fp, h => ⟨[], fp, by simp [RdL], by simpa using h, rfl⟩
  | c :: cs, cs2, r, f, fp, h => by
    simp only [List.cons_append, RdL] at h
    obtain ⟨d, r', v, f1, f2, rfl, h0, h1, h2, rfl⟩ := h
    obtain ⟨p1, p2, e1, e2, rfl⟩ := RdL.split cs cs2 r' _ f2 h2
    refine ⟨f1 ++ p1, p2, ?_, ?_, by simp⟩
    · simp only [List.length_cons, List.take_succ_cons, RdL]
      exact ⟨d, _, v, f1, p1, rfl, h0, h1, e1, rfl⟩
    · simp only [List.length_cons, List.drop_succ_cons]
      have : ∀ j, cs.length + 1 + j = cs.length + j + 1 := by intro j; omega
      simpa only [this] using e2

theorem RdL.join {w : World} : ∀ (cs1 cs2 : List CT) (r1 r2 : List DC) (f : Nat → Option Value) (fp1 fp2 : List Nat), RdL w cs1 r1 f fp1 → RdL w cs2 r2 (fun j => f (cs1.length + j)) fp2 →
    RdL w (cs1 ++ cs2) (r1 ++ r2) f (fp1 ++ fp2)
  | [], cs2, r1, r2, f, fp1, fp2, h1, h2 => by
    simp only [RdL] at h1
    obtain ⟨rfl, rfl⟩ := h1
    simpa using h2
  | c :: cs, cs2, r1, r2, f, fp1, fp2, h1, h2 => by
    simp only [RdL] at h1
    obtain ⟨d, r', v, f1, f2, rfl, h0, h3, h4, rfl⟩ := h1
    simp only [List.cons_append, RdL]
    refine ⟨d, r' ++ r2, v, f1, f2 ++ fp2, rfl, h0, h3, RdL.join cs cs2 r' r2 _ f2 fp2 h4 ?_, by simp⟩
    have : ∀ j, (c :: cs).length + j = cs.length + j + 1 := by intro j; simp only [List.length_cons]; omega
    simpa only [this] using h2

section
variable {P : Program} {Γ : Ctx} {w0 : World} {S : Own} {st : St} {o : Oper} {e : Eff} {a : Act} {w : World}
variable {f : Nat → SV} {h : Nat → Option VObj} {β : Env} {φ : Nat → List Nat} {tm : Array Value}

theorem Kept.setRow (hk : Kept S w0 w) {g : Nat} (hg : w0.heap.size ≤ g ∨ S g) (cs : Array Value) : Kept S w0 (w.setRow g cs) :=
  ⟨hk.os, hk.tape, hk.output, by simpa using hk.size, fun k h1 h2 => by
    rw [setRow_other w g k cs (fun e => by subst e; rcases hg with h | h; omega; exact h2 h)]
    exact hk.block k h1 h2⟩

/-- An object is written anew in its own block. -/
theorem Core.rewrite (hc : Core w0 S f h β φ tm w) {id : Nat} {ob ob' : VObj} {g : Nat} {cs : Array Value} {φn : List Nat} (hid : h id = some ob) (hg : g ∈ tops β id ob) (ht : ∀ b ∈ tops β id ob', b ∈ tops β id ob)
    (hobj : ObjR (w.setRow g cs) (Av (upd h id (some ob')) β) β id ob' φn) (hnd : φn.Nodup) (hal : ∀ b ∈ φn, ((w0.heap.size ≤ b ∨ S b) ∧ b < w.heap.size) ∧ ∀ j o, j ≠ id → h j = some o → b ∉ φ j) :
    Core w0 S f (upd h id (some ob')) β (upd φ id φn) tm (w.setRow g cs) := by
  have hgφ := tops_sub (hc.objs id ob hid) g hg
  refine hc.step (fun _ => False) (by simp) (fun b _ hb => setRow_other w g b cs (fun e => hb (e ▸ .inl ⟨id, ob, hid, hg⟩))) ?_ (fun _ _ _ h => h) (fun _ _ => ⟨rfl, rfl⟩) ?_ ?_
  · rintro b (⟨j, oj, hj, hbj⟩ | hb)
    case inr => exact .inl (.inr hb)
    by_cases hjj : j = id
    · subst hjj
      simp only [upd, if_true, Option.some.injEq] at hj
      subst hj
      exact .inl (.inl ⟨j, ob, hid, ht b hbj⟩)
    · simp only [upd, hjj, if_false] at hj
      exact .inl (.inl ⟨j, oj, hj, hbj⟩)
  · intro j oj hj
    by_cases hjj : j = id
    · subst hjj
      simp only [upd, if_true, Option.some.injEq] at hj
      subst hj
      exact .inr ⟨by simpa [upd] using hobj, by simpa [upd] using hnd, fun b hb => by simpa using (hal b (by simpa [upd] using hb)).1⟩
    · simp only [upd, hjj, if_false] at hj
      refine .inl ⟨fun h => h, hj, by simp [upd, hjj], fun _ _ h => h, fun b hb => setRow_other w g b cs (fun e => ?_)⟩
      subst e
      exact hc.sep id j _ _ (Ne.symm hjj) hid hj b hgφ (tops_sub (hc.objs j oj hj) b hb)
  · intro i j oi oj hne hi hj b hb
    by_cases hii : i = id
    · subst hii
      have hji : j ≠ i := Ne.symm hne
      simp only [upd, hji, if_false] at hj
      simp only [upd, if_true] at hb
      simp only [upd, hji, if_false]
      exact (hal b hb).2 j oj hji hj
    · simp only [upd, hii, if_false] at hi hb
      by_cases hjj : j = id
      · subst hjj
        simp only [upd, if_true]
        exact fun hb' => (hal b hb').2 i oi hii hi hb
      · simp only [upd, hjj, if_false] at hj ⊢
        exact hc.sep i j oi oj hne hi hj b hb

theorem av_rewrite {id : Nat} {ob ob' : VObj} (hid : h id = some ob) (ht : ∀ b ∈ tops β id ob', b ∈ tops β id ob) {b : Nat} (hb : Av (upd h id (some ob')) β b) : Av h β b := by
  rcases hb with ⟨j, oj, hj, hbj⟩ | hb
  case inr => exact .inr hb
  by_cases hjj : j = id
  · subst hjj
    simp only [upd, if_true, Option.some.injEq] at hj
    subst hj
    exact .inl ⟨j, ob, hid, ht b hbj⟩
  · simp only [upd, hjj, if_false] at hj
    exact .inl ⟨j, oj, hj, hbj⟩

theorem run_storeAt {t : TypeId} {b off : Nat} {x : Value} {i : TypeInfo} (hi : P.info? t = some i) (hsz : i.size = x.cells.size) {w' : World} (hrun : (storeCells ⟨b, off, none⟩ x.cells.toList 0).run P w = .ok () w') :
    (Instr.storeAt t (.pointer (some ⟨b, off, none⟩)) x).run P w = .ok () w' := by
  simp [Instr.storeAt, Instr.sureAddr, storeVar, sizeOf, typeInfo, hi, hsz, hrun]

theorem writeCells_ok {av : Nat → Prop} {cells svs : List SV} {vs us : List Value} {off : Nat} (h1 : SVRL w av β cells vs) (h2 : SVRL w av β svs us) (hl : us.length = svs.length) :
    SVRL w av β (writeCells cells off svs) (vs.take off ++ (us ++ vs.drop (off + us.length))) := by
  unfold writeCells
  refine SVRL.append _ _ _ _ (SVRL.take _ _ _ h1) (SVRL.append _ _ _ _ h2 ?_)
  rw [hl]
  exact SVRL.drop _ _ _ h1

theorem sound_store_box (hR : Rel w0 S st a w) (hd : ∀ d, o.dst = some d → DstOk st.n d) {t t' : TypeId} {x y : Operand} (ho : o.op = .store t x y) {id off : Nat} {sy : SV} {svs cells : List SV}
    (h1 : (evM x).val st.get st.obj = some (.ptr id off)) (h2 : (evM y).val st.get st.obj = some sy) (hcs : (cellsOfSV sy).val st.get st.obj = some svs) (hsz : sizeB P t svs.length = true)
    (hob : st.obj id = some (.box t' cells)) (hfit : off + svs.length ≤ cells.length) (he : e = { sv := .undef, cw := some (id, off, svs) }) : Good P w0 S st o e a w := by
  subst he
  obtain ⟨i, hi, hsize⟩ := sizeB_size hsz
  obtain ⟨β, φ, hc⟩ := hR.core
  have hx := hc.ev h1
  simp only [SVR] at hx
  obtain ⟨hsv, hone⟩ := cells_ok (hc.ev h2) hcs
  obtain ⟨vs, hh, hr, hone', hφ⟩ := hc.objs id _ hob
  have hl := SVRL.length _ _ hr
  have hl2 := SVRL.length _ _ hsv
  have hcsz : (a.eval y).cells.size = svs.length := by simpa using hl2
  have hrun := run_storeCells_free P (β.blk id) off t' (0, 0) (a.eval y).cells.toList 0 vs.toArray w hh (by simp) (by simp; omega) hone
  simp only [Nat.add_zero] at hrun
  have hfc : fc (some (id, off, svs)) st.obj = upd st.obj id (some (.box t' (writeCells cells off svs))) := by simp only [fc, hob]
  have hsame := hc.fresh id _ hob
  have hav : ∀ b, Av (upd st.obj id (some (.box t' (writeCells cells off svs)))) β b → Av st.obj β b := fun b hb => av_rewrite hob (by simp [tops]) hb
  have hmono : ∀ (ss : List SV) (us : List Value), SVRL w (Av st.obj β) β ss us → ∀ cs, SVRL (w.setRow (β.blk id) cs) (Av (upd st.obj id (some (.box t' (writeCells cells off svs)))) β) β ss us := by
    intro ss us hss cs
    exact SVRL.mono (by simp) (fun b _ hb => setRow_other w _ b cs (fun e => hb (e ▸ .inl ⟨id, _, hob, by simp [tops]⟩))) (fun b hb => .inl (hav b hb)) ss us hss (fun _ _ => ⟨rfl, rfl⟩)
  refine good_skip hR hd (w' := w.setRow (β.blk id) (vs.take off ++ ((a.eval y).cells.toList ++ vs.drop (off + (a.eval y).cells.toList.length))).toArray) ?_ (hR.kept.setRow (hsame.2 (β.blk id) (by rw [hφ]; simp)).1 _) ⟨β, upd φ id [β.blk id], ?_, by simp [SVR]⟩
  · simp [execOp, ho, hx, run_storeAt hi (hsize.trans hcsz.symm) hrun]
  · show Core w0 S st.get (fo [] (fc (some (id, off, svs)) st.obj)) _ _ _ _
    simp only [fo, hfc]
    refine hc.rewrite hob (by simp [tops]) (by simp [tops]) ?_ (by simp) ?_
    · refine ⟨_, setRow_heap w _ _ _ _ _ hh, writeCells_ok (hmono _ _ hr _) (hmono _ _ hsv _) hl2, ?_, rfl⟩
      intro z hz
      simp only [List.mem_append] at hz
      rcases hz with hz | hz | hz
      · exact hone' z (List.mem_of_mem_take hz)
      · exact hone z hz
      · exact hone' z (List.mem_of_mem_drop hz)
    · intro b hb
      have hb' : b ∈ φ id := by rw [hφ]; exact hb
      exact ⟨hsame.2 b hb', fun j oj hj hjo => hc.sep id j _ _ (Ne.symm hj) hob hjo b hb'⟩

theorem flatten_set {fps : List (List Nat)} {i : Nat} (hi : i < fps.length) (x : List Nat) : (fps.set i x).flatten = (fps.take i).flatten ++ (x ++ (fps.drop (i + 1)).flatten) := by
  rw [List.set_eq_take_append_cons_drop, if_pos hi]
  simp

theorem flatten_at {fps : List (List Nat)} {i : Nat} (hi : i < fps.length) : fps.flatten = (fps.take i).flatten ++ (fps[i] ++ (fps.drop (i + 1)).flatten) := by
  have := flatten_set hi fps[i]
  rwa [List.set_getElem_self] at this

theorem InR.set {ct : List CT} {rows : List (List DC)} {vals : List Value} {fps : List (List Nat)} (hin : InR w ct rows vals fps) (hl : vals.length = rows.length * ct.length) {i : Nat} (hi : i < rows.length)
    {off : Nat} {ds : List DC} {us : List Value} {fp : List Nat} (hoff : off + us.length ≤ ct.length) (hrd : RdL w ((ct.drop off).take us.length) ds (fun j => us[j]?) fp) :
    ∃ p1 p2 p3, fps[i]? = some (p1 ++ (p2 ++ p3)) ∧ InR w ct (rows.set i (splice (rows.getD i []) off ds)) (vals.take (i * ct.length + off) ++ (us ++ vals.drop (i * ct.length + off + us.length))) (fps.set i (p1 ++ (fp ++ p3))) := by
  have hif : i < fps.length := by rw [hin.1]; exact hi
  have hrow := hin.2 i (rows.getD i []) fps[i] (getD_of_lt hi) (by simp)
  generalize rows.getD i [] = r at hrow ⊢
  have hct : ct = ct.take off ++ ((ct.drop off).take us.length ++ ct.drop (off + us.length)) := by
    rw [← List.drop_drop, List.take_append_drop, List.take_append_drop]
  have hl1 : (ct.take off).length = off := by simp; omega
  have hl2 : ((ct.drop off).take us.length).length = us.length := by simp; omega
  have hdl : ds.length = us.length := by rw [RdL.length _ _ _ _ hrd, hl2]
  have hrow' : RdL w (ct.take off ++ ((ct.drop off).take us.length ++ ct.drop (off + us.length))) r (fun j => vals[i * ct.length + j]?) fps[i] := by
    rw [← hct]
    exact hrow
  obtain ⟨p1, q, r1, r2, hq⟩ := RdL.split _ _ _ _ _ hrow'
  obtain ⟨p2, p3, r3, r4, rfl⟩ := RdL.split _ _ _ _ _ r2
  rw [hl1] at r1 r2 r3 r4
  rw [hl2] at r3 r4
  have hi1 : i * ct.length + ct.length ≤ vals.length := by
    rw [hl, ← Nat.succ_mul]
    exact Nat.mul_le_mul_right _ hi
  refine ⟨p1, p2, p3, by rw [List.getElem?_eq_getElem hif, hq], by simp [hin.1], fun k r' f' hk hf => ?_⟩
  have get_new : ∀ j, (vals.take (i * ct.length + off) ++ (us ++ vals.drop (i * ct.length + off + us.length)))[j]? =
      if j < i * ct.length + off then vals[j]? else if j < i * ct.length + off + us.length then us[j - (i * ct.length + off)]? else vals[j]? := by
    intro j
    have ht : (vals.take (i * ct.length + off)).length = i * ct.length + off := by simp; omega
    split
    · rename_i hj
      rw [List.getElem?_append_left (by omega), List.getElem?_take, if_pos hj]
    · rename_i hj
      rw [List.getElem?_append_right (by omega), ht]
      split
      · rw [List.getElem?_append_left (by omega)]
      · rw [List.getElem?_append_right (by omega), List.getElem?_drop]
        congr 1
        omega
  by_cases hki : k = i
  · subst hki
    rw [List.getElem?_set_self hi] at hk
    rw [List.getElem?_set_self hif] at hf
    simp only [Option.some.injEq] at hk hf
    subst hk hf
    have := RdL.join (w := w) (ct.take off) ((ct.drop off).take us.length ++ ct.drop (off + us.length)) (r.take off) (ds ++ r.drop (off + ds.length))
      (fun j => (vals.take (k * ct.length + off) ++ (us ++ vals.drop (k * ct.length + off + us.length)))[k * ct.length + j]?) p1 (fp ++ p3) ?_ ?_
    · rw [← hct] at this
      exact this
    · refine row_reads.RdL.ofSub' ?_ r1
      intro j u hj hju
      rw [hl1] at hj
      simp only [get_new]
      rw [if_pos (by omega)]
      exact hju
    · refine RdL.join _ _ _ _ _ _ _ ?_ ?_
      · refine row_reads.RdL.ofSub' ?_ hrd
        intro j u hj hju
        rw [hl2] at hj
        simp only [hl1, get_new]
        rw [if_neg (by omega), if_pos (by omega), ← hju]
        congr 1
        omega
      · rw [hdl]
        simp only [List.drop_drop] at r4
        refine row_reads.RdL.ofSub ?_ r4
        intro j u hju
        simp only [hl1, hl2, get_new]
        rw [if_neg (by omega), if_neg (by omega)]
        rw [← hju]
  · rw [List.getElem?_set_ne (Ne.symm hki)] at hk hf
    refine row_reads.RdL.ofSub' ?_ (hin.2 k r' f' hk hf)
    intro j u hj hju
    have hkl : k < rows.length := (List.getElem?_eq_some_iff.1 hk).1
    rw [get_new]
    rcases Nat.lt_or_ge k i with hlt | hge
    · have : k * ct.length + ct.length ≤ i * ct.length := by rw [← Nat.succ_mul]; exact Nat.mul_le_mul_right _ hlt
      rw [if_pos (by omega)]
      exact hju
    · have : i * ct.length + ct.length ≤ k * ct.length := by rw [← Nat.succ_mul]; exact Nat.mul_le_mul_right _ (by omega)
      rw [if_neg (by omega), if_neg (by omega)]
      exact hju

end

end Go.Proofs.Ytjknoknkbfhelaa.Vm
