/- The value machine: stores into rows, append, conversions. Conditions: as each lemma says. -/
import Derived.Test.YtjknoknkbfhelaaVmM
namespace Go.Proofs.Ytjknoknkbfhelaa.Vm

theorem take_splice {α : Type} (l us : List α) (o m : Nat) (h1 : o + us.length ≤ m) (h2 : m ≤ l.length) :
    (l.take o ++ (us ++ l.drop (o + us.length))).take m = (l.take m).take o ++ (us ++ (l.take m).drop (o + us.length)) := by
  rw [List.take_append, List.take_append]
  have e1 : (l.take o).length = o := by simp; omega
  rw [e1]
  have e2 : (l.take o).take m = (l.take m).take o := by rw [List.take_take, List.take_take, Nat.min_comm]
  have e3 : us.take (m - o) = us := List.take_of_length_le (by omega)
  rw [e2, e3]
  congr 2
  rw [List.drop_take]
  congr 1
  omega

section
variable {P : Program} {Γ : Ctx} {w0 : World} {S : Own} {st : St} {o : Oper} {e : Eff} {a : Act} {w : World}
variable {f : Nat → SV} {h : Nat → Option VObj} {β : Env} {φ : Nat → List Nat} {tm : Array Value}

theorem nodup_insert {A p1 p2 p3 B n : List Nat} (h : (A ++ ((p1 ++ (p2 ++ p3)) ++ B)).Nodup) (hn : n.Nodup) (hd : ∀ b ∈ n, b ∉ A ++ ((p1 ++ (p2 ++ p3)) ++ B)) : (A ++ ((p1 ++ (n ++ p3)) ++ B)).Nodup := by
  have h1 : ((A ++ p1) ++ (p3 ++ B)).Nodup := by
    refine List.Sublist.nodup ?_ h
    simp only [List.append_assoc]
    refine List.Sublist.append (List.Sublist.refl _) (List.Sublist.append (List.Sublist.refl _) ?_)
    exact List.sublist_append_right _ _
  have h2 : (n ++ ((A ++ p1) ++ (p3 ++ B))).Nodup := by
    rw [List.nodup_append]
    refine ⟨hn, h1, fun b hb c hc' hbc => ?_⟩
    subst hbc
    refine hd b hb ?_
    simp only [List.mem_append] at hc' ⊢
    rcases hc' with (hc' | hc') | hc' | hc' <;> simp [hc']
  refine (List.Perm.nodup_iff ?_).1 h2
  have : A ++ ((p1 ++ (n ++ p3)) ++ B) = (A ++ p1) ++ (n ++ (p3 ++ B)) := by simp
  rw [this]
  exact (List.perm_append_comm_assoc _ _ _)

theorem sound_store_row (hR : Rel w0 S st a w) (hd : ∀ d, o.dst = some d → DstOk st.n d) {t t' : TypeId} {x y : Operand} (ho : o.op = .store t x y) {id i off : Nat} {sy : SV} {svs : List SV} {ct : List CT} {rows : List (List DC)} {fz u : Bool} {r : List DC × Met × Bool}
    (h1 : (evM x).val st.get st.obj = some (.eown id i ct.length off)) (h2 : (evM y).val st.get st.obj = some sy) (hcs : (cellsOfSV sy).val st.get st.obj = some svs) (hsz : sizeB P t svs.length = true)
    (hob : st.obj id = some (.row t' ct rows fz u)) (hfit : off + svs.length ≤ ct.length) (hr : (toDCs ((ct.drop off).take svs.length) svs).val st.get st.obj = some r) (hmn : metNot id r.2.1 = true) (hnd : metNodup r.2.1 = true)
    (hi : i < rows.length) (hcw : e.cw = none) (hsv0 : e.sv = .undef)
    (how : e.ow = (id, some (.row t' ct (rows.set i (splice (rows.getD i []) off r.1)) fz (u && r.2.2))) :: metFreeze r.2.1) : Good P w0 S st o e a w := by
  obtain ⟨ti, hti, hsize⟩ := sizeB_size hsz
  obtain ⟨β, φ, hc⟩ := hR.core
  have hx := hc.ev h1
  simp only [SVR] at hx
  obtain ⟨g, hg, hx⟩ := hx
  obtain ⟨hsv, hone⟩ := cells_ok (hc.ev h2) hcs
  have hl2 := SVRL.length _ _ hsv
  have hcsz : (a.eval y).cells.size = svs.length := by simpa using hl2
  obtain ⟨fp, hrd, hmet, hfpav, hfpu⟩ := toDCs_ok hc _ _ _ r hsv hr
  have hc1 := hc.freezes r.2.1 hmet hnd
  have hno := metNot_mem hmn
  have hob1 : fo (metFreeze r.2.1) st.obj id = some (.row t' ct rows fz u) := by rw [fo_frozen_other hno]; exact hob
  have hav1 : ∀ b ∈ fp, ¬ Av (fo (metFreeze r.2.1) st.obj) β b := by
    intro b hb
    rcases hfpav b hb with h1 | ⟨z, hz, hbz⟩
    · exact fun h2 => h1 (av_frozen h2)
    · exact not_av_met hc hmet hz hbz
  obtain ⟨vals, fps, hown, hin, hfav, hφ⟩ := hc1.objs id _ hob1
  have hgtop : g ∈ tops β id (.row t' ct rows fz u) := by simp [tops, hg]
  rcases hown.2 with ⟨hv, h0, _⟩ | ⟨g', cap, cur, hv, hh, hnc, hcm, hcs', htk⟩
  · omega
  have hgg : g' = g := by simpa [hv, Value.ownBlock] using hg
  subst hgg
  have hlen : i * ct.length + ct.length ≤ rows.length * ct.length := by rw [← Nat.succ_mul]; exact Nat.mul_le_mul_right _ hi
  have hlen2 : rows.length * ct.length ≤ cap * ct.length := Nat.mul_le_mul_right _ hnc
  have hfree : ∀ j, j < cur.size → ¬ ((bif fz then (cur.size, cur.size + 1) else ((0, 0) : Nat × Nat)).1 ≤ j ∧ j < (bif fz then (cur.size, cur.size + 1) else ((0, 0) : Nat × Nat)).2) := by
    intro j hj
    cases fz <;> simp <;> omega
  have hul : (a.eval y).cells.toList.length = svs.length := by simpa using hcsz
  have hrun := run_storeCells_free P g' (i * ct.length + off) t' _ (a.eval y).cells.toList 0 cur w hh hfree (by rw [hul, hcs']; omega) hone
  simp only [Nat.add_zero] at hrun
  generalize hus : (a.eval y).cells.toList = us at *
  rw [← hul] at hfit hrd
  obtain ⟨p1, p2, p3, hfpi, hin'⟩ := hin.set hown.1 hi hfit hrd
  have hif : i < fps.length := by rw [hin.1]; exact hi
  have hfpi' : fps[i] = p1 ++ (p2 ++ p3) := by simpa [hif] using hfpi
  have hmemset : ∀ b ∈ (fps.set i (p1 ++ (fp ++ p3))).flatten, b ∈ fps.flatten ∨ b ∈ fp := by
    intro b hb
    rw [flatten_set hif] at hb
    rw [flatten_at hif, hfpi']
    simp only [List.mem_append] at hb ⊢
    rcases hb with hb | (hb | hb | hb) | hb <;> simp [hb]
  have hav2 : ∀ b ∈ (fps.set i (p1 ++ (fp ++ p3))).flatten, ¬ Av (fo (metFreeze r.2.1) st.obj) β b := by
    intro b hb
    rcases hmemset b hb with hb | hb
    · exact hfav b hb
    · exact hav1 b hb
  have hfresh := hc1.fresh id _ hob1
  have hcurl : (cur.toList.take (i * ct.length + off) ++ (us ++ cur.toList.drop (i * ct.length + off + us.length))).length = cur.size := by
    simp only [List.length_append, List.length_take, List.length_drop, Array.length_toList]
    rw [hcs']
    omega
  have htops : ∀ b ∈ tops β id (.row t' ct (rows.set i (splice (rows.getD i []) off r.1)) fz (u && r.2.2)), b ∈ tops β id (.row t' ct rows fz u) := fun b hb => hb
  refine good_skip hR hd (w' := w.setRow g' (cur.toList.take (i * ct.length + off) ++ (us ++ cur.toList.drop (i * ct.length + off + us.length))).toArray) ?_
    (hR.kept.setRow (hfresh.2 g' (tops_sub (hc1.objs id _ hob1) g' hgtop)).1 _)
    ⟨β, upd (frozenφ φ r.2.1) id ((β.val id).ownBlock.toList ++ (bif (u && r.2.2) then (fps.set i (p1 ++ (fp ++ p3))).flatten else [])), ?_, by rw [hsv0]; simp [SVR]⟩
  · have := run_storeAt (P := P) (t := t) (b := g') (off := i * ct.length + off) (x := a.eval y) hti (hsize.trans hcsz.symm) (by rw [hus]; exact hrun)
    simp [execOp, ho, hx, this]
  · rw [how, hcw]
    show Core w0 S st.get (upd (fo (metFreeze r.2.1) st.obj) id (some (.row t' ct (rows.set i (splice (rows.getD i []) off r.1)) fz (u && r.2.2)))) _ _ _ _
    refine hc1.rewrite hob1 hgtop htops ?_ ?_ ?_
    · refine ⟨vals.take (i * ct.length + off) ++ (us ++ vals.drop (i * ct.length + off + us.length)), fps.set i (p1 ++ (fp ++ p3)), ⟨?_, .inr ⟨g', cap, (cur.toList.take (i * ct.length + off) ++ (us ++ cur.toList.drop (i * ct.length + off + us.length))).toArray, by simpa using hv, ?_, by simpa using hnc, hcm, by simpa [hcurl] using hcs', ?_⟩⟩, ?_, ?_, rfl⟩
      · have := hown.1
        simp only [List.length_append, List.length_take, List.length_drop, List.length_set]
        omega
      · rw [setRow_heap w _ _ _ _ _ hh]
        simp only [List.size_toArray, hcurl]
      · simp only [List.length_set]
        rw [take_splice _ _ _ _ (by omega) (by simp only [Array.length_toList]; omega), htk]
      · refine hin'.mono (by simp) (fun b hb => setRow_other w g' b _ (fun e => hav2 b hb (e ▸ .inl ⟨id, _, hob1, hgtop⟩)))
      · exact fun b hb hx => hav2 b hb (av_rewrite hob1 htops hx)
    · have hnd1 : (β.val id).ownBlock.toList.Nodup := by cases (β.val id).ownBlock <;> simp
      cases huu : (u && r.2.2) with
      | false => simpa using hnd1
      | true =>
        simp only [Bool.and_eq_true] at huu
        have hφ' : frozenφ φ r.2.1 id = (β.val id).ownBlock.toList ++ fps.flatten := by rw [hφ, huu.1]; rfl
        have hn0 := hfresh.1
        rw [hφ', flatten_at hif, hfpi', List.nodup_append] at hn0
        obtain ⟨hn1, hn2, hn3⟩ := hn0
        have hfpn := (hfpu huu.2).2 hnd
        have hfpd : ∀ b ∈ fp, b ∉ frozenφ φ r.2.1 id := by
          intro b hb hbi
          obtain ⟨z, hz, hbz⟩ := (hfpu huu.2).1 b hb
          obtain ⟨t'', fz', h3⟩ := hmet z hz
          rw [frozenφ_other hno] at hbi
          exact hc.sep z.1 id _ _ (hno z hz) h3 hob b hbz hbi
        rw [hφ', flatten_at hif, hfpi'] at hfpd
        simp only [cond_true]
        rw [flatten_set hif, List.nodup_append]
        refine ⟨hn1, nodup_insert hn2 hfpn (fun b hb hb' => hfpd b hb (List.mem_append_right _ hb')), fun b hb c hc' hbc => ?_⟩
        subst hbc
        simp only [List.mem_append] at hc'
        rcases hc' with hc' | (hc' | hc' | hc') | hc'
        · exact hn3 b hb b (by simp [hc']) rfl
        · exact hn3 b hb b (by simp [hc']) rfl
        · exact hfpd b hc' (List.mem_append_left _ hb)
        · exact hn3 b hb b (by simp [hc']) rfl
        · exact hn3 b hb b (by simp [hc']) rfl
    · intro b hb
      have old : b ∈ frozenφ φ r.2.1 id → ((w0.heap.size ≤ b ∨ S b) ∧ b < w.heap.size) ∧ ∀ j oj, j ≠ id → fo (metFreeze r.2.1) st.obj j = some oj → b ∉ frozenφ φ r.2.1 j := fun hb' =>
        ⟨hfresh.2 b hb', fun j oj hj hjo => hc1.sep id j _ _ (Ne.symm hj) hob1 hjo b hb'⟩
      rcases List.mem_append.1 hb with hb | hb
      · exact old (by rw [hφ]; exact List.mem_append_left _ hb)
      · cases huu : (u && r.2.2) with
        | false => simp [huu] at hb
        | true =>
          simp only [huu, cond_true] at hb
          simp only [Bool.and_eq_true] at huu
          rcases hmemset b hb with hb | hb
          · exact old (by rw [hφ, huu.1]; exact List.mem_append_right _ hb)
          · obtain ⟨z, hz, hbz⟩ := (hfpu huu.2).1 b hb
            obtain ⟨t'', fz', h3⟩ := hmet z hz
            refine ⟨(hc.fresh z.1 _ h3).2 b hbz, fun j oj hj hjo => ?_⟩
            by_cases hjm : ∃ k ∈ r.2.1, k.1 = j
            · rw [frozenφ_in hjm]; simp
            · have hno' : ∀ k ∈ r.2.1, k.1 ≠ j := fun k hk e => hjm ⟨k, hk, e⟩
              rw [fo_frozen_other hno'] at hjo
              rw [frozenφ_other hno']
              exact hc.sep z.1 j _ _ (hno' z hz) h3 hjo b hbz

end

end Go.Proofs.Ytjknoknkbfhelaa.Vm
