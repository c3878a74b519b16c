/- The value machine: addresses of elements, loads, struct literals. Conditions: as each lemma says. -/
import Derived.Test.YtjknoknkbfhelaaVmG
namespace Go.Proofs.Ytjknoknkbfhelaa.Vm

section
variable {P : Program} {Γ : Ctx} {w0 : World} {S : Own} {st : St} {o : Oper} {e : Eff} {a : Act} {w : World}

theorem sizeB_size {t : TypeId} {n : Nat} (h : sizeB P t n = true) : ∃ i, P.info? t = some i ∧ i.size = n := by
  unfold sizeB at h
  split at h
  · rename_i i hi
    exact ⟨i, hi, Nat.eq_of_beq_eq_true h⟩
  · cases h

theorem getD_of_lt {α : Type} {l : List α} {i : Nat} {d : α} (h : i < l.length) : l[i]? = some (l.getD i d) := by
  simp [List.getD, h]

theorem sound_indexAddr (hR : Rel w0 S st a w) (hd : ∀ d, o.dst = some d → DstOk st.n d) {t : TypeId} {x i : Operand} (ho : o.op = .indexAddr t x i) {sx si : SV}
    (h1 : (evM x).val st.get st.obj = some sx) (h2 : (evM i).val st.get st.obj = some si) (he : (indexAddrM P t sx si).val st.get st.obj = some e) (hok : e.ok = true) : Good P w0 S st o e a w := by
  unfold indexAddrM at he
  split at he
  · rename_i et k n hu
    have run : ∀ (b oo m c : Nat) (i' : TypeInfo), P.info? et = some i' → 0 ≤ n → n < (m : Int) → a.eval x = .slice (some ⟨b, oo, none⟩) m c → (∃ kk, a.eval i = .int kk n) →
        (execOp a.eval o).run P w = .ok (.value (.pointer (some ⟨b, oo + n.toNat * i'.size, none⟩))) w := by
      rintro b oo m c i' hi h0 hm hx ⟨kk, hi'⟩
      simp [execOp, ho, hx, hi', Instr.indexAt, asIntOf, run_underlying hu, h0, hm, sizeOf, typeInfo, hi, addr_add]
    have imm : ∀ (ct : List CT) (r : List (List DC)), sizeB P et ct.length = true → e = { sv := .eimm ct (r.getD n.toNat []) 0, ok := decide (0 ≤ n) && decide (n < r.length) } →
        (∀ β φ, Core w0 S st.get st.obj β φ a.tmps w → SVR w (Av st.obj β) β (.sl ct r) (a.eval x)) → Good P w0 S st o e a w := by
      intro ct r hz he hx
      subst he
      simp only [Bool.and_eq_true, decide_eq_true_eq] at hok
      obtain ⟨i', hi, hsz⟩ := sizeB_size hz
      refine good_pure hR hd rfl rfl fun β φ hc => ?_
      have hx := hx β φ hc
      have hi2 := hc.ev h2
      simp only [SVR] at hx hi2
      obtain ⟨fp, hr, hav⟩ := hx
      obtain ⟨q, m, c, hv, hm, _, _, hcase⟩ := sl_form hr
      have hpos : 0 < m := by omega
      rcases hcase with ⟨h0, _⟩ | ⟨_, b, oo, fps, rfl, hlt, hl, rfl, hrow⟩
      · omega
      · have hlt' : n.toNat < r.length := by omega
        refine ⟨_, run b oo m c i' hi hok.1 (by omega) hv ⟨k, hi2.1⟩, ?_⟩
        have hb : ¬ Av st.obj β b := hav b (by simp)
        have hf : fps[n.toNat]? = some fps[n.toNat] := by simp
        have := hrow n.toNat (r.getD n.toNat []) fps[n.toNat] (getD_of_lt hlt') hf
        simp only [SVR]
        refine ⟨b, oo + n.toNat * ct.length, fps[n.toNat], by rw [hsz]; rfl, hlt, hb, ?_, fun y hy => hav y ?_⟩
        · simpa only [Nat.add_assoc] using this
        · simp only [List.mem_cons, List.mem_flatten]
          exact .inr ⟨_, List.getElem_mem _, hy⟩
    split at he
    · rename_i ct r
      cases hz : sizeB P et ct.length
      · simp [hz] at he
      · simp only [hz, cond_true, M.val_pure, Option.some.injEq] at he
        exact imm ct r hz he.symm fun β φ hc => hc.ev h1
    · rename_i id
      simp only [M.val_obj, Option.bind_eq_some_iff] at he
      obtain ⟨ob, hob, he⟩ := he
      split at he
      · rename_i t' ct r fz u
        cases hz : sizeB P et ct.length
        · simp [hz] at he
        · simp only [hz, cond_true, M.val_pure, Option.some.injEq] at he
          subst he
          simp only [Bool.and_eq_true, decide_eq_true_eq] at hok
          obtain ⟨i', hi, hsz⟩ := sizeB_size hz
          refine good_pure hR hd rfl rfl fun β φ hc => ?_
          have hx := hc.ev h1
          have hi2 := hc.ev h2
          simp only [SVR] at hx hi2
          obtain ⟨vals, fps, hown, _⟩ := hc.objs id _ hob
          rcases hown.2 with ⟨_, h0, _⟩ | ⟨g, cap, cur, hv, _⟩
          · omega
          · refine ⟨_, run g 0 r.length cap i' hi hok.1 hok.2 (hx.1.trans hv) ⟨k, hi2.1⟩, ?_⟩
            simp only [SVR]
            exact ⟨g, by rw [hv]; rfl, by rw [hsz]; simp⟩
      · rename_i ct r
        cases hz : sizeB P et ct.length
        · simp [hz] at he
        · simp only [hz, cond_true, M.val_pure, Option.some.injEq] at he
          refine imm ct r hz he.symm fun β φ hc => ?_
          have hx := hc.ev h1
          simp only [SVR] at hx
          rw [hx.1]
          exact (hc.objs id _ hob).1
      · simp at he
    · simp at he
  · simp at he

theorem sound_load (hR : Rel w0 S st a w) (hd : ∀ d, o.dst = some d → DstOk st.n d) {t : TypeId} {x : Operand} (ho : o.op = .load t x) {sx : SV}
    (h1 : (evM x).val st.get st.obj = some sx) (he : (loadM P t sx).val st.get st.obj = some e) (hok : e.ok = true) : Good P w0 S st o e a w := by
  unfold loadM at he
  split at he
  case h_2 => simp at he
  rename_i td hu
  have agg : ∀ (b oo : Nat) (vs : List Value) (i : TypeInfo), isAggB P t = true → P.info? t = some i → vs.length = i.size → (∀ j v, vs[j]? = some v → w.cell? ⟨b, oo + j, none⟩ = some v) →
      a.eval x = .pointer (some ⟨b, oo, none⟩) → (execOp a.eval o).run P w = .ok (.value (.agg vs.toArray)) w := by
    intro b oo vs i h2 hi hl hcell hx
    simp [execOp, ho, hx, run_loadAt_agg h2 hi hl hcell]
  have one : ∀ (b oo : Nat) (v : Value), isAggB P t = false → w.cell? ⟨b, oo, none⟩ = some v → a.eval x = .pointer (some ⟨b, oo, none⟩) → (execOp a.eval o).run P w = .ok (.value v) w := by
    intro b oo v h2 hcell hx
    simp [execOp, ho, hx, run_loadAt_one h2 hu hcell]
  unfold loadM' at he
  split at he
  · rename_i id off
    simp only [M.val_obj, Option.bind_eq_some_iff] at he
    obtain ⟨ob, hob, he⟩ := he
    split at he
    · rename_i t' cells
      cases ha : isAggB P t
      · simp only [ha, cond_false] at he
        split at he
        · rename_i s hs
          simp only [M.val_pure, Option.some.injEq] at he
          subst he
          refine good_pure hR hd rfl rfl fun β φ hc => ?_
          have hx := hc.ev h1
          simp only [SVR] at hx
          obtain ⟨vs, hh, hr, _, _⟩ := hc.objs id _ hob
          obtain ⟨v, hv, hsv⟩ := SVRL.get _ _ _ _ hr hs
          exact ⟨v, one _ _ v ha (by rw [cell_box hh]; exact hv) hx, hsv⟩
        · simp at he
      · simp only [ha, cond_true] at he
        split at he
        · rename_i i hi
          cases hz : Nat.ble (off + i.size) cells.length
          · simp [hz] at he
          · simp only [hz, cond_true, M.val_pure, Option.some.injEq] at he
            subst he
            have hle := Nat.le_of_ble_eq_true hz
            refine good_pure hR hd rfl rfl fun β φ hc => ?_
            have hx := hc.ev h1
            simp only [SVR] at hx
            obtain ⟨vs, hh, hr, hone, _⟩ := hc.objs id _ hob
            have hlen := SVRL.length _ _ hr
            refine ⟨_, agg _ off ((vs.drop off).take i.size) i ha hi (by simp; omega) (fun j v hj => ?_) hx, ?_⟩
            · rw [cell_box hh]
              rw [List.getElem?_take] at hj
              split at hj
              · simpa using hj
              · cases hj
            · simp only [SVR]
              exact ⟨_, rfl, SVRL.take _ _ _ (SVRL.drop _ _ _ hr), fun y hy => hone y (List.mem_of_mem_drop (List.mem_of_mem_take hy))⟩
        · simp at he
    · simp at he
  · rename_i ct row off
    cases ha : isAggB P t
    · simp only [ha, cond_false] at he
      split at he
      · rename_i c hcc
        simp only [M.val_pure, Option.some.injEq] at he
        subst he
        refine good_pure hR hd rfl rfl fun β φ hc => ?_
        have hx := hc.ev h1
        simp only [SVR] at hx
        obtain ⟨b, oo, fp, hv, _, _, hr, hav⟩ := hx
        obtain ⟨v, fp', e1, e2, e3⟩ := RdL.get _ _ _ _ _ _ hr hcc
        exact ⟨v, one _ _ v ha e1 hv, ofDC_ok e2 (fun y hy => hav y (e3 y hy))⟩
      · simp at he
    · simp only [ha, cond_true] at he
      split at he
      · rename_i i hi
        cases hz : Nat.ble (off + i.size) ct.length
        · simp [hz] at he
        · simp only [hz, cond_true, M.val_pure, Option.some.injEq] at he
          subst he
          have hle := Nat.le_of_ble_eq_true hz
          refine good_pure hR hd rfl rfl fun β φ hc => ?_
          have hx := hc.ev h1
          simp only [SVR] at hx
          obtain ⟨b, oo, fp, hv, _, _, hr, hav⟩ := hx
          obtain ⟨vs, l1, l2, l3, l4⟩ := RdL.svs (β := β) hr hav i.size off hle
          refine ⟨_, agg b (oo + off) vs i ha hi l1 (fun j v hj => ?_) hv, ?_⟩
          · have := l2 j v hj
            rw [← this, Nat.add_assoc]
          · simp only [SVR]
            exact ⟨vs, rfl, l3, l4⟩
      · simp at he
  · rename_i id i z off
    simp only [M.val_obj, Option.bind_eq_some_iff] at he
    obtain ⟨ob, hob, he⟩ := he
    split at he
    · rename_i t' ct rows fz u
      cases hz : Nat.beq z ct.length
      · simp [hz] at he
      have hz' := Nat.eq_of_beq_eq_true hz
      simp only [hz, Bool.not_true, cond_false] at he
      have reads : ∀ β φ, Core w0 S st.get st.obj β φ a.tmps w → i < rows.length → ∃ g fp, a.eval x = .pointer (some ⟨g, i * ct.length + off, none⟩) ∧
          RdL w ct (rows.getD i []) (fun j => w.cell? ⟨g, i * ct.length + j, none⟩) fp ∧ ∀ y ∈ fp, ¬ Av st.obj β y := by
        intro β φ hc hi
        have hx := hc.ev h1
        simp only [SVR] at hx
        obtain ⟨g, hg, hv⟩ := hx
        obtain ⟨vals, fps, hown, hin, hav, _⟩ := hc.objs id _ hob
        have hf : i < fps.length := by rw [hin.1]; exact hi
        have := hin.2 i (rows.getD i []) fps[i] (getD_of_lt hi) (by simp)
        refine ⟨g, fps[i], by rw [hv, hz'], row_reads.RdL.ofSub (fun j v hj => hown.cell hg hj) this, fun y hy => hav y ?_⟩
        exact List.mem_flatten.2 ⟨_, List.getElem_mem _, hy⟩
      cases ha : isAggB P t
      · simp only [ha, cond_false] at he
        split at he
        · rename_i c hcc
          simp only [M.val_pure, Option.some.injEq] at he
          subst he
          have hi : i < rows.length := by simpa using hok
          refine good_pure hR hd rfl rfl fun β φ hc => ?_
          obtain ⟨g, fp, hv, hr, hav⟩ := reads β φ hc hi
          obtain ⟨v, fp', e1, e2, e3⟩ := RdL.get _ _ _ _ _ _ hr hcc
          exact ⟨v, one _ _ v ha e1 hv, ofDC_ok e2 (fun y hy => hav y (e3 y hy))⟩
        · simp at he
      · simp only [ha, cond_true] at he
        split at he
        · rename_i j hj
          cases hz : Nat.ble (off + j.size) ct.length
          · simp [hz] at he
          · simp only [hz, cond_true, M.val_pure, Option.some.injEq] at he
            subst he
            have hi : i < rows.length := by simpa using hok
            have hle := Nat.le_of_ble_eq_true hz
            refine good_pure hR hd rfl rfl fun β φ hc => ?_
            obtain ⟨g, fp, hv, hr, hav⟩ := reads β φ hc hi
            obtain ⟨vs, l1, l2, l3, l4⟩ := RdL.svs (β := β) hr hav j.size off hle
            refine ⟨_, agg g (i * ct.length + off) vs j ha hj l1 (fun k v hk => ?_) hv, ?_⟩
            · have := l2 k v hk
              rw [← this, Nat.add_assoc]
            · simp only [SVR]
              exact ⟨vs, rfl, l3, l4⟩
        · simp at he
    · simp at he
  · simp at he

end

end Go.Proofs.Ytjknoknkbfhelaa.Vm
