/- The value machine: reading operations, conversions, slices of strings and of rows that are only read. Conditions: as each lemma says. -/
import Derived.Test.YtjknoknkbfhelaaVmF
namespace Go.Proofs.Ytjknoknkbfhelaa.Vm

theorem cell_box {w : World} {b o : Nat} {vs : List Value} {t : TypeId} {fz : Nat × Nat} (h : w.heap[b]? = some (.cells vs.toArray t fz)) : w.cell? ⟨b, o, none⟩ = vs[o]? := by
  simp [World.cell?, h]

theorem cell_row {w : World} {b o : Nat} {cur : Array Value} {t : TypeId} {fz : Nat × Nat} (h : w.heap[b]? = some (.cells cur t fz)) : w.cell? ⟨b, o, none⟩ = cur[o]? := by
  simp [World.cell?, h]

theorem OwnR.cell {w : World} {t size : Nat} {fz : Bool} {v : Value} {n : Nat} {vals : List Value} (h : OwnR w t size fz v n vals) {g j : Nat} {u : Value} (hg : v.ownBlock = some g)
    (hj : vals[j]? = some u) : w.cell? ⟨g, j, none⟩ = some u := by
  rcases h.2 with ⟨rfl, _⟩ | ⟨g', cap, cur, rfl, hh, _, _, _, htake⟩
  · simp [Value.ownBlock] at hg
  · simp [Value.ownBlock] at hg
    subst hg
    rw [cell_row hh]
    rw [← htake, List.getElem?_take] at hj
    split at hj
    · simpa using hj
    · cases hj

theorem OwnR.block {w : World} {t size : Nat} {fz : Bool} {v : Value} {n : Nat} {vals : List Value} (h : OwnR w t size fz v n vals) (hn : 0 < n) : ∃ g, v.ownBlock = some g := by
  rcases h.2 with ⟨rfl, h0, _⟩ | ⟨g', cap, cur, rfl, _⟩
  · omega
  · exact ⟨g', rfl⟩

/-- The reading of a slice: what a value of it looks like. -/
theorem sl_form {w : World} {e : List CT} {r : List (List DC)} {v : Value} {fp : List Nat} (h : RdC w (.sl e) (.sl r) v fp) :
    ∃ a n c, v = .slice a n c ∧ r.length = n ∧ n ≤ c ∧ c ≤ maxLen ∧
      ((n = 0 ∧ fp = []) ∨ (0 < n ∧ ∃ (b o : Nat) (fps : List (List Nat)), a = some ⟨b, o, none⟩ ∧ b < w.heap.size ∧ fps.length = n ∧ fp = b :: fps.flatten ∧
        ∀ i r' f, r[i]? = some r' → fps[i]? = some f → RdL w e r' (fun j => w.cell? ⟨b, o + (i * e.length + j), none⟩) f)) := by
  simp only [RdC] at h
  obtain ⟨rows, a, n, c, hd, hv, hn, hc, hm, h⟩ := h
  injection hd with hd
  subst hd
  exact ⟨a, n, c, hv, hn, hc, hm, h⟩

theorem sl_mk {w : World} {e : List CT} {r : List (List DC)} {fp : List Nat} {a : Option Addr} {n c : Nat} (hn : r.length = n) (hc : n ≤ c) (hm : c ≤ maxLen)
    (h : (n = 0 ∧ fp = []) ∨ (0 < n ∧ ∃ (b o : Nat) (fps : List (List Nat)), a = some ⟨b, o, none⟩ ∧ b < w.heap.size ∧ fps.length = n ∧ fp = b :: fps.flatten ∧
        ∀ i r' f, r[i]? = some r' → fps[i]? = some f → RdL w e r' (fun j => w.cell? ⟨b, o + (i * e.length + j), none⟩) f)) : RdC w (.sl e) (.sl r) (.slice a n c) fp := by
  unfold RdC
  exact ⟨r, a, n, c, rfl, rfl, hn, hc, hm, h⟩

/-- A row of the call's own reads as its data. -/
theorem row_reads {w : World} {av : Nat → Prop} {β : Env} {id t : Nat} {e : List CT} {rows : List (List DC)} {fz u : Bool} {φ : List Nat} (h : ObjR w av β id (.row t e rows fz u) φ) :
    ∃ fp, RdC w (.sl e) (.sl rows) (β.val id) fp ∧ (∀ b ∈ fp, b ∈ (β.val id).ownBlock.toList ∨ ¬ av b) ∧ (u = true → (∀ b ∈ fp, b ∈ φ) ∧ (φ.Nodup → fp.Nodup)) := by
  obtain ⟨vals, fps, h1, h2, h3, hφ⟩ := h
  rcases Nat.eq_zero_or_pos rows.length with h0 | h0
  · refine ⟨[], ?_, by simp, by simp⟩
    rcases h1.2 with ⟨hv, _⟩ | ⟨g, cap, cur, hv, _, hc, hm, _⟩
    · rw [hv]
      exact sl_mk h0 (Nat.le_refl _) (Nat.zero_le _) (.inl ⟨rfl, rfl⟩)
    · rw [hv]
      exact sl_mk rfl hc hm (.inl ⟨h0, rfl⟩)
  · obtain ⟨g, hg⟩ := h1.block h0
    have hlt := h1.lt g (by simp [hg])
    have hv : ∃ cap, β.val id = .slice (some ⟨g, 0, none⟩) rows.length cap ∧ rows.length ≤ cap ∧ cap ≤ maxLen := by
      rcases h1.2 with ⟨hv, h0', _⟩ | ⟨g', cap, cur, hv, _, hc, hm, _⟩
      · omega
      · have : g' = g := by simpa [hv, Value.ownBlock] using hg
        subst this
        exact ⟨cap, hv, hc, hm⟩
    obtain ⟨cap, hv, hc, hm⟩ := hv
    refine ⟨g :: fps.flatten, ?_, ?_, ?_⟩
    · rw [hv]
      refine sl_mk rfl hc hm (.inr ⟨h0, g, 0, fps, rfl, hlt, h2.1, rfl, fun i r f hi hf => ?_⟩)
      have hr := h2.2 i r f hi hf
      refine RdL.ofSub ?_ hr
      intro j u hj
      have := h1.cell hg hj
      simpa using this
    · intro b hb
      rcases List.mem_cons.1 hb with rfl | hb
      · exact .inl (by simp [hg])
      · exact .inr (h3 b hb)
    · intro hu
      subst hu
      have : φ = g :: fps.flatten := by rw [hφ, hg]; rfl
      rw [this]
      exact ⟨fun b hb => hb, fun hn => hn⟩
where
  RdL.ofSub {w : World} {cs : List CT} {r : List DC} {f f' : Nat → Option Value} {fp : List Nat} (hf : ∀ j u, f j = some u → f' j = some u) (h : RdL w cs r f fp) : RdL w cs r f' fp := by
    induction cs generalizing r f f' fp with
    | nil => simpa only [RdL] using h
    | cons c cs ih =>
      simp only [RdL] at h ⊢
      obtain ⟨d, r', v, f1, f2, hr, h0, h1, h2, hfp⟩ := h
      exact ⟨d, r', v, f1, f2, hr, hf 0 v h0, h1, ih (fun j u hj => hf (j + 1) u hj) h2, hfp⟩
  RdL.ofSub' {w : World} {cs : List CT} {r : List DC} {f f' : Nat → Option Value} {fp : List Nat} (hf : ∀ j u, j < cs.length → f j = some u → f' j = some u) (h : RdL w cs r f fp) : RdL w cs r f' fp := by
    induction cs generalizing r f f' fp with
    | nil => simpa only [RdL] using h
    | cons c cs ih =>
      simp only [RdL] at h ⊢
      obtain ⟨d, r', v, f1, f2, hr, h0, h1, h2, hfp⟩ := h
      exact ⟨d, r', v, f1, f2, hr, hf 0 v (by simp) h0, h1, ih (fun j u hj hju => hf (j + 1) u (by simp; omega) hju) h2, hfp⟩

section
variable {P : Program} {Γ : Ctx} {w0 : World} {S : Own} {st : St} {o : Oper} {e : Eff} {a : Act} {w : World}

/-- The rows of a slice value, read. -/
theorem rowsM_reads {f : Nat → SV} {h : Nat → Option VObj} {β : Env} {φ : Nat → List Nat} {tm : Array Value} (hc : Core w0 S f h β φ tm w) {ct : List CT} {s : SV} {v : Value} {q : List (List DC) × Met × Bool}
    (hs : SVR w (Av h β) β s v) (hq : (rowsM ct s).val f h = some q) :
    ∃ fp, RdC w (.sl ct) (.sl q.1) v fp ∧
      ((q.2.1 = [] ∧ (∀ b ∈ fp, ¬ Av h β b) ∧ (q.2.2 = true → q.1 = [])) ∨ ∃ id t rows fz u, s = .own id ∧ h id = some (.row t ct rows fz u) ∧ q.1 = rows ∧ q.2.1 = [(id, ct, rows, u)] ∧ q.2.2 = u ∧ v = β.val id) := by
  unfold rowsM at hq
  split at hq
  · simp only [M.val_pure, Option.some.injEq] at hq
    subst hq
    simp only [SVR] at hs
    subst hs
    exact ⟨[], sl_mk rfl (Nat.le_refl _) (Nat.zero_le _) (.inl ⟨rfl, rfl⟩), .inl ⟨rfl, by simp, fun _ => rfl⟩⟩
  · rename_i e' r
    cases hb : ctsBeq ct e'
    · simp [hb] at hq
    · simp only [hb, cond_true, M.val_pure, Option.some.injEq] at hq
      have := ctsBeq_eq _ _ hb
      subst this hq
      simp only [SVR] at hs
      obtain ⟨fp, h1, h2⟩ := hs
      exact ⟨fp, h1, .inl ⟨rfl, h2, fun h => by cases h⟩⟩
  · rename_i id
    simp only [SVR] at hs
    obtain ⟨hs, _⟩ := hs
    subst hs
    simp only [M.val_obj, Option.bind_eq_some_iff] at hq
    obtain ⟨ob, hob, hq⟩ := hq
    split at hq
    · rename_i t' e' r fz u
      cases hb : ctsBeq ct e'
      · simp [hb] at hq
      · simp only [hb, cond_true, M.val_pure, Option.some.injEq] at hq
        have := ctsBeq_eq _ _ hb
        subst this hq
        obtain ⟨fp, h1, _, _⟩ := row_reads (hc.objs id _ hob)
        exact ⟨fp, h1, .inr ⟨id, t', r, fz, u, rfl, hob, rfl, rfl, rfl, rfl⟩⟩
    · rename_i e' r
      cases hb : ctsBeq ct e'
      · simp [hb] at hq
      · simp only [hb, cond_true, M.val_pure, Option.some.injEq] at hq
        have := ctsBeq_eq _ _ hb
        subst this hq
        obtain ⟨h1, _⟩ := hc.objs id _ hob
        simp only [SVR] at h1
        obtain ⟨fp, h1, h2⟩ := h1
        exact ⟨fp, h1, .inl ⟨rfl, h2, fun h => by cases h⟩⟩
    · simp at hq
  · simp at hq

theorem sound_index (hR : Rel w0 S st a w) (hd : ∀ d, o.dst = some d → DstOk st.n d) {t : TypeId} {x i : Operand} (ho : o.op = .index t x i) {sx si : SV}
    (h1 : (evM x).val st.get st.obj = some sx) (h2 : (evM i).val st.get st.obj = some si) (he : (indexM P t sx si).val st.get st.obj = some e) (hok : e.ok = true) : Good P w0 S st o e a w := by
  unfold indexM at he
  split at he
  · rename_i s k n hu
    simp only [M.val_pure, Option.some.injEq] at he
    subst he
    simp only [Bool.and_eq_true, decide_eq_true_eq] at hok
    obtain ⟨hn0, hn1⟩ := hok
    refine good_pure hR hd rfl rfl fun β φ hc => ?_
    have hx := hc.ev h1
    have hy := hc.ev h2
    simp only [SVR] at hx hy
    have hlt : n.toNat < s.length := by omega
    refine ⟨.int .u8 (s.getD n.toNat 0).toNat, ?_, ?_⟩
    · have hget : (⟨s.toArray⟩ : ByteArray)[n.toNat]? = some (s.getD n.toNat 0) := by
        rw [ByteArray.getElem?_lt' _ _ (by rw [str_size]; exact hlt)]
        simp [ByteArray.getElem_eq_getElem_data, List.getD, hlt]
      simp [execOp, ho, hx.1, hy.1, Instr.index, asIntOf, run_underlying hu, hn0, hget]
    · unfold SVR
      refine ⟨rfl, ?_⟩
      have := (s.getD n.toNat 0).toNat_lt
      rw [inR_iff]
      have h1 : IntKind.u8.min = 0 := by decide
      have h2 : IntKind.u8.max = 255 := by decide
      omega
  · simp at he

theorem sound_minmax (hR : Rel w0 S st a w) (hd : ∀ d, o.dst = some d → DstOk st.n d) {mx : Bool} {c : Call} {x y : Operand} (ho : o.op = .call c) (hb : c.callee = .builtin (bif mx then .max else .min))
    (hx : c.args = #[x, y]) {sx sy : SV} (h1 : (evM x).val st.get st.obj = some sx) (h2 : (evM y).val st.get st.obj = some sy) (he : (minM mx sx sy).val st.get st.obj = some e) : Good P w0 S st o e a w := by
  unfold minM at he
  split at he
  · rename_i k n k' m
    by_cases hk : k = k'
    · subst hk
      simp only [decide_true, cond_true, M.val_pure, Option.some.injEq] at he
      subst he
      refine good_pure hR hd rfl rfl fun β φ hc => ?_
      have h1 := hc.ev h1
      have h2 := hc.ev h2
      simp only [SVR] at h1 h2
      refine ⟨.int k (bif mx then (if n < m then m else n) else (if m < n then m else n)), ?_, ?_⟩
      · cases mx
        · simp [execOp, ho, resolve, hb, hx, invoke, builtin, h1.1, h2.1, Builtin.min_, Builtin.min2]
        · simp [execOp, ho, resolve, hb, hx, invoke, builtin, h1.1, h2.1, Builtin.max_, Builtin.max2]
      · cases mx
        · unfold SVR
          refine ⟨rfl, ?_⟩
          simp only [cond_false]
          split
          · exact h2.2
          · exact h1.2
        · unfold SVR
          refine ⟨rfl, ?_⟩
          simp only [cond_true]
          split
          · exact h2.2
          · exact h1.2
    · simp [hk] at he
  · simp at he

theorem inR_len {n : Nat} (h : n ≤ maxLen) : inR .i64 (n : Int) = true := by
  rw [inR_iff]
  have h1 : IntKind.i64.min = -9223372036854775808 := by decide
  have h2 : IntKind.i64.max = 9223372036854775807 := by decide
  simp only [maxLen] at h
  omega

theorem sound_len (hR : Rel w0 S st a w) (hd : ∀ d, o.dst = some d → DstOk st.n d) {c : Call} {x : Operand} {t : TypeId} (ho : o.op = .call c) (hb : c.callee = .builtin .len)
    (hx : c.args = #[x]) (ht : c.argTypes = #[t]) {sx : SV} (h1 : (evM x).val st.get st.obj = some sx) (he : (lenM P t sx).val st.get st.obj = some e) : Good P w0 S st o e a w := by
  have slices : ∀ (et : TypeId) (n : Nat), P.underlying t = some (.slice et) → n ≤ maxLen → e = { sv := .int .i64 n } →
      (∀ β φ, Core w0 S st.get st.obj β φ a.tmps w → ∃ q c, a.eval x = .slice q n c) → Good P w0 S st o e a w := by
    intro et n hu hn he hv
    subst he
    refine good_pure hR hd rfl rfl fun β φ hc => ?_
    obtain ⟨q, c', hv⟩ := hv β φ hc
    refine ⟨.int .i64 n, ?_, by unfold SVR; exact ⟨rfl, inR_len hn⟩⟩
    simp [execOp, ho, resolve, hb, hx, ht, invoke, builtin, hv, Builtin.len_, run_underlying hu, goInt]
  unfold lenM at he
  split at he
  · rename_i s hu
    simp only [M.val_pure, Option.some.injEq] at he
    subst he
    refine good_pure hR hd rfl rfl fun β φ hc => ?_
    have h1 := hc.ev h1
    simp only [SVR] at h1
    refine ⟨.int .i64 s.length, ?_, by unfold SVR; exact ⟨rfl, inR_len h1.2⟩⟩
    simp [execOp, ho, resolve, hb, hx, ht, invoke, builtin, h1.1, Builtin.len_, run_underlying hu, goInt, str_size]
  · rename_i et hu
    simp only [M.val_pure, Option.some.injEq] at he
    refine slices et 0 hu (Nat.zero_le _) he.symm fun β φ hc => ?_
    have h1 := hc.ev h1
    simp only [SVR] at h1
    exact ⟨none, 0, h1⟩
  · rename_i et e' r hu
    simp only [M.val_pure, Option.some.injEq] at he
    have key : ∀ β φ, Core w0 S st.get st.obj β φ a.tmps w → ∃ q c, a.eval x = .slice q r.length c ∧ r.length ≤ maxLen := by
      intro β φ hc
      have h1 := hc.ev h1
      simp only [SVR] at h1
      obtain ⟨fp, h1, _⟩ := h1
      obtain ⟨q, n, c', hv, hn, hcc, hm, _⟩ := sl_form h1
      exact ⟨q, c', by rw [hn]; exact hv, by omega⟩
    obtain ⟨β, φ, hc⟩ := hR.core
    obtain ⟨_, _, _, hle⟩ := key β φ hc
    exact slices et r.length hu hle he.symm fun β φ hc => by
      obtain ⟨q, c', hv, _⟩ := key β φ hc
      exact ⟨q, c', hv⟩
  · rename_i et id hu
    simp only [M.val_obj, Option.bind_eq_some_iff] at he
    obtain ⟨ob, hob, he⟩ := he
    split at he
    · rename_i t' e' r fz u
      simp only [M.val_pure, Option.some.injEq] at he
      have key : ∀ β φ, Core w0 S st.get st.obj β φ a.tmps w → ∃ q c, a.eval x = .slice q r.length c ∧ r.length ≤ maxLen := by
        intro β φ hc
        have h1 := hc.ev h1
        simp only [SVR] at h1
        obtain ⟨fp, h2, _, _⟩ := row_reads (hc.objs id _ hob)
        obtain ⟨q, n, c', hv, hn, hcc, hm, _⟩ := sl_form h2
        exact ⟨q, c', by rw [hn, h1.1]; exact hv, by omega⟩
      obtain ⟨β, φ, hc⟩ := hR.core
      obtain ⟨_, _, _, hle⟩ := key β φ hc
      exact slices et r.length hu hle he.symm fun β φ hc => by
        obtain ⟨q, c', hv, _⟩ := key β φ hc
        exact ⟨q, c', hv⟩
    · rename_i e' r
      simp only [M.val_pure, Option.some.injEq] at he
      have key : ∀ β φ, Core w0 S st.get st.obj β φ a.tmps w → ∃ q c, a.eval x = .slice q r.length c ∧ r.length ≤ maxLen := by
        intro β φ hc
        have h1 := hc.ev h1
        simp only [SVR] at h1
        obtain ⟨h2, _⟩ := hc.objs id _ hob
        simp only [SVR] at h2
        obtain ⟨fp, h2, _⟩ := h2
        obtain ⟨q, n, c', hv, hn, hcc, hm, _⟩ := sl_form h2
        exact ⟨q, c', by rw [hn, h1.1]; exact hv, by omega⟩
      obtain ⟨β, φ, hc⟩ := hR.core
      obtain ⟨_, _, _, hle⟩ := key β φ hc
      exact slices et r.length hu hle he.symm fun β φ hc => by
        obtain ⟨q, c', hv, _⟩ := key β φ hc
        exact ⟨q, c', hv⟩
    · simp at he
  · simp at he

end

end Go.Proofs.Ytjknoknkbfhelaa.Vm
