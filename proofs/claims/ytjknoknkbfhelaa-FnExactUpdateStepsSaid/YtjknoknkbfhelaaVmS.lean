/- The value machine: every operation that it takes does in the model what it says. Conditions: the contracts of the context hold. -/
import Derived.Test.YtjknoknkbfhelaaVmRD
namespace Go.Proofs.Ytjknoknkbfhelaa.Vm

theorem toList_one {α : Type} {l : Array α} {x : α} (h : l.toList = [x]) : l = #[x] := by
  cases l; simp at h; subst h; rfl
theorem toList_two {α : Type} {l : Array α} {x y : α} (h : l.toList = [x, y]) : l = #[x, y] := by
  cases l; simp at h; subst h; rfl

theorem op_sound {P : Program} {Γ : Ctx} {w0 : World} {S : Own} {st : St} {o : Oper} {e : Eff} {a : Act} {w : World} (hΓ : CtxHolds P Γ) (hR : Rel w0 S st a w)
    (hv : (evalOp P Γ o).val st.get st.obj = some e) (hok : e.ok = true) (hd : ∀ d, o.dst = some d → DstOk st.n d) (hfr : e.ow ≠ [] → ∀ d, o.dst = some d → FreshAt st d) : Good P w0 S st o e a w := by
  unfold evalOp at hv
  split at hv
  · rename_i x ho
    simp only [M.val_bind, Option.bind_eq_some_iff, M.val_pure, Option.some.injEq] at hv
    obtain ⟨s, h1, rfl⟩ := hv
    exact sound_move hR hd (.inl ho) h1 rfl
  · rename_i x ho
    simp only [M.val_bind, Option.bind_eq_some_iff, M.val_pure, Option.some.injEq] at hv
    obtain ⟨s, h1, rfl⟩ := hv
    exact sound_move hR hd (.inr ho) h1 rfl
  · rename_i c x y ho
    simp only [M.val_bind, Option.bind_eq_some_iff] at hv
    obtain ⟨sc, h0, sx, h1, sy, h2, hv⟩ := hv
    exact sound_pick hR hd ho h0 h1 h2 hv
  · rename_i t ho
    split at hv
    · rename_i d hdst
      simp only [M.val_bind, Option.bind_eq_some_iff, M.val_pure, Option.some.injEq] at hv
      obtain ⟨z, hz, rfl⟩ := hv
      exact sound_alloc hR hdst (hd d hdst) (hfr (by simp) d hdst) ho hz rfl
    · simp at hv
  · rename_i t x ho
    split at hv
    · rename_i d hdst
      simp only [M.val_bind, Option.bind_eq_some_iff, M.val_pure, Option.some.injEq] at hv
      obtain ⟨s, hs, cs, hcs, rfl⟩ := hv
      exact sound_box hR hdst (hd d hdst) (hfr (by simp) d hdst) ho hs hcs rfl
    · simp at hv
  · rename_i t parts ho
    split at hv
    · rename_i fs hu
      split at hv
      · rename_i places hp
        simp only [M.val_bind, Option.bind_eq_some_iff, M.val_pure, Option.some.injEq] at hv
        obtain ⟨z, hz, cs, hcs, rfl⟩ := hv
        exact sound_build hR hd ho hu hp hz hcs rfl
      · simp at hv
    · simp at hv
  · rename_i t len parts ho
    split at hv
    · rename_i et d hu hdst
      split at hv
      · rename_i ct hct
        cases hb : sizeB P et ct.length && Nat.blt 0 ct.length && Nat.beq len parts.toList.length && Nat.ble (len * ct.length) 16777216
        · simp only [hb, cond_false, M.val_fail, reduceCtorEq] at hv
        simp only [hb, cond_true, M.val_bind, Option.bind_eq_some_iff] at hv
        obtain ⟨z, hz, q, hq, hv⟩ := hv
        cases hn : metNodup q.2.1
        · simp [hn] at hv
        simp only [hn, cond_true, M.val_pure, Option.some.injEq] at hv
        simp only [Bool.and_eq_true] at hb
        exact sound_buildSlice hR hdst (hd d hdst) (hfr (by rw [← hv]; simp) d hdst) ho hu hb.1.1.1 (Nat.le_of_ble_eq_true hb.1.1.2) (Nat.eq_of_beq_eq_true hb.1.2) (Nat.le_of_ble_eq_true hb.2) hq ⟨z, hz⟩ hn hv.symm
      · simp at hv
    · simp at hv
  · rename_i t x ho
    simp only [M.val_bind, Option.bind_eq_some_iff] at hv
    obtain ⟨s, h1, hv⟩ := hv
    exact sound_load hR hd ho h1 hv hok
  · rename_i t x y ho
    simp only [M.val_bind, Option.bind_eq_some_iff] at hv
    obtain ⟨sx, h1, sy, h2, hv⟩ := hv
    unfold storeM at hv
    simp only [M.val_bind, Option.bind_eq_some_iff] at hv
    obtain ⟨svs, hcs, hv⟩ := hv
    cases hsz : sizeB P t svs.length
    · simp [hsz] at hv
    simp only [hsz, cond_true] at hv
    split at hv
    · rename_i id off
      simp only [M.val_obj, Option.bind_eq_some_iff] at hv
      obtain ⟨ob, hob, hv⟩ := hv
      split at hv
      · rename_i t' cells
        cases hfit : Nat.ble (off + svs.length) cells.length
        · simp [hfit] at hv
        simp only [hfit, cond_true, M.val_pure, Option.some.injEq] at hv
        exact sound_store_box hR hd ho h1 h2 hcs hsz hob (Nat.le_of_ble_eq_true hfit) hv.symm
      · simp at hv
    · rename_i id i z off
      simp only [M.val_obj, Option.bind_eq_some_iff] at hv
      obtain ⟨ob, hob, hv⟩ := hv
      split at hv
      · rename_i t' ct rows fz u
        cases hfit : Nat.beq z ct.length && Nat.ble (off + svs.length) ct.length
        · simp [hfit] at hv
        simp only [hfit, cond_true, M.val_bind, Option.bind_eq_some_iff] at hv
        obtain ⟨r, hr, hv⟩ := hv
        cases hm : metNot id r.2.1 && metNodup r.2.1
        · simp [hm] at hv
        simp only [hm, cond_true, M.val_pure, Option.some.injEq] at hv
        simp only [Bool.and_eq_true] at hfit hm
        have hz := Nat.eq_of_beq_eq_true hfit.1
        subst hz
        have hi : i < rows.length := by rw [← hv] at hok; simpa using hok
        exact sound_store_row hR hd ho h1 h2 hcs hsz hob (Nat.le_of_ble_eq_true hfit.2) hr hm.1 hm.2 hi (by rw [← hv]) (by rw [← hv]) (by rw [← hv])
      · simp at hv
    · simp at hv
  · rename_i x ho
    simp only [M.val_bind, Option.bind_eq_some_iff] at hv
    obtain ⟨s, h1, hv⟩ := hv
    exact sound_nilCheck hR hd ho h1 hv
  · rename_i op t x y t' ho
    simp only [M.val_bind, Option.bind_eq_some_iff] at hv
    obtain ⟨sx, h1, sy, h2, hv⟩ := hv
    exact sound_bin hR hd ho h1 h2 hv hok
  · rename_i op t x ho
    simp only [M.val_bind, Option.bind_eq_some_iff] at hv
    obtain ⟨sx, h1, hv⟩ := hv
    exact sound_un hR hd ho h1 hv
  · rename_i s t x ho
    simp only [M.val_bind, Option.bind_eq_some_iff] at hv
    obtain ⟨sx, h1, hv⟩ := hv
    exact sound_conv hR hd hfr ho h1 hv
  · rename_i t l c ho
    simp only [M.val_bind, Option.bind_eq_some_iff] at hv
    obtain ⟨sl, h1, sc, h2, hv⟩ := hv
    unfold makeM at hv
    split at hv
    · rename_i et n m d hu hdst
      split at hv
      · rename_i ct i hct hi
        cases hb : Nat.beq i.size ct.length && Nat.blt 0 ct.length
        · simp [hb] at hv
        simp only [hb, cond_true, M.val_bind, Option.bind_eq_some_iff, M.val_pure, Option.some.injEq] at hv
        obtain ⟨z, hz, r, hr, hv⟩ := hv
        simp only [Bool.and_eq_true] at hb
        exact sound_make hR hdst (hd d hdst) (hfr (by rw [← hv]; simp) d hdst) ho h1 h2 hu hi (Nat.eq_of_beq_eq_true hb.1) hz hr hv.symm hok
      · simp at hv
    · simp at hv
  · rename_i t x lo hi mx ho
    split at hv
    · simp only [M.val_bind, Option.bind_eq_some_iff] at hv
      obtain ⟨sx, h1, sl, h2, sh, h3, hv⟩ := hv
      exact sound_slice hR hd ho h1 h2 h3 hv hok
    · simp at hv
  · rename_i t x f ho
    split at hv
    · rename_i fs hu
      split at hv
      · rename_i fd hf
        cases hz : sizeB P fd.type 0
        · simp only [hz, cond_false] at hv
          split at hv
          · simp at hv
          · rename_i i hi
            simp only [M.val_bind, Option.bind_eq_some_iff] at hv
            obtain ⟨s, h1, hv⟩ := hv
            exact sound_fieldAddr hR hd ho hu hf hz hi h1 hv
        · simp [hz] at hv
      · simp at hv
    · simp at hv
  · rename_i t x i ho
    simp only [M.val_bind, Option.bind_eq_some_iff] at hv
    obtain ⟨sx, h1, si, h2, hv⟩ := hv
    exact sound_indexAddr hR hd ho h1 h2 hv hok
  · rename_i t x i ho
    simp only [M.val_bind, Option.bind_eq_some_iff] at hv
    obtain ⟨sx, h1, si, h2, hv⟩ := hv
    exact sound_index hR hd ho h1 h2 hv hok
  · rename_i x i ho
    simp only [M.val_bind, Option.bind_eq_some_iff] at hv
    obtain ⟨sx, h1, hv⟩ := hv
    split at hv
    · rename_i vs
      split at hv
      · rename_i v hvi
        simp only [M.val_pure, Option.some.injEq] at hv
        exact sound_extract hR hd ho h1 hvi hv.symm
      · simp at hv
    · simp at hv
  · rename_i c ho
    split at hv
    · rename_i g hg
      simp only [M.val_bind, Option.bind_eq_some_iff] at hv
      obtain ⟨l, hl, hv⟩ := hv
      cases hlk : lkS Γ g with
      | none =>
        unfold callM at hv
        rw [hlk] at hv
        simp at hv
      | some s =>
        cases hm : s.ms with
        | nil =>
          cases hdst : o.dst with
          | none =>
            unfold callM at hv
            rw [hlk, hdst] at hv
            simp only [hm] at hv
            simp at hv
          | some d =>
            rw [hdst] at hv
            exact sound_call hΓ hlk hm hR hdst (hd d hdst) (fun h => hfr h d hdst) ho hg hl hv hok
        | cons m ms =>
          have hv' : (callMM s o.dst l).val st.get st.obj = some e := by
            unfold callM at hv
            rw [hlk] at hv
            simp only [hm] at hv
            exact hv
          exact sound_callM hΓ hlk (by rw [hm]; simp) hR hd (fun d hdst h => hfr h d hdst) ho hg hl hv' hok
    · rename_i hb
      split at hv
      · rename_i x t hx ht
        simp only [M.val_bind, Option.bind_eq_some_iff] at hv
        obtain ⟨s, h1, hv⟩ := hv
        exact sound_len hR hd ho hb (toList_one hx) (toList_one ht) h1 hv
      · simp at hv
    · rename_i hb
      split at hv
      · rename_i x y hx
        simp only [M.val_bind, Option.bind_eq_some_iff] at hv
        obtain ⟨s, h1, s2, h2, hv⟩ := hv
        exact sound_minmax (mx := false) hR hd ho hb (toList_two hx) h1 h2 hv
      · simp at hv
    · rename_i hb
      split at hv
      · rename_i x y hx
        simp only [M.val_bind, Option.bind_eq_some_iff] at hv
        obtain ⟨s, h1, s2, h2, hv⟩ := hv
        exact sound_minmax (mx := true) hR hd ho hb (toList_two hx) h1 h2 hv
      · simp at hv
    · rename_i hb
      split at hv
      · rename_i s x t t' hx ht
        cases htt : Nat.beq t t'
        · simp [htt] at hv
        simp only [htt, cond_true] at hv
        have htt' := Nat.eq_of_beq_eq_true htt
        subst htt'
        simp only [M.val_bind, Option.bind_eq_some_iff] at hv
        obtain ⟨ss, h1, sx, h2, hv⟩ := hv
        unfold appendM at hv
        split at hv
        · rename_i et d hu hdst
          split at hv
          · rename_i ct hct
            cases hz1 : sizeB P et ct.length && Nat.blt 0 ct.length
            · simp [hz1] at hv
            simp only [hz1, cond_true, M.val_bind, Option.bind_eq_some_iff] at hv
            obtain ⟨z, hz, hv⟩ := hv
            cases hzl : Nat.beq z.length ct.length
            · simp [hzl] at hv
            simp only [hzl, cond_true] at hv
            have hzl' := Nat.eq_of_beq_eq_true hzl
            simp only [Bool.and_eq_true] at hz1
            have hpos : 0 < ct.length := Nat.le_of_ble_eq_true hz1.2
            split at hv
            · simp only [M.val_bind, Option.bind_eq_some_iff, M.val_pure, Option.some.injEq] at hv
              obtain ⟨q, hq, hv⟩ := hv
              have hroom : roomB P et q.1.length = true := by rw [← hv] at hok; exact hok
              exact sound_append_nil hR hdst (hd d hdst) (hfr (by rw [← hv]; simp) d hdst) ho hb (toList_two hx) (toList_two ht) h1 h2 hu hz1.1 hpos hz hzl' hq hroom (by rw [← hv]) (by rw [← hv]) (by rw [← hv])
            · rename_i id
              simp only [M.val_obj, Option.bind_eq_some_iff] at hv
              obtain ⟨ob, hob, hv⟩ := hv
              split at hv
              · rename_i t' e' r u
                cases he : Nat.beq t' et && ctsBeq e' ct
                · simp [he] at hv
                simp only [he, cond_true, M.val_bind, Option.bind_eq_some_iff] at hv
                obtain ⟨q, hq, hv⟩ := hv
                cases hn : metNot id q.2.1
                · simp [hn] at hv
                simp only [hn, cond_true, M.val_pure, Option.some.injEq] at hv
                simp only [Bool.and_eq_true] at he
                have e1 := Nat.eq_of_beq_eq_true he.1
                have e2 := ctsBeq_eq _ _ he.2
                subst e1 e2
                have hroom : roomB P t' (r.length + q.1.length) = true := by rw [← hv] at hok; exact hok
                exact sound_append_own hR hdst (hd d hdst) (hfr (by rw [← hv]; simp) d hdst) ho hb (toList_two hx) (toList_two ht) h1 h2 hob hu hz1.1 hpos hz hzl' hq hn hroom (by rw [← hv]) (by rw [← hv]) (by rw [← hv])
              · simp at hv
            · simp at hv
          · simp at hv
        · simp at hv
      · simp at hv
    · simp at hv
  · simp at hv

end Go.Proofs.Ytjknoknkbfhelaa.Vm
