/- The value machine: conversions. Conditions: as each lemma says. -/
import Derived.Test.YtjknoknkbfhelaaVmO
namespace Go.Proofs.Ytjknoknkbfhelaa.Vm

theorem push_all : ∀ (ns : List Int) (l : List UInt8), ns.foldl (fun (r : ByteArray) n => r.push (UInt8.ofNat n.toNat)) ⟨l.toArray⟩ = ⟨(l ++ ns.map (fun n => UInt8.ofNat n.toNat)).toArray⟩
  | [], l => by simp
  | n :: ns, l => by
    simp only [List.foldl_cons, List.map_cons]
    have : (⟨l.toArray⟩ : ByteArray).push (UInt8.ofNat n.toNat) = ⟨(l ++ [UInt8.ofNat n.toNat]).toArray⟩ := by
      apply ByteArray.ext
      simp [ByteArray.push]
    rw [this, push_all ns]
    simp

section
variable {P : Program} {Γ : Ctx} {w0 : World} {S : Own} {st : St} {o : Oper} {e : Eff} {a : Act} {w : World}
variable {f : Nat → SV} {h : Nat → Option VObj} {β : Env} {φ : Nat → List Nat} {tm : Array Value}

theorem run_toString {rows : List (List DC)} {v : Value} {fp : List Nat} (hr : RdC w (.sl [.int .u8]) (.sl rows) v fp) :
    (Conv.bytesToString v).run P w = .ok (.string ⟨(rows.map byteOf).toArray⟩) w := by
  obtain ⟨q, m, c, rfl, hn, _, _, hcase⟩ := sl_form hr
  cases q with
  | none =>
    have hm : m = 0 := by
      rcases hcase with ⟨h0, _⟩ | ⟨_, b, o, fps, h1, _⟩
      · exact h0
      · cases h1
    have : rows = [] := by simpa [hm] using hn
    subst this
    simp [Conv.bytesToString]
    rfl
  | some ad =>
    have hload : (loadCells ad m).run P w = .ok ((rows.map fun r => (r.headD default).asInt).map (Value.int .u8)).toArray w := by
      have := run_loadCells_list (P := P) (w := w) ad ((rows.map fun r => (r.headD default).asInt).map (Value.int .u8)) ?_
      · simpa [hn] using this
      · intro j u hj
        rcases hcase with ⟨h0, _⟩ | ⟨_, b, o, fps, h1, hlt, hfl, _, hrow⟩
        · have : rows = [] := by simpa [h0] using hn
          subst this
          simp at hj
        · injection h1 with h1
          subst h1
          rw [addr_add]
          have hjl : j < rows.length := by
            have := (List.getElem?_eq_some_iff.1 hj).1
            simpa using this
          have hfj : j < fps.length := by omega
          have := hrow j rows[j] fps[j] (by simp) (by simp)
          simp only [RdL, RdC, List.length_singleton, Nat.mul_one, Nat.add_zero] at this
          obtain ⟨d, r', v', f1, f2, e1, e2, ⟨n, rfl, rfl, _, _⟩, ⟨rfl, _⟩, _⟩ := this
          rw [e2]
          simp only [List.map_map, List.getElem?_map, List.getElem?_eq_getElem hjl, e1, Option.map_some, Option.some.injEq] at hj
          simpa [DC.asInt] using hj
    rw [run_bytesToString w ad m c _ hload]
    have := push_all (rows.map fun r => (r.headD default).asInt) []
    have e0 : ByteArray.empty = ⟨([] : List UInt8).toArray⟩ := rfl
    rw [e0, this]
    simp [byteOf, Function.comp_def]

theorem sound_conv (hR : Rel w0 S st a w) (hd : ∀ d, o.dst = some d → DstOk st.n d) (hfr : e.ow ≠ [] → ∀ d, o.dst = some d → FreshAt st d) {s t : TypeId} {x : Operand} (ho : o.op = .convert s t x) {sx : SV}
    (h1 : (evM x).val st.get st.obj = some sx) (he : (convM P o.dst s t sx).val st.get st.obj = some e) : Good P w0 S st o e a w := by
  unfold convM at he
  split at he
  · rename_i k src hk hs
    split at he
    · rename_i k' n
      simp only [M.val_pure, Option.some.injEq] at he
      subst he
      refine good_pure hR hd rfl rfl fun β φ hc => ?_
      have hx := hc.ev h1
      simp only [SVR] at hx
      refine ⟨.int k (k.wrap n), ?_, by unfold SVR; exact ⟨rfl, inR_wrap _ _⟩⟩
      simp [execOp, ho, hx.1, convert, run_underlying hk, run_underlying hs, Conv.intToInt]
    · simp at he
  · rename_i hk hs
    split at he
    · rename_i l
      simp only [M.val_pure, Option.some.injEq] at he
      subst he
      refine good_pure hR hd rfl rfl fun β φ hc => ?_
      have hx := hc.ev h1
      simp only [SVR] at hx
      refine ⟨.string ⟨l.toArray⟩, ?_, by unfold SVR; exact ⟨rfl, hx.2⟩⟩
      simp [execOp, ho, hx.1, convert, run_underlying hk, run_underlying hs]
    · simp at he
  · rename_i et hk hs
    split at he
    · rename_i het
      simp only [M.val_bind, Option.bind_eq_some_iff, M.val_pure, Option.some.injEq] at he
      obtain ⟨q, hq, rfl⟩ := he
      refine good_pure hR hd rfl rfl fun β φ hc => ?_
      obtain ⟨fp, hrd, _⟩ := rowsM_ok hc (hc.ev h1) hq
      have hrun := run_toString (P := P) hrd
      obtain ⟨qa, m, c, hv, hn, hcc, hm, _⟩ := sl_form hrd
      refine ⟨.string ⟨(q.1.map byteOf).toArray⟩, ?_, by unfold SVR; exact ⟨rfl, by simp; omega⟩⟩
      rw [hv] at hrun
      have := run_convert_bytes_string (P := P) w s t et qa m c hs het hk
      simp [execOp, ho, hv, this, hrun]
    · simp at he
  · rename_i et hk hs
    split at he
    · rename_i l d het hdst
      cases hz : sizeB P et 1
      · simp [hz] at he
      simp only [hz, cond_true, M.val_pure, Option.some.injEq] at he
      subst he
      obtain ⟨β0, φ0, hc0⟩ := hR.core
      have hx := hc0.ev h1
      simp only [SVR] at hx
      have hlen : l.length ≤ 9223372036854775807 := by have := hx.2; simp only [maxLen] at this; omega
      generalize hcap : Question.cut (.appendCap l.length 0 et) (w.tape w.drawn (.appendCap l.length 0 et)) = cap
      have hcap1 : l.length ≤ cap := by rw [← hcap]; simp [Question.cut]
      have hcap2 : cap ≤ maxLen := by
        rw [← hcap]
        simp only [Question.cut, maxLen]
        have := Nat.mod_lt (w.tape w.drawn (.appendCap l.length 0 et)) (show 0 < 2 ^ 63 - l.length by omega)
        omega
      let cells : Array Value := (l.map fun b => Value.int .u8 b.toNat).toArray ++ Array.replicate (cap - l.length) (.int .u8 0)
      have hcs : cells.size = cap := by simp [cells]; omega
      have hw' : ∀ b, b < w.heap.size → (World.freeze (w.drew.alloc (.cells cells et)) ⟨w.heap.size, cap, none⟩ 1).heap[b]? = w.heap[b]? := by
        intro b hb
        simp only [World.freeze, Nat.one_ne_zero, if_false, Array.getElem?_modify]
        rw [if_neg (by omega)]
        exact alloc_old (w := w.drew) _ b hb
      have hnew : (World.freeze (w.drew.alloc (.cells cells et)) ⟨w.heap.size, cap, none⟩ 1).heap[w.heap.size]? = some (.cells cells et (cells.size, cells.size + 1)) := by
        simp only [World.freeze, Nat.one_ne_zero, if_false, Array.getElem?_modify, if_true]
        have := alloc_new (w := w.drew) (.cells cells et)
        have e1 : w.drew.heap.size = w.heap.size := rfl
        rw [e1] at this
        rw [this]
        simp [hcs]
      have hs' : (World.freeze (w.drew.alloc (.cells cells et)) ⟨w.heap.size, cap, none⟩ 1).heap.size = w.heap.size + 1 := by simp [World.freeze]
      refine sound_newrow hR hdst (hd d hdst) (hfr (by simp) d hdst) (m := []) (fz := true) (u := true) (vals := l.map fun b => Value.int .u8 b.toNat) (v := .slice (some ⟨w.heap.size, 0, none⟩) l.length cap)
        (w' := World.freeze (w.drew.alloc (.cells cells et)) ⟨w.heap.size, cap, none⟩ 1) ?_ ?_ (by rw [hs']; omega) hw' (by simp [Value.ownBlock]) (by simp [MetOk]) rfl ?_ ?_ rfl rfl rfl
      · have hsh : (w.drew.alloc (.cells cells et)).shape? w.heap.size = some (et, cap) := by
          have := alloc_new (w := w.drew) (.cells cells et)
          have e1 : w.drew.heap.size = w.heap.size := rfl
          rw [e1] at this
          unfold World.shape?
          rw [this]
          simp [hcs]
        simp only [execOp, ho, hx.1, convert, Sem.run_bind, run_underlying hk, run_underlying hs, run_underlying het, Result.andThen_ok, Conv.stringToBytes, run_choose]
        simp only [Question.forced, Bool.false_eq_true, if_false, Result.andThen_ok, str_size, hcap, newRow, Sem.run_bind, run_newObj, World.drew_eq, World.alloc_eq]
        have hcc : (Array.map (fun b : UInt8 => Value.int IntKind.u8 ↑b.toNat) l.toArray ++ Array.replicate (cap - l.length) (Value.int IntKind.u8 0)) = cells := by simp [cells]
        rw [hcc]
        simp [markStringish, hsh]
      · refine ⟨hR.kept.os, hR.kept.tape, hR.kept.output, by rw [hs']; have := hR.kept.size; omega, fun k h2 h3 => ?_⟩
        rw [hw' k (by have := hR.kept.size; omega)]
        exact hR.kept.block k h2 h3
      · refine ⟨by simp, .inr ⟨w.heap.size, cap, cells, by simp, by simpa using hnew, by simpa using hcap1, hcap2, by simp [hcs], ?_⟩⟩
        simp [cells]
      · intro β φ hc
        refine ⟨List.replicate l.length [], ⟨by simp, fun i r' f' hi hf => ?_⟩, by simp, by simp⟩
        have hil : i < l.length := by
          have := (List.getElem?_eq_some_iff.1 hi).1
          simpa using this
        have hr' : r' = ofByte l[i] := by simpa [hil] using hi.symm
        have hf' : f' = [] := by
          have := hf
          rw [List.getElem?_replicate, if_pos hil] at this
          injection this with this
          exact this.symm
        subst hr' hf'
        unfold ofByte
        simp only [RdL, RdC]
        refine ⟨.int l[i].toNat, [], .int .u8 l[i].toNat, [], [], rfl, ?_, ⟨_, rfl, rfl, ?_, rfl⟩, ⟨rfl, rfl⟩, rfl⟩
        · simp [hil]
        · rw [inR_iff]
          have h1 : IntKind.u8.min = 0 := by decide
          have h2 : IntKind.u8.max = 255 := by decide
          have := l[i].toNat_lt
          omega
    · simp at he
  · simp at he

end

end Go.Proofs.Ytjknoknkbfhelaa.Vm
