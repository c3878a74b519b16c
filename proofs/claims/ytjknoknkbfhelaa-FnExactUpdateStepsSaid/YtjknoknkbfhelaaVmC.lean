/- The value machine: how its states stand to the model's frames and worlds; small lemmas. Conditions: as each lemma says. -/
import Derived.Test.YtjknoknkbfhelaaVmB
namespace Go.Proofs.Ytjknoknkbfhelaa.Vm

mutual
def RdC (w : World) : CT → DC → Value → List Nat → Prop
  | .int k, d, v, fp => ∃ n, d = .int n ∧ v = .int k n ∧ inR k n = true ∧ fp = []
  | .bool, d, v, fp => ∃ b, d = .bool b ∧ v = .bool b ∧ fp = []
  | .str, d, v, fp => ∃ s : List UInt8, d = .str s ∧ v = .string ⟨s.toArray⟩ ∧ s.length ≤ maxLen ∧ fp = []
  | .sl e, d, v, fp => ∃ rows a n c, d = .sl rows ∧ v = .slice a n c ∧ rows.length = n ∧ n ≤ c ∧ c ≤ maxLen ∧
      ((n = 0 ∧ fp = []) ∨ (0 < n ∧ ∃ (b o : Nat) (fps : List (List Nat)), a = some ⟨b, o, none⟩ ∧ b < w.heap.size ∧ fps.length = n ∧ fp = b :: fps.flatten ∧
        ∀ i r f, rows[i]? = some r → fps[i]? = some f → RdL w e r (fun j => w.cell? ⟨b, o + (i * e.length + j), none⟩) f))
def RdL (w : World) : List CT → List DC → (Nat → Option Value) → List Nat → Prop
  | [], r, _, fp => r = [] ∧ fp = []
  | c :: cs, r, f, fp => ∃ d r' v f1 f2, r = d :: r' ∧ f 0 = some v ∧ RdC w c d v f1 ∧ RdL w cs r' (fun j => f (j + 1)) f2 ∧ fp = f1 ++ f2
end

theorem cell_eq {w w' : World} {b o : Nat} (h : w'.heap[b]? = w.heap[b]?) : w'.cell? ⟨b, o, none⟩ = w.cell? ⟨b, o, none⟩ := by
  simp [World.cell?, h]

mutual
theorem RdC.lt {w : World} : ∀ (c : CT) (d : DC) (v : Value) (fp : List Nat), RdC w c d v fp → ∀ b ∈ fp, b < w.heap.size
  | .int _, _, _, _, h => by
    obtain ⟨_, _, _, _, rfl⟩ := (by simpa only [RdC] using h)
    simp
  | .bool, _, _, _, h => by
    obtain ⟨_, _, _, rfl⟩ := (by simpa only [RdC] using h)
    simp
  | .str, _, _, _, h => by
    obtain ⟨_, _, _, _, rfl⟩ := (by simpa only [RdC] using h)
    simp
  | .sl e, _, _, _, h => by
    simp only [RdC] at h
    obtain ⟨rows, a, n, c, _, _, hn, _, _, ⟨_, rfl⟩ | ⟨_, b, o, fps, _, hb, hl, rfl, hr⟩⟩ := h
    · simp
    · intro x hx
      simp only [List.mem_cons, List.mem_flatten] at hx
      rcases hx with rfl | ⟨f, hf, hx⟩
      · exact hb
      · obtain ⟨i, hi, rfl⟩ := List.getElem_of_mem hf
        have hi' : i < rows.length := by omega
        exact RdL.lt e _ _ _ (hr i rows[i] fps[i] (by simp) (by simp)) x hx
theorem RdL.lt {w : World} : ∀ (cs : List CT) (r : List DC) (f : Nat → Option Value) (fp : List Nat), RdL w cs r f fp → ∀ b ∈ fp, b < w.heap.size
  | [], _, _, _, h => by
    simp only [RdL] at h
    simp [h.2]
  | c :: cs, _, _, _, h => by
    simp only [RdL] at h
    obtain ⟨d, r', v, f1, f2, _, _, h1, h2, rfl⟩ := h
    intro b hb
    simp only [List.mem_append] at hb
    rcases hb with hb | hb
    · exact RdC.lt c _ _ _ h1 b hb
    · exact RdL.lt cs _ _ _ h2 b hb
end

mutual
theorem RdC.mono {w w' : World} (hs : w.heap.size ≤ w'.heap.size) : ∀ (c : CT) (d : DC) (v : Value) (fp : List Nat), RdC w c d v fp → (∀ b ∈ fp, w'.heap[b]? = w.heap[b]?) → RdC w' c d v fp
  | .int _, _, _, _, h, _ => by simpa only [RdC] using h
  | .bool, _, _, _, h, _ => by simpa only [RdC] using h
  | .str, _, _, _, h, _ => by simpa only [RdC] using h
  | .sl e, _, _, _, h, hb => by
    simp only [RdC] at h ⊢
    obtain ⟨rows, a, n, c, hd, hv, hn, hc, hm, ⟨h0, rfl⟩ | ⟨hp, b, o, fps, ha, hlt, hl, rfl, hr⟩⟩ := h
    · exact ⟨rows, a, n, c, hd, hv, hn, hc, hm, .inl ⟨h0, rfl⟩⟩
    · refine ⟨rows, a, n, c, hd, hv, hn, hc, hm, .inr ⟨hp, b, o, fps, ha, by omega, hl, rfl, fun i r f hi hf => ?_⟩⟩
      refine RdL.mono hs e r _ _ f (hr i r f hi hf) (fun j => ?_) (fun x hx => hb x ?_)
      · exact (cell_eq (hb b (by simp))).symm ▸ rfl
      · simp only [List.mem_cons, List.mem_flatten]
        exact .inr ⟨f, List.mem_of_getElem? hf, hx⟩
theorem RdL.mono {w w' : World} (hs : w.heap.size ≤ w'.heap.size) : ∀ (cs : List CT) (r : List DC) (f f' : Nat → Option Value) (fp : List Nat), RdL w cs r f fp → (∀ j, f' j = f j) → (∀ b ∈ fp, w'.heap[b]? = w.heap[b]?) → RdL w' cs r f' fp
  | [], _, _, _, _, h, _, _ => by simpa only [RdL] using h
  | c :: cs, _, _, _, _, h, hf, hb => by
    simp only [RdL] at h ⊢
    obtain ⟨d, r', v, f1, f2, hr, h0, h1, h2, rfl⟩ := h
    exact ⟨d, r', v, f1, f2, hr, (hf 0).trans h0, RdC.mono hs c _ _ _ h1 (fun b hx => hb b (by simp [hx])), RdL.mono hs cs _ _ _ _ h2 (fun j => hf (j + 1)) (fun b hx => hb b (by simp [hx])), rfl⟩
end

theorem RdL.length {w : World} : ∀ (cs : List CT) (r : List DC) (f : Nat → Option Value) (fp : List Nat), RdL w cs r f fp → r.length = cs.length
  | [], _, _, _, h => by
    simp only [RdL] at h
    simp [h.1]
  | c :: cs, _, _, _, h => by
    simp only [RdL] at h
    obtain ⟨d, r', v, f1, f2, rfl, _, _, h2, _⟩ := h
    simp [RdL.length cs _ _ _ h2]

/-- What the names of objects stand for: a box's block, a row's slice. -/
structure Env where
  blk : Nat → Nat
  val : Nat → Value
  bar : Nat → Prop

mutual
def SVR (w : World) (av : Nat → Prop) (β : Env) : SV → Value → Prop
  | .unk, _ => True
  | .undef, v => v = undef
  | .kb b, v => v = .bool b
  | .int k n, v => v = .int k n ∧ inR k n = true
  | .bool b, v => v = .bool b
  | .str s, v => v = .string ⟨s.toArray⟩ ∧ s.length ≤ maxLen
  | .sl e r, v => ∃ fp, RdC w (.sl e) (.sl r) v fp ∧ ∀ b ∈ fp, ¬ av b
  | .nil, v => v = .slice none 0 0
  | .own id, v => v = β.val id ∧ v.oneCell' = true
  | .agg cs, v => ∃ vs : List Value, v = .agg vs.toArray ∧ SVRL w av β cs vs ∧ ∀ x ∈ vs, x.oneCell' = true
  | .ptr id off, v => v = .pointer (some ⟨β.blk id, off, none⟩)
  | .eimm e r off, v => ∃ b o fp, v = .pointer (some ⟨b, o + off, none⟩) ∧ b < w.heap.size ∧ ¬ av b ∧ RdL w e r (fun j => w.cell? ⟨b, o + j, none⟩) fp ∧ ∀ x ∈ fp, ¬ av x
  | .eown id i z off, v => ∃ g, (β.val id).ownBlock = some g ∧ v = .pointer (some ⟨g, i * z + off, none⟩)
  | .tup vs, v => ∃ l : List Value, v = .tuple l.toArray ∧ SVRL w av β vs l
def SVRL (w : World) (av : Nat → Prop) (β : Env) : List SV → List Value → Prop
  | [], l => l = []
  | s :: ss, l => ∃ v l', l = v :: l' ∧ SVR w av β s v ∧ SVRL w av β ss l'
end

mutual
theorem SVR.mono {w w' : World} {av av' : Nat → Prop} {β β' : Env} (hs : w.heap.size ≤ w'.heap.size)
    (hw : ∀ b, b < w.heap.size → ¬ av b → w'.heap[b]? = w.heap[b]?) (ha : ∀ b, av' b → av b ∨ w.heap.size ≤ b) :
    ∀ (s : SV) (v : Value), SVR w av β s v → (∀ i ∈ svIds s, β'.val i = β.val i ∧ β'.blk i = β.blk i) → SVR w' av' β' s v
  | .unk, _, _, _ => by simp only [SVR]
  | .undef, _, h, _ => by simpa only [SVR] using h
  | .kb _, _, h, _ => by simpa only [SVR] using h
  | .int _ _, _, h, _ => by simpa only [SVR] using h
  | .bool _, _, h, _ => by simpa only [SVR] using h
  | .str _, _, h, _ => by simpa only [SVR] using h
  | .nil, _, h, _ => by simpa only [SVR] using h
  | .sl e r, v, h, _ => by
    simp only [SVR] at h ⊢
    obtain ⟨fp, h1, h2⟩ := h
    have hlt := RdC.lt _ _ _ _ h1
    refine ⟨fp, RdC.mono hs _ _ _ _ h1 (fun b hb => hw b (hlt b hb) (h2 b hb)), fun b hb hx => ?_⟩
    rcases ha b hx with h | h
    · exact h2 b hb h
    · have := hlt b hb; omega
  | .own id, _, h, hi => by
    simp only [SVR] at h ⊢
    rw [(hi id (by simp [svIds])).1]
    exact h
  | .ptr id _, _, h, hi => by
    simp only [SVR] at h ⊢
    rw [h, (hi id (by simp [svIds])).2]
  | .eown id i z off, _, h, hi => by
    simp only [SVR] at h ⊢
    rw [(hi id (by simp [svIds])).1]
    exact h
  | .eimm e r off, v, h, _ => by
    simp only [SVR] at h ⊢
    obtain ⟨b, o, fp, rfl, hb, hav, h1, h2⟩ := h
    have hlt := RdL.lt _ _ _ _ h1
    have key : ∀ x, x < w.heap.size → ¬ av x → ¬ av' x := fun x hx hn hx' => by
      rcases ha x hx' with h | h
      · exact hn h
      · omega
    refine ⟨b, o, fp, rfl, by omega, key b hb hav, RdL.mono hs _ _ _ _ _ h1 (fun j => cell_eq (hw b hb hav)) (fun x hx => hw x (hlt x hx) (h2 x hx)), fun x hx => key x (hlt x hx) (h2 x hx)⟩
  | .agg cs, v, h, hi => by
    simp only [SVR] at h ⊢
    obtain ⟨vs, rfl, h, h1⟩ := h
    exact ⟨vs, rfl, SVRL.mono hs hw ha cs vs h (by simpa [svIds] using hi), h1⟩
  | .tup cs, v, h, hi => by
    simp only [SVR] at h ⊢
    obtain ⟨vs, rfl, h⟩ := h
    exact ⟨vs, rfl, SVRL.mono hs hw ha cs vs h (by simpa [svIds] using hi)⟩
theorem SVRL.mono {w w' : World} {av av' : Nat → Prop} {β β' : Env} (hs : w.heap.size ≤ w'.heap.size)
    (hw : ∀ b, b < w.heap.size → ¬ av b → w'.heap[b]? = w.heap[b]?) (ha : ∀ b, av' b → av b ∨ w.heap.size ≤ b) :
    ∀ (s : List SV) (v : List Value), SVRL w av β s v → (∀ i ∈ svIdsL s, β'.val i = β.val i ∧ β'.blk i = β.blk i) → SVRL w' av' β' s v
  | [], _, h, _ => by simpa only [SVRL] using h
  | s :: ss, _, h, hi => by
    simp only [SVRL] at h ⊢
    obtain ⟨v, l', rfl, h1, h2⟩ := h
    exact ⟨v, l', rfl, SVR.mono hs hw ha s v h1 (fun i hx => hi i (by simp [svIdsL, hx])), SVRL.mono hs hw ha ss l' h2 (fun i hx => hi i (by simp [svIdsL, hx]))⟩
end

theorem SVRL.length {w : World} {av : Nat → Prop} {β : Env} : ∀ (s : List SV) (v : List Value), SVRL w av β s v → v.length = s.length
  | [], _, h => by simp only [SVRL] at h; simp [h]
  | s :: ss, _, h => by
    simp only [SVRL] at h
    obtain ⟨v, l', rfl, _, h2⟩ := h
    simp [SVRL.length ss l' h2]

theorem SVRL.get {w : World} {av : Nat → Prop} {β : Env} : ∀ (ss : List SV) (vs : List Value) (i : Nat) (s : SV), SVRL w av β ss vs → ss[i]? = some s → ∃ v, vs[i]? = some v ∧ SVR w av β s v
  | [], _, _, _, _, hi => by simp at hi
  | s :: ss, _, i, x, h, hi => by
    simp only [SVRL] at h
    obtain ⟨v, l', rfl, h1, h2⟩ := h
    cases i with
    | zero => simp at hi; subst hi; exact ⟨v, by simp, h1⟩
    | succ i => simpa using SVRL.get ss l' i x h2 (by simpa using hi)

theorem SVRL.append {w : World} {av : Nat → Prop} {β : Env} : ∀ (a : List SV) (x : List Value) (b : List SV) (y : List Value), SVRL w av β a x → SVRL w av β b y → SVRL w av β (a ++ b) (x ++ y)
  | [], _, _, _, h, h' => by simp only [SVRL] at h; simpa [h] using h'
  | s :: ss, _, _, _, h, h' => by
    simp only [SVRL] at h
    obtain ⟨v, l', rfl, h1, h2⟩ := h
    simp only [List.cons_append, SVRL]
    exact ⟨v, _, rfl, h1, SVRL.append ss l' _ _ h2 h'⟩

theorem SVRL.take {w : World} {av : Nat → Prop} {β : Env} : ∀ (a : List SV) (x : List Value) (n : Nat), SVRL w av β a x → SVRL w av β (a.take n) (x.take n)
  | [], _, n, h => by simp only [SVRL] at h; simp [h, SVRL]
  | s :: ss, _, n, h => by
    simp only [SVRL] at h
    obtain ⟨v, l', rfl, h1, h2⟩ := h
    cases n with
    | zero => simp [SVRL]
    | succ n => simp only [List.take_succ_cons, SVRL]; exact ⟨v, _, rfl, h1, SVRL.take ss l' n h2⟩

theorem SVRL.drop {w : World} {av : Nat → Prop} {β : Env} : ∀ (a : List SV) (x : List Value) (n : Nat), SVRL w av β a x → SVRL w av β (a.drop n) (x.drop n)
  | [], _, n, h => by simp only [SVRL] at h; simp [h, SVRL]
  | s :: ss, _, n, h => by
    simp only [SVRL] at h
    obtain ⟨v, l', rfl, h1, h2⟩ := h
    cases n with
    | zero => simp only [List.drop_zero, SVRL]; exact ⟨v, l', rfl, h1, h2⟩
    | succ n => simpa using SVRL.drop ss l' n h2

mutual
theorem ctBeq_eq : ∀ (a b : CT), ctBeq a b = true → a = b
  | .int k, .int k', h => by simp [ctBeq] at h; rw [h]
  | .bool, .bool, _ => rfl
  | .str, .str, _ => rfl
  | .sl e, .sl e', h => by simp only [ctBeq] at h; rw [ctsBeq_eq e e' h]
  | .int _, .bool, h | .int _, .str, h | .int _, .sl _, h | .bool, .int _, h | .bool, .str, h | .bool, .sl _, h | .str, .int _, h | .str, .bool, h | .str, .sl _, h | .sl _, .int _, h | .sl _, .bool, h | .sl _, .str, h => by simp [ctBeq] at h
theorem ctsBeq_eq : ∀ (a b : List CT), ctsBeq a b = true → a = b
  | [], [], _ => rfl
  | a :: l, b :: m, h => by
    simp only [ctsBeq, Bool.and_eq_true] at h
    rw [ctBeq_eq a b h.1, ctsBeq_eq l m h.2]
  | [], _ :: _, h | _ :: _, [], h => by simp [ctsBeq] at h
end

theorem bne_cases {x y : Bool} (h : ¬ (x == y) = true) : y = !x := by cases x <;> cases y <;> simp_all

theorem SVR.emptyOf {w : World} {av : Nat → Prop} {β : Env} (e : List CT) (v : Value) (h : v = .slice none 0 0) : SVR w av β (.sl e []) v := by
  unfold SVR
  refine ⟨[], ?_, by simp⟩
  unfold RdC
  exact ⟨[], none, 0, 0, rfl, h, rfl, Nat.le_refl _, Nat.zero_le _, .inl ⟨rfl, rfl⟩⟩

mutual
theorem SVR.merge {w : World} {av : Nat → Prop} {β : Env} (g : Bool) (a b : SV) (v : Value) (h : SVR w av β (bif g then a else b) v) : SVR w av β (mergeSV g a b) v := by
  rw [mergeSV.eq_def]
  split
  · cases g <;> simpa using h
  · rename_i x y
    cases g <;> cases x <;> cases y <;> simp_all [SVR]
  · cases g <;> simp_all [SVR]
  · cases g <;> simp_all [SVR]
  · cases g <;> simp_all [SVR]
  · rename_i k n k' m
    by_cases hk : k = k'
    · subst hk; cases g <;> simp_all [SVR]
    · simp [hk, SVR]
  · cases g <;> simp_all [SVR]
  · rename_i e r e' r'
    cases hl : ctsBeq e e'
    · simp [SVR]
    · have := ctsBeq_eq _ _ hl
      subst this
      cases g <;> simpa using h
  · cases g
    · exact SVR.emptyOf _ _ (by simpa [SVR] using h)
    · simpa using h
  · cases g
    · simpa using h
    · exact SVR.emptyOf _ _ (by simpa [SVR] using h)
  · cases g <;> simpa using h
  · rename_i i j
    cases hl : Nat.beq i j
    · simp [SVR]
    · have := Nat.eq_of_beq_eq_true hl
      subst this
      simpa using h
  · rename_i i o j o'
    cases hl : Nat.beq i j && Nat.beq o o'
    · simp [SVR]
    · simp only [Bool.and_eq_true] at hl
      have h1 := Nat.eq_of_beq_eq_true hl.1
      have h2 := Nat.eq_of_beq_eq_true hl.2
      subst h1 h2
      simpa using h
  · rename_i e r o e' r' o'
    cases hl : ctsBeq e e' && Nat.beq o o'
    · simp [SVR]
    · simp only [Bool.and_eq_true] at hl
      have h1 := ctsBeq_eq _ _ hl.1
      have h2 := Nat.eq_of_beq_eq_true hl.2
      subst h1 h2
      cases g <;> simpa using h
  · rename_i i x z o j y z' o'
    cases hl : Nat.beq i j && Nat.beq z z' && Nat.beq o o'
    · simp [SVR]
    · simp only [Bool.and_eq_true] at hl
      have h1 := Nat.eq_of_beq_eq_true hl.1.1
      have h2 := Nat.eq_of_beq_eq_true hl.1.2
      have h3 := Nat.eq_of_beq_eq_true hl.2
      subst h1 h2 h3
      cases g <;> simpa using h
  · rename_i l m
    cases hl : Nat.beq l.length m.length
    · simp [SVR]
    · simp only [cond_true, SVR]
      have hlen := Nat.eq_of_beq_eq_true hl
      cases g
      · simp only [cond_false, SVR] at h
        obtain ⟨vs, rfl, h, h1⟩ := h
        exact ⟨vs, rfl, SVRL.merge false l m vs hlen h, h1⟩
      · simp only [cond_true, SVR] at h
        obtain ⟨vs, rfl, h, h1⟩ := h
        exact ⟨vs, rfl, SVRL.merge true l m vs hlen h, h1⟩
  · rename_i l m
    cases hl : Nat.beq l.length m.length
    · simp [SVR]
    · simp only [cond_true, SVR]
      have hlen := Nat.eq_of_beq_eq_true hl
      cases g
      · simp only [cond_false, SVR] at h
        obtain ⟨vs, rfl, h⟩ := h
        exact ⟨vs, rfl, SVRL.merge false l m vs hlen h⟩
      · simp only [cond_true, SVR] at h
        obtain ⟨vs, rfl, h⟩ := h
        exact ⟨vs, rfl, SVRL.merge true l m vs hlen h⟩
  · simp only [SVR]
termination_by SizeOf.sizeOf a
theorem SVRL.merge {w : World} {av : Nat → Prop} {β : Env} (g : Bool) : ∀ (a b : List SV) (v : List Value), a.length = b.length → SVRL w av β (bif g then a else b) v → SVRL w av β (mergeL g a b) v
  | [], [], v, _, h => by cases g <;> simpa [mergeL] using h
  | [], _ :: _, v, hl, h => by simp at hl
  | _ :: _, [], v, hl, h => by simp at hl
  | a :: l, b :: m, v, hl, h => by
    simp only [mergeL, SVRL]
    have hl' : l.length = m.length := by simpa using hl
    cases g
    · simp only [cond_false, SVRL] at h
      obtain ⟨x, l', rfl, h1, h2⟩ := h
      exact ⟨x, l', rfl, SVR.merge false a b x h1, SVRL.merge false l m l' hl' h2⟩
    · simp only [cond_true, SVRL] at h
      obtain ⟨x, l', rfl, h1, h2⟩ := h
      exact ⟨x, l', rfl, SVR.merge true a b x h1, SVRL.merge true l m l' hl' h2⟩
termination_by a => SizeOf.sizeOf a
end

end Go.Proofs.Ytjknoknkbfhelaa.Vm
