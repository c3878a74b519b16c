/- Plain words for what the machine computes. Conditions: none; these are definitions. -/
import Derived.Test.YthpmalpdnnbkgaaGreatVd
set_option linter.unusedVariables false
namespace Go.Proofs.YthpmalpdnnbkgaaGreat.Pl
open Vm

/-- A value that the kernel does not look into. -/
noncomputable def shut {α : Type} (a : α) : α := Classical.choose (⟨a, rfl⟩ : ∃ x, x = a)
theorem shut_eq {α : Type} (a : α) : shut a = a := Classical.choose_spec (⟨a, rfl⟩ : ∃ x, x = a)
abbrev Bytes := List UInt8
abbrev Rows := List (List DC)
def w64 (x : Int) : Int := IntKind.wrap .i64 x
def rI (r : List DC) (k : Nat) : Int := (r.getD k default).asInt
def rB (r : List DC) (k : Nat) : Bool := (r.getD k default).asBool
def rS (r : List DC) (k : Nat) : Bytes := (r.getD k default).asStr
def rR (r : List DC) (k : Nat) : Rows := (r.getD k default).asRows
def nth (r : Rows) (n : Nat) : List DC := r.getD n []
def len {α : Type} (l : List α) : Int := (l.length : Int)
def idx {α : Type} (n : Int) (l : List α) : Bool := decide (0 ≤ n) && decide (n < l.length)
def inl {α : Type} (n : Nat) (l : List α) : Bool := decide (n < l.length)
def subA {α : Type} (l : List α) : List α := (l.take l.length).drop 0
def subL {α : Type} (l : List α) (a : Int) : List α := (l.take l.length).drop a.toNat
def subH {α : Type} (l : List α) (b : Int) : List α := (l.take b.toNat).drop 0
def subLH {α : Type} (l : List α) (a b : Int) : List α := (l.take b.toNat).drop a.toNat
def okL {α : Type} (l : List α) (a : Int) : Bool := decide (0 ≤ a) && decide (a ≤ l.length)
def okH {α : Type} (l : List α) (b : Int) : Bool := decide (0 ≤ b) && decide (b ≤ l.length)
def okLH {α : Type} (l : List α) (a b : Int) : Bool := decide (0 ≤ a) && decide (a ≤ b) && decide (b ≤ l.length)
def room1 (z : Nat) (q : Rows) : Bool := decide (q.length * z ≤ 140737488355328) && decide (q.length ≤ 9223372036854775807)
def room2 (z : Nat) (r q : Rows) : Bool := decide ((r.length + q.length) * z ≤ 140737488355328) && decide (r.length + q.length ≤ 9223372036854775807)
def makeOk (z : Nat) (n m : Int) : Bool := decide (0 ≤ n) && decide (n ≤ m) && decide (m.toNat * z ≤ 140737488355328) && decide (m ≤ 9223372036854775807)
def catOk (a b : Bytes) : Bool := decide (a.length + b.length ≤ 9223372036854775807)
def sAt (s : Bytes) (n : Int) : Int := ((s.getD n.toNat 0).toNat : Int)
def toStr (r : Rows) : Bytes := r.map Vm.byteOf
def ofStr (s : Bytes) : Rows := s.map Vm.ofByte
def cpN (s : Bytes) (r : Rows) (lo : Nat) : Int := ((min s.length (r.length - lo) : Nat) : Int)
def cpR (s : Bytes) (r : Rows) (lo : Nat) : Rows := r.take lo ++ (ofStr (s.take (r.length - lo)) ++ r.drop (lo + min s.length (r.length - lo)))
def minI (a b : Int) : Int := if b < a then b else a
def maxI (a b : Int) : Int := if a < b then b else a
def shlI (k : IntKind) (a b : Int) : Int := k.wrap (a * 2 ^ (min b.toNat k.bits))
def shrI (k : IntKind) (a b : Int) : Int := a.fdiv (2 ^ (min b.toNat k.bits))

mutual
def bulkC : DC → Nat
  | .int _ => 0
  | .bool _ => 0
  | .str s => s.length
  | .sl rows => rows.length + bulkR rows
def bulkL : List DC → Nat
  | [] => 0
  | d :: l => bulkC d + bulkL l
def bulkR : List (List DC) → Nat
  | [] => 0
  | r :: l => bulkL r + bulkR l
end

def ctBytes : CT → Nat
  | .int k => match k with | .i64 => 8 | .u64 => 8 | .i32 => 4 | .u32 => 4 | .i16 => 2 | .u16 => 2 | .i8 => 1 | .u8 => 1
  | .bool => 1
  | .str => 16
  | .sl _ => 24
def ctSum : List CT → Nat
  | [] => 0
  | c :: l => ctBytes c + ctSum l
def ctsBytes (l : List CT) : Nat := bif l.any (fun c => Nat.ble 8 (ctBytes c)) then (ctSum l + 7) / 8 * 8 else ctSum l

mutual
def fitC : CT → DC → Bool
  | .int _, _ => true
  | .bool, _ => true
  | .str, d => decide (d.asStr.length ≤ 140737488351232)
  | .sl e, d => decide (d.asRows.length * ctsBytes e ≤ 140737488351232) && d.asRows.all (fun r => fitL e r)
def fitL : List CT → List DC → Bool
  | [], _ => true
  | c :: cs, l => fitC c (l.headD default) && fitL cs l.tail
end

theorem of_wt_int {k : IntKind} {r : List CT} {ds : List DC} (h : WtL (.int k :: r) ds) : ∃ (n : Int) (ds' : List DC), ds = .int n :: ds' ∧ WtC (.int k) (.int n) ∧ WtL r ds' := by
  simp only [WtL] at h
  obtain ⟨d, r', rfl, h1, h2⟩ := h
  have h1' := h1
  simp only [WtC] at h1'
  obtain ⟨n, rfl, _⟩ := h1'
  exact ⟨n, r', rfl, h1, h2⟩
theorem of_wt_bool {r : List CT} {ds : List DC} (h : WtL (.bool :: r) ds) : ∃ (n : Bool) (ds' : List DC), ds = .bool n :: ds' ∧ WtC .bool (.bool n) ∧ WtL r ds' := by
  simp only [WtL] at h
  obtain ⟨d, r', rfl, h1, h2⟩ := h
  have h1' := h1
  simp only [WtC] at h1'
  obtain ⟨n, rfl⟩ := h1'
  exact ⟨n, r', rfl, h1, h2⟩
theorem of_wt_str {r : List CT} {ds : List DC} (h : WtL (.str :: r) ds) : ∃ (n : Bytes) (ds' : List DC), ds = .str n :: ds' ∧ WtC .str (.str n) ∧ WtL r ds' := by
  simp only [WtL] at h
  obtain ⟨d, r', rfl, h1, h2⟩ := h
  have h1' := h1
  simp only [WtC] at h1'
  obtain ⟨n, rfl, _⟩ := h1'
  exact ⟨n, r', rfl, h1, h2⟩
theorem of_wt_sl {e : List CT} {r : List CT} {ds : List DC} (h : WtL (.sl e :: r) ds) : ∃ (n : Rows) (ds' : List DC), ds = .sl n :: ds' ∧ WtC (.sl e) (.sl n) ∧ WtL r ds' := by
  simp only [WtL] at h
  obtain ⟨d, r', rfl, h1, h2⟩ := h
  have h1' := h1
  simp only [WtC] at h1'
  obtain ⟨n, rfl, _⟩ := h1'
  exact ⟨n, r', rfl, h1, h2⟩
/-- A tree of guards and ways that ends in one function's value. -/
def Part {α β : Type} (bad : α) (K : β → α) (x : α) (o : Bool) (v : Option β) : Prop := (o = true → ∃ b, v = some b ∧ x = K b)
theorem part_leaf {α β : Type} {bad : α} {K : β → α} {b : β} : Part bad K (K b) true (some b) := fun _ => ⟨b, rfl, rfl⟩
theorem part_guard {α β : Type} {bad : α} {K : β → α} {c o : Bool} {x : α} {v : Option β} (h : Part bad K x o v) : Part bad K (bif c then x else bad) (bif c then o else false) (bif c then v else none) := by
  cases c
  · intro h; cases h
  · exact h
theorem part_cond {α β : Type} {bad : α} {K : β → α} {c o1 o2 : Bool} {x y : α} {v1 v2 : Option β} (h1 : Part bad K x o1 v1) (h2 : Part bad K y o2 v2) :
    Part bad K (bif c then x else y) (bif c then o1 else o2) (bif c then v1 else v2) := by
  cases c
  · exact h2
  · exact h1
theorem part_all {α β : Type} {bad : α} {K : β → α} {x : α} {o : Bool} {v : Option β} {d : β} (h : Part bad K x o v) (ho : o = true) : x = K (v.getD d) := by
  obtain ⟨b, rfl, hx⟩ := h ho
  exact hx

theorem wtl_uncons {c : CT} {cs : List CT} {d : DC} {r : List DC} (h : WtL (c :: cs) (d :: r)) : WtC c d ∧ WtL cs r := by
  simp only [WtL, List.cons.injEq] at h
  obtain ⟨_, _, ⟨rfl, rfl⟩, h1, h2⟩ := h
  exact ⟨h1, h2⟩
theorem wtl_mk {c : CT} {cs : List CT} {d : DC} {r : List DC} (h1 : WtC c d) (h2 : WtL cs r) : WtL (c :: cs) (d :: r) := by
  simp only [WtL]
  exact ⟨d, r, rfl, h1, h2⟩
theorem wtl_nil : WtL [] [] := by simp only [WtL]
theorem of_wt_nil {ds : List DC} (h : WtL [] ds) : ds = [] := by
  simpa only [WtL] using h

theorem wtl_split : ∀ {cs cs' : List CT} {ds : List DC}, WtL (cs ++ cs') ds → ∃ d1 d2, ds = d1 ++ d2 ∧ WtL cs d1 ∧ WtL cs' d2
  | [], _, ds, h => ⟨[], ds, rfl, wtl_nil, h⟩
  | c :: cs, cs', ds, h => by
    simp only [List.cons_append, WtL] at h
    obtain ⟨d, r, rfl, h1, h2⟩ := h
    obtain ⟨d1, d2, rfl, h3, h4⟩ := wtl_split h2
    exact ⟨d :: d1, d2, rfl, wtl_mk h1 h3, h4⟩
theorem wtl_get : ∀ {cs : List CT} {ds : List DC} (i : Nat) {c : CT} {d : DC}, WtL cs ds → cs[i]? = some c → ds[i]? = some d → WtC c d
  | [], _, i, _, _, _, hc, _ => by simp at hc
  | c :: cs, ds, 0, x, d, h, hc, hd => by
    simp only [WtL] at h
    obtain ⟨e, r, rfl, h1, h2⟩ := h
    simp only [List.getElem?_cons_zero, Option.some.injEq] at hc hd
    subst hc hd
    exact h1
  | c :: cs, ds, i + 1, x, d, h, hc, hd => by
    simp only [WtL] at h
    obtain ⟨e, r, rfl, h1, h2⟩ := h
    exact wtl_get i h2 (by simpa using hc) (by simpa using hd)
theorem wtl_drop : ∀ {cs : List CT} {ds : List DC} (i : Nat), WtL cs ds → WtL (cs.drop i) (ds.drop i)
  | cs, ds, 0, h => h
  | [], ds, i + 1, h => by
    have := of_wt_nil h
    subst this
    exact h
  | c :: cs, ds, i + 1, h => by
    simp only [WtL] at h
    obtain ⟨e, r, rfl, h1, h2⟩ := h
    exact wtl_drop i h2
theorem wtl_take : ∀ {cs : List CT} {ds : List DC} (i : Nat), WtL cs ds → WtL (cs.take i) (ds.take i)
  | cs, ds, 0, h => wtl_nil
  | [], ds, i + 1, h => by
    have := of_wt_nil h
    subst this
    exact h
  | c :: cs, ds, i + 1, h => by
    simp only [WtL] at h
    obtain ⟨e, r, rfl, h1, h2⟩ := h
    exact wtl_mk h1 (wtl_take i h2)
theorem wtl_seg {cs : List CT} {ds : List DC} (i m : Nat) (h : WtL cs ds) : WtL ((cs.drop i).take m) ((ds.drop i).take m) := wtl_take m (wtl_drop i h)
def canonC : CT → DC → DC
  | .int _, d => .int d.asInt
  | .bool, d => .bool d.asBool
  | .str, d => .str d.asStr
  | .sl _, d => .sl d.asRows
def canonL : List CT → List DC → Nat → List DC
  | [], _, _ => []
  | c :: cs, r, k => canonC c (r.getD k default) :: canonL cs r (k + 1)
theorem canonC_eq {c : CT} {d : DC} (h : WtC c d) : canonC c d = d := by
  cases c <;> simp only [WtC] at h
  · obtain ⟨x, rfl, _⟩ := h; rfl
  · obtain ⟨x, rfl⟩ := h; rfl
  · obtain ⟨x, rfl, _⟩ := h; rfl
  · obtain ⟨x, rfl, _⟩ := h; rfl
theorem canonL_eq : ∀ {cs : List CT} {r p : List DC}, WtL cs r → canonL cs (p ++ r) p.length = r
  | [], r, p, h => (of_wt_nil h).symm ▸ rfl
  | c :: cs, r, p, h => by
    simp only [WtL] at h
    obtain ⟨e, r, rfl, h1, h2⟩ := h
    have e1 : (p ++ e :: r).getD p.length default = e := by simp
    have e2 := canonL_eq (p := p ++ [e]) h2
    simp only [List.append_assoc, List.cons_append, List.nil_append, List.length_append, List.length_cons, List.length_nil] at e2
    simp only [canonL, e1, canonC_eq h1]
    exact congrArg (e :: ·) e2
theorem canon_eq {cs : List CT} {r : List DC} (h : WtL cs r) : canonL cs r 0 = r := canonL_eq (p := []) h

end Go.Proofs.YthpmalpdnnbkgaaGreat.Pl
