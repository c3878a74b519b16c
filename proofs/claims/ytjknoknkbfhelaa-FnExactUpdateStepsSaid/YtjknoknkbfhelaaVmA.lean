/- The value machine, its definitions: it runs the translated code of a function over plain data. Conditions: none; these are definitions. -/
import Derived.WalkKit
import Derived.Maps.AppendAt
import Derived.Orders
namespace Go.Proofs.Ytjknoknkbfhelaa.Vm

/-- The type of one cell. -/
inductive CT where
  | int (k : IntKind)
  | bool
  | str
  | sl (e : List CT)

/-- The datum of one cell. -/
inductive DC where
  | int (n : Int)
  | bool (b : Bool)
  | str (s : List UInt8)
  | sl (rows : List (List DC))

instance : Inhabited DC := ⟨.int 0⟩

/-- 'and', that is plain where its second part is. -/
def andt (x y : Bool) : Bool := bif y then x else false
theorem andt_eq (x y : Bool) : (andt x y = true) = (x = true ∧ y = true) := by cases x <;> cases y <;> simp [andt]

def DC.asInt : DC → Int
  | .int n => n
  | _ => 0
def DC.asBool : DC → Bool
  | .bool b => b
  | _ => false
def DC.asStr : DC → List UInt8
  | .str s => s
  | _ => []
def DC.asRows : DC → List (List DC)
  | .sl r => r
  | _ => []

/-- What a slot, or a cell of a boxed variable, holds. -/
inductive SV where
  | unk
  | undef
  | kb (b : Bool)
  | int (k : IntKind) (n : Int)
  | bool (b : Bool)
  | str (s : List UInt8)
  | sl (e : List CT) (rows : List (List DC))
  | nil
  | own (id : Nat)
  | agg (cs : List SV)
  | ptr (id off : Nat)
  | eimm (e : List CT) (row : List DC) (off : Nat)
  | eown (id i sz off : Nat)
  | tup (vs : List SV)

instance : Inhabited SV := ⟨.unk⟩

/-- An object of the call's own: a boxed variable, a row of a slice, a row that is no longer written. -/
inductive VObj where
  | box (t : TypeId) (cells : List SV)
  | row (t : TypeId) (e : List CT) (rows : List (List DC)) (fz u : Bool)
  | imm (e : List CT) (rows : List (List DC))

mutual
def ctBeq : CT → CT → Bool
  | .int k, .int k' => decide (k = k')
  | .bool, .bool => true
  | .str, .str => true
  | .sl e, .sl e' => ctsBeq e e'
  | _, _ => false
def ctsBeq : List CT → List CT → Bool
  | [], [] => true
  | a :: l, b :: m => ctBeq a b && ctsBeq l m
  | _, _ => false
end

/-- The cell types of a type. -/
def ctsOf (P : Program) : Nat → TypeId → Option (List CT)
  | 0, _ => none
  | n + 1, t =>
    match P.underlying t with
    | some .bool => some [.bool]
    | some (.int k) => some [.int k]
    | some .string => some [.str]
    | some (.slice e) => match ctsOf P n e with | some l => some [.sl l] | none => none
    | some (.struct fs) => fs.toList.foldr (fun f r => match ctsOf P n f.type, r with | some l, some m => some (l ++ m) | _, _ => none) (some [])
    | _ => none

def isAggB (P : Program) (t : TypeId) : Bool :=
  match P.underlying t with
  | some (.struct _) => true
  | some (.array _ _) => true
  | _ => false

def inR (k : IntKind) (n : Int) : Bool := decide (k.min ≤ n) && decide (n ≤ k.max)

def ofConst : Value → SV
  | .bool b => .kb b
  | .int k n => bif inR k n then .int k n else .unk
  | .string s => bif Nat.ble s.data.toList.length maxLen then .str s.data.toList else .unk
  | .slice none 0 0 => .nil
  | _ => .unk

/-- What is read of memory, a cell at a time. -/
def ofDC : CT → DC → SV
  | .int k, d => .int k d.asInt
  | .bool, d => .bool d.asBool
  | .str, d => .str d.asStr
  | .sl e, d => .sl e d.asRows

def ofDCs : List CT → List DC → Nat → List SV
  | [], _, _ => []
  | c :: cs, ds, k => ofDC c (ds.getD k default) :: ofDCs cs ds (k + 1)

/-- A computation that reads slots and objects. -/
inductive M (α : Type) where
  | pure (a : α)
  | fail
  | slot (i : Nat) (k : SV → M α)
  | obj (id : Nat) (k : VObj → M α)

def M.bind {α β : Type} : M α → (α → M β) → M β
  | .pure a, f => f a
  | .fail, _ => .fail
  | .slot i k, f => .slot i fun s => (k s).bind f
  | .obj i k, f => .obj i fun s => (k s).bind f

instance : Monad M where
  pure := M.pure
  bind := M.bind

/-- What an operation does: the value of its slot; cells of a box that it writes; objects that it makes, turns or ends; whether all that it asks holds. -/
structure Eff where
  sv : SV
  cw : Option (Nat × Nat × List SV) := none
  ow : List (Nat × Option VObj) := []
  ok : Bool := true

/-- One parameter of a contract: the types of its cells, and whether it is a struct. -/
structure AK where
  cts : List CT
  agg : Bool

/-- One cell of a result: read only, or a row of the call's own. -/
inductive RC where
  | imm (ct : CT)
  | own (t : TypeId) (e : List CT)

structure RK where
  cells : List RC
  agg : Bool

inductive MK where
  | box (t : TypeId)
  | rows (ts : List TypeId)

/-- A contract's data. Where a parameter is written through, 'ms' says how: a pointer to a variable; rows that are written in place. What they hold behind the call comes behind the results. -/
structure Sum where
  ps : List AK
  rs : List RK
  fn : List DC → Bool × List DC
  ms : List (Option MK) := []

abbrev Ctx := List (Nat × Sum)

def lkS : Ctx → Nat → Option Sum
  | [], _ => none
  | (k, s) :: l, i => bif Nat.beq k i then some s else lkS l i

def evM : Operand → M SV
  | .tmp t => .slot t .pure
  | .const v => .pure (ofConst v)
  | _ => .fail

def evMs : List Operand → M (List SV)
  | [] => .pure []
  | x :: l => (evM x).bind fun s => (evMs l).bind fun r => .pure (s :: r)

/-- The cells of a value; none where their number is not known. -/
def cellsOfSV : SV → M (List SV)
  | .agg cs => .pure cs
  | .unk => .fail
  | .undef => .fail
  | .tup _ => .fail
  | s => .pure [s]

mutual
def mergeSV (g : Bool) : SV → SV → SV
  | .undef, .undef => .undef
  | .kb x, .kb y => bif x == y then .kb x else .bool (bif x then g else !g)
  | .kb x, .bool y => .bool (bif g then x else y)
  | .bool x, .kb y => .bool (bif g then x else y)
  | .bool x, .bool y => .bool (bif g then x else y)
  | .int k n, .int k' m => bif decide (k = k') then .int k (bif g then n else m) else .unk
  | .str n, .str m => .str (bif g then n else m)
  | .sl e r, .sl e' r' => bif ctsBeq e e' then .sl e (bif g then r else r') else .unk
  | .sl e r, .nil => .sl e (bif g then r else [])
  | .nil, .sl e r => .sl e (bif g then [] else r)
  | .nil, .nil => .nil
  | .own i, .own j => bif Nat.beq i j then .own i else .unk
  | .ptr i o, .ptr j o' => bif Nat.beq i j && Nat.beq o o' then .ptr i o else .unk
  | .eimm e r o, .eimm e' r' o' => bif ctsBeq e e' && Nat.beq o o' then .eimm e (bif g then r else r') o else .unk
  | .eown i x z o, .eown j y z' o' => bif Nat.beq i j && Nat.beq z z' && Nat.beq o o' then .eown i (bif g then x else y) z o else .unk
  | .agg l, .agg m => bif Nat.beq l.length m.length then .agg (mergeL g l m) else .unk
  | .tup l, .tup m => bif Nat.beq l.length m.length then .tup (mergeL g l m) else .unk
  | _, _ => .unk
def mergeL (g : Bool) : List SV → List SV → List SV
  | a :: l, b :: m => mergeSV g a b :: mergeL g l m
  | _, _ => []
end

abbrev Met := List (Nat × List CT × List (List DC) × Bool)

/-- A cell as a datum of a given type; 'own' cells are looked up. What is given back besides: the rows that were met; whether all of its memory is the call's own and held here alone. -/
def toDC (ct : CT) : SV → M (DC × Met × Bool)
  | .int k n => match ct with | .int k' => bif decide (k = k') then .pure (.int n, [], true) else .fail | _ => .fail
  | .kb b => match ct with | .bool => .pure (.bool b, [], true) | _ => .fail
  | .bool b => match ct with | .bool => .pure (.bool b, [], true) | _ => .fail
  | .str s => match ct with | .str => .pure (.str s, [], true) | _ => .fail
  | .sl e r => match ct with | .sl e' => bif ctsBeq e e' then .pure (.sl r, [], false) else .fail | _ => .fail
  | .nil => match ct with | .sl _ => .pure (.sl [], [], true) | _ => .fail
  | .own id => match ct with
    | .sl e' => .obj id fun
      | .row _ e r _ u => bif ctsBeq e e' then .pure (.sl r, [(id, e, r, u)], u) else .fail
      | .imm e r => bif ctsBeq e e' then .pure (.sl r, [], false) else .fail
      | _ => .fail
    | _ => .fail
  | _ => .fail

def toDCs : List CT → List SV → M (List DC × Met × Bool)
  | [], [] => .pure ([], [], true)
  | c :: cs, s :: ss => (toDC c s).bind fun d => (toDCs cs ss).bind fun r => .pure (d.1 :: r.1, d.2.1 ++ r.2.1, d.2.2 && r.2.2)
  | _, _ => .fail

def flatB : List CT → Bool
  | [] => true
  | .sl _ :: _ => false
  | _ :: l => flatB l

def sizeB (P : Program) (t : TypeId) (n : Nat) : Bool :=
  match P.info? t with
  | some i => Nat.beq i.size n
  | none => false

/-- The bound under which a row of the element type t may have n elements. -/
def roomB (P : Program) (t : TypeId) (n : Nat) : Bool :=
  match P.info? t with
  | some i => decide (n * i.bytes ≤ 140737488355328) && decide (n ≤ 9223372036854775807)
  | none => false

def newId (d k : Nat) : Nat := d * 64 + k

/-- The slots of a run: how many, and how many at the beginning are never written. -/
def dstB (d n : Nat) : Bool := Nat.blt d (n % 1099511627776) && Nat.ble (n / 1099511627776) d
def DstOk (n d : Nat) : Prop := d < n % 1099511627776 ∧ n / 1099511627776 ≤ d
theorem dstB_ok {d n : Nat} (h : dstB d n = true) : DstOk n d := by
  unfold dstB at h
  rw [Bool.and_eq_true] at h
  exact ⟨Nat.le_of_ble_eq_true h.1, Nat.le_of_ble_eq_true h.2⟩

/-- The integers' operators. -/
def intOp (op : BinOp) (k : IntKind) (x y : Int) : Option (SV × Bool) :=
  match op with
  | .add => some (.int k (k.wrap (x + y)), true)
  | .sub => some (.int k (k.wrap (x - y)), true)
  | .mul => some (.int k (k.wrap (x * y)), true)
  | .quo => some (.int k (k.wrap (x.tdiv y)), !(y == 0))
  | .rem => some (.int k (x.tmod y), !(y == 0))
  | .and => some (.int k (bits .and k x y), true)
  | .or => some (.int k (bits .or k x y), true)
  | .xor => some (.int k (bits .xor k x y), true)
  | .andNot => some (.int k (bits .andNot k x y), true)
  | .eql => some (.bool (x == y), true)
  | .neq => some (.bool (x != y), true)
  | .lss => some (.bool (decide (x < y)), true)
  | .leq => some (.bool (decide (x ≤ y)), true)
  | .gtr => some (.bool (decide (y < x)), true)
  | .geq => some (.bool (decide (y ≤ x)), true)
  | _ => none

end Go.Proofs.Ytjknoknkbfhelaa.Vm
