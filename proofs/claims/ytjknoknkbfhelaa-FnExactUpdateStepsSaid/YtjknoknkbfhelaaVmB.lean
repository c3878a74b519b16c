/- The value machine, its operations and its run. Conditions: none; these are definitions. -/
import Derived.Test.YtjknoknkbfhelaaVmA
namespace Go.Proofs.Ytjknoknkbfhelaa.Vm

def metFreeze : Met → List (Nat × Option VObj)
  | [] => []
  | (id, e, r, _) :: l => (id, some (.imm e r)) :: metFreeze l
def metNot (id : Nat) : Met → Bool
  | [] => true
  | (i, _) :: l => !(Nat.beq i id) && metNot id l
def metNodup : Met → Bool
  | [] => true
  | (i, _) :: l => metNot i l && metNodup l

/-- The rows of a slice; the rows that were met; whether all of its memory is the call's own. -/
def rowsM (e : List CT) : SV → M (List (List DC) × Met × Bool)
  | .nil => .pure ([], [], true)
  | .sl e' r => bif ctsBeq e e' then .pure (r, [], false) else .fail
  | .own id => .obj id fun
    | .row _ e' r _ u => bif ctsBeq e e' then .pure (r, [(id, e', r, u)], u) else .fail
    | .imm e' r => bif ctsBeq e e' then .pure (r, [], false) else .fail
    | _ => .fail
  | _ => .fail

def loadM' (P : Program) (t : TypeId) : SV → M Eff
  | .ptr id off => .obj id fun
    | .box _ cells =>
      bif isAggB P t then
        match P.info? t with
        | some i => bif Nat.ble (off + i.size) cells.length then .pure { sv := .agg ((cells.drop off).take i.size) } else .fail
        | none => .fail
      else match cells[off]? with
        | some s => .pure { sv := s }
        | none => .fail
    | _ => .fail
  | .eimm e row off =>
    bif isAggB P t then
      match P.info? t with
      | some i => bif Nat.ble (off + i.size) e.length then .pure { sv := .agg (ofDCs ((e.drop off).take i.size) row off) } else .fail
      | none => .fail
    else match e[off]? with
      | some c => .pure { sv := ofDC c (row.getD off default) }
      | none => .fail
  | .eown id i z off => .obj id fun
    | .row _ e rows _ _ =>
      bif !(Nat.beq z e.length) then .fail else
      bif isAggB P t then
        match P.info? t with
        | some j => bif Nat.ble (off + j.size) e.length then .pure { sv := .agg (ofDCs ((e.drop off).take j.size) (rows.getD i []) off), ok := decide (i < rows.length) } else .fail
        | none => .fail
      else match e[off]? with
        | some c => .pure { sv := ofDC c ((rows.getD i []).getD off default), ok := decide (i < rows.length) }
        | none => .fail
    | _ => .fail
  | _ => .fail

def loadM (P : Program) (t : TypeId) (s : SV) : M Eff :=
  match P.underlying t with
  | some _ => loadM' P t s
  | none => .fail

def splice (row : List DC) (off : Nat) (ds : List DC) : List DC := row.take off ++ (ds ++ row.drop (off + ds.length))

def storeM (P : Program) (t : TypeId) (addr x : SV) : M Eff :=
  (cellsOfSV x).bind fun svs =>
  bif sizeB P t svs.length then
    match addr with
    | .ptr id off => .obj id fun
      | .box _ cells => bif Nat.ble (off + svs.length) cells.length then .pure { sv := .undef, cw := some (id, off, svs) } else .fail
      | _ => .fail
    | .eown id i z off => .obj id fun
      | .row t' e rows fz u =>
        bif Nat.beq z e.length && Nat.ble (off + svs.length) e.length then
          (toDCs ((e.drop off).take svs.length) svs).bind fun r =>
          bif metNot id r.2.1 && metNodup r.2.1 then
            .pure { sv := .undef, ow := (id, some (.row t' e (rows.set i (splice (rows.getD i []) off r.1)) fz (u && r.2.2))) :: metFreeze r.2.1, ok := decide (i < rows.length) }
          else .fail
        else .fail
      | _ => .fail
    | _ => .fail
  else .fail

def isBoolT (P : Program) (t : TypeId) : Bool :=
  match P.underlying t with
  | some .bool => true
  | _ => false

def boolM (P : Program) (t : TypeId) (op : BinOp) (a b : Bool) : M Eff :=
  bif isBoolT P t then
    match op with
    | .eql => .pure { sv := .bool (a == b) }
    | .neq => .pure { sv := .bool (!(a == b)) }
    | _ => .fail
  else .fail

def binM (P : Program) (t : TypeId) (op : BinOp) (x y : SV) : M Eff :=
  match x, y with
  | .int k a, .int k' b =>
    match op with
    | .shl => .pure { sv := .int k (k.wrap (a * 2 ^ (min b.toNat k.bits))), ok := decide (0 ≤ b) }
    | .shr => .pure { sv := .int k (a.fdiv (2 ^ (min b.toNat k.bits))), ok := decide (0 ≤ b) }
    | _ => bif decide (k = k') then
        match intOp op k a b with
        | some (s, c) => .pure { sv := s, ok := c }
        | none => .fail
      else .fail
  | .str a, .str b =>
    match op with
    | .add => .pure { sv := .str (a ++ b), ok := decide (a.length + b.length ≤ 9223372036854775807) }
    | .eql => .pure { sv := .bool (a == b) }
    | .neq => .pure { sv := .bool (!(a == b)) }
    | _ => .fail
  | .bool a, .bool b => boolM P t op a b
  | .kb a, .bool b => boolM P t op a b
  | .bool a, .kb b => boolM P t op a b
  | _, _ => .fail

def unM (op : UnOp) (x : SV) : M Eff :=
  match op, x with
  | .not, .kb b => .pure { sv := .kb (!b) }
  | .not, .bool b => .pure { sv := .bool (!b) }
  | .neg, .int k n => .pure { sv := .int k (k.wrap (0 - n)) }
  | .xor, .int k n => .pure { sv := .int k (bits .xor k (if k.signed then -1 else k.max) n) }
  | _, _ => .fail

def byteOf (r : List DC) : UInt8 := UInt8.ofNat (r.headD default).asInt.toNat
def ofByte (b : UInt8) : List DC := [.int b.toNat]

def convM (P : Program) (d : Option Nat) (src dst : TypeId) (x : SV) : M Eff :=
  match P.underlying dst, P.underlying src with
  | some (.int k), some _ => match x with
    | .int _ n => .pure { sv := .int k (k.wrap n) }
    | _ => .fail
  | some .string, some .string => match x with
    | .str s => .pure { sv := .str s }
    | _ => .fail
  | some .string, some (.slice e) => match P.underlying e with
    | some (.int .u8) => (rowsM [.int .u8] x).bind fun r => .pure { sv := .str (r.1.map byteOf) }
    | _ => .fail
  | some (.slice e), some .string =>
    match P.underlying e, x, d with
    | some (.int .u8), .str s, some d => bif sizeB P e 1 then .pure { sv := .own (newId d 0), ow := [(newId d 0, some (.row e [.int .u8] (s.map ofByte) true true))] } else .fail
    | _, _, _ => .fail
  | _, _ => .fail

def zeroM (P : Program) (t : TypeId) : M (List SV) :=
  match P.info? t with
  | some i => match i.zero with
    | some z => bif z.cells.toList.all (·.oneCell') then .pure (z.cells.toList.map ofConst) else .fail
    | none => .fail
  | none => .fail

def makeM (P : Program) (d : Option Nat) (t : TypeId) (l c : SV) : M Eff :=
  match P.underlying t, l, c, d with
  | some (.slice et), .int .i64 n, .int .i64 m, some d =>
    match ctsOf P 16 et, P.info? et with
    | some e, some i =>
      bif Nat.beq i.size e.length && Nat.blt 0 e.length then
        (zeroM P et).bind fun z => (toDCs e z).bind fun r =>
          .pure { sv := .own (newId d 0), ow := [(newId d 0, some (.row et e (List.replicate n.toNat r.1) false true))], ok := decide (0 ≤ n) && decide (n ≤ m) && decide (m.toNat * i.bytes ≤ 140737488355328) && decide (m ≤ 9223372036854775807) }
      else .fail
    | _, _ => .fail
  | _, _, _, _ => .fail

/-- Field by field, into the cells of a struct. -/
def buildM (P : Program) (fs : Array Field) : List (Nat × Operand) → List SV → M (List SV)
  | [], cells => .pure cells
  | (i, x) :: rest, cells =>
    match fs[i]? with
    | some f => (evM x).bind fun s => (cellsOfSV s).bind fun cs =>
      bif sizeB P f.type cs.length && Nat.ble (f.offset + cs.length) cells.length then
        buildM P fs rest (cells.take f.offset ++ (cs ++ cells.drop (f.offset + cs.length)))
      else .fail
    | none => .fail

/-- Element by element, into the rows of a slice. -/
def buildRowsM (e : List CT) : Nat → List (Nat × Operand) → M (List (List DC) × Met × Bool)
  | _, [] => .pure ([], [], true)
  | k, (i, x) :: rest =>
    bif Nat.beq i k then
      (evM x).bind fun s => (cellsOfSV s).bind fun cs => (toDCs e cs).bind fun r => (buildRowsM e (k + 1) rest).bind fun q =>
        .pure (r.1 :: q.1, r.2.1 ++ q.2.1, r.2.2 && q.2.2)
    else .fail

def sliceEnds (n : Nat) (lo hi : Option SV) : Option (Nat × Nat × Bool) :=
  match lo, hi with
  | none, none => some (0, n, true)
  | some (.int _ l), none => some (l.toNat, n, decide (0 ≤ l) && decide (l ≤ n))
  | none, some (.int _ h) => some (0, h.toNat, decide (0 ≤ h) && decide (h ≤ n))
  | some (.int _ l), some (.int _ h) => some (l.toNat, h.toNat, decide (0 ≤ l) && decide (l ≤ h) && decide (h ≤ n))
  | _, _ => none

def evMo : Option Operand → M (Option SV)
  | none => .pure none
  | some x => (evM x).bind fun s => .pure (some s)

def sliceM (P : Program) (t : TypeId) (x : SV) (lo hi : Option SV) : M Eff :=
  match P.underlying t with
  | some .string => match x with
    | .str s => match sliceEnds s.length lo hi with
      | some (l, h, c) => .pure { sv := .str ((s.take h).drop l), ok := c }
      | none => .fail
    | _ => .fail
  | some (.slice et) =>
    match x with
    | .sl e r => bif sizeB P et e.length then match sliceEnds r.length lo hi with
      | some (l, h, c) => .pure { sv := .sl e ((r.take h).drop l), ok := c }
      | none => .fail
      else .fail
    | .own id => .obj id fun
      | .row t' e r false _ => bif Nat.beq t' et && sizeB P et e.length then match sliceEnds r.length lo hi with
        | some (l, h, c) => .pure { sv := .sl e ((r.take h).drop l), ow := [(id, some (.imm e r))], ok := c }
        | none => .fail
        else .fail
      | .imm e r => bif sizeB P et e.length then match sliceEnds r.length lo hi with
        | some (l, h, c) => .pure { sv := .sl e ((r.take h).drop l), ok := c }
        | none => .fail
        else .fail
      | _ => .fail
    | _ => .fail
  | _ => .fail

def indexAddrM (P : Program) (t : TypeId) (x i : SV) : M Eff :=
  match P.underlying t, i with
  | some (.slice et), .int _ n =>
    match x with
    | .sl e r => bif sizeB P et e.length then .pure { sv := .eimm e (r.getD n.toNat []) 0, ok := decide (0 ≤ n) && decide (n < r.length) } else .fail
    | .own id => .obj id fun
      | .row _ e r _ _ => bif sizeB P et e.length then .pure { sv := .eown id n.toNat e.length 0, ok := decide (0 ≤ n) && decide (n < r.length) } else .fail
      | .imm e r => bif sizeB P et e.length then .pure { sv := .eimm e (r.getD n.toNat []) 0, ok := decide (0 ≤ n) && decide (n < r.length) } else .fail
      | _ => .fail
    | _ => .fail
  | _, _ => .fail

def indexM (P : Program) (t : TypeId) (x i : SV) : M Eff :=
  match P.underlying t, x, i with
  | some .string, .str s, .int _ n => .pure { sv := .int .u8 (s.getD n.toNat 0).toNat, ok := decide (0 ≤ n) && decide (n < s.length) }
  | _, _, _ => .fail

def lenM (P : Program) (t : TypeId) (x : SV) : M Eff :=
  match P.underlying t, x with
  | some .string, .str s => .pure { sv := .int .i64 s.length }
  | some (.slice _), .nil => .pure { sv := .int .i64 0 }
  | some (.slice _), .sl _ r => .pure { sv := .int .i64 r.length }
  | some (.slice _), .own id => .obj id fun
    | .row _ _ r _ _ => .pure { sv := .int .i64 r.length }
    | .imm _ r => .pure { sv := .int .i64 r.length }
    | _ => .fail
  | _, _ => .fail

def appendM (P : Program) (d : Option Nat) (t : TypeId) (s x : SV) : M Eff :=
  match P.underlying t, d with
  | some (.slice et), some d =>
    match ctsOf P 16 et with
    | some e =>
      bif sizeB P et e.length && Nat.blt 0 e.length then
        (zeroM P et).bind fun z => bif Nat.beq z.length e.length then
          match s with
          | .nil => (rowsM e x).bind fun q =>
            .pure { sv := .own (newId d 0), ow := (newId d 0, some (.row et e q.1 false (flatB e || q.2.2))) :: (bif flatB e then [] else metFreeze q.2.1), ok := roomB P et q.1.length }
          | .own id => .obj id fun
            | .row t' e' r false u =>
              bif Nat.beq t' et && ctsBeq e' e then
                (rowsM e x).bind fun q =>
                bif metNot id q.2.1 then
                  .pure { sv := .own (newId d 0), ow := (newId d 0, some (.row et e (r ++ q.1) false (u && (flatB e || q.2.2)))) :: (id, none) :: (bif flatB e then [] else metFreeze q.2.1), ok := roomB P et (r.length + q.1.length) }
                else .fail
              else .fail
            | _ => .fail
          | _ => .fail
        else .fail
      else .fail
    | none => .fail
  | _, _ => .fail

/-- The arguments of a call, as the contract has them. -/
def argsM : List AK → List SV → M (List DC × Met)
  | [], [] => .pure ([], [])
  | k :: ks, s :: ss =>
    (match k.agg, s with
      | true, .agg cs => toDCs k.cts cs
      | true, _ => .fail
      | false, .agg _ => .fail
      | false, s => toDCs k.cts [s]).bind fun r => (argsM ks ss).bind fun q => .pure (r.1 ++ q.1, r.2.1 ++ q.2)
  | _, _ => .fail

/-- The results' cells: rows of the call's own become objects. -/
def resCells (d : Nat) : Nat → List RC → List DC → List SV × List (Nat × Option VObj)
  | _, [], _ => ([], [])
  | k, .imm c :: rs, ds => let q := resCells d k rs ds.tail; (ofDC c (ds.headD default) :: q.1, q.2)
  | k, .own t e :: rs, ds =>
    let q := resCells d (k + 1) rs ds.tail
    (.own (newId d k) :: q.1, (newId d k, some (.row t e (ds.headD default).asRows false true)) :: q.2)

def ownCount : List RC → Nat
  | [] => 0
  | .imm _ :: l => ownCount l
  | .own _ _ :: l => ownCount l + 1

def resVals (d : Nat) : Nat → List RK → List DC → List SV × List (Nat × Option VObj)
  | _, [], _ => ([], [])
  | k, r :: rs, ds =>
    let q := resCells d k r.cells (ds.take r.cells.length)
    let p := resVals d (k + ownCount r.cells) rs (ds.drop r.cells.length)
    ((bif r.agg then .agg q.1 else q.1.headD .unk) :: p.1, q.2 ++ p.2)

def immSl : List RC → Bool
  | [] => false
  | .imm (.sl _) :: _ => true
  | _ :: l => immSl l
def shares (s : Sum) : Bool := s.rs.any fun r => immSl r.cells

def ownTotal : List RK → Nat
  | [] => 0
  | r :: rs => ownCount r.cells + ownTotal rs

def packSV : List SV → SV
  | [x] => x
  | l => .tup l

/-- An object that a call may turn. -/
inductive MU where
  | box (id : Nat) (t : TypeId) (cs : List CT)
  | row (id : Nat) (t : TypeId) (e : List CT) (u : Bool)
  | non

def muIds : List MU → List Nat
  | [] => []
  | .box id _ _ :: l => id :: muIds l
  | .row id _ _ _ :: l => id :: muIds l
  | .non :: l => muIds l

/-- The cells of an argument whose rows are written in place. -/
def rowCellsM : List CT → List TypeId → List SV → M (List DC × List MU)
  | [], [], [] => .pure ([], [])
  | .sl e :: cs, t :: ts, s :: ss =>
    (match s with
      | .own id => .obj id fun
        | .row t' e' r false u => bif Nat.beq t' t && ctsBeq e' e && flatB e then .pure (.sl r, .row id t' e' u) else .fail
        | _ => .fail
      | .nil => bif flatB e then .pure (.sl [], .non) else .fail
      | _ => .fail : M (DC × MU)).bind fun q => (rowCellsM cs ts ss).bind fun r => .pure (q.1 :: r.1, q.2 :: r.2)
  | .int k :: cs, ts, s :: ss => (toDC (.int k) s).bind fun q => (rowCellsM cs ts ss).bind fun r => .pure (q.1 :: r.1, r.2)
  | .bool :: cs, ts, s :: ss => (toDC .bool s).bind fun q => (rowCellsM cs ts ss).bind fun r => .pure (q.1 :: r.1, r.2)
  | .str :: cs, ts, s :: ss => (toDC .str s).bind fun q => (rowCellsM cs ts ss).bind fun r => .pure (q.1 :: r.1, r.2)
  | _, _, _ => .fail

/-- The arguments of a call that may turn some. -/
def argsMM : List AK → List (Option MK) → List SV → M (List DC × Met × List MU)
  | [], [], [] => .pure ([], [], [])
  | k :: ks, none :: ms, s :: ss =>
    (match k.agg, s with
      | true, .agg cs => toDCs k.cts cs
      | true, _ => .fail
      | false, .agg _ => .fail
      | false, s => toDCs k.cts [s]).bind fun r => (argsMM ks ms ss).bind fun q => .pure (r.1 ++ q.1, r.2.1 ++ q.2.1, q.2.2)
  | k :: ks, some (.box t) :: ms, .ptr id 0 :: ss => .obj id fun
    | .box t' cells =>
      bif Nat.beq t' t then
        (toDCs k.cts cells).bind fun r => bif r.2.1.isEmpty then (argsMM ks ms ss).bind fun q => .pure (r.1 ++ q.1, q.2.1, .box id t' k.cts :: q.2.2) else .fail
      else .fail
    | _ => .fail
  | k :: ks, some (.rows ts) :: ms, s :: ss =>
    (match k.agg, s with
      | true, .agg cs => rowCellsM k.cts ts cs
      | true, _ => .fail
      | false, .agg _ => .fail
      | false, s => rowCellsM k.cts ts [s]).bind fun r => (argsMM ks ms ss).bind fun q => .pure (r.1 ++ q.1, q.2.1, r.2 ++ q.2.2)
  | _, _, _ => .fail

/-- What the objects are behind the call. -/
def muOw : List MU → List DC → List (Nat × Option VObj)
  | [], _ => []
  | .box id t cs :: l, ds => (id, some (.box t (ofDCs cs ds 0))) :: muOw l (ds.drop cs.length)
  | .row id t e u :: l, ds => (id, some (.row t e (ds.headD default).asRows false u)) :: muOw l ds.tail
  | .non :: l, ds => muOw l ds.tail

def resCount : List RK → Nat
  | [] => 0
  | r :: rs => r.cells.length + resCount rs

def nodupB : List Nat → Bool
  | [] => true
  | i :: l => !(l.any fun j => Nat.beq j i) && nodupB l

def callMM (s : Sum) (d : Option Nat) (args : List SV) : M Eff :=
  bif Nat.blt (ownTotal s.rs) 64 && !(shares s) && (d.isSome || s.rs.isEmpty) then
    (argsMM s.ps s.ms args).bind fun r =>
      bif metNodup r.2.1 && nodupB (muIds r.2.2) && (muIds r.2.2).all (fun i => metNot i r.2.1) then
        .pure { sv := packSV (resVals (d.getD 0) 0 s.rs (s.fn r.1).2).1, ow := (resVals (d.getD 0) 0 s.rs (s.fn r.1).2).2 ++ (muOw r.2.2 ((s.fn r.1).2.drop (resCount s.rs)) ++ metFreeze r.2.1), ok := (s.fn r.1).1 }
      else .fail
  else .fail

def callM (Γ : Ctx) (d : Option Nat) (g : Nat) (args : List SV) : M Eff :=
  match lkS Γ g with
  | some s =>
    match s.ms, d with
    | [], some d =>
      bif Nat.blt (ownTotal s.rs) 64 then
        (argsM s.ps args).bind fun r =>
          bif !(shares s) || metNodup r.2 then
            .pure { sv := packSV (resVals d 0 s.rs (s.fn r.1).2).1, ow := (resVals d 0 s.rs (s.fn r.1).2).2 ++ (bif shares s then metFreeze r.2 else []), ok := (s.fn r.1).1 }
          else .fail
      else .fail
    | [], none => .fail
    | _ :: _, d => callMM s d args
  | none => .fail

def minM (mx : Bool) (x y : SV) : M Eff :=
  match x, y with
  | .int k a, .int k' b => bif decide (k = k') then .pure { sv := .int k (bif mx then (if a < b then b else a) else (if b < a then b else a)) } else .fail
  | _, _ => .fail

def evalOp (P : Program) (Γ : Ctx) (o : Oper) : M Eff :=
  match o.op with
  | .move x => (evM x).bind fun s => .pure { sv := s }
  | .assign x => (evM x).bind fun s => .pure { sv := s }
  | .pick c a b => (evM c).bind fun c => (evM a).bind fun a => (evM b).bind fun b =>
    match c with
    | .kb t => .pure { sv := bif t then a else b }
    | .bool g => .pure { sv := mergeSV g a b }
    | _ => .fail
  | .alloc t => match o.dst with
    | some d => (zeroM P t).bind fun z => .pure { sv := .ptr (newId d 0) 0, ow := [(newId d 0, some (.box t z))] }
    | none => .fail
  | .box t x => match o.dst with
    | some d => (evM x).bind fun s => (cellsOfSV s).bind fun cs => .pure { sv := .ptr (newId d 0) 0, ow := [(newId d 0, some (.box t cs))] }
    | none => .fail
  | .build t parts => match P.underlying t with
    | some (.struct fs) => match fs.toList.mapM (fun f => (P.info? f.type).map fun i => (f.offset, i.size)) with
      | some _ => (zeroM P t).bind fun z => (buildM P fs parts.toList z).bind fun cs => .pure { sv := .agg cs }
      | none => .fail
    | _ => .fail
  | .buildSlice t len parts => match P.underlying t, o.dst with
    | some (.slice et), some d => match ctsOf P 16 et with
      | some e => bif sizeB P et e.length && Nat.blt 0 e.length && Nat.beq len parts.toList.length && Nat.ble (len * e.length) 16777216 then
          (zeroM P et).bind fun _ => (buildRowsM e 0 parts.toList).bind fun q =>
            bif metNodup q.2.1 then
              .pure { sv := .own (newId d 0), ow := (newId d 0, some (.row et e q.1 false q.2.2)) :: metFreeze q.2.1 }
            else .fail
        else .fail
      | none => .fail
    | _, _ => .fail
  | .load t x => (evM x).bind fun s => loadM P t s
  | .store t x y => (evM x).bind fun a => (evM y).bind fun v => storeM P t a v
  | .nilCheck x => (evM x).bind fun s => match s with
    | .ptr .. => .pure { sv := s }
    | .eimm .. => .pure { sv := s }
    | .eown .. => .pure { sv := s }
    | _ => .fail
  | .binOp op t x y _ => (evM x).bind fun a => (evM y).bind fun b => binM P t op a b
  | .unOp op _ x => (evM x).bind fun a => unM op a
  | .convert s t x => (evM x).bind fun a => convM P o.dst s t a
  | .makeSlice t l c => (evM l).bind fun l => (evM c).bind fun c => makeM P o.dst t l c
  | .slice t x lo hi mx => match mx with
    | none => (evM x).bind fun s => (evMo lo).bind fun l => (evMo hi).bind fun h => sliceM P t s l h
    | some _ => .fail
  | .fieldAddr t x f => match P.underlying t with
    | some (.struct fs) => match fs[f]? with
      | some fd => bif sizeB P fd.type 0 then .fail else match P.info? fd.type with
        | none => .fail
        | some _ => (evM x).bind fun s => match s with
          | .ptr id off => .pure { sv := .ptr id (off + fd.offset) }
          | .eimm e r off => .pure { sv := .eimm e r (off + fd.offset) }
          | .eown id i z off => .pure { sv := .eown id i z (off + fd.offset) }
          | _ => .fail
      | none => .fail
    | _ => .fail
  | .indexAddr t x i => (evM x).bind fun s => (evM i).bind fun n => indexAddrM P t s n
  | .index t x i => (evM x).bind fun s => (evM i).bind fun n => indexM P t s n
  | .extract x i => (evM x).bind fun s => match s with
    | .tup vs => match vs[i]? with
      | some v => .pure { sv := v }
      | none => .fail
    | _ => .fail
  | .call c => match c.callee with
    | .value (.func g) => (evMs c.args.toList).bind fun l => callM Γ o.dst g l
    | .builtin .len => match c.args.toList, c.argTypes.toList with
      | [x], [t] => (evM x).bind fun s => lenM P t s
      | _, _ => .fail
    | .builtin .min => match c.args.toList with
      | [x, y] => (evM x).bind fun a => (evM y).bind fun b => minM false a b
      | _ => .fail
    | .builtin .max => match c.args.toList with
      | [x, y] => (evM x).bind fun a => (evM y).bind fun b => minM true a b
      | _ => .fail
    | .builtin .append => match c.args.toList, c.argTypes.toList with
      | [s, x], [t, t'] => bif Nat.beq t t' then (evM s).bind fun a => (evM x).bind fun b => appendM P o.dst t a b else .fail
      | _, _ => .fail
    | _ => .fail
  | _ => .fail

/-- The state of a run. -/
structure St where
  n : Nat
  sl : List (Nat × SV)
  hp : List (Nat × VObj)
  ok : Bool
  ls : List Nat
  lm : List Nat

def lkV : List (Nat × SV) → Nat → SV
  | [], _ => .unk
  | (k, s) :: l, i => bif Nat.beq k i then s else lkV l i
def lkO : List (Nat × VObj) → Nat → Option VObj
  | [], _ => none
  | (k, s) :: l, i => bif Nat.beq k i then some s else lkO l i
def erO : List (Nat × VObj) → Nat → List (Nat × VObj)
  | [], _ => []
  | (k, s) :: l, i => bif Nat.beq k i then erO l i else (k, s) :: erO l i

def St.get (st : St) (i : Nat) : SV := lkV st.sl i
def St.obj (st : St) (i : Nat) : Option VObj := lkO st.hp i

/-- What it reads: slots, objects. -/
def M.run {α : Type} (f : Nat → SV) (h : Nat → Option VObj) : M α → Option (α × List Nat × List Nat)
  | .pure a => some (a, [], [])
  | .fail => none
  | .slot i k => match (k (f i)).run f h with
    | some (a, s, o) => some (a, i :: s, o)
    | none => none
  | .obj i k => match h i with
    | some x => match (k x).run f h with
      | some (a, s, o) => some (a, s, i :: o)
      | none => none
    | none => none

def St.fail (st : St) : St := { st with ok := false, sl := [], hp := [] }

def writeCells : List SV → Nat → List SV → List SV
  | cells, off, svs => cells.take off ++ (svs ++ cells.drop (off + svs.length))

def putO : List (Nat × Option VObj) → List (Nat × VObj) → List (Nat × VObj)
  | [], h => h
  | (i, some o) :: l, h => (i, o) :: erO (putO l h) i
  | (i, none) :: l, h => erO (putO l h) i

def putC : Option (Nat × Nat × List SV) → List (Nat × VObj) → List (Nat × VObj)
  | none, h => h
  | some (i, off, svs), h => match lkO h i with
    | some (.box t cells) => (i, .box t (writeCells cells off svs)) :: erO h i
    | _ => h

def St.apply (st : St) (d : Option Nat) (e : Eff) : St :=
  { n := st.n
    sl := match d with | some d => (d, e.sv) :: st.sl | none => st.sl
    hp := putO e.ow (putC e.cw st.hp)
    ok := andt (andt st.ok e.ok) (match d with | some d => dstB d st.n | none => true)
    ls := match d with | some d => d :: st.ls | none => st.ls
    lm := (match e.cw with | some (i, _) => [i] | none => []) ++ (e.ow.map (·.1) ++ st.lm) }

def St.skip (st : St) (d : Option Nat) : St := st.apply d { sv := .undef }

def memN (i : Nat) : List Nat → Bool
  | [] => false
  | k :: l => Nat.beq k i || memN i l

/-- Two ways meet: only slots that one of them wrote are joined; the objects are those from before. -/
def mergeSl (g : Bool) (f h : Nat → SV) : List Nat → List (Nat × SV) → List (Nat × SV)
  | [], l => l
  | i :: r, l => (i, mergeSV g (f i) (h i)) :: mergeSl g f h r l

def dedup : List Nat → List Nat
  | [] => []
  | i :: l => bif memN i l then dedup l else i :: dedup l

/-- No object of before was turned. -/
def untouched (hp : List (Nat × VObj)) : List Nat → Bool
  | [] => true
  | i :: l => (match lkO hp i with | some _ => false | none => true) && untouched hp l

def St.reset (st : St) : St := { st with ls := [], lm := [] }

/-- 'if g then x else y', and plainly true where both are. -/
def okm (g x y : Bool) : Bool := bif x && y then true else bif g then x else y

theorem okm_eq (g x y : Bool) : okm g x y = bif g then x else y := by cases g <;> cases x <;> cases y <;> rfl

def merge (pre : St) (g : Bool) (a b : St) : St :=
  bif untouched pre.hp a.lm && untouched pre.hp b.lm then
    { n := pre.n
      sl := mergeSl g a.get b.get (dedup (a.ls ++ b.ls)) pre.sl
      hp := pre.hp
      ok := okm g a.ok b.ok
      ls := dedup (a.ls ++ b.ls) ++ pre.ls
      lm := pre.lm }
  else pre.fail

def isUnk : SV → Bool
  | .unk => true
  | .undef => true
  | _ => false

/-- Nothing is lost where the two ways meet. -/
def lossless (g : Bool) (f h : Nat → SV) : List Nat → Bool
  | [] => true
  | i :: r => (isUnk (f i) || isUnk (h i) || !(isUnk (mergeSV g (f i) (h i)))) && lossless g f h r

def mergeable (pre : St) (g : Bool) (a b : St) : Bool :=
  untouched pre.hp a.lm && untouched pre.hp b.lm && lossless g a.get b.get (dedup (a.ls ++ b.ls))

def St.know (st : St) (s : Nat) (b : Bool) : St := { st with sl := (s, .kb b) :: st.sl, ls := s :: st.ls }

mutual
def svIds : SV → List Nat
  | .own i => [i]
  | .ptr i _ => [i]
  | .eown i _ _ _ => [i]
  | .agg l => svIdsL l
  | .tup l => svIdsL l
  | _ => []
def svIdsL : List SV → List Nat
  | [] => []
  | a :: l => svIds a ++ svIdsL l
end

def objIds : VObj → List Nat
  | .box _ cells => svIdsL cells
  | _ => []

def effIds (e : Eff) : List Nat :=
  svIds e.sv ++ ((match e.cw with | some (_, _, svs) => svIdsL svs | none => []) ++ e.ow.flatMap fun x => x.1 :: (match x.2 with | some o => objIds o | none => []))

/-- What an operation did, for the look at the orders: its number, its slot, the slots and objects that it read, the objects that it turned, the objects that it names. -/
structure OpLog where
  i : Nat
  d : Option Nat
  rs : List Nat
  ro : List Nat
  wo : List Nat
  m : List Nat

def dsts : List Oper → List Nat
  | [] => []
  | o :: l => match o.dst with | some d => d :: dsts l | none => dsts l

def noneOf (ds : List Nat) : List Nat → Bool
  | [] => true
  | i :: l => !(memN (i / 64) ds) && noneOf ds l

/-- No slot and no object of the state bears an identity that the region may make. -/
def freshFor (ds : List Nat) (st : St) : Bool :=
  (st.sl.all fun x => noneOf ds (svIds x.2)) && (st.hp.all fun x => noneOf ds (x.1 :: objIds x.2))

def freshOk (d : Option Nat) (e : Eff) (st : St) : Bool :=
  match e.ow, d with
  | _ :: _, some d => freshFor [d] st
  | _, _ => true

def St.doOp (P : Program) (Γ : Ctx) (st : St) (o : Oper) : St :=
  match (evalOp P Γ o).run st.get st.obj with
  | some (e, _) => bif freshOk o.dst e st then st.apply o.dst e else st.fail
  | none => st.fail

def unionN : List Nat → List Nat → List Nat
  | [], m => m
  | i :: l, m => bif memN i m then unionN l m else i :: unionN l m

/-- For each operation in turn, those that come before it whatever the order. -/
def ancs : List Oper → List (List Nat) → List (List Nat)
  | [], acc => acc
  | o :: l, acc => ancs l (acc ++ [o.after.toList.foldr (fun e r => bif Region.binds .any e then unionN (unionN [e.on] (acc.getD e.on [])) r else r) []])

/-- What comes before an operation whatever the order stands before it in the text. -/
def edgesOk : List Oper → Nat → Bool
  | [], _ => true
  | o :: l, i => (o.after.toList.all fun e => !(Region.binds .any e) || Nat.blt e.on i) && edgesOk l (i + 1)

def anyIn (l : List Nat) : List Nat → Bool
  | [] => false
  | i :: m => memN i l || anyIn l m

def optN : Option Nat → List Nat
  | some d => [d]
  | none => []

/-- Two operations, the first ahead of the second in the text, that may not be exchanged. -/
def clash (a b : OpLog) : Bool :=
  anyIn (optN a.d) (b.rs ++ optN b.d) || anyIn a.rs (optN b.d) || anyIn a.wo (b.ro ++ b.wo) || anyIn a.ro b.wo ||
  (match a.d with | some d => b.m.any fun i => Nat.beq (i / 64) d | none => false)

def clash1 (b a : OpLog) : Bool := match b.d with | some d => a.m.any fun i => Nat.beq (i / 64) d | none => false

def pairsOk (an : List (List Nat)) (a : OpLog) : List OpLog → Bool
  | [] => true
  | b :: l => (!(clash a b) || memN a.i (an.getD b.i [])) && !(clash1 b a) && pairsOk an a l

def allOk (an : List (List Nat)) : List OpLog → Bool
  | [] => true
  | a :: l => pairsOk an a l && allOk an l

def guardSlot (ops : Array Oper) (o : Oper) : List Nat :=
  match o.guard with
  | some (j, _) => optN ((ops[j]?).bind (·.dst))
  | none => []

def logOf (P : Program) (Γ : Ctx) (ops : Array Oper) (i : Nat) (st : St) (o : Oper) : OpLog :=
  match (evalOp P Γ o).run st.get st.obj with
  | some (e, s, r) => ⟨i, o.dst, guardSlot ops o ++ s, (match e.cw with | some (i, _) => [i] | none => []) ++ r, (match e.cw with | some (i, _) => [i] | none => []) ++ e.ow.map (·.1), effIds e⟩
  | none => ⟨i, o.dst, [], [], [], []⟩

def skipLog (ops : Array Oper) (i : Nat) (o : Oper) : OpLog := ⟨i, o.dst, guardSlot ops o, [], [], []⟩

/-- Whether an operation is wanted; none where that is not known. -/
def wantB (ops : Array Oper) (st : St) (o : Oper) : Option Bool :=
  match o.guard with
  | none => some true
  | some (j, want) =>
    match (ops[j]?).bind (·.dst) with
    | none => none
    | some s =>
      match st.get s with
      | .kb b => some (b == want)
      | .undef => some false
      | _ => none

/-- A region in the order of its text; where a slot is a guard its value is parted at once; at the end of each way the look 'chk' at what was done. -/
def execOps (P : Program) (Γ : Ctx) (ops : Array Oper) (gs : List Nat) (chk : List OpLog → Bool) : List Oper → Nat → List OpLog → St → St
  | [], _, acc, st => { st with ok := andt st.ok (chk acc) }
  | o :: rest, i, acc, st =>
    match wantB ops st o with
    | none => st.fail
    | some false => execOps P Γ ops gs chk rest (i + 1) (acc ++ [skipLog ops i o]) (st.skip o.dst)
    | some true =>
      match o.dst with
      | none => execOps P Γ ops gs chk rest (i + 1) (acc ++ [logOf P Γ ops i st o]) (st.doOp P Γ o)
      | some s =>
        bif memN s gs then
          match (st.doOp P Γ o).get s with
          | .bool g => merge (st.doOp P Γ o) g (execOps P Γ ops gs chk rest (i + 1) (acc ++ [logOf P Γ ops i st o]) ((st.doOp P Γ o).reset.know s true))
              (execOps P Γ ops gs chk rest (i + 1) (acc ++ [logOf P Γ ops i st o]) ((st.doOp P Γ o).reset.know s false))
          | _ => execOps P Γ ops gs chk rest (i + 1) (acc ++ [logOf P Γ ops i st o]) (st.doOp P Γ o)
        else execOps P Γ ops gs chk rest (i + 1) (acc ++ [logOf P Γ ops i st o]) (st.doOp P Γ o)

def guardSlots (ops : Array Oper) : List Oper → List Nat
  | [] => []
  | o :: l => guardSlot ops o ++ guardSlots ops l

def execRegion (P : Program) (Γ : Ctx) (ops : Array Oper) (draw : Bool) (st : St) : St :=
  bif draw then
    bif freshFor (dsts ops.toList) st && edgesOk ops.toList 0 && P.follows .mixedOrders then execOps P Γ ops (guardSlots ops ops.toList) (allOk (ancs ops.toList [])) ops.toList 0 [] st else st.fail
  else execOps P Γ ops (guardSlots ops ops.toList) (fun _ => true) ops.toList 0 [] st

def simple : Code → Bool
  | .skip => true
  | .region _ _ _ => true
  | .seq a b => simple a && simple b
  | .cond _ a b => simple a && simple b
  | _ => false

def ev (st : St) : Operand → SV
  | .tmp t => st.get t
  | .const v => ofConst v
  | _ => .unk

def St.knowC (st : St) (c : Operand) (b : Bool) : St :=
  match c with
  | .tmp t => st.know t b
  | _ => st

def exec (P : Program) (Γ : Ctx) : Code → St → St
  | .skip, st => st
  | .region _ ops draw, st => execRegion P Γ ops draw st
  | .seq a b, st => exec P Γ b (exec P Γ a st)
  | .cond c a b, st =>
    match ev st c with
    | .kb t => bif t then exec P Γ a st else exec P Γ b st
    | .bool g => merge st g (exec P Γ a (st.reset.knowC c true)) (exec P Γ b (st.reset.knowC c false))
    | _ => st.fail
  | _, st => st.fail

abbrev Res := Bool × List DC
def bad : Res := (false, [])

/-- How a cell is brought into form at a loop's head. -/
inductive CK where
  | asis
  | own (t : TypeId)
  | imm (t : TypeId)

structure Ann where
  slots : List (Nat × CK)
  boxes : List (Nat × List (Nat × CK))

def lkA : List (Nat × Ann) → Nat → Option Ann
  | [], _ => none
  | (k, s) :: l, i => bif Nat.beq k i then some s else lkA l i
def lkK : List (Nat × CK) → Nat → CK
  | [], _ => .asis
  | (k, s) :: l, i => bif Nat.beq k i then s else lkK l i

/-- A cell in form: what it holds; the row that it names anew, and the name that the row had. -/
def canonCell (P : Program) (hp : List (Nat × VObj)) (ck : CK) (nid : Nat) (s : SV) : SV × List (Nat × VObj × Option Nat) :=
  match s with
  | .own id => match lkO hp id with
    | some (.row t e r fz u) => match ck with
      | .imm _ => (.unk, [])
      | _ => (.own nid, [(nid, .row t e r fz u, some id)])
    | some (.imm e r) => (.sl e r, [])
    | _ => (.unk, [])
  | .nil => match ck with
    | .own t => match ctsOf P 16 t with
      | some e => (.own nid, [(nid, .row t e [] false true, none)])
      | none => (.unk, [])
    | .imm t => match ctsOf P 16 t with
      | some e => (.sl e [], [])
      | none => (.unk, [])
    | .asis => (.nil, [])
  | .kb b => (.bool b, [])
  | .agg _ => (.unk, [])
  | .tup _ => (.unk, [])
  | .eown .. => (.unk, [])
  | s => (s, [])

def canonSlots (P : Program) (st : St) : List (Nat × CK) → List (Nat × SV) × List (Nat × VObj × Option Nat)
  | [] => ([], [])
  | (i, ck) :: l =>
    let c := canonCell P st.hp ck (newId (10000 + i) 0) (st.get i)
    let q := canonSlots P st l
    ((i, c.1) :: q.1, c.2 ++ q.2)

def canonCells (P : Program) (hp : List (Nat × VObj)) (cks : List (Nat × CK)) (b : Nat) : Nat → List SV → List SV × List (Nat × VObj × Option Nat)
  | _, [] => ([], [])
  | k, s :: l =>
    let c := canonCell P hp (lkK cks k) (newId (20000 + b * 4) k) s
    let q := canonCells P hp cks b (k + 1) l
    (c.1 :: q.1, c.2 ++ q.2)

def canonBoxes (P : Program) (hp : List (Nat × VObj)) : List (Nat × List (Nat × CK)) → List (Nat × VObj) × List (Nat × VObj × Option Nat)
  | [] => ([], [])
  | (b, cks) :: l =>
    let q := canonBoxes P hp l
    match lkO hp b with
    | some (.box t cells) =>
      let c := canonCells P hp cks b 0 cells
      ((b, .box t c.1) :: q.1, c.2 ++ q.2)
    | _ => q

def nodupN : List Nat → Bool
  | [] => true
  | i :: l => !(memN i l) && nodupN l

def oldIds : List (Nat × VObj × Option Nat) → List Nat
  | [] => []
  | (_, _, some i) :: l => i :: oldIds l
  | (_, _, none) :: l => oldIds l

def canon (P : Program) (an : Ann) (st : St) : St :=
  let s := canonSlots P st an.slots
  let b := canonBoxes P st.hp an.boxes
  let rows := s.2 ++ b.2
  bif nodupN (oldIds rows) && nodupN (b.1.map (·.1) ++ rows.map (·.1)) then
    { n := st.n, sl := s.1, hp := b.1 ++ rows.map (fun x => (x.1, x.2.1)), ok := st.ok, ls := [], lm := [] }
  else st.fail

/-- Where all held so far, on; else nothing. -/
def St.gd (st : St) (k : St → Res) : Res := bif st.ok then k { st with ok := true } else bad

theorem gd_eq {st : St} {k : St → Res} {r : List DC} (h : st.gd k = (true, r)) : k st = (true, r) := by
  unfold St.gd at h
  cases hk : st.ok with
  | true =>
    rw [hk] at h
    obtain ⟨_, _, _, _, _, _⟩ := st
    subst hk
    exact h
  | false =>
    rw [hk] at h
    exact absurd (congrArg Prod.fst h) (by simp [bad])

structure Kont where
  nrm : St → Res
  ext : Nat → St → Res
  ret : St → Res

/-- The first region's number in a piece of code: it names a loop. -/
def firstReg : Code → Option Nat
  | .region id _ _ => some id
  | .seq a b => match firstReg a with | some i => some i | none => firstReg b
  | .cond _ a b => match firstReg a with | some i => some i | none => firstReg b
  | .block _ a => firstReg a
  | .loop a => firstReg a
  | _ => none

def run (P : Program) (Γ : Ctx) (A : List (Nat × Ann)) (N : Nat) : Code → St → Kont → Res
  | .skip, st, K => K.nrm st
  | .region _ ops draw, st, K => (execRegion P Γ ops draw st).gd K.nrm
  | .seq a b, st, K => run P Γ A N a st { nrm := fun s => run P Γ A N b s K, ext := K.ext, ret := K.ret }
  | .cond c a b, st, K =>
    match ev st c with
    | .kb t => bif t then run P Γ A N a st K else run P Γ A N b st K
    | .bool g =>
      bif simple a && simple b && mergeable st g (exec P Γ a (st.reset.knowC c true)) (exec P Γ b (st.reset.knowC c false)) then
        (merge st g (exec P Γ a (st.reset.knowC c true)) (exec P Γ b (st.reset.knowC c false))).gd K.nrm
      else bif g then run P Γ A N a (st.knowC c true) K else run P Γ A N b (st.knowC c false) K
    | _ => bad
  | .block id a, st, K => run P Γ A N a st { nrm := K.nrm, ext := fun i s => bif Nat.beq i id then K.nrm s else K.ext i s, ret := K.ret }
  | .loop a, st, K =>
    match (firstReg a).bind (lkA A) with
    | some an => (Nat.rec (motive := fun _ => St → Res) (fun _ => bad) (fun _ ih s => run P Γ A N a s { nrm := fun s' => ih (canon P an s'), ext := K.ext, ret := K.ret }) N) (canon P an st)
    | none => bad
  | .exit id, st, K => K.ext id st
  | .ret, st, K => K.ret st
  | _, _, _ => bad

/-- What a function hands back. -/
def resSVs (P : Program) : List ResultVar → M (List SV)
  | [] => .pure []
  | .tmp t :: l => .slot t fun s => (resSVs P l).bind fun r => .pure (s :: r)
  | .cell a t :: l => .slot a fun s => (match s with | .ptr id off => loadM P t (.ptr id off) | _ => .fail).bind fun e => (resSVs P l).bind fun r => .pure (e.sv :: r)

def finCell : RC → SV → M (DC × List Nat × List Nat)
  | .imm ct, s => (toDC ct s).bind fun q => .pure (q.1, [], q.2.1.map (·.1))
  | .own _ _, .nil => .pure (.sl [], [], [])
  | .own t e, .own id => .obj id fun
    | .row t' e' r false u => bif Nat.beq t t' && ctsBeq e e' && u then .pure (.sl r, [id], []) else .fail
    | _ => .fail
  | .own _ _, _ => .fail

def finCells : List RC → List SV → M (List DC × List Nat × List Nat)
  | [], [] => .pure ([], [], [])
  | c :: cs, s :: ss => (finCell c s).bind fun q => (finCells cs ss).bind fun r => .pure (q.1 :: r.1, q.2.1 ++ r.2.1, q.2.2 ++ r.2.2)
  | _, _ => .fail

def finVals : List RK → List SV → M (List DC × List Nat × List Nat)
  | [], [] => .pure ([], [], [])
  | k :: ks, s :: ss =>
    (match k.agg, s with
      | true, .agg cs => finCells k.cells cs
      | true, _ => .fail
      | false, .agg _ => .fail
      | false, s => finCells k.cells [s]).bind fun q => (finVals ks ss).bind fun r => .pure (q.1 ++ r.1, q.2.1 ++ r.2.1, q.2.2 ++ r.2.2)
  | _, _ => .fail

def fin (P : Program) (fn : Func) (s : Sum) (st : St) : Res :=
  match ((resSVs P fn.results.toList).bind fun l => finVals s.rs l).run st.get st.obj with
  | some ((ds, own, im), _) => (st.ok && nodupN own && im.all (fun i => !(memN i own)), ds)
  | none => bad

/-- The slots at the beginning: the arguments. -/
def initSl : Nat → List AK → List DC → List (Nat × SV)
  | _, [], _ => []
  | i, k :: ks, ds => (i, bif k.agg then .agg (ofDCs k.cts ds 0) else (ofDCs k.cts ds 0).headD .unk) :: initSl (i + 1) ks (ds.drop k.cts.length)

def runF (P : Program) (Γ : Ctx) (A : List (Nat × Ann)) (N : Nat) (fn : Func) (s : Sum) (ds : List DC) : Res :=
  match fn.body with
  | some c => run P Γ A N c { n := fn.ntmps, sl := initSl 0 s.ps ds, hp := [], ok := true, ls := [], lm := [] } { nrm := fin P fn s, ext := fun _ _ => bad, ret := fin P fn s }
  | none => bad

end Go.Proofs.Ytjknoknkbfhelaa.Vm
