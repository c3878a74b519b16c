/- The value machine: definitions, the relation to the model, plain operations. Conditions: as each lemma says. -/
import Derived.WalkKit
import Derived.Maps.AppendAt
import Derived.Orders
import Derived.Lib.Strings
namespace Go.Proofs.YtnlkklmcfafgeaaGreat.Vm
inductive CT where
 | int (k:IntKind)
 | bool
 | str
 | sl (e:List CT)
inductive DC where
 | int (n:Int)
 | bool (b:Bool)
 | str (s:List UInt8)
 | sl (rows:List (List DC))
instance:Inhabited DC:=⟨.int 0⟩
def Ei (x y:Bool):Bool:=bif y then x else false
theorem gr (x y:Bool):(Ei x y=true)=(x=true∧y=true):=by cases x<;>cases y<;>simp [Ei]
def DC.asInt:DC→Int
 | .int n=>n
 | _=>0
def DC.asBool:DC→Bool
 | .bool b=>b
 | _=>false
def DC.Gw:DC→List UInt8
 | .str s=>s
 | _=>[]
def DC.cq:DC→List (List DC)
 | .sl r=>r
 | _=>[]
inductive SV where
 | fy
 | undef
 | kb (b:Bool)
 | int (k:IntKind) (n:Int)
 | bool (b:Bool)
 | str (s:List UInt8)
 | sl (e:List CT) (rows:List (List DC))
 | nil
 | own (id:Nat)
 | agg (cs:List SV)
 | ptr (id off:Nat)
 | gN (e:List CT) (row:List DC) (off:Nat)
 | d9 (id i sz off:Nat)
 | DG (vs:List SV)
 | FW (g:Nat) (cs:List SV)
 | FR (id lo z:Nat)
instance:Inhabited SV:=⟨.fy⟩
inductive aj where
 | box (t:TypeId) (cells:List SV)
 | row (t:TypeId) (e:List CT) (rows:List (List DC)) (fz u:Bool)
 | d_ (e:List CT) (rows:List (List DC))
 | deep (t:TypeId) (e:List CT) (ts:List TypeId) (rows:List (List DC)) (hl:Option (Nat×Nat))
mutual
def kN:CT→CT→Bool
 | .int k,.int k'=>decide (k=k')
 | .bool,.bool=>true
 | .str,.str=>true
 | .sl e,.sl e'=>aF e e'
 | _,_=>false
def aF:List CT→List CT→Bool
 | [],[]=>true
 | a::l,b::m=>kN a b && aF l m
 | _,_=>false
end
def fF (P:Program):Nat→TypeId→Option (List CT)
 | 0,_=>none
 | n+1,t=>
  match P.underlying t with
  | some .bool=>some [.bool]
  | some (.int k)=>some [.int k]
  | some .string=>some [.str]
  | some (.slice e)=>match fF P n e with | some l=>some [.sl l] | none=>none
  | some (.struct fs)=>fs.toList.foldr (fun f r=>match fF P n f.type,r with | some l,some m=>some (l++m) | _,_=>none) (some [])
  | _=>none
def bj (P:Program) (t:TypeId):Bool:=
 match P.underlying t with
 | some (.struct _)=>true
 | some (.array _ _)=>true
 | _=>false
def BV (k:IntKind) (n:Int):Bool:=decide (k.min≤n) && decide (n≤k.max)
def ofConst:Value→SV
 | .bool b=> .kb b
 | .int k n=>bif BV k n then .int k n else .fy
 | .string s=>bif Nat.ble s.data.toList.length maxLen then .str s.data.toList else .fy
 | .slice none 0 0=> .nil
 | _=> .fy
def gg:CT→DC→SV
 | .int k,d=> .int k d.asInt
 | .bool,d=> .bool d.asBool
 | .str,d=> .str d.Gw
 | .sl e,d=> .sl e d.cq
def ch:List CT→List DC→Nat→List SV
 | [],_,_=>[]
 | c::cs,ds,k=>gg c (ds.getD k default)::ch cs ds (k+1)
inductive M (α:Type) where
 | pure (a:α)
 | fail
 | slot (i:Nat) (k:SV→M α)
 | obj (id:Nat) (k:aj→M α)
def M.bind {α β:Type} :M α→(α→M β)→M β
 | .pure a,f=>f a
 | .fail,_=> .fail
 | .slot i k,f=> .slot i fun s=>(k s).bind f
 | .obj i k,f=> .obj i fun s=>(k s).bind f
instance:Monad M where
 pure:=M.pure
 bind:=M.bind
structure cJ where
 sv:SV
 cw:Option (Nat×Nat×List SV):=none
 ow:List (Nat×Option aj):=[]
 ok:Bool:=true
structure AK where
 bD:List CT
 agg:Bool
inductive RC where
 | d_ (ct:CT)
 | own (t:TypeId) (e:List CT)
 | deep (t:TypeId) (e:List CT) (ts:List TypeId)
structure RK where
 cells:List RC
 agg:Bool
inductive TT where
 | flat (t:TypeId)
 | deep (t:TypeId) (its:List TypeId)
inductive MK where
 | box (t:TypeId)
 | rows (ts:List TT)
 | jA (ts:List TT)
 | cL (t:TypeId) (ts:List TT)
def eO (t:TT) (e:List CT) (rows:List (List DC)):aj:=
 match t with
 | .flat t=> .row t e rows false true
 | .deep t its=> .deep t e its rows none
def eY:List (Option MK)→Bool
 | []=>true
 | some (.box _)::_=>false
 | _::l=>eY l
structure Sum where
 ps:List AK
 rs:List RK
 fn:List DC→Bool×List DC
 ms:List (Option MK):=[]
 pt:Option (TypeId×List CT):=none
 G_:Bool:=false
abbrev Ctx:=List (Nat×Sum)
def Gh:Ctx→Nat→Option Sum
 | [],_=>none
 | (k,s)::l,i=>bif Nat.beq k i then some s else Gh l i
def cd:Operand→M SV
 | .tmp t=> .slot t .pure
 | .const v=> .pure (ofConst v)
 | _=> .fail
def DL:List Operand→M (List SV)
 | []=> .pure []
 | x::l=>(cd x).bind fun s=>(DL l).bind fun r=> .pure (s::r)
def aD:SV→M (List SV)
 | .agg cs=> .pure cs
 | .fy=> .fail
 | .undef=> .fail
 | .DG _=> .fail
 | .FW _ _=> .fail
 | .FR _ _ _=> .fail
 | s=> .pure [s]
mutual
def eD (g:Bool):SV→SV→SV
 | .undef,.undef=> .undef
 | .kb x,.kb y=>bif x==y then .kb x else .bool (bif x then g else !g)
 | .kb x,.bool y=> .bool (bif g then x else y)
 | .bool x,.kb y=> .bool (bif g then x else y)
 | .bool x,.bool y=> .bool (bif g then x else y)
 | .int k n,.int k' m=>bif decide (k=k') then .int k (bif g then n else m) else .fy
 | .str n,.str m=> .str (bif g then n else m)
 | .sl e r,.sl e' r'=>bif aF e e' then .sl e (bif g then r else r') else .fy
 | .sl e r,.nil=> .sl e (bif g then r else [])
 | .nil,.sl e r=> .sl e (bif g then [] else r)
 | .nil,.nil=> .nil
 | .own i,.own j=>bif Nat.beq i j then .own i else .fy
 | .ptr i o,.ptr j o'=>bif Nat.beq i j && Nat.beq o o' then .ptr i o else .fy
 | .gN e r o,.gN e' r' o'=>bif aF e e' && Nat.beq o o' then .gN e (bif g then r else r') o else .fy
 | .d9 i x z o,.d9 j y z' o'=>bif Nat.beq i j && Nat.beq z z' && Nat.beq o o' then .d9 i (bif g then x else y) z o else .fy
 | .agg l,.agg m=>bif Nat.beq l.length m.length then .agg (jh g l m) else .fy
 | .DG l,.DG m=>bif Nat.beq l.length m.length then .DG (jh g l m) else .fy
 | _,_=> .fy
def jh (g:Bool):List SV→List SV→List SV
 | a::l,b::m=>eD g a b::jh g l m
 | _,_=>[]
end
abbrev eZ:=List (Nat×List CT×List (List DC)×Bool)
def eP (ct:CT):SV→M (DC×eZ×Bool)
 | .int k n=>match ct with | .int k'=>bif decide (k=k') then .pure (.int n,[],true) else .fail | _=> .fail
 | .kb b=>match ct with | .bool=> .pure (.bool b,[],true) | _=> .fail
 | .bool b=>match ct with | .bool=> .pure (.bool b,[],true) | _=> .fail
 | .str s=>match ct with | .str=> .pure (.str s,[],true) | _=> .fail
 | .sl e r=>match ct with | .sl e'=>bif aF e e' then .pure (.sl r,[],false) else .fail | _=> .fail
 | .nil=>match ct with | .sl _=> .pure (.sl [],[],true) | _=> .fail
 | .own id=>match ct with
  | .sl e'=> .obj id fun
   | .row _ e r _ u=>bif aF e e' then .pure (.sl r,[(id,e,r,u)],u) else .fail
   | .d_ e r=>bif aF e e' then .pure (.sl r,[],false) else .fail
   | .deep _ e _ r none=>bif aF e e' then .pure (.sl r,[(id,e,r,true)],true) else .fail
   | _=> .fail
  | _=> .fail
 | _=> .fail
def cg:List CT→List SV→M (List DC×eZ×Bool)
 | [],[]=> .pure ([],[],true)
 | c::cs,s::ss=>(eP c s).bind fun d=>(cg cs ss).bind fun r=> .pure (d.1::r.1,d.2.1++r.2.1,d.2.2 && r.2.2)
 | _,_=> .fail
def aq:List CT→Bool
 | []=>true
 | .sl _::_=>false
 | _::l=>aq l
def aB:List CT→Nat
 | []=>0
 | .sl _::l=>aB l+1
 | _::l=>aB l
def fK:List TypeId→List TypeId→Bool
 | [],[]=>true
 | a::l,b::m=>Nat.beq a b && fK l m
 | _,_=>false
theorem gk:∀(a b:List TypeId),fK a b=true→a=b
 | [],[],_=>rfl
 | a::l,b::m,h=>by
  simp only[fK,Bool.and_eq_true] at h
  rw[Nat.eq_of_beq_eq_true h.1,gk l m h.2]
 | [],_::_,h=>by simp [fK] at h
 | _::_,[],h=>by simp [fK] at h
def Gu (P:Program):Nat→TypeId→Option (List TypeId)
 | 0,_=>none
 | n+1,t=>
  match P.underlying t with
  | some (.slice e)=>some [e]
  | some (.struct fs)=>fs.toList.foldr (fun f r=>match Gu P n f.type,r with | some l,some m=>some (l++m) | _,_=>none) (some [])
  | some _=>some []
  | none=>none
def aY (P:Program) (t:TypeId) (n:Nat):Bool:=
 match P.info? t with
 | some i=>Nat.beq i.size n
 | none=>false
def fv (P:Program) (t:TypeId) (n:Nat):Bool:=
 match P.info? t with
 | some i=>decide (n*i.bytes≤140737488355328) && decide (n≤9223372036854775807)
 | none=>false
def ag (d k:Nat):Nat:=d*64+k
def Hc (d n:Nat):Bool:=Nat.blt d (n % 1099511627776) && Nat.ble (n / 1099511627776) d
def bc (n d:Nat):Prop:=d<n % 1099511627776∧n / 1099511627776≤d
theorem lE {d n:Nat} (h:Hc d n=true):bc n d:=by
 unfold Hc at h
 rw[Bool.and_eq_true] at h
 exact⟨Nat.le_of_ble_eq_true h.1,Nat.le_of_ble_eq_true h.2⟩
def Fi (op:BinOp) (k:IntKind) (x y:Int):Option (SV×Bool):=
 match op with
 | .add=>some (.int k (k.wrap (x+y)),true)
 | .sub=>some (.int k (k.wrap (x - y)),true)
 | .mul=>some (.int k (k.wrap (x*y)),true)
 | .quo=>some (.int k (k.wrap (x.tdiv y)), !(y==0))
 | .rem=>some (.int k (x.tmod y), !(y==0))
 | .and=>some (.int k (bits .and k x y),true)
 | .or=>some (.int k (bits .or k x y),true)
 | .xor=>some (.int k (bits .xor k x y),true)
 | .andNot=>some (.int k (bits .andNot k x y),true)
 | .eql=>some (.bool (x==y),true)
 | .neq=>some (.bool (x != y),true)
 | .lss=>some (.bool (decide (x<y)),true)
 | .leq=>some (.bool (decide (x≤y)),true)
 | .gtr=>some (.bool (decide (y<x)),true)
 | .geq=>some (.bool (decide (y≤x)),true)
 | _=>none
end Go.Proofs.YtnlkklmcfafgeaaGreat.Vm
namespace Go.Proofs.YtnlkklmcfafgeaaGreat.Vm
def ai:eZ→List (Nat×Option aj)
 | []=>[]
 | (id,e,r,_)::l=>(id,some (.d_ e r))::ai l
def bS (id:Nat):eZ→Bool
 | []=>true
 | (i,_)::l=> !(Nat.beq i id) && bS id l
def aO:eZ→Bool
 | []=>true
 | (i,_)::l=>bS i l && aO l
def ld (e:List CT):SV→M (List (List DC)×eZ×Bool)
 | .nil=> .pure ([],[],true)
 | .sl e' r=>bif aF e e' then .pure (r,[],false) else .fail
 | .own id=> .obj id fun
  | .row _ e' r _ u=>bif aF e e' then .pure (r,[(id,e',r,u)],u) else .fail
  | .d_ e' r=>bif aF e e' then .pure (r,[],false) else .fail
  | _=> .fail
 | _=> .fail
def CO (P:Program) (t:TypeId):SV→M cJ
 | .ptr id off=> .obj id fun
  | .box _ cells=>
   bif bj P t then
    match P.info? t with
    | some i=>bif Nat.ble (off+i.size) cells.length then .pure {sv:= .agg ((cells.drop off).take i.size)} else .fail
    | none=> .fail
   else match cells[off]? with
    | some s=> .pure {sv:=s}
    | none=> .fail
  | _=> .fail
 | .gN e row off=>
  bif bj P t then
   match P.info? t with
   | some i=>bif Nat.ble (off+i.size) e.length then .pure {sv:= .agg (ch ((e.drop off).take i.size) row off)} else .fail
   | none=> .fail
  else match e[off]? with
   | some c=> .pure {sv:=gg c (row.getD off default)}
   | none=> .fail
 | .d9 id i z off=> .obj id fun
  | .row _ e rows _ _=>
   bif !(Nat.beq z e.length) then .fail else
   bif bj P t then
    match P.info? t with
    | some j=>bif Nat.ble (off+j.size) e.length then .pure {sv:= .agg (ch ((e.drop off).take j.size) (rows.getD i []) off),ok:=decide (i<rows.length)} else .fail
    | none=> .fail
   else match e[off]? with
    | some c=> .pure {sv:=gg c ((rows.getD i []).getD off default),ok:=decide (i<rows.length)}
    | none=> .fail
  | _=> .fail
 | _=> .fail
def mv (P:Program) (t:TypeId) (s:SV):M cJ:=
 match P.underlying t with
 | some _=>CO P t s
 | none=> .fail
def bT (row:List DC) (off:Nat) (ds:List DC):List DC:=row.take off++(ds++row.drop (off+ds.length))
def Bk (P:Program) (t:TypeId) (addr x:SV):M cJ:=
 (aD x).bind fun bO=>
 bif aY P t bO.length then
  match addr with
  | .ptr id off=> .obj id fun
   | .box _ cells=>bif Nat.ble (off+bO.length) cells.length then .pure {sv:= .undef,cw:=some (id,off,bO)} else .fail
   | _=> .fail
  | .d9 id i z off=> .obj id fun
   | .row t' e rows fz u=>
    bif Nat.beq z e.length && Nat.ble (off+bO.length) e.length then
     (cg ((e.drop off).take bO.length) bO).bind fun r=>
     bif bS id r.2.1 && aO r.2.1 then
      .pure {sv:= .undef,ow:=(id,some (.row t' e (rows.set i (bT (rows.getD i []) off r.1)) fz (u && r.2.2)))::ai r.2.1,ok:=decide (i<rows.length)}
     else .fail
    else .fail
   | _=> .fail
  | _=> .fail
 else .fail
def A8 (P:Program) (t:TypeId):Bool:=
 match P.underlying t with
 | some .bool=>true
 | _=>false
def Bz (P:Program) (t:TypeId) (op:BinOp) (a b:Bool):M cJ:=
 bif A8 P t then
  match op with
  | .eql=> .pure {sv:= .bool (a==b)}
  | .neq=> .pure {sv:= .bool (!(a==b))}
  | _=> .fail
 else .fail
def AO (P:Program) (t:TypeId) (xs:List SV) (off:Nat):Option (List SV):=
 bif bj P t then
  match P.info? t with
  | some i=>bif Nat.ble (off+i.size) xs.length then some ((xs.drop off).take i.size) else none
  | none=>none
 else match xs[off]? with
  | some x=>some [x]
  | none=>none
def fY (P:Program) (eqv:TypeId→List SV→List SV→Option Bool) (xs ys:List SV):List Field→Option Bool
 | []=>some true
 | f::fs=>
  bif f.name== "_" then none else
  match AO P f.type xs f.offset,AO P f.type ys f.offset with
  | some a,some b=>match eqv f.type a b,fY P eqv xs ys fs with
   | some c,some r=>some (bif c then r else false)
   | _,_=>none
  | _,_=>none
def lY (t:TypeDesc) (x y:SV):Option Bool:=
 match t,x,y with
 | .int _,.int k a,.int k' b=>bif decide (k=k') then some (a==b) else none
 | .string,.str a,.str b=>some (a==b)
 | .bool,.bool a,.bool b=>some (a==b)
 | .bool,.kb a,.bool b=>some (a==b)
 | .bool,.bool a,.kb b=>some (a==b)
 | _,_,_=>none
def Ah (P:Program):Nat→TypeId→List SV→List SV→Option Bool
 | 0,_,_,_=>none
 | n+1,t,xs,ys=>
  match P.underlying t with
  | some (.struct fs)=>bif P.stoodInHeld t then none else fY P (Ah P n) xs ys fs.toList
  | some d=>match xs,ys with
   | [x],[y]=>lY d x y
   | _,_=>none
  | none=>none
def Ih (P:Program) (t:TypeId) (op:BinOp) (xs ys:List SV):M cJ:=
 match P.underlying t with
 | some (.struct _)=>
  bif P.eqGuardType P.depth t then .fail else
  match Ah P 8 t xs ys,op with
  | some b,.eql=> .pure {sv:= .bool b}
  | some b,.neq=> .pure {sv:= .bool (!b)}
  | _,_=> .fail
 | _=> .fail
def Ha (P:Program) (t:TypeId) (op:BinOp) (x y:SV):M cJ:=
 match x,y with
 | .int k a,.int k' b=>
  match op with
  | .shl=> .pure {sv:= .int k (k.wrap (a*2 ^ (min b.toNat k.bits))),ok:=decide (0≤b)}
  | .shr=> .pure {sv:= .int k (a.fdiv (2 ^ (min b.toNat k.bits))),ok:=decide (0≤b)}
  | _=>bif decide (k=k') then
    match Fi op k a b with
    | some (s,c)=> .pure {sv:=s,ok:=c}
    | none=> .fail
   else .fail
 | .str a,.str b=>
  match op with
  | .add=> .pure {sv:= .str (a++b),ok:=decide (a.length+b.length≤9223372036854775807)}
  | .eql=> .pure {sv:= .bool (a==b)}
  | .neq=> .pure {sv:= .bool (!(a==b))}
  | _=> .fail
 | .bool a,.bool b=>Bz P t op a b
 | .kb a,.bool b=>Bz P t op a b
 | .bool a,.kb b=>Bz P t op a b
 | .agg xs,.agg ys=>Ih P t op xs ys
 | .sl _ r,.nil=>match P.underlying t,op with
  | some (.slice _),.eql=> .pure {sv:= .bool false,ok:=decide (0<r.length)}
  | some (.slice _),.neq=> .pure {sv:= .bool true,ok:=decide (0<r.length)}
  | _,_=> .fail
 | _,_=> .fail
def Ls (op:UnOp) (x:SV):M cJ:=
 match op,x with
 | .not,.kb b=> .pure {sv:= .kb (!b)}
 | .not,.bool b=> .pure {sv:= .bool (!b)}
 | .neg,.int k n=> .pure {sv:= .int k (k.wrap (0 - n))}
 | .xor,.int k n=> .pure {sv:= .int k (bits .xor k (if k.signed then -1 else k.max) n)}
 | _,_=> .fail
def byteOf (r:List DC):UInt8:=UInt8.ofNat (r.headD default).asInt.toNat
def cS (b:UInt8):List DC:=[.int b.toNat]
def Eu (P:Program) (d:Option Nat) (src dst:TypeId) (x:SV):M cJ:=
 match P.underlying dst,P.underlying src with
 | some (.int k),some _=>match x with
  | .int _ n=> .pure {sv:= .int k (k.wrap n)}
  | _=> .fail
 | some .string,some .string=>match x with
  | .str s=> .pure {sv:= .str s}
  | _=> .fail
 | some .string,some (.slice e)=>match P.underlying e with
  | some (.int .u8)=>(ld [.int .u8] x).bind fun r=> .pure {sv:= .str (r.1.map byteOf)}
  | _=> .fail
 | some (.slice e),some .string=>
  match P.underlying e,x,d with
  | some (.int .u8),.str s,some d=>bif aY P e 1 then .pure {sv:= .own (ag d 0),ow:=[(ag d 0,some (.row e [.int .u8] (s.map cS) true true))]} else .fail
  | _,_,_=> .fail
 | _,_=> .fail
def dM (P:Program) (t:TypeId):M (List SV):=
 match P.info? t with
 | some i=>match i.zero with
  | some z=>bif z.cells.toList.all (·.oneCell') then .pure (z.cells.toList.map ofConst) else .fail
  | none=> .fail
 | none=> .fail
def G1 (P:Program) (d:Option Nat) (t:TypeId) (l c:SV):M cJ:=
 match P.underlying t,l,c,d with
 | some (.slice et),.int .i64 n,.int .i64 m,some d=>
  match fF P 16 et,P.info? et with
  | some e,some i=>
   bif Nat.beq i.size e.length && Nat.blt 0 e.length then
    (dM P et).bind fun z=>(cg e z).bind fun r=>
     .pure {sv:= .own (ag d 0),ow:=[(ag d 0,some (.row et e (List.replicate n.toNat r.1) false true))],ok:=decide (0≤n) && decide (n≤m) && decide (m.toNat*i.bytes≤140737488355328) && decide (m≤9223372036854775807)}
   else .fail
  | _,_=> .fail
 | _,_,_,_=> .fail
def kf (P:Program) (fs:Array Field):List (Nat×Operand)→List SV→M (List SV)
 | [],cells=> .pure cells
 | (i,x)::rest,cells=>
  match fs[i]? with
  | some f=>(cd x).bind fun s=>(aD s).bind fun cs=>
   bif aY P f.type cs.length && Nat.ble (f.offset+cs.length) cells.length then
    kf P fs rest (cells.take f.offset++(cs++cells.drop (f.offset+cs.length)))
   else .fail
  | none=> .fail
def ek (e:List CT):Nat→List (Nat×Operand)→M (List (List DC)×eZ×Bool)
 | _,[]=> .pure ([],[],true)
 | k,(i,x)::rest=>
  bif Nat.beq i k then
   (cd x).bind fun s=>(aD s).bind fun cs=>(cg e cs).bind fun r=>(ek e (k+1) rest).bind fun q=>
    .pure (r.1::q.1,r.2.1++q.2.1,r.2.2 && q.2.2)
  else .fail
def dL (n:Nat) (lo hi:Option SV):Option (Nat×Nat×Bool):=
 match lo,hi with
 | none,none=>some (0,n,true)
 | some (.int _ l),none=>some (l.toNat,n,decide (0≤l) && decide (l≤n))
 | none,some (.int _ h)=>some (0,h.toNat,decide (0≤h) && decide (h≤n))
 | some (.int _ l),some (.int _ h)=>some (l.toNat,h.toNat,decide (0≤l) && decide (l≤h) && decide (h≤n))
 | _,_=>none
def kj:Option Operand→M (Option SV)
 | none=> .pure none
 | some x=>(cd x).bind fun s=> .pure (some s)
def C3 (P:Program) (t:TypeId) (x:SV) (lo hi:Option SV):M cJ:=
 match P.underlying t with
 | some .string=>match x with
  | .str s=>match dL s.length lo hi with
   | some (l,h,c)=> .pure {sv:= .str ((s.take h).drop l),ok:=c}
   | none=> .fail
  | _=> .fail
 | some (.slice et)=>
  match x with
  | .sl e r=>bif aY P et e.length then match dL r.length lo hi with
   | some (l,h,c)=> .pure {sv:= .sl e ((r.take h).drop l),ok:=c}
   | none=> .fail
   else .fail
  | .own id=> .obj id fun
   | .row t' e r false _=>bif Nat.beq t' et && aY P et e.length then match dL r.length lo hi with
    | some (l,h,c)=> .pure {sv:= .sl e ((r.take h).drop l),ow:=[(id,some (.d_ e r))],ok:=c}
    | none=> .fail
    else .fail
   | .d_ e r=>bif aY P et e.length then match dL r.length lo hi with
    | some (l,h,c)=> .pure {sv:= .sl e ((r.take h).drop l),ok:=c}
    | none=> .fail
    else .fail
   | _=> .fail
  | _=> .fail
 | _=> .fail
def C4 (P:Program) (t:TypeId) (x:SV) (lo hi:Option SV):M cJ:=
 match P.underlying t,x,lo,hi with
 | some (.slice et),.own id,some (.int _ l),none=> .obj id fun
  | .row t' e r _ _=>bif Nat.beq t' et && aY P et e.length then .pure {sv:= .FR id l.toNat e.length,ok:=decide (0≤l) && decide (l≤r.length) && decide (0<r.length)} else .fail
  | _=> .fail
 | _,_,_,_=> .fail
def lT (Γ:Ctx):Option Nat→Bool
 | some d=>match Gh Γ (1125899906842624+d) with | some s=>s.G_ | none=>false
 | none=>false
def Ev (P:Program) (t:TypeId) (x y:SV):M cJ:=
 match P.underlying t,x,y with
 | some (.slice et),.FR id lo z,.str s=> .obj id fun
  | .row t' e r fz u=>
   bif Nat.beq t' et && aY P et 1 && Nat.beq z 1 && aF e [.int .u8] then
    .pure {sv:= .int .i64 (min s.length (r.length - lo):Nat),ow:=[(id,some (.row t' e (r.take lo++(((s.take (r.length - lo)).map cS)++r.drop (lo+min s.length (r.length - lo)))) fz u))],ok:=decide (lo≤r.length)}
   else .fail
  | _=> .fail
 | _,_,_=> .fail
def gz (P:Program) (t:TypeId) (x i:SV):M cJ:=
 match P.underlying t,i with
 | some (.slice et),.int _ n=>
  match x with
  | .sl e r=>bif aY P et e.length then .pure {sv:= .gN e (r.getD n.toNat []) 0,ok:=decide (0≤n) && decide (n<r.length)} else .fail
  | .own id=> .obj id fun
   | .row _ e r _ _=>bif aY P et e.length then .pure {sv:= .d9 id n.toNat e.length 0,ok:=decide (0≤n) && decide (n<r.length)} else .fail
   | .d_ e r=>bif aY P et e.length then .pure {sv:= .gN e (r.getD n.toNat []) 0,ok:=decide (0≤n) && decide (n<r.length)} else .fail
   | _=> .fail
  | _=> .fail
 | _,_=> .fail
def CN (P:Program) (t:TypeId) (x i:SV):M cJ:=
 match P.underlying t,x,i with
 | some .string,.str s,.int _ n=> .pure {sv:= .int .u8 (s.getD n.toNat 0).toNat,ok:=decide (0≤n) && decide (n<s.length)}
 | _,_,_=> .fail
def Gg (P:Program) (t:TypeId) (x:SV):M cJ:=
 match P.underlying t,x with
 | some .string,.str s=> .pure {sv:= .int .i64 s.length}
 | some (.slice _),.nil=> .pure {sv:= .int .i64 0}
 | some (.slice _),.sl _ r=> .pure {sv:= .int .i64 r.length}
 | some (.slice _),.own id=> .obj id fun
  | .row _ _ r _ _=> .pure {sv:= .int .i64 r.length}
  | .d_ _ r=> .pure {sv:= .int .i64 r.length}
  | _=> .fail
 | _,_=> .fail
def De (P:Program) (d:Option Nat) (t:TypeId) (s x:SV):M cJ:=
 match P.underlying t,d with
 | some (.slice et),some d=>
  match fF P 16 et with
  | some e=>
   bif aY P et e.length && Nat.blt 0 e.length then
    (dM P et).bind fun z=>bif Nat.beq z.length e.length then
     match s with
     | .nil=>(ld e x).bind fun q=>
      .pure {sv:= .own (ag d 0),ow:=(ag d 0,some (.row et e q.1 false (aq e || q.2.2)))::(bif aq e then [] else ai q.2.1),ok:=fv P et q.1.length}
     | .own id=> .obj id fun
      | .row t' e' r false u=>
       bif Nat.beq t' et && aF e' e then
        (ld e x).bind fun q=>
        bif bS id q.2.1 then
         .pure {sv:= .own (ag d 0),ow:=(ag d 0,some (.row et e (r++q.1) false (u && (aq e || q.2.2))))::(id,none)::(bif aq e then [] else ai q.2.1),ok:=fv P et (r.length+q.1.length)}
        else .fail
       else .fail
      | _=> .fail
     | _=> .fail
    else .fail
   else .fail
  | none=> .fail
 | _,_=> .fail
def AL (P:Program) (d:Option Nat) (t t':TypeId) (s x:SV):M cJ:=
 match P.underlying t,P.underlying t',d,s,x with
 | some (.slice et),some .string,some d,.own id,.str b=> .obj id fun
  | .row t1 e r false u=>
   bif Nat.beq t1 et && aF e [.int .u8] && aY P et 1 then
    (dM P et).bind fun z=>bif Nat.beq z.length 1 then
     .pure {sv:= .own (ag d 0),ow:=[(ag d 0,some (.row et [.int .u8] (r++b.map cS) false u)),(id,none)],ok:=fv P et (r.length+b.length)}
    else .fail
   else .fail
  | _=> .fail
 | _,_,_,_,_=> .fail
def jt:List AK→List SV→M (List DC×eZ)
 | [],[]=> .pure ([],[])
 | k::ks,s::ss=>
  (match k.agg,s with
   | true,.agg cs=>cg k.bD cs
   | true,_=> .fail
   | false,.agg _=> .fail
   | false,s=>cg k.bD [s]).bind fun r=>(jt ks ss).bind fun q=> .pure (r.1++q.1,r.2.1++q.2)
 | _,_=> .fail
def cj (d:Nat):Nat→List RC→List DC→List SV×List (Nat×Option aj)
 | _,[],_=>([],[])
 | k,.d_ c::rs,ds=>let q:=cj d k rs ds.tail;(gg c (ds.headD default)::q.1,q.2)
 | k,.own t e::rs,ds=>
  let q:=cj d (k+1) rs ds.tail
  (.own (ag d k)::q.1,(ag d k,some (.row t e (ds.headD default).cq false true))::q.2)
 | k,.deep t e ts::rs,ds=>
  let q:=cj d (k+1) rs ds.tail
  (.own (ag d k)::q.1,(ag d k,some (.deep t e ts (ds.headD default).cq none))::q.2)
def dy:List RC→Nat
 | []=>0
 | .d_ _::l=>dy l
 | .own _ _::l=>dy l+1
 | .deep _ _ _::l=>dy l+1
def bl (d:Nat):Nat→List RK→List DC→List SV×List (Nat×Option aj)
 | _,[],_=>([],[])
 | k,r::rs,ds=>
  let q:=cj d k r.cells (ds.take r.cells.length)
  let p:=bl d (k+dy r.cells) rs (ds.drop r.cells.length)
  ((bif r.agg then .agg q.1 else q.1.headD .fy)::p.1,q.2++p.2)
def hZ:List RC→Bool
 | []=>false
 | .d_ (.sl _)::_=>true
 | _::l=>hZ l
def shares (s:Sum):Bool:=s.rs.any fun r=>hZ r.cells
def bb:List RK→Nat
 | []=>0
 | r::rs=>dy r.cells+bb rs
def il:List SV→SV
 | [x]=>x
 | l=> .DG l
inductive MU where
 | box (id:Nat) (t:TypeId) (cs:List CT)
 | row (id:Nat) (t:TypeId) (e:List CT) (u:Bool)
 | deep (id:Nat) (t:TypeId) (e:List CT) (ts:List TypeId)
 | gone (id:Nat) (dp:Bool)
 | cL (id:Nat) (t:TypeId) (cs:List CT) (ts:List TT)
 | lK
def bq:List MU→List Nat
 | []=>[]
 | .box id _ _::l=>id::bq l
 | .row id _ _ _::l=>id::bq l
 | .deep id _ _ _::l=>id::bq l
 | .gone id _::l=>id::bq l
 | .cL id _ _ _::l=>id::bq l
 | .lK::l=>bq l
def cQ:List MU→List MU
 | []=>[]
 | .row id _ _ _::l=> .gone id false::cQ l
 | .deep id _ _ _::l=> .gone id true::cQ l
 | .box _ _ _::l=>cQ l
 | .gone _ _::l=>cQ l
 | .cL _ _ _ _::l=>cQ l
 | .lK::l=>cQ l
def bQ:List MU→Bool
 | []=>true
 | .row _ _ _ _::l=>bQ l
 | .deep _ _ _ _::l=>bQ l
 | .box _ _ _::_=>false
 | .gone _ _::_=>false
 | .cL _ _ _ _::_=>false
 | .lK::l=>bQ l
def aU:List CT→List TypeId→List SV→M (List DC×List MU)
 | [],[],[]=> .pure ([],[])
 | .sl e::cs,t::ts,s::ss=>
  (match s with
   | .own id=> .obj id fun
    | .row t' e' r false u=>bif Nat.beq t' t && aF e' e && aq e then .pure (.sl r,.row id t' e' u) else .fail
    | _=> .fail
   | .nil=>bif aq e then .pure (.sl [],.lK) else .fail
   | _=> .fail:M (DC×MU)).bind fun q=>(aU cs ts ss).bind fun r=> .pure (q.1::r.1,q.2::r.2)
 | .int k::cs,ts,s::ss=>(eP (.int k) s).bind fun q=>(aU cs ts ss).bind fun r=> .pure (q.1::r.1,r.2)
 | .bool::cs,ts,s::ss=>(eP .bool s).bind fun q=>(aU cs ts ss).bind fun r=> .pure (q.1::r.1,r.2)
 | .str::cs,ts,s::ss=>(eP .str s).bind fun q=>(aU cs ts ss).bind fun r=> .pure (q.1::r.1,r.2)
 | _,_,_=> .fail
def aw:List CT→List TT→List SV→M (List DC×List MU)
 | [],[],[]=> .pure ([],[])
 | .sl e::cs,.flat t::ts,s::ss=>
  (match s with
   | .own id=> .obj id fun
    | .row t' e' r false u=>bif Nat.beq t' t && aF e' e && aq e then .pure (.sl r,.row id t' e' u) else .fail
    | _=> .fail
   | .nil=>bif aq e then .pure (.sl [],.lK) else .fail
   | _=> .fail:M (DC×MU)).bind fun q=>(aw cs ts ss).bind fun r=> .pure (q.1::r.1,q.2::r.2)
 | .sl e::cs,.deep t its::ts,s::ss=>
  (match s with
   | .own id=> .obj id fun
    | .deep t' e' dN r none=>bif Nat.beq t' t && aF e' e && fK dN its then .pure (.sl r,.deep id t' e' dN) else .fail
    | _=> .fail
   | .nil=> .pure (.sl [],.lK)
   | _=> .fail:M (DC×MU)).bind fun q=>(aw cs ts ss).bind fun r=> .pure (q.1::r.1,q.2::r.2)
 | .int k::cs,ts,s::ss=>(eP (.int k) s).bind fun q=>(aw cs ts ss).bind fun r=> .pure (q.1::r.1,r.2)
 | .bool::cs,ts,s::ss=>(eP .bool s).bind fun q=>(aw cs ts ss).bind fun r=> .pure (q.1::r.1,r.2)
 | .str::cs,ts,s::ss=>(eP .str s).bind fun q=>(aw cs ts ss).bind fun r=> .pure (q.1::r.1,r.2)
 | _,_,_=> .fail
def ir (k:AK) (ts:List TT) (s:SV):M (List DC×List MU):=
 match k.agg,s with
 | true,.agg cs=>aw k.bD ts cs
 | true,_=> .fail
 | false,.agg _=> .fail
 | false,s=>aw k.bD ts [s]
def a_:List AK→List (Option MK)→List SV→M (List DC×eZ×List MU)
 | [],[],[]=> .pure ([],[],[])
 | k::ks,none::ms,s::ss=>
  (match k.agg,s with
   | true,.agg cs=>cg k.bD cs
   | true,_=> .fail
   | false,.agg _=> .fail
   | false,s=>cg k.bD [s]).bind fun r=>(a_ ks ms ss).bind fun q=> .pure (r.1++q.1,r.2.1++q.2.1,q.2.2)
 | k::ks,some (.box t)::ms,.ptr id 0::ss=> .obj id fun
  | .box t' cells=>
   bif Nat.beq t' t then
    (cg k.bD cells).bind fun r=>bif r.2.1.isEmpty then (a_ ks ms ss).bind fun q=> .pure (r.1++q.1,q.2.1,.box id t' k.bD::q.2.2) else .fail
   else .fail
  | _=> .fail
 | k::ks,some (.rows ts)::ms,s::ss=>(ir k ts s).bind fun r=>(a_ ks ms ss).bind fun q=> .pure (r.1++q.1,q.2.1,r.2++q.2.2)
 | k::ks,some (.jA ts)::ms,s::ss=>(ir k ts s).bind fun r=>bif bQ r.2 then (a_ ks ms ss).bind fun q=> .pure (r.1++q.1,q.2.1,cQ r.2++q.2.2) else .fail
 | k::ks,some (.cL t ts)::ms,.ptr id 0::ss=> .obj id fun
  | .box t' cells=>
   bif Nat.beq t' t then (aw k.bD ts cells).bind fun r=>bif bQ r.2 then (a_ ks ms ss).bind fun q=> .pure (r.1++q.1,q.2.1,.cL id t' k.bD ts::(cQ r.2++q.2.2)) else .fail else .fail
  | _=> .fail
 | _,_,_=> .fail
def bk (d:Nat):Nat→List CT→List TT→List DC→List SV×List (Nat×Option aj)
 | _,[],_,_=>([],[])
 | k,.sl e::cs,ts,ds=>
  let q:=bk d (k+1) cs ts.tail ds.tail
  (.own (ag d k)::q.1,(ag d k,some (eO (ts.headD (.flat 0)) e (ds.headD default).cq))::q.2)
 | k,.int x::cs,ts,ds=>let q:=bk d k cs ts ds.tail;(gg (.int x) (ds.headD default)::q.1,q.2)
 | k,.bool::cs,ts,ds=>let q:=bk d k cs ts ds.tail;(gg .bool (ds.headD default)::q.1,q.2)
 | k,.str::cs,ts,ds=>let q:=bk d k cs ts ds.tail;(gg .str (ds.headD default)::q.1,q.2)
def ji (d:Nat):Nat→List MU→List DC→List (Nat×Option aj)
 | _,[],_=>[]
 | k,.box id t cs::l,ds=>(id,some (.box t (ch cs ds 0)))::ji d k l (ds.drop cs.length)
 | k,.row id t e u::l,ds=>(id,some (.row t e (ds.headD default).cq false u))::ji d k l ds.tail
 | k,.deep id t e ts::l,ds=>(id,some (.deep t e ts (ds.headD default).cq none))::ji d k l ds.tail
 | k,.gone _ _::l,ds=>ji d k l ds
 | k,.cL id t cs ts::l,ds=>(id,some (.box t (bk d k cs ts ds).1))::ji d (k+aB cs) l (ds.drop cs.length)
 | k,.lK::l,ds=>ji d k l ds.tail
def dJ (d:Nat):Nat→List MU→List DC→List (Nat×Option aj)
 | _,[],_=>[]
 | k,.box _ _ cs::l,ds=>dJ d k l (ds.drop cs.length)
 | k,.row _ _ _ _::l,ds=>dJ d k l ds.tail
 | k,.deep _ _ _ _::l,ds=>dJ d k l ds.tail
 | k,.gone _ _::l,ds=>dJ d k l ds
 | k,.cL _ _ cs ts::l,ds=>(bk d k cs ts ds).2++dJ d (k+aB cs) l (ds.drop cs.length)
 | k,.lK::l,ds=>dJ d k l ds.tail
def aQ:List MU→Nat
 | []=>0
 | .box _ _ _::l=>aQ l
 | .row _ _ _ _::l=>aQ l
 | .deep _ _ _ _::l=>aQ l
 | .gone _ _::l=>aQ l
 | .cL _ _ cs _::l=>aB cs+aQ l
 | .lK::l=>aQ l
def cu:List MU→List Nat
 | []=>[]
 | .box _ _ _::l=>cu l
 | .row _ _ _ _::l=>cu l
 | .deep _ _ _ _::l=>cu l
 | .gone id _::l=>id::cu l
 | .cL _ _ _ _::l=>cu l
 | .lK::l=>cu l
def i7 (l:List Nat):List (Nat×Option aj):=l.map fun i=>(i,none)
def cl:List RK→Nat
 | []=>0
 | r::rs=>r.cells.length+cl rs
def da:List Nat→Bool
 | []=>true
 | i::l=> !(l.any fun j=>Nat.beq j i) && da l
def AM (s:Sum) (d:Option Nat) (args:List SV):M cJ:=
 bif Nat.blt (bb s.rs) 64 && !(shares s) && (d.isSome || s.rs.isEmpty) then
  (a_ s.ps s.ms args).bind fun r=>
   bif aO r.2.1 && da (bq r.2.2) && (bq r.2.2).all (fun i=>bS i r.2.1) && (Nat.blt (bb s.rs+aQ r.2.2) 64 && (d.isSome || Nat.beq (aQ r.2.2) 0)) then
    .pure {sv:=il (bl (d.getD 0) 0 s.rs (s.fn r.1).2).1,ow:=(bl (d.getD 0) 0 s.rs (s.fn r.1).2).2++(dJ (d.getD 0) (bb s.rs) r.2.2 ((s.fn r.1).2.drop (cl s.rs))++(ji (d.getD 0) (bb s.rs) r.2.2 ((s.fn r.1).2.drop (cl s.rs))++(i7 (cu r.2.2)++(bif eY s.ms then [] else ai r.2.1)))),ok:=(s.fn r.1).1}
   else .fail
 else .fail
def kM (Γ:Ctx) (d:Option Nat) (g:Nat) (args:List SV):M cJ:=
 match Gh Γ g with
 | some s=>
  bif s.G_ then .fail else
  match s.pt with
  | some _=> .fail
  | none=>
  match s.ms,d with
  | [],some d=>
   bif Nat.blt (bb s.rs) 64 then
    (jt s.ps args).bind fun r=>
     bif !(shares s) || aO r.2 then
      .pure {sv:=il (bl d 0 s.rs (s.fn r.1).2).1,ow:=(bl d 0 s.rs (s.fn r.1).2).2++(bif shares s then ai r.2 else []),ok:=(s.fn r.1).1}
     else .fail
   else .fail
  | [],none=> .fail
  | _::_,d=>AM s d args
 | none=> .fail
def Ft (P:Program) (t:TypeId) (i z off:Nat) (e:List CT) (rows:List (List DC)):M cJ:=
 bif !(Nat.beq z e.length) then .fail else
 match P.underlying t with
 | none=> .fail
 | some _=>
  bif bj P t then
   match P.info? t with
   | some j=>bif Nat.ble (off+j.size) e.length && aq ((e.drop off).take j.size) then .pure {sv:= .agg (ch ((e.drop off).take j.size) (rows.getD i []) off),ok:=decide (i<rows.length)} else .fail
   | none=> .fail
  else match e[off]? with
   | some c=>bif aq [c] then .pure {sv:=gg c ((rows.getD i []).getD off default),ok:=decide (i<rows.length)} else .fail
   | none=> .fail
def G6 (P:Program) (d:Option Nat) (t:TypeId) (id i z off:Nat) (t':TypeId) (e:List CT) (ts:List TypeId) (rows:List (List DC)) (hl:Option (Nat×Nat)):M cJ:=
 match hl,e[off]?,ts,d with
 | none,some (.sl e'),[t1],some d=>
  bif Nat.beq z e.length && Nat.beq (aB e) 1 && !(bj P t) && (P.underlying t).isSome then
   .pure {sv:= .own (ag d 0),ow:=[(ag d 0,some (.row t1 e' ((rows.getD i []).getD off default).cq false true)),(id,some (.deep t' e ts rows (some (i,ag d 0))))],ok:=decide (i<rows.length)}
  else .fail
 | _,_,_,_=> .fail
def cT (nid:Nat):List CT→List DC→Nat→List SV
 | [],_,_=>[]
 | .sl _::cs,ds,k=> .own nid::cT nid cs ds (k+1)
 | .int x::cs,ds,k=>gg (.int x) (ds.getD k default)::cT nid cs ds (k+1)
 | .bool::cs,ds,k=>gg .bool (ds.getD k default)::cT nid cs ds (k+1)
 | .str::cs,ds,k=>gg .str (ds.getD k default)::cT nid cs ds (k+1)
def iN:List CT→Nat
 | []=>0
 | .sl _::_=>0
 | _::l=>iN l+1
def G5 (P:Program) (d:Option Nat) (t:TypeId) (id i z off:Nat) (t':TypeId) (e:List CT) (ts:List TypeId) (rows:List (List DC)) (hl:Option (Nat×Nat)):M cJ:=
 match hl,e[iN e]?,ts,d,P.info? t with
 | none,some (.sl e'),[t1],some d,some j=>
  bif Nat.beq z e.length && Nat.beq (aB e) 1 && Nat.ble (off+j.size) e.length then
   .pure {sv:= .agg (cT (ag d 0) ((e.drop off).take j.size) (rows.getD i []) off),ow:=[(ag d 0,some (.row t1 e' ((rows.getD i []).getD (iN e) default).cq false true)),(id,some (.deep t' e ts rows (some (i,ag d 0))))],ok:=decide (i<rows.length)}
  else .fail
 | _,_,_,_,_=> .fail
def GZ (P:Program) (Γ:Ctx) (d:Option Nat) (t:TypeId) (s:SV):M cJ:=
 match s with
 | .d9 id i z off=> .obj id fun
  | .deep t' e ts rows hl=>bif lT Γ d then (bif bj P t then G5 P d t id i z off t' e ts rows hl else G6 P d t id i z off t' e ts rows hl) else Ft P t i z off e rows
  | _=>mv P t s
 | _=>mv P t s
def ep:List MU→List (Nat×Option aj)
 | []=>[]
 | .box id _ _::l=>(id,none)::ep l
 | .row id _ _ _::l=>(id,none)::ep l
 | .deep id _ _ _::l=>(id,none)::ep l
 | .gone id _::l=>(id,none)::ep l
 | .cL id _ _ _::l=>(id,none)::ep l
 | .lK::l=>ep l
def CI:Option (Nat×Nat)→Nat→Bool
 | none,_=>true
 | some (j,_),i=>Nat.beq j i
def FF (P:Program) (t:TypeId) (id i z off:Nat) (t':TypeId) (e:List CT) (ts:List TypeId) (rows:List (List DC)) (hl:Option (Nat×Nat)) (x:SV):M cJ:=
 (aD x).bind fun bO=>
 bif aY P t bO.length && Nat.beq z e.length && Nat.ble (off+bO.length) e.length then
  bif aq ((e.drop off).take bO.length) then
   (cg ((e.drop off).take bO.length) bO).bind fun r=>
    bif r.2.1.isEmpty then .pure {sv:= .undef,ow:=[(id,some (.deep t' e ts (rows.set i (bT (rows.getD i []) off r.1)) hl))],ok:=decide (i<rows.length)} else .fail
  else bif Nat.beq (aB ((e.drop off).take bO.length)) (aB e) then
   (aU ((e.drop off).take bO.length) ts bO).bind fun r=>
    bif da (id::bq r.2) then
     .pure {sv:= .undef,ow:=(id,some (.deep t' e ts (rows.set i (bT (rows.getD i []) off r.1)) none))::ep r.2,ok:=decide (i<rows.length) && CI hl i}
    else .fail
  else .fail
 else .fail
def FG (P:Program) (t:TypeId) (addr x:SV):M cJ:=
 match addr with
 | .d9 id i z off=> .obj id fun
  | .deep t' e ts rows hl=>FF P t id i z off t' e ts rows hl x
  | _=>Bk P t addr x
 | _=>Bk P t addr x
def jd (P:Program) (t:TypeId) (x i:SV):M cJ:=
 match x with
 | .own id=> .obj id fun
  | .deep _ e _ rows _=>
   match P.underlying t,i with
   | some (.slice et),.int _ n=>bif aY P et e.length then .pure {sv:= .d9 id n.toNat e.length 0,ok:=decide (0≤n) && decide (n<rows.length)} else .fail
   | _,_=> .fail
  | _=>gz P t x i
 | _=>gz P t x i
def HV (P:Program) (t:TypeId) (x:SV):M cJ:=
 match x with
 | .own id=> .obj id fun
  | .deep _ _ _ rows _=>
   match P.underlying t with
   | some (.slice _)=> .pure {sv:= .int .i64 rows.length}
   | _=> .fail
  | _=>Gg P t x
 | _=>Gg P t x
def G0 (P:Program) (d:Option Nat) (t:TypeId) (l c:SV):M cJ:=
 match P.underlying t,l,c,d with
 | some (.slice et),.int .i64 n,.int .i64 m,some d=>
  match fF P 16 et,Gu P 16 et,P.info? et with
  | some e,some ts,some i=>
   bif Nat.beq i.size e.length && Nat.blt 0 e.length then
    (dM P et).bind fun z=>(aU e ts z).bind fun r=>
     bif (bq r.2).isEmpty then
      .pure {sv:= .own (ag d 0),ow:=[(ag d 0,some (.deep et e ts (List.replicate n.toNat r.1) none))],ok:=decide (0≤n) && decide (n≤m) && decide (m.toNat*i.bytes≤140737488355328) && decide (m≤9223372036854775807)}
     else .fail
   else .fail
  | _,_,_=> .fail
 | _,_,_,_=> .fail
def ef (e:List CT) (ts:List TypeId):Nat→List (Nat×Operand)→M (List (List DC)×List MU)
 | _,[]=> .pure ([],[])
 | k,(i,x)::rest=>
  bif Nat.beq i k then
   (cd x).bind fun s=>(aD s).bind fun cs=>(aU e ts cs).bind fun r=>(ef e ts (k+1) rest).bind fun q=> .pure (r.1::q.1,r.2++q.2)
  else .fail
def EA (P:Program) (d:Option Nat) (t:TypeId) (len:Nat) (parts:List (Nat×Operand)):M cJ:=
 match P.underlying t,d with
 | some (.slice et),some d=>
  match fF P 16 et,Gu P 16 et with
  | some e,some ts=>
   bif aY P et e.length && Nat.blt 0 e.length && Nat.beq len parts.length && Nat.ble (len*e.length) 16777216 then
    (dM P et).bind fun _=>(ef e ts 0 parts).bind fun q=>
     bif da (bq q.2) then
      .pure {sv:= .own (ag d 0),ow:=(ag d 0,some (.deep et e ts q.1 none))::ep q.2}
     else .fail
   else .fail
  | _,_=> .fail
 | _,_=> .fail
def Af (et:TypeId) (e:List CT) (ts:List TypeId):SV→M (List (List DC)×List Nat)
 | .nil=> .pure ([],[])
 | .own id=> .obj id fun
  | .deep t' e' dN r none=>bif Nat.beq t' et && aF e' e && fK dN ts then .pure (r,[id]) else .fail
  | _=> .fail
 | _=> .fail
def gone (ids:List Nat):List (Nat×Option aj):=ids.map fun i=>(i,none)
def Dd (P:Program) (d:Option Nat) (t:TypeId) (s x:SV):M cJ:=
 match P.underlying t,d with
 | some (.slice et),some d=>
  match fF P 16 et,Gu P 16 et with
  | some e,some ts=>
   bif aY P et e.length && Nat.blt 0 e.length then
    (dM P et).bind fun z=>bif Nat.beq z.length e.length then
     (Af et e ts s).bind fun p=>(Af et e ts x).bind fun q=>
      bif da (p.2++q.2) then
       .pure {sv:= .own (ag d 0),ow:=(ag d 0,some (.deep et e ts (p.1++q.1) none))::gone (p.2++q.2),ok:=fv P et (p.1.length+q.1.length)}
      else .fail
    else .fail
   else .fail
  | _,_=> .fail
 | _,_=> .fail
def Gl (mx:Bool) (x y:SV):M cJ:=
 match x,y with
 | .int k a,.int k' b=>bif decide (k=k') then .pure {sv:= .int k (bif mx then (if a<b then b else a) else (if b<a then b else a))} else .fail
 | _,_=> .fail
def evalOp (P:Program) (Γ:Ctx) (o:Oper):M cJ:=
 match o.op with
 | .move x=>(cd x).bind fun s=> .pure {sv:=s}
 | .assign x=>(cd x).bind fun s=> .pure {sv:=s}
 | .pick c a b=>(cd c).bind fun c=>(cd a).bind fun a=>(cd b).bind fun b=>
  match c with
  | .kb t=> .pure {sv:=bif t then a else b}
  | .bool g=> .pure {sv:=eD g a b}
  | _=> .fail
 | .alloc t=>match o.dst with
  | some d=>(dM P t).bind fun z=> .pure {sv:= .ptr (ag d 0) 0,ow:=[(ag d 0,some (.box t z))]}
  | none=> .fail
 | .box t x=>match o.dst with
  | some d=>(cd x).bind fun s=>(aD s).bind fun cs=> .pure {sv:= .ptr (ag d 0) 0,ow:=[(ag d 0,some (.box t cs))]}
  | none=> .fail
 | .build t parts=>match P.underlying t with
  | some (.struct fs)=>match fs.toList.mapM (fun f=>(P.info? f.type).map fun i=>(f.offset,i.size)) with
   | some _=>(dM P t).bind fun z=>(kf P fs parts.toList z).bind fun cs=> .pure {sv:= .agg cs}
   | none=> .fail
  | _=> .fail
 | .buildSlice t len parts=>bif lT Γ o.dst then EA P o.dst t len parts.toList else match P.underlying t,o.dst with
  | some (.slice et),some d=>match fF P 16 et with
   | some e=>bif aY P et e.length && Nat.blt 0 e.length && Nat.beq len parts.toList.length && Nat.ble (len*e.length) 16777216 then
     (dM P et).bind fun _=>(ek e 0 parts.toList).bind fun q=>
      bif aO q.2.1 then
       .pure {sv:= .own (ag d 0),ow:=(ag d 0,some (.row et e q.1 false q.2.2))::ai q.2.1}
      else .fail
    else .fail
   | none=> .fail
  | _,_=> .fail
 | .load t x=>(cd x).bind fun s=>GZ P Γ o.dst t s
 | .store t x y=>(cd x).bind fun a=>(cd y).bind fun v=>FG P t a v
 | .nilCheck x=>(cd x).bind fun s=>match s with
  | .ptr .. => .pure {sv:=s}
  | .gN .. => .pure {sv:=s}
  | .d9 .. => .pure {sv:=s}
  | _=> .fail
 | .binOp op t x y _=>(cd x).bind fun a=>(cd y).bind fun b=>Ha P t op a b
 | .unOp op _ x=>(cd x).bind fun a=>Ls op a
 | .convert s t x=>(cd x).bind fun a=>Eu P o.dst s t a
 | .makeSlice t l c=>(cd l).bind fun l=>(cd c).bind fun c=>bif lT Γ o.dst then G0 P o.dst t l c else G1 P o.dst t l c
 | .slice t x lo hi mx=>match mx with
  | none=>(cd x).bind fun s=>(kj lo).bind fun l=>(kj hi).bind fun h=>bif lT Γ o.dst then C4 P t s l h else C3 P t s l h
  | some _=> .fail
 | .fieldAddr t x f=>match P.underlying t with
  | some (.struct fs)=>match fs[f]? with
   | some fd=>bif aY P fd.type 0 then .fail else match P.info? fd.type with
    | none=> .fail
    | some _=>(cd x).bind fun s=>match s with
     | .ptr id off=> .pure {sv:= .ptr id (off+fd.offset)}
     | .gN e r off=> .pure {sv:= .gN e r (off+fd.offset)}
     | .d9 id i z off=> .pure {sv:= .d9 id i z (off+fd.offset)}
     | _=> .fail
   | none=> .fail
  | _=> .fail
 | .indexAddr t x i=>(cd x).bind fun s=>(cd i).bind fun n=>jd P t s n
 | .index t x i=>(cd x).bind fun s=>(cd i).bind fun n=>CN P t s n
 | .extract x i=>(cd x).bind fun s=>match s with
  | .DG vs=>match vs[i]? with
   | some v=> .pure {sv:=v}
   | none=> .fail
  | _=> .fail
 | .call c=>match c.callee with
  | .value (.func g)=>(DL c.args.toList).bind fun l=>kM Γ o.dst g l
  | .builtin .len=>match c.args.toList,c.argTypes.toList with
   | [x],[t]=>(cd x).bind fun s=>HV P t s
   | _,_=> .fail
  | .builtin .min=>match c.args.toList with
   | [x,y]=>(cd x).bind fun a=>(cd y).bind fun b=>Gl false a b
   | _=> .fail
  | .builtin .max=>match c.args.toList with
   | [x,y]=>(cd x).bind fun a=>(cd y).bind fun b=>Gl true a b
   | _=> .fail
  | .builtin .append=>match c.args.toList,c.argTypes.toList with
   | [s,x],[t,t']=>bif Nat.beq t t' then (cd s).bind fun a=>(cd x).bind fun b=>bif lT Γ o.dst then Dd P o.dst t a b else De P o.dst t a b else (cd s).bind fun a=>(cd x).bind fun b=>AL P o.dst t t' a b
   | _,_=> .fail
  | .builtin .copy=>match c.args.toList,c.argTypes.toList with
   | [s,x],[t,_]=>(cd s).bind fun a=>(cd x).bind fun b=>Ev P t a b
   | _,_=> .fail
  | _=> .fail
 | _=> .fail
structure St where
 n:Nat
 sl:List (Nat×SV)
 hp:List (Nat×aj)
 ok:Bool
 ls:List Nat
 lm:List Nat
def jf:List (Nat×SV)→Nat→SV
 | [],_=> .fy
 | (k,s)::l,i=>bif Nat.beq k i then s else jf l i
def dI:List (Nat×aj)→Nat→Option aj
 | [],_=>none
 | (k,s)::l,i=>bif Nat.beq k i then some s else dI l i
def Gy:List (Nat×aj)→Nat→List (Nat×aj)
 | [],_=>[]
 | (k,s)::l,i=>bif Nat.beq k i then Gy l i else (k,s)::Gy l i
def St.get (st:St) (i:Nat):SV:=jf st.sl i
def St.obj (st:St) (i:Nat):Option aj:=dI st.hp i
def M.run {α:Type} (f:Nat→SV) (h:Nat→Option aj):M α→Option (α×List Nat×List Nat)
 | .pure a=>some (a,[],[])
 | .fail=>none
 | .slot i k=>match (k (f i)).run f h with
  | some (a,s,o)=>some (a,i::s,o)
  | none=>none
 | .obj i k=>match h i with
  | some x=>match (k x).run f h with
   | some (a,s,o)=>some (a,s,i::o)
   | none=>none
  | none=>none
def St.fail (st:St):St:= {st with ok:=false,sl:=[],hp:=[]}
def cI:List SV→Nat→List SV→List SV
 | cells,off,bO=>cells.take off++(bO++cells.drop (off+bO.length))
def kC:List (Nat×Option aj)→List (Nat×aj)→List (Nat×aj)
 | [],h=>h
 | (i,some o)::l,h=>(i,o)::Gy (kC l h) i
 | (i,none)::l,h=>Gy (kC l h) i
def Gq:Option (Nat×Nat×List SV)→List (Nat×aj)→List (Nat×aj)
 | none,h=>h
 | some (i,off,bO),h=>match dI h i with
  | some (.box t cells)=>(i,.box t (cI cells off bO))::Gy h i
  | _=>h
def St.apply (st:St) (d:Option Nat) (e:cJ):St:=
 {n:=st.n
  sl:=match d with | some d=>(d,e.sv)::st.sl | none=>st.sl
  hp:=kC e.ow (Gq e.cw st.hp)
  ok:=Ei (Ei st.ok e.ok) (match d with | some d=>Hc d st.n | none=>true)
  ls:=match d with | some d=>d::st.ls | none=>st.ls
  lm:=(match e.cw with | some (i,_)=>[i] | none=>[])++(e.ow.map (·.1)++st.lm)}
def St.skip (st:St) (d:Option Nat):St:=st.apply d {sv:= .undef}
def ie (i:Nat):List Nat→Bool
 | []=>false
 | k::l=>Nat.beq k i || ie i l
def gB (g:Bool) (f h:Nat→SV):List Nat→List (Nat×SV)→List (Nat×SV)
 | [],l=>l
 | i::r,l=>(i,eD g (f i) (h i))::gB g f h r l
def dedup:List Nat→List Nat
 | []=>[]
 | i::l=>bif ie i l then dedup l else i::dedup l
def kJ (hp:List (Nat×aj)):List Nat→Bool
 | []=>true
 | i::l=>(match dI hp i with | some _=>false | none=>true) && kJ hp l
def St.reset (st:St):St:= {st with ls:=[],lm:=[]}
def L1 (g x y:Bool):Bool:=bif x && y then true else bif g then x else y
theorem Fy (g x y:Bool):L1 g x y=bif g then x else y:=by cases g<;>cases x<;>cases y<;>rfl
def my (g:Bool):Option aj→Option aj→Option aj
 | some (.box t cs),some (.box t' BA)=>bif Nat.beq t t' && Nat.beq cs.length BA.length then some (.box t (jh g cs BA)) else none
 | some (.row t e r fz u),some (.row t' e' r' JI u')=>bif Nat.beq t t' && aF e e' && (fz==JI) && (u==u') then some (.row t e (bif g then r else r') fz u) else none
 | _,_=>none
def cH (hp:List (Nat×aj)):List Nat→List Nat
 | []=>[]
 | i::l=>match dI hp i with | some _=>i::cH hp l | none=>cH hp l
def jQ (g:Bool) (f h:Nat→Option aj):List Nat→List (Nat×Option aj)
 | []=>[]
 | i::l=>(i,my g (f i) (h i))::jQ g f h l
def merge (pre:St) (g:Bool) (a b:St):St:=
 {n:=pre.n
  sl:=gB g a.get b.get (dedup (a.ls++b.ls)) pre.sl
  hp:=kC (jQ g a.obj b.obj (cH pre.hp (dedup (a.lm++b.lm)))) pre.hp
  ok:=L1 g a.ok b.ok
  ls:=dedup (a.ls++b.ls)++pre.ls
  lm:=cH pre.hp (dedup (a.lm++b.lm))++pre.lm}
def Dt:SV→Bool
 | .fy=>true
 | .undef=>true
 | _=>false
def BZ (g:Bool) (f h:Nat→SV):List Nat→Bool
 | []=>true
 | i::r=>(Dt (f i) || Dt (h i) || !(Dt (eD g (f i) (h i)))) && BZ g f h r
def GY (Γ:Ctx) (g:Bool) (f h:Nat→SV):List Nat→Bool
 | []=>true
 | i::r=>(!(Dt (eD g (f i) (h i))) || !(lT Γ (some i))) && GY Γ g f h r
def kA (Γ:Ctx) (pre:St) (g:Bool) (a b:St):Bool:=
 kJ pre.hp a.lm && kJ pre.hp b.lm && BZ g a.get b.get (dedup (a.ls++b.ls)) && GY Γ g a.get b.get (dedup (a.ls++b.ls))
def St.fO (st:St) (s:Nat) (b:Bool):St:= {st with sl:=(s,.kb b)::st.sl,ls:=s::st.ls}
mutual
def bX:SV→List Nat
 | .own i=>[i]
 | .ptr i _=>[i]
 | .d9 i _ _ _=>[i]
 | .agg l=>bU l
 | .DG l=>bU l
 | .FW _ l=>bU l
 | .FR i _ _=>[i]
 | _=>[]
def bU:List SV→List Nat
 | []=>[]
 | a::l=>bX a++bU l
end
def cF:aj→List Nat
 | .box _ cells=>bU cells
 | .deep _ _ _ _ (some (_,i))=>[i]
 | _=>[]
def Cv (e:cJ):List Nat:=
 bX e.sv++((match e.cw with | some (_,_,bO)=>bU bO | none=>[])++e.ow.flatMap fun x=>x.1::(match x.2 with | some o=>cF o | none=>[]))
structure cx where
 i:Nat
 d:Option Nat
 rs:List Nat
 ro:List Nat
 wo:List Nat
 m:List Nat
def ln:List Oper→List Nat
 | []=>[]
 | o::l=>match o.dst with | some d=>d::ln l | none=>ln l
def mz (ds:List Nat):List Nat→Bool
 | []=>true
 | i::l=> !(ie (i / 64) ds) && mz ds l
def eG (ds:List Nat) (st:St):Bool:=
 (st.sl.all fun x=>mz ds (bX x.2)) && (st.hp.all fun x=>mz ds (x.1::cF x.2))
def jz (d:Option Nat) (e:cJ) (st:St):Bool:=
 match e.ow,d with
 | _::_,some d=>eG [d] st
 | _,_=>true
def St.cC (P:Program) (Γ:Ctx) (st:St) (o:Oper):St:=
 match (evalOp P Γ o).run st.get st.obj with
 | some (e,_)=>bif jz o.dst e st then st.apply o.dst e else st.fail
 | none=>st.fail
def ix:List Nat→List Nat→List Nat
 | [],m=>m
 | i::l,m=>bif ie i m then ix l m else i::ix l m
def Cr:List Oper→List (List Nat)→List (List Nat)
 | [],acc=>acc
 | o::l,acc=>Cr l (acc++[o.after.toList.foldr (fun e r=>bif Region.binds .any e then ix (ix [e.on] (acc.getD e.on [])) r else r) []])
def gu:List Oper→Nat→Bool
 | [],_=>true
 | o::l,i=>(o.after.toList.all fun e=> !(Region.binds .any e) || Nat.blt e.on i) && gu l (i+1)
def fV (l:List Nat):List Nat→Bool
 | []=>false
 | i::m=>ie i l || fV l m
def jW:Option Nat→List Nat
 | some d=>[d]
 | none=>[]
def dG (a b:cx):Bool:=
 fV (jW a.d) (b.rs++jW b.d) || fV a.rs (jW b.d) || fV a.wo (b.ro++b.wo) || fV a.ro b.wo ||
 (match a.d with | some d=>b.m.any fun i=>Nat.beq (i / 64) d | none=>false)
def ki (b a:cx):Bool:=match b.d with | some d=>a.m.any fun i=>Nat.beq (i / 64) d | none=>false
def lN (an:List (List Nat)) (a:cx):List cx→Bool
 | []=>true
 | b::l=>(!(dG a b) || ie a.i (an.getD b.i [])) && !(ki b a) && lN an a l
def lQ (an:List (List Nat)):List cx→Bool
 | []=>true
 | a::l=>lN an a l && lQ an l
def f0 (ops:Array Oper) (o:Oper):List Nat:=
 match o.guard with
 | some (j,_)=>jW ((ops[j]?).bind (·.dst))
 | none=>[]
def bJ (P:Program) (Γ:Ctx) (ops:Array Oper) (i:Nat) (st:St) (o:Oper):cx:=
 match (evalOp P Γ o).run st.get st.obj with
 | some (e,s,r)=>⟨i,o.dst,f0 ops o++s,(match e.cw with | some (i,_)=>[i] | none=>[])++r,(match e.cw with | some (i,_)=>[i] | none=>[])++e.ow.map (·.1),Cv e⟩
 | none=>⟨i,o.dst,[],[],[],[]⟩
def iM (ops:Array Oper) (i:Nat) (o:Oper):cx:=⟨i,o.dst,f0 ops o,[],[],[]⟩
def fA (ops:Array Oper) (st:St) (o:Oper):Option Bool:=
 match o.guard with
 | none=>some true
 | some (j,want)=>
  match (ops[j]?).bind (·.dst) with
  | none=>none
  | some s=>
   match st.get s with
   | .kb b=>some (b==want)
   | .undef=>some false
   | _=>none
def ba (P:Program) (Γ:Ctx) (ops:Array Oper) (gs:List Nat) (kh:List cx→Bool):List Oper→Nat→List cx→St→St
 | [],_,acc,st=> {st with ok:=Ei st.ok (kh acc)}
 | o::rest,i,acc,st=>
  match fA ops st o with
  | none=>st.fail
  | some false=>ba P Γ ops gs kh rest (i+1) (acc++[iM ops i o]) (st.skip o.dst)
  | some true=>
   match o.dst with
   | none=>ba P Γ ops gs kh rest (i+1) (acc++[bJ P Γ ops i st o]) (st.cC P Γ o)
   | some s=>
    bif ie s gs then
     match (st.cC P Γ o).get s with
     | .bool g=>merge (st.cC P Γ o) g (ba P Γ ops gs kh rest (i+1) (acc++[bJ P Γ ops i st o]) ((st.cC P Γ o).reset.fO s true))
       (ba P Γ ops gs kh rest (i+1) (acc++[bJ P Γ ops i st o]) ((st.cC P Γ o).reset.fO s false))
     | _=>ba P Γ ops gs kh rest (i+1) (acc++[bJ P Γ ops i st o]) (st.cC P Γ o)
    else ba P Γ ops gs kh rest (i+1) (acc++[bJ P Γ ops i st o]) (st.cC P Γ o)
def i_ (ops:Array Oper):List Oper→List Nat
 | []=>[]
 | o::l=>f0 ops o++i_ ops l
def bZ (P:Program) (Γ:Ctx) (ops:Array Oper) (draw:Bool) (st:St):St:=
 bif draw then
  bif eG (ln ops.toList) st && gu ops.toList 0 && P.follows .mixedOrders then ba P Γ ops (i_ ops ops.toList) (lQ (Cr ops.toList [])) ops.toList 0 [] st else st.fail
 else ba P Γ ops (i_ ops ops.toList) (fun _=>true) ops.toList 0 [] st
def simple:Code→Bool
 | .skip=>true
 | .region _ _ _=>true
 | .seq a b=>simple a && simple b
 | .cond _ a b=>simple a && simple b
 | _=>false
def ev (st:St):Operand→SV
 | .tmp t=>st.get t
 | .const v=>ofConst v
 | _=> .fy
def St.dk (st:St) (c:Operand) (b:Bool):St:=
 match c with
 | .tmp t=>st.fO t b
 | _=>st
def exec (P:Program) (Γ:Ctx):Code→St→St
 | .skip,st=>st
 | .region _ ops draw,st=>bZ P Γ ops draw st
 | .seq a b,st=>exec P Γ b (exec P Γ a st)
 | .cond c a b,st=>
  match ev st c with
  | .kb t=>bif t then exec P Γ a st else exec P Γ b st
  | .bool g=>merge st g (exec P Γ a (st.reset.dk c true)) (exec P Γ b (st.reset.dk c false))
  | _=>st.fail
 | _,st=>st.fail
abbrev kL:=Bool×List DC
def ke:kL:=(false,[])
inductive CK where
 | mL
 | own (t:TypeId)
 | d_ (t:TypeId)
 | deep (t:TypeId) (ts:List TypeId)
structure lC where
 cb:List (Nat×CK)
 boxes:List (Nat×List (Nat×CK))
def Jv:List (Nat×lC)→Nat→Option lC
 | [],_=>none
 | (k,s)::l,i=>bif Nat.beq k i then some s else Jv l i
def Lo:List (Nat×CK)→Nat→CK
 | [],_=> .mL
 | (k,s)::l,i=>bif Nat.beq k i then s else Lo l i
def kd:List SV→Bool
 | []=>true
 | .ptr _ _::l=>kd l
 | _=>false
def au (P:Program) (hp:List (Nat×aj)) (ck:CK) (nid:Nat) (s:SV):SV×List (Nat×aj×Option Nat):=
 match s with
 | .own id=>match dI hp id with
  | some (.row t e r fz u)=>match ck with
   | .d_ _=>(.fy,[])
   | _=>(.own nid,[(nid,.row t e r fz u,some id)])
  | some (.d_ e r)=>(.sl e r,[])
  | some (.deep t e ts r none)=>match ck with
   | .d_ _=>(.fy,[])
   | _=>(.own nid,[(nid,.deep t e ts r none,some id)])
  | _=>(.fy,[])
 | .nil=>match ck with
  | .own t=>match fF P 16 t with
   | some e=>(.own nid,[(nid,.row t e [] false true,none)])
   | none=>(.fy,[])
  | .deep t ts=>match fF P 16 t with
   | some e=>(.own nid,[(nid,.deep t e ts [] none,none)])
   | none=>(.fy,[])
  | .d_ t=>match fF P 16 t with
   | some e=>(.sl e [],[])
   | none=>(.fy,[])
  | .mL=>(.nil,[])
 | .kb b=>(.bool b,[])
 | .agg _=>(.fy,[])
 | .DG _=>(.fy,[])
 | .d9 .. =>(.fy,[])
 | .FR .. =>(.fy,[])
 | .FW g cs=>bif kd cs then (.FW g cs,[]) else (.fy,[])
 | s=>(s,[])
def aV (P:Program) (st:St):List (Nat×CK)→List (Nat×SV)×List (Nat×aj×Option Nat)
 | []=>([],[])
 | (i,ck)::l=>
  let c:=au P st.hp ck (ag (10000+i) 0) (st.get i)
  let q:=aV P st l
  ((i,c.1)::q.1,c.2++q.2)
def bF (P:Program) (hp:List (Nat×aj)) (lW:List (Nat×CK)) (b:Nat):Nat→List SV→List SV×List (Nat×aj×Option Nat)
 | _,[]=>([],[])
 | k,s::l=>
  let c:=au P hp (Lo lW k) (ag (20000+b*4) k) s
  let q:=bF P hp lW b (k+1) l
  (c.1::q.1,c.2++q.2)
def aP (P:Program) (hp:List (Nat×aj)):List (Nat×List (Nat×CK))→List (Nat×aj)×List (Nat×aj×Option Nat)
 | []=>([],[])
 | (b,lW)::l=>
  let q:=aP P hp l
  match dI hp b with
  | some (.box t cells)=>
   let c:=bF P hp lW b 0 cells
   ((b,.box t c.1)::q.1,c.2++q.2)
  | _=>q
def eW:List Nat→Bool
 | []=>true
 | i::l=> !(ie i l) && eW l
def ew:List (Nat×aj×Option Nat)→List Nat
 | []=>[]
 | (_,_,some i)::l=>i::ew l
 | (_,_,none)::l=>ew l
def BF:List (Nat×aj)→Option Nat
 | []=>none
 | (i,.deep _ _ _ _ (some _))::_=>some i
 | _::l=>BF l
def ea:List CT→Nat
 | []=>0
 | .sl _::_=>0
 | _::l=>ea l+1
def H2 (e e2:List CT):Bool:=
 match e[ea e]? with
 | some (.sl e')=>aF e' e2
 | _=>false
def St.DW (st:St):St:=
 match BF st.hp with
 | some id=>match st.obj id with
  | some (.deep t e [t1] rows (some (i,nid)))=>match st.obj nid with
   | some (.row t2 e2 r false _)=>
    bif Nat.beq t2 t1 && H2 e e2 && Nat.beq (aB e) 1 && !(Nat.beq nid id) && aq e2 then
     {st with hp:=kC [(id,some (.deep t e [t1] (rows.set i (bT (rows.getD i []) (ea e) [.sl r])) none)),(nid,none)] st.hp}
    else st
   | _=>st
  | _=>st
 | none=>st
def kg (P:Program) (an:lC) (st:St):St:=
 let s:=aV P st an.cb
 let b:=aP P st.hp an.boxes
 let rows:=s.2++b.2
 bif eW (ew rows) && eW (b.1.map (·.1)++rows.map (·.1)) then
  {n:=st.n,sl:=s.1,hp:=b.1++rows.map (fun x=>(x.1,x.2.1)),ok:=st.ok,ls:=[],lm:=[]}
 else st.fail
def dn (st:St):List (Nat×CK)→eZ
 | []=>[]
 | (i,.d_ _)::l=>match st.get i with
  | .own id=>match st.obj id with
   | some (.row _ e r _ u)=>bif bS id (dn st l) then (id,e,r,u)::dn st l else dn st l
   | _=>dn st l
  | _=>dn st l
 | (_,.mL)::l=>dn st l
 | (_,.own _)::l=>dn st l
 | (_,.deep _ _)::l=>dn st l
def St.Kb (st:St) (an:lC):St:= {st with hp:=kC (ai (dn st an.cb)) st.hp}
def canon (P:Program) (an:lC) (st:St):St:=kg P an (st.DW.Kb an)
def St.gd (st:St) (k:St→kL):kL:=bif st.ok then k {st with ok:=true} else ke
theorem Dl {st:St} {k:St→kL} {r:List DC} (h:st.gd k=(true,r)):k st=(true,r):=by
 unfold St.gd at h
 cases hk:st.ok with
 | true=>
  rw[hk] at h
  obtain⟨_,_,_,_,_,_⟩:=st
  subst hk
  exact h
 | false=>
  rw[hk] at h
  exact absurd (congrArg Prod.fst h) (by simp [ke])
structure AH where
 eQ:St→kL
 ext:Nat→St→kL
 ret:St→kL
def du:Code→Option Nat
 | .region id _ _=>some id
 | .seq a b=>match du a with | some i=>some i | none=>du b
 | .cond _ a b=>match du a with | some i=>some i | none=>du b
 | .block _ a=>du a
 | .loop a=>du a
 | _=>none
def run (P:Program) (Γ:Ctx) (A:List (Nat×lC)) (N:Nat):Code→St→AH→kL
 | .skip,st,K=>K.eQ st
 | .region _ ops draw,st,K=>(bZ P Γ ops draw st).gd K.eQ
 | .seq a b,st,K=>run P Γ A N a st {eQ:=fun s=>run P Γ A N b s K,ext:=K.ext,ret:=K.ret}
 | .cond c a b,st,K=>
  match ev st c with
  | .kb t=>bif t then run P Γ A N a st K else run P Γ A N b st K
  | .bool g=>
   bif simple a && simple b && kA Γ st g (exec P Γ a (st.reset.dk c true)) (exec P Γ b (st.reset.dk c false)) then
    (merge st g (exec P Γ a (st.reset.dk c true)) (exec P Γ b (st.reset.dk c false))).gd K.eQ
   else bif g then run P Γ A N a (st.dk c true) K else run P Γ A N b (st.dk c false) K
  | _=>ke
 | .block id a,st,K=>run P Γ A N a st {eQ:=K.eQ,ext:=fun i s=>bif Nat.beq i id then K.eQ s else K.ext i s,ret:=K.ret}
 | .loop a,st,K=>
  match (du a).bind (Jv A) with
  | some an=>(Nat.rec (motive:=fun _=>St→kL) (fun _=>ke) (fun _ ih s=>run P Γ A N a s {eQ:=fun s'=>ih (canon P an s'),ext:=K.ext,ret:=K.ret}) N) (canon P an st)
  | none=>ke
 | .exit id,st,K=>K.ext id st
 | .ret,st,K=>K.ret st
 | _,_,_=>ke
def gG (P:Program):List ResultVar→M (List SV)
 | []=> .pure []
 | .tmp t::l=> .slot t fun s=>(gG P l).bind fun r=> .pure (s::r)
 | .cell a t::l=> .slot a fun s=>(match s with | .ptr id off=>mv P t (.ptr id off) | _=> .fail).bind fun e=>(gG P l).bind fun r=> .pure (e.sv::r)
def fG:RC→SV→M (DC×List Nat×List Nat)
 | .d_ ct,s=>(eP ct s).bind fun q=> .pure (q.1,[],q.2.1.map (·.1))
 | .own _ _,.nil=> .pure (.sl [],[],[])
 | .own t e,.own id=> .obj id fun
  | .row t' e' r false u=>bif Nat.beq t t' && aF e e' && u then .pure (.sl r,[id],[]) else .fail
  | _=> .fail
 | .own _ _,_=> .fail
 | .deep _ _ _,.nil=> .pure (.sl [],[],[])
 | .deep t e ts,.own id=> .obj id fun
  | .deep t' e' dN r none=>bif Nat.beq t t' && aF e e' && fK ts dN then .pure (.sl r,[id],[]) else .fail
  | _=> .fail
 | .deep _ _ _,_=> .fail
def dR:List RC→List SV→M (List DC×List Nat×List Nat)
 | [],[]=> .pure ([],[],[])
 | c::cs,s::ss=>(fG c s).bind fun q=>(dR cs ss).bind fun r=> .pure (q.1::r.1,q.2.1++r.2.1,q.2.2++r.2.2)
 | _,_=> .fail
def fH:List RK→List SV→M (List DC×List Nat×List Nat)
 | [],[]=> .pure ([],[],[])
 | k::ks,s::ss=>
  (match k.agg,s with
   | true,.agg cs=>dR k.cells cs
   | true,_=> .fail
   | false,.agg _=> .fail
   | false,s=>dR k.cells [s]).bind fun q=>(fH ks ss).bind fun r=> .pure (q.1++r.1,q.2.1++r.2.1,q.2.2++r.2.2)
 | _,_=> .fail
def Hf (t:TypeId) (bD:List CT):List SV→M (List DC)
 | [.ptr id 0]=> .obj id fun
  | .box t' cells=>bif Nat.beq t' t then (cg bD cells).bind fun q=>bif q.2.1.isEmpty then .pure q.1 else .fail else .fail
  | _=> .fail
 | _=> .fail
def fin (P:Program) (fn:Func) (s:Sum) (st:St):kL:=
 match s.pt with
 | some (t,bD)=>
  match ((gG P fn.results.toList).bind fun l=>Hf t bD l).run st.get st.obj with
  | some (ds,_)=>(st.ok,ds)
  | none=>ke
 | none=>
 match ((gG P fn.results.toList).bind fun l=>fH s.rs l).run st.get st.obj with
 | some ((ds,own,im),_)=>(st.ok && eW own && im.all (fun i=> !(ie i own)),ds)
 | none=>ke
def je:Nat→List AK→List DC→List (Nat×SV)
 | _,[],_=>[]
 | i,k::ks,ds=>(i,bif k.agg then .agg (ch k.bD ds 0) else (ch k.bD ds 0).headD .fy)::je (i+1) ks (ds.drop k.bD.length)
def H0 (P:Program) (Γ:Ctx) (A:List (Nat×lC)) (N:Nat) (fn:Func) (s:Sum) (ds:List DC):kL:=
 match fn.body with
 | some c=>run P Γ A N c {n:=fn.ntmps,sl:=je 0 s.ps ds,hp:=[],ok:=true,ls:=[],lm:=[]} {eQ:=fin P fn s,ext:=fun _ _=>ke,ret:=fin P fn s}
 | none=>ke
end Go.Proofs.YtnlkklmcfafgeaaGreat.Vm
namespace Go.Proofs.YtnlkklmcfafgeaaGreat.Vm
mutual
def bY (w:World):CT→DC→Value→List Nat→Prop
 | .int k,d,v,fp=>∃n,d= .int n∧v= .int k n∧BV k n=true∧fp=[]
 | .bool,d,v,fp=>∃b,d= .bool b∧v= .bool b∧fp=[]
 | .str,d,v,fp=>∃s:List UInt8,d= .str s∧v= .string ⟨s.toArray⟩∧s.length≤maxLen∧fp=[]
 | .sl e,d,v,fp=>∃rows a n c,d= .sl rows∧v= .slice a n c∧rows.length=n∧n≤c∧c≤maxLen∧
   ((n=0∧fp=[])∨(0<n∧∃(b o:Nat) (aA:List (List Nat)),a=some ⟨b,o,none⟩∧b<w.heap.size∧aA.length=n∧fp=b::aA.flatten∧
    ∀i r f,rows[i]? =some r→aA[i]? =some f→a9 w e r (fun j=>w.cell? ⟨b,o+(i*e.length+j),none⟩) f))
def a9 (w:World):List CT→List DC→(Nat→Option Value)→List Nat→Prop
 | [],r,_,fp=>r=[]∧fp=[]
 | c::cs,r,f,fp=>∃d r' v f1 f2,r=d::r'∧f 0=some v∧bY w c d v f1∧a9 w cs r' (fun j=>f (j+1)) f2∧fp=f1++f2
end
theorem Df {w w':World} {b o:Nat} (h:w'.heap[b]? =w.heap[b]?):w'.cell? ⟨b,o,none⟩=w.cell? ⟨b,o,none⟩:=by
 simp [World.cell?,h]
mutual
theorem bY.lt {w:World} :∀(c:CT) (d:DC) (v:Value) (fp:List Nat),bY w c d v fp→∀b∈fp,b<w.heap.size
 | .int _,_,_,_,h=>by
  obtain⟨_,_,_,_,rfl⟩:=(by simpa only[bY] using h)
  simp
 | .bool,_,_,_,h=>by
  obtain⟨_,_,_,rfl⟩:=(by simpa only[bY] using h)
  simp
 | .str,_,_,_,h=>by
  obtain⟨_,_,_,_,rfl⟩:=(by simpa only[bY] using h)
  simp
 | .sl e,_,_,_,h=>by
  simp only[bY] at h
  obtain⟨rows,a,n,c,_,_,hn,_,_,⟨_,rfl⟩ | ⟨_,b,o,aA,_,hb,hl,rfl,hr⟩⟩:=h
  ·simp
  ·intro x hx
   simp only[List.mem_cons,List.mem_flatten] at hx
   rcases hx with rfl | ⟨f,hf,hx⟩
   ·exact hb
   ·obtain⟨i,hi,rfl⟩:=List.getElem_of_mem hf
    have dU:i<rows.length:=by omega
    exact a9.lt e _ _ _ (hr i rows[i] aA[i] (by simp) (by simp)) x hx
theorem a9.lt {w:World} :∀(cs:List CT) (r:List DC) (f:Nat→Option Value) (fp:List Nat),a9 w cs r f fp→∀b∈fp,b<w.heap.size
 | [],_,_,_,h=>by
  simp only[a9] at h
  simp [h.2]
 | c::cs,_,_,_,h=>by
  simp only[a9] at h
  obtain⟨d,r',v,f1,f2,_,_,h1,h2,rfl⟩:=h
  intro b hb
  simp only[List.mem_append] at hb
  rcases hb with hb | hb
  ·exact bY.lt c _ _ _ h1 b hb
  ·exact a9.lt cs _ _ _ h2 b hb
end
mutual
theorem bY.mono {w w':World} (hs:w.heap.size≤w'.heap.size):∀(c:CT) (d:DC) (v:Value) (fp:List Nat),bY w c d v fp→(∀b∈fp,w'.heap[b]? =w.heap[b]?)→bY w' c d v fp
 | .int _,_,_,_,h,_=>by simpa only[bY] using h
 | .bool,_,_,_,h,_=>by simpa only[bY] using h
 | .str,_,_,_,h,_=>by simpa only[bY] using h
 | .sl e,_,_,_,h,hb=>by
  simp only[bY] at h ⊢
  obtain⟨rows,a,n,c,hd,hv,hn,hc,hm,⟨h0,rfl⟩ | ⟨hp,b,o,aA,ha,cr,hl,rfl,hr⟩⟩:=h
  ·exact⟨rows,a,n,c,hd,hv,hn,hc,hm,.inl ⟨h0,rfl⟩⟩
  ·refine⟨rows,a,n,c,hd,hv,hn,hc,hm,.inr ⟨hp,b,o,aA,ha,by omega,hl,rfl,fun i r f hi hf=> ?_⟩⟩
   refine a9.mono hs e r _ _ f (hr i r f hi hf) (fun j=> ?_) (fun x hx=>hb x ?_)
   ·exact (Df (hb b (by simp))).symm ▸ rfl
   ·simp only[List.mem_cons,List.mem_flatten]
    exact .inr ⟨f,List.mem_of_getElem? hf,hx⟩
theorem a9.mono {w w':World} (hs:w.heap.size≤w'.heap.size):∀(cs:List CT) (r:List DC) (f f':Nat→Option Value) (fp:List Nat),a9 w cs r f fp→(∀j,f' j=f j)→(∀b∈fp,w'.heap[b]? =w.heap[b]?)→a9 w' cs r f' fp
 | [],_,_,_,_,h,_,_=>by simpa only[a9] using h
 | c::cs,_,_,_,_,h,hf,hb=>by
  simp only[a9] at h ⊢
  obtain⟨d,r',v,f1,f2,hr,h0,h1,h2,rfl⟩:=h
  exact⟨d,r',v,f1,f2,hr,(hf 0).trans h0,bY.mono hs c _ _ _ h1 (fun b hx=>hb b (by simp [hx])),a9.mono hs cs _ _ _ _ h2 (fun j=>hf (j+1)) (fun b hx=>hb b (by simp [hx])),rfl⟩
end
theorem a9.length {w:World} :∀(cs:List CT) (r:List DC) (f:Nat→Option Value) (fp:List Nat),a9 w cs r f fp→r.length=cs.length
 | [],_,_,_,h=>by
  simp only[a9] at h
  simp [h.1]
 | c::cs,_,_,_,h=>by
  simp only[a9] at h
  obtain⟨d,r',v,f1,f2,rfl,_,_,h2,_⟩:=h
  simp [a9.length cs _ _ _ h2]
structure Env where
 cW:Nat→Nat
 val:Nat→Value
 gI:Nat→Prop
 nb:Nat→List Nat
mutual
def ak (w:World) (av:Nat→Prop) (β:Env):SV→Value→Prop
 | .fy,_=>True
 | .undef,v=>v=undef
 | .kb b,v=>v= .bool b
 | .int k n,v=>v= .int k n∧BV k n=true
 | .bool b,v=>v= .bool b
 | .str s,v=>v= .string ⟨s.toArray⟩∧s.length≤maxLen
 | .sl e r,v=>∃fp,bY w (.sl e) (.sl r) v fp∧∀b∈fp,¬av b
 | .nil,v=>v= .slice none 0 0
 | .own id,v=>v=β.val id∧v.oneCell'=true
 | .agg cs,v=>∃vs:List Value,v= .agg vs.toArray∧af w av β cs vs∧∀x∈vs,x.oneCell'=true
 | .ptr id off,v=>v= .pointer (some ⟨β.cW id,off,none⟩)
 | .gN e r off,v=>∃b o fp,v= .pointer (some ⟨b,o+off,none⟩)∧b<w.heap.size∧¬av b∧a9 w e r (fun j=>w.cell? ⟨b,o+j,none⟩) fp∧∀x∈fp,¬av x
 | .d9 id i z off,v=>∃g,(β.val id).ownBlock=some g∧v= .pointer (some ⟨g,i*z+off,none⟩)
 | .DG vs,v=>∃l:List Value,v= .tuple l.toArray∧af w av β vs l
 | .FW g cs,v=>∃l:List Value,v= .func (.func g) #[] l.toArray∧af w av β cs l
 | .FR id lo z,v=>∃g n c,β.val id= .slice (some ⟨g,0,none⟩) n c∧lo≤n∧v= .slice (some ⟨g,if lo<c then lo*z else 0,none⟩) (n - lo) (c - lo)
def af (w:World) (av:Nat→Prop) (β:Env):List SV→List Value→Prop
 | [],l=>l=[]
 | s::ss,l=>∃v l',l=v::l'∧ak w av β s v∧af w av β ss l'
end
mutual
theorem ak.mono {w w':World} {av av':Nat→Prop} {β β':Env} (hs:w.heap.size≤w'.heap.size)
  (hw:∀b,b<w.heap.size→¬av b→w'.heap[b]? =w.heap[b]?) (ha:∀b,av' b→av b∨w.heap.size≤b):
  ∀(s:SV) (v:Value),ak w av β s v→(∀i∈bX s,β'.val i=β.val i∧β'.cW i=β.cW i)→ak w' av' β' s v
 | .fy,_,_,_=>by simp only[ak]
 | .undef,_,h,_=>by simpa only[ak] using h
 | .kb _,_,h,_=>by simpa only[ak] using h
 | .int _ _,_,h,_=>by simpa only[ak] using h
 | .bool _,_,h,_=>by simpa only[ak] using h
 | .str _,_,h,_=>by simpa only[ak] using h
 | .nil,_,h,_=>by simpa only[ak] using h
 | .sl e r,v,h,_=>by
  simp only[ak] at h ⊢
  obtain⟨fp,h1,h2⟩:=h
  have cr:=bY.lt _ _ _ _ h1
  refine⟨fp,bY.mono hs _ _ _ _ h1 (fun b hb=>hw b (cr b hb) (h2 b hb)),fun b hb hx=> ?_⟩
  rcases ha b hx with h | h
  ·exact h2 b hb h
  ·have:=cr b hb;omega
 | .own id,_,h,hi=>by
  simp only[ak] at h ⊢
  rw[(hi id (by simp [bX])).1]
  exact h
 | .ptr id _,_,h,hi=>by
  simp only[ak] at h ⊢
  rw[h,(hi id (by simp [bX])).2]
 | .d9 id i z off,_,h,hi=>by
  simp only[ak] at h ⊢
  rw[(hi id (by simp [bX])).1]
  exact h
 | .gN e r off,v,h,_=>by
  simp only[ak] at h ⊢
  obtain⟨b,o,fp,rfl,hb,cR,h1,h2⟩:=h
  have cr:=a9.lt _ _ _ _ h1
  have key:∀x,x<w.heap.size→¬av x→¬av' x:=fun x hx hn Co=>by
   rcases ha x Co with h | h
   ·exact hn h
   ·omega
  refine⟨b,o,fp,rfl,by omega,key b hb cR,a9.mono hs _ _ _ _ _ h1 (fun j=>Df (hw b hb cR)) (fun x hx=>hw x (cr x hx) (h2 x hx)),fun x hx=>key x (cr x hx) (h2 x hx)⟩
 | .agg cs,v,h,hi=>by
  simp only[ak] at h ⊢
  obtain⟨vs,rfl,h,h1⟩:=h
  exact⟨vs,rfl,af.mono hs hw ha cs vs h (by simpa [bX] using hi),h1⟩
 | .DG cs,v,h,hi=>by
  simp only[ak] at h ⊢
  obtain⟨vs,rfl,h⟩:=h
  exact⟨vs,rfl,af.mono hs hw ha cs vs h (by simpa [bX] using hi)⟩
 | .FW _ cs,v,h,hi=>by
  simp only[ak] at h ⊢
  obtain⟨vs,rfl,h⟩:=h
  exact⟨vs,rfl,af.mono hs hw ha cs vs h (by simpa [bX] using hi)⟩
 | .FR id _ _,_,h,hi=>by
  simp only[ak] at h ⊢
  rw[(hi id (by simp [bX])).1]
  exact h
theorem af.mono {w w':World} {av av':Nat→Prop} {β β':Env} (hs:w.heap.size≤w'.heap.size)
  (hw:∀b,b<w.heap.size→¬av b→w'.heap[b]? =w.heap[b]?) (ha:∀b,av' b→av b∨w.heap.size≤b):
  ∀(s:List SV) (v:List Value),af w av β s v→(∀i∈bU s,β'.val i=β.val i∧β'.cW i=β.cW i)→af w' av' β' s v
 | [],_,h,_=>by simpa only[af] using h
 | s::ss,_,h,hi=>by
  simp only[af] at h ⊢
  obtain⟨v,l',rfl,h1,h2⟩:=h
  exact⟨v,l',rfl,ak.mono hs hw ha s v h1 (fun i hx=>hi i (by simp [bU,hx])),af.mono hs hw ha ss l' h2 (fun i hx=>hi i (by simp [bU,hx]))⟩
end
theorem af.length {w:World} {av:Nat→Prop} {β:Env} :∀(s:List SV) (v:List Value),af w av β s v→v.length=s.length
 | [],_,h=>by simp only[af] at h;simp [h]
 | s::ss,_,h=>by
  simp only[af] at h
  obtain⟨v,l',rfl,_,h2⟩:=h
  simp [af.length ss l' h2]
theorem af.get {w:World} {av:Nat→Prop} {β:Env} :∀(ss:List SV) (vs:List Value) (i:Nat) (s:SV),af w av β ss vs→ss[i]? =some s→∃v,vs[i]? =some v∧ak w av β s v
 | [],_,_,_,_,hi=>by simp at hi
 | s::ss,_,i,x,h,hi=>by
  simp only[af] at h
  obtain⟨v,l',rfl,h1,h2⟩:=h
  cases i with
  | zero=>simp at hi;subst hi;exact⟨v,by simp,h1⟩
  | succ i=>simpa using af.get ss l' i x h2 (by simpa using hi)
theorem af.append {w:World} {av:Nat→Prop} {β:Env} :∀(a:List SV) (x:List Value) (b:List SV) (y:List Value),af w av β a x→af w av β b y→af w av β (a++b) (x++y)
 | [],_,_,_,h,h'=>by simp only[af] at h;simpa [h] using h'
 | s::ss,_,_,_,h,h'=>by
  simp only[af] at h
  obtain⟨v,l',rfl,h1,h2⟩:=h
  simp only[List.cons_append,af]
  exact⟨v,_,rfl,h1,af.append ss l' _ _ h2 h'⟩
theorem af.take {w:World} {av:Nat→Prop} {β:Env} :∀(a:List SV) (x:List Value) (n:Nat),af w av β a x→af w av β (a.take n) (x.take n)
 | [],_,n,h=>by simp only[af] at h;simp [h,af]
 | s::ss,_,n,h=>by
  simp only[af] at h
  obtain⟨v,l',rfl,h1,h2⟩:=h
  cases n with
  | zero=>simp [af]
  | succ n=>simp only[List.take_succ_cons,af];exact⟨v,_,rfl,h1,af.take ss l' n h2⟩
theorem af.drop {w:World} {av:Nat→Prop} {β:Env} :∀(a:List SV) (x:List Value) (n:Nat),af w av β a x→af w av β (a.drop n) (x.drop n)
 | [],_,n,h=>by simp only[af] at h;simp [h,af]
 | s::ss,_,n,h=>by
  simp only[af] at h
  obtain⟨v,l',rfl,h1,h2⟩:=h
  cases n with
  | zero=>simp only[List.drop_zero,af];exact⟨v,l',rfl,h1,h2⟩
  | succ n=>simpa using af.drop ss l' n h2
mutual
theorem Ew:∀(a b:CT),kN a b=true→a=b
 | .int k,.int k',h=>by simp [kN] at h;rw[h]
 | .bool,.bool,_=>rfl
 | .str,.str,_=>rfl
 | .sl e,.sl e',h=>by simp only[kN] at h;rw[aN e e' h]
 | .int _,.bool,h | .int _,.str,h | .int _,.sl _,h | .bool,.int _,h | .bool,.str,h | .bool,.sl _,h | .str,.int _,h | .str,.bool,h | .str,.sl _,h | .sl _,.int _,h | .sl _,.bool,h | .sl _,.str,h=>by simp [kN] at h
theorem aN:∀(a b:List CT),aF a b=true→a=b
 | [],[],_=>rfl
 | a::l,b::m,h=>by
  simp only[aF,Bool.and_eq_true] at h
  rw[Ew a b h.1,aN l m h.2]
 | [],_::_,h | _::_,[],h=>by simp [aF] at h
end
theorem ak.Dg {w:World} {av:Nat→Prop} {β:Env} (e:List CT) (v:Value) (h:v= .slice none 0 0):ak w av β (.sl e []) v:=by
 unfold ak
 refine⟨[], ?_,by simp⟩
 unfold bY
 exact⟨[],none,0,0,rfl,h,rfl,Nat.le_refl _,Nat.zero_le _,.inl ⟨rfl,rfl⟩⟩
mutual
theorem ak.merge {w:World} {av:Nat→Prop} {β:Env} (g:Bool) (a b:SV) (v:Value) (h:ak w av β (bif g then a else b) v):ak w av β (eD g a b) v:=by
 rw[eD.eq_def]
 split
 ·cases g<;>simpa using h
 ·rename_i x y
  cases g<;>cases x<;>cases y<;>simp_all [ak]
 ·cases g<;>simp_all [ak]
 ·cases g<;>simp_all [ak]
 ·cases g<;>simp_all [ak]
 ·rename_i k n k' m
  by_cases hk:k=k'
  ·subst hk;cases g<;>simp_all [ak]
  ·simp [hk,ak]
 ·cases g<;>simp_all [ak]
 ·rename_i e r e' r'
  cases hl:aF e e'
  ·simp [ak]
  ·have:=aN _ _ hl
   subst this
   cases g<;>simpa using h
 ·cases g
  ·exact ak.Dg _ _ (by simpa [ak] using h)
  ·simpa using h
 ·cases g
  ·simpa using h
  ·exact ak.Dg _ _ (by simpa [ak] using h)
 ·cases g<;>simpa using h
 ·rename_i i j
  cases hl:Nat.beq i j
  ·simp [ak]
  ·have:=Nat.eq_of_beq_eq_true hl
   subst this
   simpa using h
 ·rename_i i o j o'
  cases hl:Nat.beq i j && Nat.beq o o'
  ·simp [ak]
  ·simp only[Bool.and_eq_true] at hl
   have h1:=Nat.eq_of_beq_eq_true hl.1
   have h2:=Nat.eq_of_beq_eq_true hl.2
   subst h1 h2
   simpa using h
 ·rename_i e r o e' r' o'
  cases hl:aF e e' && Nat.beq o o'
  ·simp [ak]
  ·simp only[Bool.and_eq_true] at hl
   have h1:=aN _ _ hl.1
   have h2:=Nat.eq_of_beq_eq_true hl.2
   subst h1 h2
   cases g<;>simpa using h
 ·rename_i i x z o j y z' o'
  cases hl:Nat.beq i j && Nat.beq z z' && Nat.beq o o'
  ·simp [ak]
  ·simp only[Bool.and_eq_true] at hl
   have h1:=Nat.eq_of_beq_eq_true hl.1.1
   have h2:=Nat.eq_of_beq_eq_true hl.1.2
   have h3:=Nat.eq_of_beq_eq_true hl.2
   subst h1 h2 h3
   cases g<;>simpa using h
 ·rename_i l m
  cases hl:Nat.beq l.length m.length
  ·simp [ak]
  ·simp only[cond_true,ak]
   have hlen:=Nat.eq_of_beq_eq_true hl
   cases g
   ·simp only[cond_false,ak] at h
    obtain⟨vs,rfl,h,h1⟩:=h
    exact⟨vs,rfl,af.merge false l m vs hlen h,h1⟩
   ·simp only[cond_true,ak] at h
    obtain⟨vs,rfl,h,h1⟩:=h
    exact⟨vs,rfl,af.merge true l m vs hlen h,h1⟩
 ·rename_i l m
  cases hl:Nat.beq l.length m.length
  ·simp [ak]
  ·simp only[cond_true,ak]
   have hlen:=Nat.eq_of_beq_eq_true hl
   cases g
   ·simp only[cond_false,ak] at h
    obtain⟨vs,rfl,h⟩:=h
    exact⟨vs,rfl,af.merge false l m vs hlen h⟩
   ·simp only[cond_true,ak] at h
    obtain⟨vs,rfl,h⟩:=h
    exact⟨vs,rfl,af.merge true l m vs hlen h⟩
 ·simp only[ak]
termination_by SizeOf.sizeOf a
theorem af.merge {w:World} {av:Nat→Prop} {β:Env} (g:Bool):∀(a b:List SV) (v:List Value),a.length=b.length→af w av β (bif g then a else b) v→af w av β (jh g a b) v
 | [],[],v,_,h=>by cases g<;>simpa [jh] using h
 | [],_::_,v,hl,h=>by simp at hl
 | _::_,[],v,hl,h=>by simp at hl
 | a::l,b::m,v,hl,h=>by
  simp only[jh,af]
  have D_:l.length=m.length:=by simpa using hl
  cases g
  ·simp only[cond_false,af] at h
   obtain⟨x,l',rfl,h1,h2⟩:=h
   exact⟨x,l',rfl,ak.merge false a b x h1,af.merge false l m l' D_ h2⟩
  ·simp only[cond_true,af] at h
   obtain⟨x,l',rfl,h1,h2⟩:=h
   exact⟨x,l',rfl,ak.merge true a b x h1,af.merge true l m l' D_ h2⟩
termination_by a=>SizeOf.sizeOf a
end
end Go.Proofs.YtnlkklmcfafgeaaGreat.Vm
namespace Go.Proofs.YtnlkklmcfafgeaaGreat.Vm
def cm (w:World) (t size:Nat) (fz:Bool) (v:Value) (n:Nat) (vals:List Value):Prop:=
 vals.length=n*size∧
 ((v= .slice none 0 0∧n=0∧fz=false)∨
  ∃(g cap:Nat) (cur:Array Value),v= .slice (some ⟨g,0,none⟩) n cap∧w.heap[g]? =some (.cells cur t (bif fz then (cur.size,cur.size+1) else (0,0)))∧
   n≤cap∧cap≤maxLen∧cur.size=cap*size∧cur.toList.take (n*size)=vals)
def dO (w:World) (e:List CT) (rows:List (List DC)) (vals:List Value) (aA:List (List Nat)):Prop:=
 aA.length=rows.length∧∀i r f,rows[i]? =some r→aA[i]? =some f→a9 w e r (fun j=>vals[i*e.length+j]?) f
def al (β:Env) (id:Nat):aj→List Nat
 | .box _ _=>[β.cW id]
 | .row _ _ _ _ _=>(β.val id).ownBlock.toList
 | .d_ _ _=>[]
 | .deep _ _ _ _ _=>(β.val id).ownBlock.toList++β.nb id
def J5 (w:World) (hv:Option Value) (t:TypeId) (e:List CT) (rows:List (List DC)) (v:Value) (mb:List Nat):Prop:=
 match hv with
 | none=>∃vals aA,cm w t e.length false v rows.length vals∧dO w e rows vals aA∧mb=v.ownBlock.toList
 | some v0=>v=v0∧v0.oneCell'=true∧mb=[]
def ab (w:World) (hv:Option Value):List CT→List TypeId→List DC→List Value→List Nat→Prop
 | [],ts,ds,us,mb=>ts=[]∧ds=[]∧us=[]∧mb=[]
 | .sl e::cs,ts,ds,us,mb=>∃t dN rows aX v aM m1 gb,ts=t::dN∧ds= .sl rows::aX∧us=v::aM∧aq e=true∧J5 w hv t e rows v m1∧ab w hv cs dN aX aM gb∧mb=m1++gb
 | c::cs,ts,ds,us,mb=>∃d aX v aM,ds=d::aX∧us=v::aM∧bY w c d v []∧ab w hv cs ts aX aM mb
def bK (w:World) (e:List CT) (ts:List TypeId) (rows:List (List DC)) (vals:List Value) (hv:Nat→Option Value) (aS:List (List Nat)):Prop:=
 aS.length=rows.length∧∀i r m,rows[i]? =some r→aS[i]? =some m→ab w (hv i) e ts r ((vals.drop (i*e.length)).take e.length) m
def hF (β:Env):Option (Nat×Nat)→Nat→Option Value
 | none,_=>none
 | some (i,id),j=>if j=i then some (β.val id) else none
def Av (h:Nat→Option aj) (β:Env) (b:Nat):Prop:=(∃id o,h id=some o∧b∈al β id o)∨β.gI b
def fU (w:World) (av:Nat→Prop) (β:Env) (id:Nat):aj→List Nat→Prop
 | .box t cells,φ=>∃vs:List Value,w.heap[β.cW id]? =some (.cells vs.toArray t (0,0))∧af w av β cells vs∧(∀x∈vs,x.oneCell'=true)∧φ=[β.cW id]
 | .row t e rows fz u,φ=>∃vals aA,cm w t e.length fz (β.val id) rows.length vals∧dO w e rows vals aA∧(∀b∈aA.flatten,¬av b)∧
   φ=(β.val id).ownBlock.toList++(bif u then aA.flatten else [])
 | .d_ e rows,φ=>ak w av β (.sl e rows) (β.val id)∧φ=[]
 | .deep t e ts rows hl,φ=>∃vals aS,cm w t e.length false (β.val id) rows.length vals∧bK w e ts rows vals (hF β hl) aS∧β.nb id=aS.flatten∧φ=(β.val id).ownBlock.toList++aS.flatten
structure Own where
 may:Nat→Prop
 gI:Nat→Prop
 fx:List (Nat×Value)
instance:CoeFun Own (fun _=>Nat→Prop):=⟨Own.may⟩
def Own.none:Own:=⟨fun _=>False,fun _=>False,[]⟩
structure Kept (S:Own) (w0 w:World):Prop where
 os:w.os=w0.os
 tape:w.tape=w0.tape
 output:w.output=w0.output
 size:w0.heap.size≤w.heap.size
 block:∀k,k<w0.heap.size→¬S k→w.heap[k]? =w0.heap[k]?
structure Core (w0:World) (S:Own) (f:Nat→SV) (h:Nat→Option aj) (β:Env) (φ:Nat→List Nat) (tm:Array Value) (w:World):Prop where
 cb:∀i,ak w (Av h β) β (f i) (tm.getD i undef)
 ay:∀id o,h id=some o→fU w (Av h β) β id o (φ id)
 fresh:∀id o,h id=some o→(φ id).Nodup∧∀b∈φ id,(w0.heap.size≤b∨S b)∧b<w.heap.size
 sep:∀i j o p,i≠j→h i=some o→h j=some p→∀b∈φ i,b ∉ φ j
 gI:∀b,β.gI b→b<w0.heap.size∧¬S b
 bars:β.gI=S.gI
theorem dO.lt {w:World} {e:List CT} {rows:List (List DC)} {vals:List Value} {aA:List (List Nat)} (h:dO w e rows vals aA):∀b∈aA.flatten,b<w.heap.size:=by
 intro b hb
 obtain⟨f,hf,hb⟩:=List.mem_flatten.1 hb
 obtain⟨i,hi,rfl⟩:=List.getElem_of_mem hf
 have dU:i<rows.length:=by have:=h.1;omega
 exact a9.lt e _ _ _ (h.2 i rows[i] aA[i] (by simp) (by simp)) b hb
theorem dO.mono {w w':World} {e:List CT} {rows:List (List DC)} {vals:List Value} {aA:List (List Nat)} (h:dO w e rows vals aA) (hs:w.heap.size≤w'.heap.size)
  (hb:∀b∈aA.flatten,w'.heap[b]? =w.heap[b]?):dO w' e rows vals aA:=
 ⟨h.1,fun i r f hi hf=>a9.mono hs e r _ _ f (h.2 i r f hi hf) (fun _=>rfl) (fun b hx=>hb b (List.mem_flatten.2 ⟨f,List.mem_of_getElem? hf,hx⟩))⟩
theorem cm.mono {w w':World} {t size:Nat} {fz:Bool} {v:Value} {n:Nat} {vals:List Value} (h:cm w t size fz v n vals)
  (hb:∀b∈v.ownBlock.toList,w'.heap[b]? =w.heap[b]?):cm w' t size fz v n vals:=by
 refine⟨h.1, ?_⟩
 rcases h.2 with hn | ⟨g,cap,cur,rfl,hg,rest⟩
 ·exact .inl hn
 ·exact .inr ⟨g,cap,cur,rfl,(hb g (by simp [Value.ownBlock])).trans hg,rest⟩
theorem cm.one {w:World} {t size:Nat} {fz:Bool} {v:Value} {n:Nat} {vals:List Value} (h:cm w t size fz v n vals):v.oneCell'=true:=by
 rcases h.2 with ⟨rfl,_⟩ | ⟨g,cap,cur,rfl,_⟩<;>rfl
theorem cm.lt {w:World} {t size:Nat} {fz:Bool} {v:Value} {n:Nat} {vals:List Value} (h:cm w t size fz v n vals):∀b∈v.ownBlock.toList,b<w.heap.size:=by
 rcases h.2 with ⟨rfl,_⟩ | ⟨g,cap,cur,rfl,hg,_⟩
 ·simp [Value.ownBlock]
 ·intro b hb
  simp [Value.ownBlock] at hb
  subst hb
  exact (Array.getElem?_eq_some_iff.1 hg).1
theorem cm.owns {w:World} {t size:Nat} {v:Value} {n:Nat} {vals:List Value} (h:cm w t size false v n vals):w.ownsRow 0 t size v n vals:=by
 refine⟨h.1, ?_⟩
 rcases h.2 with ⟨hv,hn,_⟩ | ⟨g,cap,cur,hv,hg,rest⟩
 ·exact .inl ⟨hv,hn⟩
 ·exact .inr ⟨g,cap,cur,hv,Nat.zero_le _,by simpa using hg,rest⟩
theorem cm.HZ {w:World} {t size:Nat} {v:Value} {n:Nat} {vals:List Value} {base:Nat} (h:w.ownsRow base t size v n vals):cm w t size false v n vals:=by
 refine⟨h.1, ?_⟩
 rcases h.2 with ⟨hv,hn⟩ | ⟨g,cap,cur,hv,_,hg,rest⟩
 ·exact .inl ⟨hv,hn,rfl⟩
 ·exact .inr ⟨g,cap,cur,hv,by simpa using hg,rest⟩
theorem dO.lZ:∀(cs:List CT) (r:List DC) (f:Nat→Option Value) (fp:List Nat) {w:World},aq cs=true→a9 w cs r f fp→fp=[]
 | [],r,g,fp,w,_,h=>by simp only[a9] at h;exact h.2
 | c::cs,r,g,fp,w,hf,h=>by
  simp only[a9] at h
  obtain⟨d,r',v,f1,f2,rfl,_,h1,h2,rfl⟩:=h
  cases c with
  | sl e=>simp [aq] at hf
  | int k=>
   simp only[bY] at h1
   obtain⟨_,_,_,_,rfl⟩:=h1
   rw[dO.lZ cs r' _ f2 (by simpa [aq] using hf) h2]
   rfl
  | bool=>
   simp only[bY] at h1
   obtain⟨_,_,_,rfl⟩:=h1
   rw[dO.lZ cs r' _ f2 (by simpa [aq] using hf) h2]
   rfl
  | str=>
   simp only[bY] at h1
   obtain⟨_,_,_,_,rfl⟩:=h1
   rw[dO.lZ cs r' _ f2 (by simpa [aq] using hf) h2]
   rfl
theorem dO.Dz {w:World} {e:List CT} {rows:List (List DC)} {vals:List Value} {aA:List (List Nat)} (hf:aq e=true) (h:dO w e rows vals aA):aA.flatten=[]:=by
 rw[List.flatten_eq_nil_iff]
 intro l hl
 obtain⟨i,hi,rfl⟩:=List.getElem_of_mem hl
 have dU:i<rows.length:=by have:=h.1;omega
 exact dO.lZ e _ _ _ hf (h.2 i rows[i] aA[i] (by simp) (by simp))
theorem ab.flat {w:World} {hv:Option Value} {c:CT} {cs:List CT} {ts:List TypeId} {ds:List DC} {us:List Value} {mb:List Nat} (hc:aq [c]=true):
  ab w hv (c::cs) ts ds us mb=∃d aX v aM,ds=d::aX∧us=v::aM∧bY w c d v []∧ab w hv cs ts aX aM mb:=by
 cases c with
 | sl e=>simp [aq] at hc
 | int k=>simp only[ab]
 | bool=>simp only[ab]
 | str=>simp only[ab]
theorem ab.mono {w w':World} {hv:Option Value} (hs:w.heap.size≤w'.heap.size):∀(cs:List CT) (ts:List TypeId) (ds:List DC) (us:List Value) (mb:List Nat),ab w hv cs ts ds us mb→(∀b∈mb,w'.heap[b]? =w.heap[b]?)→ab w' hv cs ts ds us mb
 | [],_,_,_,_,h,_=>by simpa only[ab] using h
 | .sl e::cs,_,_,_,_,h,hb=>by
  simp only[ab] at h ⊢
  obtain⟨t,dN,rows,aX,v,aM,m1,gb,h1,h2,h3,h4,h5,h6,rfl⟩:=h
  refine⟨t,dN,rows,aX,v,aM,m1,gb,h1,h2,h3,h4, ?_,ab.mono hs cs _ _ _ _ h6 (fun b hx=>hb b (List.mem_append_right _ hx)),rfl⟩
  cases hv with
  | some v0=>exact h5
  | none=>
   obtain⟨vals,aA,g1,g2,rfl⟩:=h5
   refine⟨vals,aA,g1.mono (fun b hx=>hb b (List.mem_append_left _ hx)),g2.mono hs (fun b hx=> ?_),rfl⟩
   rw[g2.Dz h4] at hx
   simp at hx
 | .int k::cs,_,_,_,_,h,hb=>by
  simp only[ab] at h ⊢
  obtain⟨d,aX,v,aM,h1,h2,h3,h4⟩:=h
  exact⟨d,aX,v,aM,h1,h2,bY.mono hs _ _ _ _ h3 (by simp),ab.mono hs cs _ _ _ _ h4 hb⟩
 | .bool::cs,_,_,_,_,h,hb=>by
  simp only[ab] at h ⊢
  obtain⟨d,aX,v,aM,h1,h2,h3,h4⟩:=h
  exact⟨d,aX,v,aM,h1,h2,bY.mono hs _ _ _ _ h3 (by simp),ab.mono hs cs _ _ _ _ h4 hb⟩
 | .str::cs,_,_,_,_,h,hb=>by
  simp only[ab] at h ⊢
  obtain⟨d,aX,v,aM,h1,h2,h3,h4⟩:=h
  exact⟨d,aX,v,aM,h1,h2,bY.mono hs _ _ _ _ h3 (by simp),ab.mono hs cs _ _ _ _ h4 hb⟩
theorem bK.mono {w w':World} {e:List CT} {ts:List TypeId} {rows:List (List DC)} {vals:List Value} {hv hv':Nat→Option Value} {aS:List (List Nat)} (h:bK w e ts rows vals hv aS) (hs:w.heap.size≤w'.heap.size)
  (hb:∀b∈aS.flatten,w'.heap[b]? =w.heap[b]?) (hh:∀i,hv' i=hv i):bK w' e ts rows vals hv' aS:=
 ⟨h.1,fun i r m hi hm=>by rw[hh];exact ab.mono hs _ _ _ _ _ (h.2 i r m hi hm) (fun b hx=>hb b (List.mem_flatten.2 ⟨m,List.mem_of_getElem? hm,hx⟩))⟩
theorem ah {w:World} {av:Nat→Prop} {β:Env} {id:Nat} {o:aj} {φ:List Nat} (h:fU w av β id o φ):∀b∈al β id o,b∈φ:=by
 cases o with
 | box t cells=>
  obtain⟨vs,_,_,_,rfl⟩:=h
  simp [al]
 | row t e rows fz u=>
  obtain⟨vals,aA,_,_,_,rfl⟩:=h
  intro b hb
  exact List.mem_append_left _ hb
 | d_ e rows=>simp [al]
 | deep t e ts rows hl=>
  obtain⟨vals,aS,_,_,hn,rfl⟩:=h
  intro b hb
  simpa only[al,hn] using hb
theorem fU.mono {w w':World} {av av':Nat→Prop} {β β':Env} {id:Nat} {o:aj} {φ:List Nat} (h:fU w av β id o φ) (hs:w.heap.size≤w'.heap.size)
  (hw:∀b,b<w.heap.size→¬av b→w'.heap[b]? =w.heap[b]?) (ha:∀b,av' b→av b∨w.heap.size≤b)
  (gm:∀i,i=id∨i∈cF o→β'.val i=β.val i∧β'.cW i=β.cW i) (ht:∀b∈al β id o,w'.heap[b]? =w.heap[b]?) (jo:β'.nb id=β.nb id):fU w' av' β' id o φ:=by
 have key:∀x,x<w.heap.size→¬av x→¬av' x:=fun x hx hn Co=>by
  rcases ha x Co with h | h
  ·exact hn h
  ·omega
 have h0:=gm id (.inl rfl)
 cases o with
 | box t cells=>
  obtain⟨vs,h1,h2,h3,rfl⟩:=h
  refine⟨vs, ?_,af.mono hs hw ha _ _ h2 (fun i hi=>gm i (.inr hi)),h3,by rw[h0.2]⟩
  rw[h0.2,ht _ (by simp [al])]
  exact h1
 | row t e rows fz u=>
  obtain⟨vals,aA,h1,h2,h3,rfl⟩:=h
  refine⟨vals,aA, ?_,h2.mono hs (fun b hb=>hw b (h2.lt b hb) (h3 b hb)),fun b hb=>key b (h2.lt b hb) (h3 b hb),by rw[h0.1]⟩
  rw[h0.1]
  exact h1.mono ht
 | d_ e rows=>
  obtain⟨h1,rfl⟩:=h
  refine⟨?_,rfl⟩
  rw[h0.1]
  exact ak.mono hs hw ha _ _ h1 (by simp [bX])
 | deep t e ts rows hl=>
  obtain⟨vals,aS,h1,h2,h3,rfl⟩:=h
  refine⟨vals,aS, ?_,h2.mono hs (fun b hb=>ht b ?_) (fun j=> ?_),by rw[jo];exact h3,by rw[h0.1]⟩
  ·rw[h0.1]
   exact h1.mono (fun b hb=>ht b (by simp only[al];exact List.mem_append_left _ hb))
  ·simp only[al,h3]
   exact List.mem_append_right _ hb
  ·cases hl with
   | none=>rfl
   | some x=>
    obtain⟨k,nid⟩:=x
    simp only[hF]
    rw[(gm nid (.inr (by simp [cF]))).1]
theorem Core.mG {w0:World} {S:Own} {f:Nat→SV} {h h':Nat→Option aj} {β β':Env} {φ φ':Nat→List Nat} {tm:Array Value} {w w':World}
  (hc:Core w0 S f h β φ tm w) (X:Nat→Prop)
  (hs:w.heap.size≤w'.heap.size) (hw:∀b,b<w.heap.size→¬Av h β b→w'.heap[b]? =w.heap[b]?) (ha:∀b,Av h' β' b→Av h β b∨w.heap.size≤b)
  (hf:∀i,∀id∈bX (f i),¬X id) (gm:∀id,¬X id→β'.val id=β.val id∧β'.cW id=β.cW id)
  (hk:∀id o,h' id=some o→
   (¬X id∧h id=some o∧β'.nb id=β.nb id∧φ' id=φ id∧(∀i∈cF o,¬X i)∧∀b∈al β id o,w'.heap[b]? =w.heap[b]?)∨
   (fU w' (Av h' β') β' id o (φ' id)∧(φ' id).Nodup∧∀b∈φ' id,(w0.heap.size≤b∨S b)∧b<w'.heap.size))
  (HL:∀i j o p,i≠j→h' i=some o→h' j=some p→∀b∈φ' i,b ∉ φ' j) (fa:β'.gI=β.gI:=by rfl):Core w0 S f h' β' φ' tm w' where
 cb i:=ak.mono hs hw ha _ _ (hc.cb i) (fun id dV=>gm id (hf i id dV))
 ay id o ho:=by
  rcases hk id o ho with ⟨hx,h1,hn,h2,h3,h4⟩ | h1
  ·rw[h2]
   exact (hc.ay id o h1).mono hs hw ha (fun i hi=>gm i (hi.elim (fun e=>e ▸ hx) (h3 i))) h4 hn
  ·exact h1.1
 fresh id o ho:=by
  rcases hk id o ho with ⟨hx,h1,hn,h2,h3,h4⟩ | h1
  ·rw[h2]
   refine⟨(hc.fresh id o h1).1,fun b hb=> ?_⟩
   have:=(hc.fresh id o h1).2 b hb
   exact⟨this.1,by omega⟩
  ·exact h1.2
 sep:=HL
 gI b hb:=hc.gI b (fa ▸ hb)
 bars:=fa.trans hc.bars
theorem Core.step {w0:World} {S:Own} {f:Nat→SV} {h h':Nat→Option aj} {β β':Env} {φ φ':Nat→List Nat} {tm:Array Value} {w w':World}
  (hc:Core w0 S f h β φ tm w) (X:Nat→Prop)
  (hs:w.heap.size≤w'.heap.size) (hw:∀b,b<w.heap.size→¬Av h β b→w'.heap[b]? =w.heap[b]?) (ha:∀b,Av h' β' b→Av h β b∨w.heap.size≤b)
  (hf:∀i,∀id∈bX (f i),¬X id) (gm:∀id,¬X id→β'.val id=β.val id∧β'.cW id=β.cW id)
  (hk:∀id o,h' id=some o→
   (¬X id∧h id=some o∧φ' id=φ id∧(∀i∈cF o,¬X i)∧∀b∈al β id o,w'.heap[b]? =w.heap[b]?)∨
   (fU w' (Av h' β') β' id o (φ' id)∧(φ' id).Nodup∧∀b∈φ' id,(w0.heap.size≤b∨S b)∧b<w'.heap.size))
  (HL:∀i j o p,i≠j→h' i=some o→h' j=some p→∀b∈φ' i,b ∉ φ' j) (fa:β'.gI=β.gI:=by rfl) (jo:∀id,β'.nb id=β.nb id:=by intro _;rfl):Core w0 S f h' β' φ' tm w':=
 hc.mG X hs hw ha hf gm (fun id o ho=>(hk id o ho).elim (fun h=> .inl ⟨h.1,h.2.1,jo id,h.2.2⟩) .inr) HL fa
theorem Core.Ii {w0:World} {S:Own} {f:Nat→SV} {h:Nat→Option aj} {β:Env} {φ:Nat→List Nat} {tm:Array Value} {w:World} (hc:Core w0 S f h β φ tm w) (hk:w0.heap.size≤w.heap.size) {b:Nat} (hb:Av h β b):b<w.heap.size:=by
 rcases hb with ⟨j,oj,hj,br⟩ | hb
 ·exact ((hc.fresh j oj hj).2 b (ah (hc.ay j oj hj) b br)).2
 ·have:=(hc.gI b hb).1
  omega
theorem Core.Bc {w0:World} {S:Own} {f:Nat→SV} {h:Nat→Option aj} {β:Env} {φ:Nat→List Nat} {tm:Array Value} {w:World} (hc:Core w0 S f h β φ tm w) {j:Nat} {oj:aj} (hj:h j=some oj) {b:Nat} (hb:b∈φ j):¬β.gI b:=by
 intro hx
 have h1:=hc.gI b hx
 rcases ((hc.fresh j oj hj).2 b hb).1 with h2 | h2
 ·omega
 ·exact h1.2 h2
def az {α:Type} (f:Nat→α) (d:Nat) (x:α):Nat→α:=fun i=>if i=d then x else f i
theorem Core.put {w0:World} {S:Own} {f:Nat→SV} {h:Nat→Option aj} {β:Env} {φ:Nat→List Nat} {tm:Array Value} {w:World}
  (hc:Core w0 S f h β φ tm w) (d:Nat) (s:SV) (v:Value) (hd:d<tm.size) (hv:ak w (Av h β) β s v):Core w0 S (az f d s) h β φ (tm.setIfInBounds d v) w where
 cb i:=by
  by_cases hi:i=d
  ·subst hi
   simpa [az,Array.getD,hd] using hv
  ·have:=hc.cb i
   have e:(tm.setIfInBounds d v).getD i undef=tm.getD i undef:=by
    simp only[Array.getD_eq_getD_getElem?,Array.getElem?_setIfInBounds]
    rw[if_neg (fun e=>hi e.symm)]
   rw[e]
   simpa [az,hi] using this
 ay:=hc.ay
 fresh:=hc.fresh
 sep:=hc.sep
 gI:=hc.gI
 bars:=hc.bars
structure Rel (w0:World) (S:Own) (st:St) (a:Act) (w:World):Prop where
 size:a.tmps.size=st.n % 1099511627776
 fx:∀x∈S.fx,x.1<st.n / 1099511627776∧a.tmps.getD x.1 undef=x.2
 defers:a.defers=[]
 kept:Kept S w0 w
 core:∃β φ,Core w0 S st.get st.obj β φ a.tmps w
def M.val {α:Type} (f:Nat→SV) (h:Nat→Option aj):M α→Option α
 | .pure a=>some a
 | .fail=>none
 | .slot i k=>(k (f i)).val f h
 | .obj i k=>match h i with
  | some x=>(k x).val f h
  | none=>none
theorem M.ey {α:Type} {f:Nat→SV} {h:Nat→Option aj} :∀(m:M α) {a:α} {s o:List Nat},m.run f h=some (a,s,o)→m.val f h=some a
 | .pure a,_,_,_,e=>by simp only[M.run,Option.some.injEq,Prod.mk.injEq] at e;simp [M.val,e.1]
 | .fail,_,_,_,e=>by simp [M.run] at e
 | .slot i k,a,s,o,e=>by
  simp only[M.run] at e
  split at e
  ·rename_i b s' o' hk
   simp only[Option.some.injEq,Prod.mk.injEq] at e
   obtain⟨rfl,_,_⟩:=e
   exact M.ey (k (f i)) hk
  ·cases e
 | .obj i k,a,s,o,e=>by
  simp only[M.run] at e
  split at e
  ·rename_i x hx
   split at e
   ·rename_i b s' o' hk
    simp only[Option.some.injEq,Prod.mk.injEq] at e
    obtain⟨rfl,_,_⟩:=e
    simp only[M.val,hx]
    exact M.ey (k x) hk
   ·cases e
  ·cases e
@[simp] theorem M.ae {α β:Type} {f:Nat→SV} {h:Nat→Option aj} (k:α→M β):∀(m:M α),(m.bind k).val f h=(m.val f h).bind fun a=>(k a).val f h
 | .pure a=>rfl
 | .fail=>rfl
 | .slot i q=>by simp only[M.bind,M.val];exact M.ae k (q (f i))
 | .obj i q=>by
  simp only[M.bind,M.val]
  cases h i with
  | none=>rfl
  | some x=>exact M.ae k (q x)
@[simp] theorem M.aa {α:Type} {f:Nat→SV} {h:Nat→Option aj} (a:α):(M.pure a).val f h=some a:=rfl
@[simp] theorem M.mI {α:Type} {f:Nat→SV} {h:Nat→Option aj} :(M.fail:M α).val f h=none:=rfl
@[simp] theorem M.aT {α:Type} {f:Nat→SV} {h:Nat→Option aj} (i:Nat) (k:aj→M α):(M.obj i k).val f h=(h i).bind fun x=>(k x).val f h:=by
 simp only[M.val]
 cases h i<;>rfl
@[simp] theorem M.iy {α:Type} {f:Nat→SV} {h:Nat→Option aj} (i:Nat) (k:SV→M α):(M.slot i k).val f h=(k (f i)).val f h:=rfl
def Hd (f:Nat→SV):Operand→SV
 | .tmp t=>f t
 | .const v=>ofConst v
 | _=> .fy
theorem Dh {f:Nat→SV} {h:Nat→Option aj} {x:Operand} {s:SV} (e:(cd x).val f h=some s):s=Hd f x:=by
 cases x<;>simp [cd,M.val] at e<;>simp [Hd,e]
theorem jk {w:World} {av:Nat→Prop} {β:Env} (v:Value):ak w av β (ofConst v) v:=by
 unfold ofConst
 split
 ·simp [ak]
 ·rename_i k n
  cases hi:BV k n<;>simp [ak,hi]
 ·rename_i s
  cases hi:Nat.ble s.data.toList.length maxLen
  ·simp [ak]
  ·simp only[cond_true,ak]
   exact⟨by simp,Nat.le_of_ble_eq_true hi⟩
 ·simp [ak]
 ·simp [ak]
theorem Core.ev {w0:World} {S:Own} {f:Nat→SV} {h:Nat→Option aj} {β:Env} {φ:Nat→List Nat} {a:Act} {w:World}
  (hc:Core w0 S f h β φ a.tmps w) {x:Operand} {s:SV} (e:(cd x).val f h=some s):ak w (Av h β) β s (a.eval x):=by
 have:=Dh e
 subst this
 cases x with
 | tmp t=>exact hc.cb t
 | const v=>exact jk v
 | global g=>simp [Hd,ak]
 | func g=>simp [Hd,ak]
end Go.Proofs.YtnlkklmcfafgeaaGreat.Vm
namespace Go.Proofs.YtnlkklmcfafgeaaGreat.Vm
def fo:List (Nat×Option aj)→(Nat→Option aj)→Nat→Option aj
 | [],h=>h
 | (i,x)::l,h=>az (fo l h) i x
def fc:Option (Nat×Nat×List SV)→(Nat→Option aj)→Nat→Option aj
 | none,h=>h
 | some (i,off,bO),h=>match h i with
  | some (.box t cells)=>az h i (some (.box t (cI cells off bO)))
  | _=>h
theorem A9 (h:List (Nat×aj)) (i j:Nat):dI (Gy h i) j=if j=i then none else dI h j:=by
 induction h with
 | nil=>simp [Gy,dI]
 | cons x l ih=>
  obtain⟨k,o⟩:=x
  simp only[Gy,dI]
  cases hk:Nat.beq k i
  ·simp only[cond_false,dI]
   cases hj:Nat.beq k j
   ·simpa using ih
   ·have e1:=Nat.eq_of_beq_eq_true hj
    have e2:=Nat.ne_of_beq_eq_false hk
    subst e1
    simp [e2]
  ·have e1:=Nat.eq_of_beq_eq_true hk
   subst e1
   simp only[cond_true]
   rw[ih]
   by_cases hj:j=k
   ·simp [hj]
   ·have:Nat.beq k j=false:=by
     cases hb:Nat.beq k j
     ·rfl
     ·exact absurd (Nat.eq_of_beq_eq_true hb).symm hj
    simp [hj,this]
theorem BX (h:List (Nat×aj)) (i j:Nat) (o:aj):dI ((i,o)::h) j=if j=i then some o else dI h j:=by
 simp only[dI]
 cases hk:Nat.beq i j
 ·have e2:=Nat.ne_of_beq_eq_false hk
  rw[if_neg (fun e=>e2 e.symm)]
  rfl
 ·simp [(Nat.eq_of_beq_eq_true hk).symm]
theorem ib (ow:List (Nat×Option aj)) (h:List (Nat×aj)):dI (kC ow h)=fo ow (dI h):=by
 induction ow with
 | nil=>rfl
 | cons x l ih=>
  obtain⟨i,o⟩:=x
  funext j
  cases o with
  | none=>simp only[kC,A9,fo,az,ih]
  | some o=>
   simp only[kC,BX,A9,fo,az,ih]
   split<;>rfl
theorem Fm (cw:Option (Nat×Nat×List SV)) (h:List (Nat×aj)):dI (Gq cw h)=fc cw (dI h):=by
 cases cw with
 | none=>rfl
 | some x=>
  obtain⟨i,off,bO⟩:=x
  simp only[Gq,fc]
  cases hb:dI h i with
  | none=>rfl
  | some b=>
   cases b with
   | box t cells=>
    funext j
    simp only[BX,A9,az]
    split<;>rfl
   | row=>rfl
   | d_=>rfl
   | deep=>rfl
theorem ff (st:St) (d:Option Nat) (e:cJ):(st.apply d e).obj=fo e.ow (fc e.cw st.obj):=by
 show dI (kC e.ow (Gq e.cw st.hp))=_
 rw[ib,Fm]
 rfl
theorem apply_get (st:St) (d:Nat) (e:cJ):(st.apply (some d) e).get=az st.get d e.sv:=by
 funext i
 show jf ((d,e.sv)::st.sl) i=_
 simp only[jf,az,St.get]
 cases hk:Nat.beq d i
 ·have e2:=Nat.ne_of_beq_eq_false hk
  rw[if_neg (fun h=>e2 h.symm)]
  rfl
 ·simp [(Nat.eq_of_beq_eq_true hk).symm]
theorem gS (st:St) (e:cJ):(st.apply none e).get=st.get:=rfl
def Good (P:Program) (w0:World) (S:Own) (st:St) (o:Oper) (e:cJ) (a:Act) (w:World):Prop:=
 ∀Q,o.wp P a w (fun a' w'=>∃v,a'=a.put o.dst v∧Rel w0 S (st.apply o.dst e) a' w') Q
theorem iI {w0:World} {S:Own} {st:St} {o:Oper} {e:cJ} {a:Act} {w w':World} {v:Value} (hR:Rel w0 S st a w) (hd:∀d,o.dst=some d→bc st.n d)
  (hk:Kept S w0 w') (hc:∃β φ,Core w0 S st.get (fo e.ow (fc e.cw st.obj)) β φ a.tmps w'∧ak w' (Av (fo e.ow (fc e.cw st.obj)) β) β e.sv v):
  Rel w0 S (st.apply o.dst e) (a.put o.dst v) w':=by
 obtain⟨β,φ,hc,hv⟩:=hc
 cases aL:o.dst with
 | none=>
  refine⟨hR.size,hR.fx,hR.defers,hk,β,φ, ?_⟩
  rw[ff,gS]
  exact hc
 | some d=>
  refine⟨?_, ?_,hR.defers,hk,β,φ, ?_⟩
  ·simp only[Act.put,Array.size_setIfInBounds]
   exact hR.size
  ·intro x hx
   have h1:=hR.fx x hx
   have h2:=(hd d aL).2
   refine⟨h1.1, ?_⟩
   simp only[Act.put,Array.getD_eq_getD_getElem?,Array.getElem?_setIfInBounds]
   rw[if_neg (by omega),←Array.getD_eq_getD_getElem?]
   exact h1.2
  ·rw[ff,apply_get]
   exact hc.put d e.sv v (by rw[hR.size];exact (hd d aL).1) hv
theorem bM {P:Program} {w0:World} {S:Own} {st:St} {o:Oper} {e:cJ} {a:Act} {w w':World} {v:Value} (hR:Rel w0 S st a w) (hd:∀d,o.dst=some d→bc st.n d)
  (bs:(execOp a.eval o).run P w= .ok (.value v) w') (hk:Kept S w0 w')
  (hc:∃β φ,Core w0 S st.get (fo e.ow (fc e.cw st.obj)) β φ a.tmps w'∧ak w' (Av (fo e.ow (fc e.cw st.obj)) β) β e.sv v):Good P w0 S st o e a w:=by
 intro Q
 unfold Oper.wp
 rw[bs]
 exact⟨v,rfl,iI hR hd hk hc⟩
theorem iB {P:Program} {w0:World} {S:Own} {st:St} {o:Oper} {e:cJ} {a:Act} {w w':World} (hR:Rel w0 S st a w) (hd:∀d,o.dst=some d→bc st.n d)
  (bs:(execOp a.eval o).run P w= .ok .skip w') (hk:Kept S w0 w')
  (hc:∃β φ,Core w0 S st.get (fo e.ow (fc e.cw st.obj)) β φ a.tmps w'∧ak w' (Av (fo e.ow (fc e.cw st.obj)) β) β e.sv undef):Good P w0 S st o e a w:=by
 intro Q
 unfold Oper.wp
 rw[bs]
 exact⟨undef,rfl,iI hR hd hk hc⟩
theorem ao {P:Program} {w0:World} {S:Own} {st:St} {o:Oper} {e:cJ} {a:Act} {w:World} (hR:Rel w0 S st a w) (hd:∀d,o.dst=some d→bc st.n d)
  (jG:e.cw=none) (how:e.ow=[])
  (h:∀β φ,Core w0 S st.get st.obj β φ a.tmps w→∃v,(execOp a.eval o).run P w= .ok (.value v) w∧ak w (Av st.obj β) β e.sv v):Good P w0 S st o e a w:=by
 obtain⟨β,φ,hc⟩:=hR.core
 obtain⟨v,bs,hv⟩:=h β φ hc
 refine bM hR hd bs hR.kept ⟨β,φ, ?_, ?_⟩
 ·rw[jG,how];exact hc
 ·rw[jG,how];exact hv
theorem eB {k:IntKind} {n:Int} :BV k n=true↔k.min≤n∧n≤k.max:=by simp [BV]
theorem fq (k:IntKind) (n:Int):BV k (k.wrap n)=true:=eB.2 (wrap_within k n)
theorem ia (op:BinOp) (k:IntKind) (x y:Int):BV k (bits op k x y)=true:=eB.2 (bits_within op k x y)
theorem kX (k:IntKind):k.min≤0:=by cases k<;>decide
theorem lj (k:IntKind):0≤k.max:=by cases k<;>decide
theorem Bl (x y:Int):(0≤x→0≤x.tmod y∧x.tmod y≤x)∧(x≤0→x≤x.tmod y∧x.tmod y≤0):=by
 have jK:∀z:Int,0≤z→0≤z.tmod y∧z.tmod y≤z:=by
  intro z hz
  refine⟨Int.tmod_nonneg y hz, ?_⟩
  have h:=Int.natAbs_tmod z y
  have h1:z.natAbs % y.natAbs≤z.natAbs:=Nat.mod_le _ _
  have h2:=Int.tmod_nonneg y hz
  omega
 refine⟨jK x,fun hx=> ?_⟩
 have h:=jK (-x) (by omega)
 rw[Int.neg_tmod] at h
 omega
theorem Fh {k:IntKind} {x:Int} (y:Int) (h:BV k x=true):BV k (x.tmod y)=true:=by
 rw[eB] at*
 have h0:=kX k
 have h1:=lj k
 have ht:=Bl x y
 rcases Int.le_total 0 x with hx | hx
 ·have:=ht.1 hx;omega
 ·have:=ht.2 hx;omega
theorem AR (x:Int) (n:Nat):(0≤x→0≤x.fdiv (2 ^ n)∧x.fdiv (2 ^ n)≤x)∧(x≤0→x≤x.fdiv (2 ^ n)∧x.fdiv (2 ^ n)≤0):=by
 have hm:(1:Int)≤2 ^ n:=by
  have:0<2 ^ n:=Nat.two_pow_pos n
  have h2:((2 ^ n:Nat):Int)=(2:Int) ^ n:=by simp
  omega
 rw[Int.fdiv_eq_ediv_of_nonneg x (by omega)]
 generalize (2:Int) ^ n=m at hm
 refine⟨fun hx=>⟨Int.ediv_nonneg hx (by omega),Int.ediv_le_self m hx⟩,fun hx=>⟨?_, ?_⟩⟩
 ·rw[Int.le_ediv_iff_mul_le (by omega)]
  have:=Int.mul_le_mul_of_nonpos_left hx hm
  simpa using this
 ·have:=Int.ediv_le_ediv (by omega:(0:Int)<m) hx
  simpa using this
theorem Fg {k:IntKind} {x:Int} (n:Nat) (h:BV k x=true):BV k (x.fdiv (2 ^ n))=true:=by
 rw[eB] at*
 have h0:=kX k
 have h1:=lj k
 have ht:=AR x n
 rcases Int.le_total 0 x with hx | hx
 ·have:=ht.1 hx;omega
 ·have:=ht.2 hx;omega
theorem DZ {P:Program} {w:World} {op:BinOp} {k:IntKind} {x y:Int} {t:TypeId} {s:SV} {c:Bool} (h:Fi op k x y=some (s,c)) (hc:c=true) (hx:BV k x=true)
  {av:Nat→Prop} {β:Env} :∃v,(binOp op t (.int k x) (.int k y)).run P w= .ok v w∧ak w av β s v:=by
 unfold Fi at h
 split at h<;>simp only[Option.some.injEq,Prod.mk.injEq,reduceCtorEq] at h
 all_goals obtain⟨rfl,AZ⟩:=h
 ·exact⟨_,by simp [binOp,Op.intArith];rfl,by simp [ak,fq]⟩
 ·exact⟨_,by simp [binOp,Op.intArith];rfl,by simp [ak,fq]⟩
 ·exact⟨_,by simp [binOp,Op.intArith];rfl,by simp [ak,fq]⟩
 ·have hy:y≠0:=by rw[←AZ] at hc;simpa using hc
  exact⟨_,by simp [binOp,Op.intDiv,hy];rfl,by simp [ak,fq]⟩
 ·have hy:y≠0:=by rw[←AZ] at hc;simpa using hc
  exact⟨_,by simp [binOp,Op.intDiv,hy];rfl,by simp [ak,Fh y hx]⟩
 ·exact⟨.int k (bits .and k x y),by simp only[binOp,ne_eq,not_true_eq_false,if_false];rfl,by simp [ak,ia]⟩
 ·exact⟨.int k (bits .or k x y),by simp only[binOp,ne_eq,not_true_eq_false,if_false];rfl,by simp [ak,ia]⟩
 ·exact⟨.int k (bits .xor k x y),by simp only[binOp,ne_eq,not_true_eq_false,if_false];rfl,by simp [ak,ia]⟩
 ·exact⟨.int k (bits .andNot k x y),by simp only[binOp,ne_eq,not_true_eq_false,if_false];rfl,by simp [ak,ia]⟩
 all_goals exact⟨_,by simp [binOp,Op.intCmp];rfl,by simp [ak]⟩
end Go.Proofs.YtnlkklmcfafgeaaGreat.Vm
set_option linter.unusedVariables false
set_option linter.unusedSimpArgs false
namespace Go.Proofs.YtnlkklmcfafgeaaGreat.Vm
theorem dg {w:World} {av:Nat→Prop} {β:Env} {c:CT} {d:DC} {v:Value} {fp:List Nat} (h:bY w c d v fp) (ha:∀b∈fp,¬av b):ak w av β (gg c d) v:=by
 cases c with
 | int k=>
  simp only[bY] at h
  obtain⟨n,rfl,rfl,hi,_⟩:=h
  simp [gg,DC.asInt,ak,hi]
 | bool=>
  simp only[bY] at h
  obtain⟨b,rfl,rfl,_⟩:=h
  simp [gg,DC.asBool,ak]
 | str=>
  simp only[bY] at h
  obtain⟨s,rfl,rfl,hl,_⟩:=h
  simp [gg,DC.Gw,ak,hl]
 | sl e=>
  have h':=h
  simp only[bY] at h
  obtain⟨rows,a,n,cp,rfl,_⟩:=h
  simp only[gg,DC.cq,ak]
  exact⟨fp,h',ha⟩
theorem bY.one {w:World} {c:CT} {d:DC} {v:Value} {fp:List Nat} (h:bY w c d v fp):v.oneCell'=true:=by
 cases c with
 | int k=>simp only[bY] at h;obtain⟨n,_,rfl,_⟩:=h;rfl
 | bool=>simp only[bY] at h;obtain⟨b,_,rfl,_⟩:=h;rfl
 | str=>simp only[bY] at h;obtain⟨s,_,rfl,_⟩:=h;rfl
 | sl e=>simp only[bY] at h;obtain⟨rows,a,n,cp,_,rfl,_⟩:=h;rfl
theorem a9.get {w:World} :∀(cs:List CT) (r:List DC) (f:Nat→Option Value) (fp:List Nat) (i:Nat) (c:CT),a9 w cs r f fp→cs[i]? =some c→
  ∃v BG,f i=some v∧bY w c (r.getD i default) v BG∧∀b∈BG,b∈fp
 | [],_,_,_,_,_,_,hi=>by simp at hi
 | c::cs,_,_,_,i,x,h,hi=>by
  simp only[a9] at h
  obtain⟨d,r',v,f1,f2,rfl,h0,h1,h2,rfl⟩:=h
  cases i with
  | zero=>
   simp at hi
   subst hi
   exact⟨v,f1,h0,by simpa using h1,fun b hb=>by simp [hb]⟩
  | succ i=>
   obtain⟨v',BG,e1,e2,e3⟩:=a9.get cs r' _ f2 i x h2 (by simpa using hi)
   exact⟨v',BG,e1,by simpa using e2,fun b hb=>by simp [e3 b hb]⟩
theorem a9.bO {w:World} {av:Nat→Prop} {β:Env} {cs:List CT} {r:List DC} {f:Nat→Option Value} {fp:List Nat} (h:a9 w cs r f fp) (ha:∀b∈fp,¬av b):
  ∀(n k:Nat),k+n≤cs.length→∃vs:List Value,vs.length=n∧(∀j v,vs[j]? =some v→f (k+j)=some v)∧af w av β (ch ((cs.drop k).take n) r k) vs∧∀x∈vs,x.oneCell'=true
 | 0,k,_=>⟨[],rfl,by simp,by simp [ch,af],by simp⟩
 | n+1,k,hk=>by
  have cr:k<cs.length:=by omega
  obtain⟨v,BG,e1,e2,e3⟩:=a9.get cs r f fp k cs[k] h (by simp)
  obtain⟨vs,l1,l2,l3,l4⟩:=a9.bO (β:=β) h ha n (k+1) (by omega)
  refine⟨v::vs,by simp [l1], ?_, ?_, ?_⟩
  ·intro j u hj
   cases j with
   | zero=>simp at hj;subst hj;simpa using e1
   | succ j=>have:=l2 j u (by simpa using hj);rw[←this];congr 1;omega
  ·have:(cs.drop k).take (n+1)=cs[k]::(cs.drop (k+1)).take n:=by
    rw[List.drop_eq_getElem_cons cr,List.take_succ_cons]
   rw[this]
   simp only[ch,af]
   exact⟨v,vs,rfl,dg e2 (fun b hb=>ha b (e3 b hb)),l3⟩
  ·intro x hx
   rcases List.mem_cons.1 hx with rfl | hx
   ·exact e2.one
   ·exact l4 x hx
theorem dt (b o n:Nat):(⟨b,o,none⟩:Addr).add n=⟨b,o+n,none⟩:=by
 unfold Addr.add
 split
 ·rename_i h;subst h;rfl
 ·rfl
theorem iL {P:Program} {w:World} {t:TypeId} {d:TypeDesc} (h:P.underlying t=some d):(isAgg t).run P w= .ok (bj P t) w:=by
 simp only[isAgg,Sem.run_bind,run_underlying h,Result.andThen_ok,bj,h]
 cases d<;>rfl
theorem kV {P:Program} {t:TypeId} (h:bj P t=true):∃d,P.underlying t=some d:=by
 unfold bj at h
 split at h<;>first | exact⟨_,by assumption⟩ | cases h
theorem dY {P:Program} {w:World} {t:TypeId} {i:TypeInfo} {b o:Nat} {vs:List Value} (ha:bj P t=true) (hi:P.info? t=some i)
  (hl:vs.length=i.size) (hc:∀j v,vs[j]? =some v→w.cell? ⟨b,o+j,none⟩=some v):
  (Instr.loadAt t (.pointer (some ⟨b,o,none⟩))).run P w= .ok (.agg vs.toArray) w:=by
 obtain⟨d,hd⟩:=kV ha
 have:=run_loadCells_list (P:=P) (w:=w) ⟨b,o,none⟩ vs (fun j v hj=>by rw[dt];exact hc j v hj)
 rw[hl] at this
 simp only[Instr.loadAt,Instr.sureAddr,loadVar,Sem.run_bind,Sem.run_pure,Result.andThen_ok,iL hd,ha,if_true,sizeOf,typeInfo,run_program,hi,this]
theorem dZ {P:Program} {w:World} {t:TypeId} {d:TypeDesc} {b o:Nat} {v:Value} (ha:bj P t=false) (hd:P.underlying t=some d)
  (hc:w.cell? ⟨b,o,none⟩=some v):(Instr.loadAt t (.pointer (some ⟨b,o,none⟩))).run P w= .ok v w:=by
 simp [Instr.loadAt,Instr.sureAddr,loadVar,iL hd,ha,hc]
section
variable {P:Program} {Γ:Ctx} {w0:World} {S:Own} {st:St} {o:Oper} {e:cJ} {a:Act} {w:World}
theorem mE (hR:Rel w0 S st a w) (hd:∀d,o.dst=some d→bc st.n d) {x:Operand} (ho:o.op= .move x∨o.op= .assign x) {s:SV}
  (h1:(cd x).val st.get st.obj=some s) (he:e= {sv:=s}):Good P w0 S st o e a w:=by
 subst he
 refine ao hR hd rfl rfl fun β φ hc=>⟨a.eval x, ?_,hc.ev h1⟩
 rcases ho with ho | ho<;>simp [execOp,ho]
theorem C_ (hR:Rel w0 S st a w) (hd:∀d,o.dst=some d→bc st.n d) {c x y:Operand} (ho:o.op= .pick c x y) {sc sx sy:SV}
  (h0:(cd c).val st.get st.obj=some sc) (h1:(cd x).val st.get st.obj=some sx) (h2:(cd y).val st.get st.obj=some sy)
  (he:(match sc with | .kb t=>M.pure ({sv:=bif t then sx else sy} :cJ) | .bool g=> .pure {sv:=eD g sx sy} | _=> .fail).val st.get st.obj=some e):Good P w0 S st o e a w:=by
 split at he
 ·rename_i t
  simp only[M.aa,Option.some.injEq] at he
  subst he
  refine ao hR hd rfl rfl fun β φ hc=>⟨if t then a.eval x else a.eval y, ?_, ?_⟩
  ·have hv:=hc.ev h0
   simp only[ak] at hv
   simp [execOp,ho,hv,asBool]
  ·cases t
   ·exact hc.ev h2
   ·exact hc.ev h1
 ·rename_i t
  simp only[M.aa,Option.some.injEq] at he
  subst he
  refine ao hR hd rfl rfl fun β φ hc=>⟨if t then a.eval x else a.eval y, ?_, ?_⟩
  ·have hv:=hc.ev h0
   simp only[ak] at hv
   simp [execOp,ho,hv,asBool]
  ·refine ak.merge _ _ _ _ ?_
   cases t
   ·exact hc.ev h2
   ·exact hc.ev h1
 ·simp at he
theorem mF (hR:Rel w0 S st a w) (hd:∀d,o.dst=some d→bc st.n d) {x:Operand} (ho:o.op= .nilCheck x) {s:SV} (h1:(cd x).val st.get st.obj=some s)
  (he:(match s with | .ptr .. =>M.pure ({sv:=s} :cJ) | .gN .. => .pure {sv:=s} | .d9 .. => .pure {sv:=s} | _=> .fail).val st.get st.obj=some e):Good P w0 S st o e a w:=by
 split at he
 ·simp only[M.aa,Option.some.injEq] at he
  subst he
  refine ao hR hd rfl rfl fun β φ hc=>⟨a.eval x, ?_,hc.ev h1⟩
  have hv:=hc.ev h1
  simp only[ak] at hv
  simp [execOp,ho,hv]
 ·simp only[M.aa,Option.some.injEq] at he
  subst he
  refine ao hR hd rfl rfl fun β φ hc=>⟨a.eval x, ?_,hc.ev h1⟩
  have hv:=hc.ev h1
  simp only[ak] at hv
  obtain⟨b,o',fp,hv,_⟩:=hv
  simp [execOp,ho,hv]
 ·simp only[M.aa,Option.some.injEq] at he
  subst he
  refine ao hR hd rfl rfl fun β φ hc=>⟨a.eval x, ?_,hc.ev h1⟩
  have hv:=hc.ev h1
  simp only[ak] at hv
  obtain⟨g,_,hv⟩:=hv
  simp [execOp,ho,hv]
 ·simp at he
theorem lz (hR:Rel w0 S st a w) (hd:∀d,o.dst=some d→bc st.n d) {t:TypeId} {x:Operand} {f:Nat} (ho:o.op= .fieldAddr t x f) {fs:Array Field} {fd:Field} {i:TypeInfo}
  (hu:P.underlying t=some (.struct fs)) (hf:fs[f]? =some fd) (hz:aY P fd.type 0=false) (hi:P.info? fd.type=some i) {s:SV} (h1:(cd x).val st.get st.obj=some s)
  (he:(match s with
     | .ptr id off=>M.pure ({sv:= .ptr id (off+fd.offset)} :cJ)
     | .gN e r off=> .pure {sv:= .gN e r (off+fd.offset)}
     | .d9 id i z off=> .pure {sv:= .d9 id i z (off+fd.offset)}
     | _=> .fail).val st.get st.obj=some e):Good P w0 S st o e a w:=by
 have dB:i.size≠0:=by
  simp only[aY,hi] at hz
  exact Nat.ne_of_beq_eq_false hz
 have run:∀b off,a.eval x= .pointer (some ⟨b,off,none⟩)→(execOp a.eval o).run P w= .ok (.value (.pointer (some ⟨b,off+fd.offset,none⟩))) w:=by
  intro b off hv
  simp [execOp,ho,hv,Instr.fieldAt,run_underlying hu,hf,Instr.sureAddr,fieldPlace,sizeOf,typeInfo,hi,dB,dt]
 split at he
 ·simp only[M.aa,Option.some.injEq] at he
  subst he
  refine ao hR hd rfl rfl fun β φ hc=> ?_
  have hv:=hc.ev h1
  simp only[ak] at hv
  exact⟨_,run _ _ hv,by simp [ak]⟩
 ·simp only[M.aa,Option.some.injEq] at he
  subst he
  refine ao hR hd rfl rfl fun β φ hc=> ?_
  have hv:=hc.ev h1
  simp only[ak] at hv
  obtain⟨b,o',fp,hv,cr,cR,hr⟩:=hv
  exact⟨_,run _ _ hv,by simp only[ak];exact⟨b,o',fp,by rw[Nat.add_assoc],cr,cR,hr⟩⟩
 ·simp only[M.aa,Option.some.injEq] at he
  subst he
  refine ao hR hd rfl rfl fun β φ hc=> ?_
  have hv:=hc.ev h1
  simp only[ak] at hv
  obtain⟨g,hg,hv⟩:=hv
  exact⟨_,run _ _ hv,by simp only[ak];exact⟨g,hg,by rw[Nat.add_assoc]⟩⟩
 ·simp at he
theorem mZ (hR:Rel w0 S st a w) (hd:∀d,o.dst=some d→bc st.n d) {x:Operand} {i:Nat} (ho:o.op= .extract x i) {vs:List SV} {v:SV}
  (h1:(cd x).val st.get st.obj=some (.DG vs)) (hv:vs[i]? =some v) (he:e= {sv:=v}):Good P w0 S st o e a w:=by
 subst he
 refine ao hR hd rfl rfl fun β φ hc=> ?_
 have hx:=hc.ev h1
 simp only[ak] at hx
 obtain⟨l,hl,hr⟩:=hx
 obtain⟨u,hu,hs⟩:=af.get _ _ _ _ hr hv
 exact⟨u,by simp [execOp,ho,hl,Instr.extract,hu],hs⟩
theorem gH (s:List UInt8):(⟨s.toArray⟩:ByteArray).toList=s:=by rw[Lib.toList_data]
theorem dz (s:List UInt8):(⟨s.toArray⟩:ByteArray).size=s.length:=by simp [ByteArray.size]
theorem Db (s t:List UInt8):(⟨s.toArray⟩:ByteArray)++(⟨t.toArray⟩:ByteArray)=⟨(s++t).toArray⟩:=by
 apply ByteArray.ext
 simp
theorem j4 {t:TypeId} {ty:TypeDesc} {vs:List Value} {off:Nat} {v:Value} (ha:bj P t=false) (hd:P.underlying t=some ty) (hv:vs[off]? =some v):(part t vs.toArray off).run P w= .ok v w:=by
 simp only[part,Sem.run_bind,iL hd,Result.andThen_ok,ha]
 simp [hv]
theorem j0 {t:TypeId} {i:TypeInfo} {vs:List Value} {off:Nat} (ha:bj P t=true) (hi:P.info? t=some i):(part t vs.toArray off).run P w= .ok (.agg ((vs.drop off).take i.size).toArray) w:=by
 obtain⟨d,hd⟩:=kV ha
 simp only[part,Sem.run_bind,iL hd,Result.andThen_ok,ha,if_true,sizeOf,typeInfo,run_program,hi,Sem.run_pure]
 simp [List.extract_eq_take_drop]
theorem DK {av:Nat→Prop} {β:Env} {x y:SV} {v u:Value} (hx:ak w av β x v) (hy:ak w av β y u) {t:TypeId} {ty:TypeDesc} (hd:P.underlying t=some ty) (d:Nat) {b:Bool}
  (h:lY ty x y=some b):(Op.equalIn (d+1) t v u).run P w= .ok b w:=by
 unfold lY at h
 split at h
 ·rename_i k0 k a k' c
  by_cases hk:k=k'
  ·subst hk
   simp only[decide_true,cond_true,Option.some.injEq] at h
   simp only[ak] at hx hy
   rw[hx.1,hy.1,run_equalIn_int w d t _ _ _ _ hd,h]
  ·simp [hk] at h
 ·simp only[Option.some.injEq] at h
  simp only[ak] at hx hy
  rw[hx.1,hy.1,run_equalIn_string w d t _ _ hd,gH,gH,h]
 ·simp only[Option.some.injEq] at h
  simp only[ak] at hx hy
  rw[hx,hy,run_equalIn_bool w d t _ _ hd,h]
 ·simp only[Option.some.injEq] at h
  simp only[ak] at hx hy
  rw[hx,hy,run_equalIn_bool w d t _ _ hd,h]
 ·simp only[Option.some.injEq] at h
  simp only[ak] at hx hy
  rw[hx,hy,run_equalIn_bool w d t _ _ hd,h]
 ·cases h
theorem af.j8 {av:Nat→Prop} {β:Env} :∀(ss:List SV) (vs:List Value) (k n:Nat),af w av β ss vs→af w av β ((ss.drop k).take n) ((vs.drop k).take n)
 | [],vs,k,n,h=>by
  simp only[af] at h
  subst h
  simp [af]
 | s::ss,vs,k,n,h=>by
  simp only[af] at h
  obtain⟨v,l,rfl,h1,h2⟩:=h
  cases k with
  | succ k=>simpa using af.j8 ss l k n h2
  | zero=>
   cases n with
   | zero=>simp [af]
   | succ n=>
    simp only[List.drop_zero,List.take_succ_cons,af]
    exact⟨v,_,rfl,h1,by simpa using af.j8 ss l 0 n h2⟩
def Ie (P:Program) (w:World) (av:Nat→Prop) (β:Env) (d:Nat) (eqv:TypeId→List SV→List SV→Option Bool):Prop:=
 ∀(t:TypeId) (xs ys:List SV) (vs us:List Value) (b:Bool),af w av β xs vs→af w av β ys us→eqv t xs ys=some b→
  (bj P t=true→(Op.equalIn d t (.agg vs.toArray) (.agg us.toArray)).run P w= .ok b w)∧
  (bj P t=false→(∃ty,P.underlying t=some ty)∧∀v u,vs=[v]→us=[u]→(Op.equalIn d t v u).run P w= .ok b w)
theorem jy {av:Nat→Prop} {β:Env} {d:Nat} {eqv:TypeId→List SV→List SV→Option Bool} (hq:Ie P w av β d eqv) {xs ys:List SV} {vs us:List Value} (hx:af w av β xs vs) (hy:af w av β ys us):
  ∀(fs:List Field) (b:Bool),fY P eqv xs ys fs=some b→(Op.eqFields d vs.toArray us.toArray fs).run P w= .ok b w
 | [],b,h=>by
  simp only[fY,Option.some.injEq] at h
  subst h
  rfl
 | f::fs,b,h=>by
  unfold fY at h
  cases hn:f.name== "_"
  ·simp only[hn,cond_false] at h
   have I0:f.name≠ "_" :=by simpa using hn
   split at h
   ·rename_i a c h1 h2
    split at h
    ·rename_i e r he hr
     simp only[Option.some.injEq] at h
     have ih:=jy hq hx hy fs r hr
     unfold Op.eqFields
     rw[if_pos I0]
     have key:∃v u:Value,(part f.type vs.toArray f.offset).run P w= .ok v w∧(part f.type us.toArray f.offset).run P w= .ok u w∧(Op.equalIn d f.type v u).run P w= .ok e w:=by
      unfold AO at h1 h2
      cases ha:bj P f.type
      ·simp only[ha,cond_false] at h1 h2
       split at h1
       ·rename_i s1 g1
        split at h2
        ·rename_i s2 g2
         simp only[Option.some.injEq] at h1 h2
         subst h1
         subst h2
         obtain⟨v1,e1,q1⟩:=af.get _ _ _ _ hx g1
         obtain⟨v2,e2,q2⟩:=af.get _ _ _ _ hy g2
         obtain⟨⟨ty,hu⟩,bs⟩:=(hq f.type [s1] [s2] [v1] [v2] e (by simp [af,q1]) (by simp [af,q2]) he).2 ha
         exact⟨v1,v2,j4 ha hu e1,j4 ha hu e2,bs _ _ rfl rfl⟩
        ·cases h2
       ·cases h1
      ·simp only[ha,cond_true] at h1 h2
       split at h1
       ·rename_i i hi
        rw[hi] at h2
        simp only[] at h2
        cases GF:Nat.ble (f.offset+i.size) xs.length
        ·simp [GF] at h1
        cases iC:Nat.ble (f.offset+i.size) ys.length
        ·simp [iC] at h2
        simp only[GF,iC,cond_true,Option.some.injEq] at h1 h2
        subst h1
        subst h2
        exact⟨_,_,j0 ha hi,j0 ha hi,(hq _ _ _ _ _ e (af.j8 _ _ _ _ hx) (af.j8 _ _ _ _ hy) he).1 ha⟩
       ·cases h1
     obtain⟨v,u,p1,p2,p3⟩:=key
     simp only[Sem.run_bind,p1,p2,p3,Result.andThen_ok]
     subst h
     cases e
     ·simp
     ·simpa using ih
    ·cases h
   ·cases h
  ·simp [hn] at h
theorem BC {av:Nat→Prop} {β:Env} (d:Nat):∀n:Nat,Ie P w av β (d+n) (Ah P n)
 | 0=>by
  intro t xs ys vs us b hx hy h
  simp [Ah] at h
 | n+1=>by
  intro t xs ys vs us b hx hy h
  have ih:=BC (av:=av) (β:=β) d n
  unfold Ah at h
  split at h
  ·rename_i fs hu
   cases hp:P.stoodInHeld t
   ·simp only[hp,cond_false] at h
    have D7:bj P t=true:=by simp [bj,hu]
    have LD:P.fieldsOf t=fs:=by simp [Program.fieldsOf,hu]
    refine⟨fun _=> ?_,fun hf=>by rw[D7] at hf;cases hf⟩
    rw[←Nat.add_assoc,run_equalIn_agg w (d+n) t _ _ (by rw[LD];exact hu) hp,LD]
    exact jy ih hx hy _ _ h
   ·simp [hp] at h
  ·rename_i ty M6 hu
   split at h
   ·rename_i x y
    have Co:=hx
    have Jo:=hy
    simp only[af] at Co Jo
    obtain⟨v,l1,rfl,q1,rfl⟩:=Co
    obtain⟨u,l2,rfl,q2,rfl⟩:=Jo
    refine⟨fun D7=> ?_,fun _=>⟨⟨_,hu⟩, ?_⟩⟩
    ·unfold bj at D7
     rw[hu] at D7
     split at D7
     ·rename_i g _ CJ g2
      simp only[Option.some.injEq] at g2
      subst g2
      simp [lY] at h
     ·rename_i g2
      simp only[Option.some.injEq] at g2
      subst g2
      simp [lY] at h
     ·cases D7
    ·intro v' u' e1 e2
     simp only[List.cons.injEq,and_true] at e1 e2
     subst e1
     subst e2
     rw[←Nat.add_assoc]
     exact DK q1 q2 hu (d+n) h
   ·cases h
  ·cases h
theorem EB (w:World) (d:Nat) (t e:TypeId) (a:Addr) (l c:Nat) (h:P.underlying t=some (.slice e)):(Op.equalIn (d+1) t (.slice (some a) l c) (.slice none 0 0)).run P w= .ok false w:=by
 simp [Op.equalIn,run_underlying h]
theorem Gx (w:World) (t e:TypeId) (a:Addr) (l c:Nat) (h:P.underlying t=some (.slice e)):(Op.equal t (.slice (some a) l c) (.slice none 0 0)).run P w= .ok false w:=EB w 9999 t e a l c h
theorem D3 (hR:Rel w0 S st a w) (hd:∀d,o.dst=some d→bc st.n d) {op:BinOp} {t t':TypeId} {x y:Operand} (ho:o.op= .binOp op t x y t') {sx sy:SV}
  (h1:(cd x).val st.get st.obj=some sx) (h2:(cd y).val st.get st.obj=some sy) (he:(Ha P t op sx sy).val st.get st.obj=some e) (aJ:e.ok=true):Good P w0 S st o e a w:=by
 have Ek:∀b c:Bool,(∀β φ,Core w0 S st.get st.obj β φ a.tmps w→a.eval x= .bool b∧a.eval y= .bool c)→
   ((Bz P t op b c).val st.get st.obj=some e)→Good P w0 S st o e a w:=by
  intro b c DN he
  unfold Bz at he
  cases ht:A8 P t
  ·simp [ht] at he
  have hu:P.underlying t=some .bool:=by
   unfold A8 at ht
   split at ht
   ·assumption
   ·cases ht
  simp only[ht,cond_true] at he
  split at he
  ·simp only[M.aa,Option.some.injEq] at he
   subst he
   refine ao hR hd rfl rfl fun β φ hc=>⟨_, ?_,by simp [ak];rfl⟩
   have:=DN β φ hc
   simp [execOp,ho,this.1,this.2,eqGuard,binOp,run_equal_bool w t b c hu]
  ·simp only[M.aa,Option.some.injEq] at he
   subst he
   refine ao hR hd rfl rfl fun β φ hc=>⟨_, ?_,by simp [ak];rfl⟩
   have:=DN β φ hc
   simp [execOp,ho,this.1,this.2,eqGuard,binOp,run_equal_bool w t b c hu]
  ·simp at he
 unfold Ha at he
 split at he
 ·rename_i k n k' m
  split at he
  ·simp only[M.aa,Option.some.injEq] at he
   subst he
   have hm:0≤m:=by simpa using aJ
   refine ao hR hd rfl rfl fun β φ hc=> ?_
   have hx:=hc.ev h1
   have hy:=hc.ev h2
   simp only[ak] at hx hy
   refine⟨_, ?_,by simp only[ak];exact⟨rfl,fq _ _⟩⟩
   simp [execOp,ho,hx.1,hy.1,eqGuard,binOp,Op.shift,Int.not_lt.2 hm]
  ·simp only[M.aa,Option.some.injEq] at he
   subst he
   have hm:0≤m:=by simpa using aJ
   refine ao hR hd rfl rfl fun β φ hc=> ?_
   have hx:=hc.ev h1
   have hy:=hc.ev h2
   simp only[ak] at hx hy
   refine⟨_, ?_,by simp only[ak];exact⟨rfl,Fg _ hx.2⟩⟩
   simp [execOp,ho,hx.1,hy.1,eqGuard,binOp,Op.shift,Int.not_lt.2 hm]
  ·by_cases hk:k=k'
   ·subst hk
    simp only[decide_true,cond_true] at he
    split at he
    ·rename_i s c hi
     simp only[M.aa,Option.some.injEq] at he
     subst he
     refine ao hR hd rfl rfl fun β φ hc=> ?_
     have hx:=hc.ev h1
     have hy:=hc.ev h2
     simp only[ak] at hx hy
     obtain⟨v,bs,hs⟩:=DZ (P:=P) (w:=w) (t:=t) (av:=Av st.obj β) (β:=β) hi aJ hx.2
     refine⟨v, ?_,hs⟩
     simp [execOp,ho,hx.1,hy.1,eqGuard,bs]
    ·simp at he
   ·simp [hk] at he
 ·rename_i s1 s2
  split at he
  ·simp only[M.aa,Option.some.injEq] at he
   subst he
   have hm:s1.length+s2.length≤9223372036854775807:=by simpa using aJ
   refine ao hR hd rfl rfl fun β φ hc=> ?_
   have hx:=hc.ev h1
   have hy:=hc.ev h2
   simp only[ak] at hx hy
   refine⟨.string ⟨(s1++s2).toArray⟩, ?_,by unfold ak;exact⟨rfl,by simp only[List.length_append,maxLen];omega⟩⟩
   have hn:¬(((s1.length+s2.length:Nat):Int)>IntKind.i64.max):=by
    have:IntKind.i64.max=9223372036854775807:=by decide
    omega
   simp only[execOp,ho,hx.1,hy.1,eqGuard,binOp,Op.stringOp,dz,Db]
   rw[if_neg hn]
   rfl
  ·simp only[M.aa,Option.some.injEq] at he
   subst he
   refine ao hR hd rfl rfl fun β φ hc=> ?_
   have hx:=hc.ev h1
   have hy:=hc.ev h2
   simp only[ak] at hx hy
   refine⟨.bool (s1==s2), ?_,by simp [ak]⟩
   simp [execOp,ho,hx.1,hy.1,eqGuard,binOp,Op.stringOp,gH]
  ·simp only[M.aa,Option.some.injEq] at he
   subst he
   refine ao hR hd rfl rfl fun β φ hc=> ?_
   have hx:=hc.ev h1
   have hy:=hc.ev h2
   simp only[ak] at hx hy
   refine⟨.bool (!(s1==s2)), ?_,by simp [ak]⟩
   simp [execOp,ho,hx.1,hy.1,eqGuard,binOp,Op.stringOp,gH]
  ·simp at he
 ·refine Ek _ _ (fun β φ hc=> ?_) he
  have hx:=hc.ev h1
  have hy:=hc.ev h2
  simp only[ak] at hx hy
  exact⟨hx,hy⟩
 ·refine Ek _ _ (fun β φ hc=> ?_) he
  have hx:=hc.ev h1
  have hy:=hc.ev h2
  simp only[ak] at hx hy
  exact⟨hx,hy⟩
 ·refine Ek _ _ (fun β φ hc=> ?_) he
  have hx:=hc.ev h1
  have hy:=hc.ev h2
  simp only[ak] at hx hy
  exact⟨hx,hy⟩
 ·rename_i xs ys
  unfold Ih at he
  split at he
  ·rename_i fs hu
   cases hg:P.eqGuardType P.depth t
   ·simp only[hg,cond_false] at he
    have D7:bj P t=true:=by simp [bj,hu]
    have key:∀b,Ah P 8 t xs ys=some b→∀β φ,Core w0 S st.get st.obj β φ a.tmps w→∃vs us:List Value,a.eval x= .agg vs.toArray∧a.eval y= .agg us.toArray∧(Op.equalIn 10000 t (.agg vs.toArray) (.agg us.toArray)).run P w= .ok b w:=by
     intro b hb β φ hc
     have hx:=hc.ev h1
     have hy:=hc.ev h2
     simp only[ak] at hx hy
     obtain⟨vs,e1,s1,_⟩:=hx
     obtain⟨us,e2,s2,_⟩:=hy
     exact⟨vs,us,e1,e2,(BC 9992 8 t xs ys vs us b s1 s2 hb).1 D7⟩
    split at he
    ·rename_i b hb
     simp only[M.aa,Option.some.injEq] at he
     subst he
     refine ao hR hd rfl rfl fun β φ hc=>⟨.bool b, ?_,by simp [ak]⟩
     obtain⟨vs,us,e1,e2,hr⟩:=key b hb β φ hc
     simp only[execOp,ho,e1,e2,Sem.run_bind,run_eqGuard_agg w _ t x y _ _ hg,Result.andThen_ok,run_eql_struct,hr]
     rfl
    ·rename_i b hb
     simp only[M.aa,Option.some.injEq] at he
     subst he
     refine ao hR hd rfl rfl fun β φ hc=>⟨.bool (!b), ?_,by simp [ak]⟩
     obtain⟨vs,us,e1,e2,hr⟩:=key b hb β φ hc
     simp only[execOp,ho,e1,e2,Sem.run_bind,run_eqGuard_agg w _ t x y _ _ hg,Result.andThen_ok,run_neq_struct,hr]
     rfl
    ·simp at he
   ·simp [hg] at he
  ·simp at he
 ·rename_i ct r
  have key:∀β φ,0<r.length→Core w0 S st.get st.obj β φ a.tmps w→∃ad n c,a.eval x= .slice (some ad) n c∧a.eval y= .slice none 0 0:=by
   intro β φ jK hc
   have hx:=hc.ev h1
   have hy:=hc.ev h2
   simp only[ak] at hx hy
   obtain⟨fp,ka,_⟩:=hx
   simp only[bY] at ka
   obtain⟨rows,q,n,c,e0,hv,hn,_,_,iU⟩:=ka
   injection e0 with e0
   subst e0
   rcases iU with ⟨h0,_⟩ | ⟨_,b,off,aA,rfl,_⟩
   ·omega
   ·exact⟨_,n,c,hv,hy⟩
  split at he
  ·rename_i et hu
   simp only[M.aa,Option.some.injEq] at he
   subst he
   refine ao hR hd rfl rfl fun β φ hc=>⟨.bool false, ?_,by simp [ak]⟩
   obtain⟨ad,n,c,e1,e2⟩:=key β φ (by simpa using aJ) hc
   simp [execOp,ho,e1,e2,eqGuard,binOp,Gx w t et ad n c hu]
  ·rename_i et hu
   simp only[M.aa,Option.some.injEq] at he
   subst he
   refine ao hR hd rfl rfl fun β φ hc=>⟨.bool true, ?_,by simp [ak]⟩
   obtain⟨ad,n,c,e1,e2⟩:=key β φ (by simpa using aJ) hc
   simp [execOp,ho,e1,e2,eqGuard,binOp,Gx w t et ad n c hu]
  ·simp at he
 ·simp at he
theorem FE (hR:Rel w0 S st a w) (hd:∀d,o.dst=some d→bc st.n d) {op:UnOp} {t:TypeId} {x:Operand} (ho:o.op= .unOp op t x) {sx:SV}
  (h1:(cd x).val st.get st.obj=some sx) (he:(Ls op sx).val st.get st.obj=some e):Good P w0 S st o e a w:=by
 unfold Ls at he
 split at he<;>simp only[M.aa,M.mI,Option.some.injEq,reduceCtorEq] at he
 all_goals
  subst he
  refine ao hR hd rfl rfl fun β φ hc=> ?_
  have hx:=hc.ev h1
  simp only[ak] at hx
 ·exact⟨_,by simp [execOp,ho,hx,Op.unary];rfl,by simp [ak]⟩
 ·exact⟨_,by simp [execOp,ho,hx,Op.unary];rfl,by simp [ak]⟩
 ·exact⟨_,by simp [execOp,ho,hx.1,Op.unary,Op.intArith];rfl,by simp only[Int.zero_sub];unfold ak;exact⟨rfl,fq _ _⟩⟩
 ·refine⟨_,by simp only[execOp,ho,hx.1,Op.unary,intBits_xor];rfl,by unfold ak;exact⟨rfl,ia _ _ _ _⟩⟩
end
end Go.Proofs.YtnlkklmcfafgeaaGreat.Vm
namespace Go.Proofs.YtnlkklmcfafgeaaGreat.Vm
theorem jw {w:World} {b o:Nat} {vs:List Value} {t:TypeId} {fz:Nat×Nat} (h:w.heap[b]? =some (.cells vs.toArray t fz)):w.cell? ⟨b,o,none⟩=vs[o]? :=by
 simp [World.cell?,h]
theorem El {w:World} {b o:Nat} {cur:Array Value} {t:TypeId} {fz:Nat×Nat} (h:w.heap[b]? =some (.cells cur t fz)):w.cell? ⟨b,o,none⟩=cur[o]? :=by
 simp [World.cell?,h]
theorem cm.cell {w:World} {t size:Nat} {fz:Bool} {v:Value} {n:Nat} {vals:List Value} (h:cm w t size fz v n vals) {g j:Nat} {u:Value} (hg:v.ownBlock=some g)
  (hj:vals[j]? =some u):w.cell? ⟨g,j,none⟩=some u:=by
 rcases h.2 with ⟨rfl,_⟩ | ⟨g',cap,cur,rfl,hh,_,_,_,E_⟩
 ·simp [Value.ownBlock] at hg
 ·simp [Value.ownBlock] at hg
  subst hg
  rw[El hh]
  rw[←E_,List.getElem?_take] at hj
  split at hj
  ·simpa using hj
  ·cases hj
theorem cm.block {w:World} {t size:Nat} {fz:Bool} {v:Value} {n:Nat} {vals:List Value} (h:cm w t size fz v n vals) (hn:0<n):∃g,v.ownBlock=some g:=by
 rcases h.2 with ⟨rfl,h0,_⟩ | ⟨g',cap,cur,rfl,_⟩
 ·omega
 ·exact⟨g',rfl⟩
theorem dh {w:World} {e:List CT} {r:List (List DC)} {v:Value} {fp:List Nat} (h:bY w (.sl e) (.sl r) v fp):
  ∃a n c,v= .slice a n c∧r.length=n∧n≤c∧c≤maxLen∧
   ((n=0∧fp=[])∨(0<n∧∃(b o:Nat) (aA:List (List Nat)),a=some ⟨b,o,none⟩∧b<w.heap.size∧aA.length=n∧fp=b::aA.flatten∧
    ∀i r' f,r[i]? =some r'→aA[i]? =some f→a9 w e r' (fun j=>w.cell? ⟨b,o+(i*e.length+j),none⟩) f)):=by
 simp only[bY] at h
 obtain⟨rows,a,n,c,hd,hv,hn,hc,hm,h⟩:=h
 injection hd with hd
 subst hd
 exact⟨a,n,c,hv,hn,hc,hm,h⟩
theorem j5 {w:World} {e:List CT} {r:List (List DC)} {fp:List Nat} {a:Option Addr} {n c:Nat} (hn:r.length=n) (hc:n≤c) (hm:c≤maxLen)
  (h:(n=0∧fp=[])∨(0<n∧∃(b o:Nat) (aA:List (List Nat)),a=some ⟨b,o,none⟩∧b<w.heap.size∧aA.length=n∧fp=b::aA.flatten∧
    ∀i r' f,r[i]? =some r'→aA[i]? =some f→a9 w e r' (fun j=>w.cell? ⟨b,o+(i*e.length+j),none⟩) f)):bY w (.sl e) (.sl r) (.slice a n c) fp:=by
 unfold bY
 exact⟨r,a,n,c,rfl,rfl,hn,hc,hm,h⟩
theorem bn {w:World} {av:Nat→Prop} {β:Env} {id t:Nat} {e:List CT} {rows:List (List DC)} {fz u:Bool} {φ:List Nat} (h:fU w av β id (.row t e rows fz u) φ):
  ∃fp,bY w (.sl e) (.sl rows) (β.val id) fp∧(∀b∈fp,b∈(β.val id).ownBlock.toList∨¬av b)∧(u=true→(∀b∈fp,b∈φ)∧(φ.Nodup→fp.Nodup)):=by
 obtain⟨vals,aA,h1,h2,h3,kz⟩:=h
 rcases Nat.eq_zero_or_pos rows.length with h0 | h0
 ·refine⟨[], ?_,by simp,by simp⟩
  rcases h1.2 with ⟨hv,_⟩ | ⟨g,cap,cur,hv,_,hc,hm,_⟩
  ·rw[hv]
   exact j5 h0 (Nat.le_refl _) (Nat.zero_le _) (.inl ⟨rfl,rfl⟩)
  ·rw[hv]
   exact j5 rfl hc hm (.inl ⟨h0,rfl⟩)
 ·obtain⟨g,hg⟩:=h1.block h0
  have cr:=h1.lt g (by simp [hg])
  have hv:∃cap,β.val id= .slice (some ⟨g,0,none⟩) rows.length cap∧rows.length≤cap∧cap≤maxLen:=by
   rcases h1.2 with ⟨hv,L8,_⟩ | ⟨g',cap,cur,hv,_,hc,hm,_⟩
   ·omega
   ·have:g'=g:=by simpa [hv,Value.ownBlock] using hg
    subst this
    exact⟨cap,hv,hc,hm⟩
  obtain⟨cap,hv,hc,hm⟩:=hv
  refine⟨g::aA.flatten, ?_, ?_, ?_⟩
  ·rw[hv]
   refine j5 rfl hc hm (.inr ⟨h0,g,0,aA,rfl,cr,h2.1,rfl,fun i r f hi hf=> ?_⟩)
   have hr:=h2.2 i r f hi hf
   refine a9.jV ?_ hr
   intro j u hj
   have:=h1.cell hg hj
   simpa using this
  ·intro b hb
   rcases List.mem_cons.1 hb with rfl | hb
   ·exact .inl (by simp [hg])
   ·exact .inr (h3 b hb)
  ·intro hu
   subst hu
   have:φ=g::aA.flatten:=by rw[kz,hg];rfl
   rw[this]
   exact⟨fun b hb=>hb,fun hn=>hn⟩
where
 a9.jV {w:World} {cs:List CT} {r:List DC} {f f':Nat→Option Value} {fp:List Nat} (hf:∀j u,f j=some u→f' j=some u) (h:a9 w cs r f fp):a9 w cs r f' fp:=by
  induction cs generalizing r f f' fp with
  | nil=>simpa only[a9] using h
  | cons c cs ih=>
   simp only[a9] at h ⊢
   obtain⟨d,r',v,f1,f2,hr,h0,h1,h2,Bs⟩:=h
   exact⟨d,r',v,f1,f2,hr,hf 0 v h0,h1,ih (fun j u hj=>hf (j+1) u hj) h2,Bs⟩
 a9.jl {w:World} {cs:List CT} {r:List DC} {f f':Nat→Option Value} {fp:List Nat} (hf:∀j u,j<cs.length→f j=some u→f' j=some u) (h:a9 w cs r f fp):a9 w cs r f' fp:=by
  induction cs generalizing r f f' fp with
  | nil=>simpa only[a9] using h
  | cons c cs ih=>
   simp only[a9] at h ⊢
   obtain⟨d,r',v,f1,f2,hr,h0,h1,h2,Bs⟩:=h
   exact⟨d,r',v,f1,f2,hr,hf 0 v (by simp) h0,h1,ih (fun j u hj Bt=>hf (j+1) u (by simp;omega) Bt) h2,Bs⟩
theorem Az {w:World} {t:TypeId} {e:List CT} {rows:List (List DC)} {fz:Bool} {v:Value} {vals:List Value} {aA:List (List Nat)} (h1:cm w t e.length fz v rows.length vals) (h2:dO w e rows vals aA):
  ∃fp,bY w (.sl e) (.sl rows) v fp∧fp.Sublist (v.ownBlock.toList++aA.flatten):=by
 rcases Nat.eq_zero_or_pos rows.length with h0 | h0
 ·refine⟨[], ?_,List.nil_sublist _⟩
  rcases h1.2 with ⟨hv,_⟩ | ⟨g,cap,cur,hv,_,hc,hm,_⟩
  ·rw[hv]
   exact j5 h0 (Nat.le_refl _) (Nat.zero_le _) (.inl ⟨rfl,rfl⟩)
  ·rw[hv]
   exact j5 rfl hc hm (.inl ⟨h0,rfl⟩)
 ·obtain⟨g,hg⟩:=h1.block h0
  have cr:=h1.lt g (by simp [hg])
  have hv:∃cap,v= .slice (some ⟨g,0,none⟩) rows.length cap∧rows.length≤cap∧cap≤maxLen:=by
   rcases h1.2 with ⟨hv,L8,_⟩ | ⟨g',cap,cur,hv,_,hc,hm,_⟩
   ·omega
   ·have:g'=g:=by simpa [hv,Value.ownBlock] using hg
    subst this
    exact⟨cap,hv,hc,hm⟩
  obtain⟨cap,hv,hc,hm⟩:=hv
  refine⟨g::aA.flatten, ?_, ?_⟩
  ·rw[hv]
   refine j5 rfl hc hm (.inr ⟨h0,g,0,aA,rfl,cr,h2.1,rfl,fun i r f hi hf=> ?_⟩)
   refine bn.a9.jV ?_ (h2.2 i r f hi hf)
   intro j u hj
   have:=h1.cell hg hj
   simpa using this
  ·rw[hg]
   exact List.Sublist.refl _
theorem BD (n:Nat) (Q:Nat→List Nat→Prop) (h:∀i,i<n→∃f,Q i f):∃l:List (List Nat),l.length=n∧∀i f,l[i]? =some f→Q i f:=by
 induction n with
 | zero=>exact⟨[],rfl,by simp⟩
 | succ n ih=>
  obtain⟨l,hl,hq⟩:=ih (fun i hi=>h i (by omega))
  obtain⟨f,hf⟩:=h n (by omega)
  refine⟨l++[f],by simp [hl],fun i g hg=> ?_⟩
  rw[List.getElem?_append] at hg
  split at hg
  ·exact hq i g hg
  ·rename_i hi
   have:i - l.length=0:=by
    cases hk:i - l.length with
    | zero=>rfl
    | succ k=>rw[hk] at hg;simp at hg
   rw[this] at hg
   simp only[List.getElem?_cons_zero,Option.some.injEq] at hg
   subst hg
   have:i=n:=by omega
   subst this
   exact hf
theorem kO:∀(l m:List (List Nat)),l.length=m.length→(∀(i:Nat) (f g:List Nat),l[i]? =some f→m[i]? =some g→f.Sublist g)→l.flatten.Sublist m.flatten
 | [],[],_,_=>List.Sublist.refl _
 | [],_::_,h,_=>by simp at h
 | _::_,[],h,_=>by simp at h
 | a::l,b::m,h,hs=>by
  simp only[List.flatten_cons]
  exact (hs 0 a b rfl rfl).append (kO l m (by simpa using h) (fun i f g hf hg=>hs (i+1) f g (by simpa using hf) (by simpa using hg)))
theorem ab.reads {w:World} :∀(cs:List CT) (ts:List TypeId) (ds:List DC) (us:List Value) (mb:List Nat),ab w none cs ts ds us mb→∃fp,a9 w cs ds (fun j=>us[j]?) fp∧fp.Sublist mb
 | [],_,_,_,_,h=>by
  simp only[ab] at h
  obtain⟨_,rfl,rfl,rfl⟩:=h
  exact⟨[],by simp [a9],List.Sublist.refl _⟩
 | .sl e::cs,_,_,_,_,h=>by
  simp only[ab] at h
  obtain⟨t,dN,rows,aX,v,aM,m1,gb,rfl,rfl,rfl,hf,⟨vals,aA,g1,g2,rfl⟩,h6,rfl⟩:=h
  obtain⟨fp,r1,s1⟩:=Az g1 g2
  rw[g2.Dz hf,List.append_nil] at s1
  obtain⟨gw,r2,s2⟩:=ab.reads cs _ _ _ _ h6
  refine⟨fp++gw, ?_,s1.append s2⟩
  simp only[a9]
  exact⟨_,aX,v,fp,gw,rfl,rfl,r1,by simpa using r2,rfl⟩
 | .int k::cs,_,_,_,_,h=>by
  simp only[ab] at h
  obtain⟨d,aX,v,aM,rfl,rfl,h3,h4⟩:=h
  obtain⟨gw,r2,s2⟩:=ab.reads cs _ _ _ _ h4
  refine⟨gw, ?_,s2⟩
  simp only[a9]
  exact⟨d,aX,v,[],gw,rfl,rfl,h3,by simpa using r2,rfl⟩
 | .bool::cs,_,_,_,_,h=>by
  simp only[ab] at h
  obtain⟨d,aX,v,aM,rfl,rfl,h3,h4⟩:=h
  obtain⟨gw,r2,s2⟩:=ab.reads cs _ _ _ _ h4
  refine⟨gw, ?_,s2⟩
  simp only[a9]
  exact⟨d,aX,v,[],gw,rfl,rfl,h3,by simpa using r2,rfl⟩
 | .str::cs,_,_,_,_,h=>by
  simp only[ab] at h
  obtain⟨d,aX,v,aM,rfl,rfl,h3,h4⟩:=h
  obtain⟨gw,r2,s2⟩:=ab.reads cs _ _ _ _ h4
  refine⟨gw, ?_,s2⟩
  simp only[a9]
  exact⟨d,aX,v,[],gw,rfl,rfl,h3,by simpa using r2,rfl⟩
theorem fT {α:Type} {l:List α} {k n j:Nat} {u:α} (h:((l.drop k).take n)[j]? =some u):l[k+j]? =some u:=by
 rw[List.getElem?_take] at h
 split at h
 ·rwa [List.getElem?_drop] at h
 ·cases h
theorem bK.reads {w:World} {e:List CT} {ts:List TypeId} {rows:List (List DC)} {vals:List Value} {aS:List (List Nat)} (h:bK w e ts rows vals (fun _=>none) aS):
  ∃aA,dO w e rows vals aA∧aA.flatten.Sublist aS.flatten:=by
 obtain⟨aA,hl,hf⟩:=BD rows.length (fun i f=>∀r m,rows[i]? =some r→aS[i]? =some m→a9 w e r (fun j=>vals[i*e.length+j]?) f∧f.Sublist m) (fun i hi=>by
  have hm:i<aS.length:=by rw[h.1];exact hi
  obtain⟨f,h1,h2⟩:=ab.reads _ _ _ _ _ (h.2 i rows[i] aS[i] (by simp) (by simp))
  refine⟨f,fun r m hr KG=> ?_⟩
  rw[List.getElem?_eq_getElem hi,Option.some.injEq] at hr
  rw[List.getElem?_eq_getElem hm,Option.some.injEq] at KG
  subst hr KG
  exact⟨bn.a9.jV (fun j u hj=>fT hj) h1,h2⟩)
 refine⟨aA,⟨hl,fun i r f hr Bq=> ?_⟩,kO aA aS (by rw[hl,h.1]) (fun i f m Bq hm=> ?_)⟩
 ·have hi:i<rows.length:=(List.getElem?_eq_some_iff.1 hr).1
  have hm:i<aS.length:=by rw[h.1];exact hi
  exact (hf i f Bq r aS[i] hr (by simp)).1
 ·have hi:i<rows.length:=by rw[←hl];exact (List.getElem?_eq_some_iff.1 Bq).1
  exact (hf i f Bq rows[i] m (by simp) hm).2
def AJ (o:aj) (e:List CT) (rows:List (List DC)) (u:Bool):Prop:=
 (∃t fz,o= .row t e rows fz u)∨(∃t ts,o= .deep t e ts rows none∧u=true)
theorem Ay {w:World} {av:Nat→Prop} {β:Env} {id:Nat} {o:aj} {e:List CT} {rows:List (List DC)} {u:Bool} {φ:List Nat} (h:fU w av β id o φ) (hm:AJ o e rows u):
  ∃fp,bY w (.sl e) (.sl rows) (β.val id) fp∧(∀b∈fp,b∈al β id o∨¬av b)∧(u=true→(∀b∈fp,b∈φ)∧(φ.Nodup→fp.Nodup)):=by
 rcases hm with ⟨t,fz,rfl⟩ | ⟨t,ts,rfl,rfl⟩
 ·exact bn h
 ·obtain⟨vals,aS,h1,h2,h3,rfl⟩:=h
  obtain⟨aA,h4,h5⟩:=h2.reads
  obtain⟨fp,h6,h7⟩:=Az h1 h4
  have h8:fp.Sublist ((β.val id).ownBlock.toList++aS.flatten):=h7.trans ((List.Sublist.refl _).append h5)
  exact⟨fp,h6,fun b hb=> .inl (by simp only[al,h3];exact h8.subset hb),fun _=>⟨fun b hb=>h8.subset hb,fun hn=>h8.nodup hn⟩⟩
section
variable {P:Program} {Γ:Ctx} {w0:World} {S:Own} {st:St} {o:Oper} {e:cJ} {a:Act} {w:World}
theorem B8 (hR:Rel w0 S st a w) (hd:∀d,o.dst=some d→bc st.n d) {t:TypeId} {x i:Operand} (ho:o.op= .index t x i) {sx si:SV}
  (h1:(cd x).val st.get st.obj=some sx) (h2:(cd i).val st.get st.obj=some si) (he:(CN P t sx si).val st.get st.obj=some e) (aJ:e.ok=true):Good P w0 S st o e a w:=by
 unfold CN at he
 split at he
 ·rename_i s k n hu
  simp only[M.aa,Option.some.injEq] at he
  subst he
  simp only[Bool.and_eq_true,decide_eq_true_eq] at aJ
  obtain⟨HB,JW⟩:=aJ
  refine ao hR hd rfl rfl fun β φ hc=> ?_
  have hx:=hc.ev h1
  have hy:=hc.ev h2
  simp only[ak] at hx hy
  have cr:n.toNat<s.length:=by omega
  refine⟨.int .u8 (s.getD n.toNat 0).toNat, ?_, ?_⟩
  ·have mS:(⟨s.toArray⟩:ByteArray)[n.toNat]? =some (s.getD n.toNat 0):=by
    rw[ByteArray.getElem?_lt' _ _ (by rw[dz];exact cr)]
    simp [ByteArray.getElem_eq_getElem_data,List.getD,cr]
   simp [execOp,ho,hx.1,hy.1,Instr.index,asIntOf,run_underlying hu,HB,mS]
  ·unfold ak
   refine⟨rfl, ?_⟩
   have:=(s.getD n.toNat 0).toNat_lt
   rw[eB]
   have h1:IntKind.u8.min=0:=by decide
   have h2:IntKind.u8.max=255:=by decide
   omega
 ·simp at he
theorem j6 (hR:Rel w0 S st a w) (hd:∀d,o.dst=some d→bc st.n d) {mx:Bool} {c:Call} {x y:Operand} (ho:o.op= .call c) (hb:c.callee= .builtin (bif mx then .max else .min))
  (hx:c.args= #[x,y]) {sx sy:SV} (h1:(cd x).val st.get st.obj=some sx) (h2:(cd y).val st.get st.obj=some sy) (he:(Gl mx sx sy).val st.get st.obj=some e):Good P w0 S st o e a w:=by
 unfold Gl at he
 split at he
 ·rename_i k n k' m
  by_cases hk:k=k'
  ·subst hk
   simp only[decide_true,cond_true,M.aa,Option.some.injEq] at he
   subst he
   refine ao hR hd rfl rfl fun β φ hc=> ?_
   have h1:=hc.ev h1
   have h2:=hc.ev h2
   simp only[ak] at h1 h2
   refine⟨.int k (bif mx then (if n<m then m else n) else (if m<n then m else n)), ?_, ?_⟩
   ·cases mx
    ·simp [execOp,ho,resolve,hb,hx,invoke,builtin,h1.1,h2.1,Builtin.min_,Builtin.min2]
    ·simp [execOp,ho,resolve,hb,hx,invoke,builtin,h1.1,h2.1,Builtin.max_,Builtin.max2]
   ·cases mx
    ·unfold ak
     refine⟨rfl, ?_⟩
     simp only[cond_false]
     split
     ·exact h2.2
     ·exact h1.2
    ·unfold ak
     refine⟨rfl, ?_⟩
     simp only[cond_true]
     split
     ·exact h2.2
     ·exact h1.2
  ·simp [hk] at he
 ·simp at he
theorem A7 {n:Nat} (h:n≤maxLen):BV .i64 (n:Int)=true:=by
 rw[eB]
 have h1:IntKind.i64.min= -9223372036854775808:=by decide
 have h2:IntKind.i64.max=9223372036854775807:=by decide
 simp only[maxLen] at h
 omega
theorem AB (hR:Rel w0 S st a w) (hd:∀d,o.dst=some d→bc st.n d) {c:Call} {x:Operand} {t:TypeId} (ho:o.op= .call c) (hb:c.callee= .builtin .len)
  (hx:c.args= #[x]) (ht:c.argTypes= #[t]) {sx:SV} (h1:(cd x).val st.get st.obj=some sx) (he:(Gg P t sx).val st.get st.obj=some e):Good P w0 S st o e a w:=by
 have Bf:∀(et:TypeId) (n:Nat),P.underlying t=some (.slice et)→n≤maxLen→e= {sv:= .int .i64 n} →
   (∀β φ,Core w0 S st.get st.obj β φ a.tmps w→∃q c,a.eval x= .slice q n c)→Good P w0 S st o e a w:=by
  intro et n hu hn he hv
  subst he
  refine ao hR hd rfl rfl fun β φ hc=> ?_
  obtain⟨q,c',hv⟩:=hv β φ hc
  refine⟨.int .i64 n, ?_,by unfold ak;exact⟨rfl,A7 hn⟩⟩
  simp [execOp,ho,resolve,hb,hx,ht,invoke,builtin,hv,Builtin.len_,run_underlying hu,goInt]
 unfold Gg at he
 split at he
 ·rename_i s hu
  simp only[M.aa,Option.some.injEq] at he
  subst he
  refine ao hR hd rfl rfl fun β φ hc=> ?_
  have h1:=hc.ev h1
  simp only[ak] at h1
  refine⟨.int .i64 s.length, ?_,by unfold ak;exact⟨rfl,A7 h1.2⟩⟩
  simp [execOp,ho,resolve,hb,hx,ht,invoke,builtin,h1.1,Builtin.len_,run_underlying hu,goInt,dz]
 ·rename_i et hu
  simp only[M.aa,Option.some.injEq] at he
  refine Bf et 0 hu (Nat.zero_le _) he.symm fun β φ hc=> ?_
  have h1:=hc.ev h1
  simp only[ak] at h1
  exact⟨none,0,h1⟩
 ·rename_i et e' r hu
  simp only[M.aa,Option.some.injEq] at he
  have key:∀β φ,Core w0 S st.get st.obj β φ a.tmps w→∃q c,a.eval x= .slice q r.length c∧r.length≤maxLen:=by
   intro β φ hc
   have h1:=hc.ev h1
   simp only[ak] at h1
   obtain⟨fp,h1,_⟩:=h1
   obtain⟨q,n,c',hv,hn,AZ,hm,_⟩:=dh h1
   exact⟨q,c',by rw[hn];exact hv,by omega⟩
  obtain⟨β,φ,hc⟩:=hR.core
  obtain⟨_,_,_,hle⟩:=key β φ hc
  exact Bf et r.length hu hle he.symm fun β φ hc=>by
   obtain⟨q,c',hv,_⟩:=key β φ hc
   exact⟨q,c',hv⟩
 ·rename_i et id hu
  simp only[M.aT,Option.bind_eq_some_iff] at he
  obtain⟨ob,aK,he⟩:=he
  split at he
  ·rename_i t' e' r fz u
   simp only[M.aa,Option.some.injEq] at he
   have key:∀β φ,Core w0 S st.get st.obj β φ a.tmps w→∃q c,a.eval x= .slice q r.length c∧r.length≤maxLen:=by
    intro β φ hc
    have h1:=hc.ev h1
    simp only[ak] at h1
    obtain⟨fp,h2,_,_⟩:=bn (hc.ay id _ aK)
    obtain⟨q,n,c',hv,hn,AZ,hm,_⟩:=dh h2
    exact⟨q,c',by rw[hn,h1.1];exact hv,by omega⟩
   obtain⟨β,φ,hc⟩:=hR.core
   obtain⟨_,_,_,hle⟩:=key β φ hc
   exact Bf et r.length hu hle he.symm fun β φ hc=>by
    obtain⟨q,c',hv,_⟩:=key β φ hc
    exact⟨q,c',hv⟩
  ·rename_i e' r
   simp only[M.aa,Option.some.injEq] at he
   have key:∀β φ,Core w0 S st.get st.obj β φ a.tmps w→∃q c,a.eval x= .slice q r.length c∧r.length≤maxLen:=by
    intro β φ hc
    have h1:=hc.ev h1
    simp only[ak] at h1
    obtain⟨h2,_⟩:=hc.ay id _ aK
    simp only[ak] at h2
    obtain⟨fp,h2,_⟩:=h2
    obtain⟨q,n,c',hv,hn,AZ,hm,_⟩:=dh h2
    exact⟨q,c',by rw[hn,h1.1];exact hv,by omega⟩
   obtain⟨β,φ,hc⟩:=hR.core
   obtain⟨_,_,_,hle⟩:=key β φ hc
   exact Bf et r.length hu hle he.symm fun β φ hc=>by
    obtain⟨q,c',hv,_⟩:=key β φ hc
    exact⟨q,c',hv⟩
  ·simp at he
 ·simp at he
end
end Go.Proofs.YtnlkklmcfafgeaaGreat.Vm
namespace Go.Proofs.YtnlkklmcfafgeaaGreat.Vm
section
variable {P:Program} {Γ:Ctx} {w0:World} {S:Own} {st:St} {o:Oper} {e:cJ} {a:Act} {w:World}
theorem aW {t:TypeId} {n:Nat} (h:aY P t n=true):∃i,P.info? t=some i∧i.size=n:=by
 unfold aY at h
 split at h
 ·rename_i i hi
  exact⟨i,hi,Nat.eq_of_beq_eq_true h⟩
 ·cases h
theorem cD {α:Type} {l:List α} {i:Nat} {d:α} (h:i<l.length):l[i]? =some (l.getD i d):=by
 simp [List.getD,h]
theorem gM (hR:Rel w0 S st a w) (hd:∀d,o.dst=some d→bc st.n d) {t:TypeId} {x i:Operand} (ho:o.op= .indexAddr t x i) {sx si:SV}
  (h1:(cd x).val st.get st.obj=some sx) (h2:(cd i).val st.get st.obj=some si) (he:(gz P t sx si).val st.get st.obj=some e) (aJ:e.ok=true):Good P w0 S st o e a w:=by
 unfold gz at he
 split at he
 ·rename_i et k n hu
  have run:∀(b oo m c:Nat) (i':TypeInfo),P.info? et=some i'→0≤n→n<(m:Int)→a.eval x= .slice (some ⟨b,oo,none⟩) m c→(∃kk,a.eval i= .int kk n)→
    (execOp a.eval o).run P w= .ok (.value (.pointer (some ⟨b,oo+n.toNat*i'.size,none⟩))) w:=by
   rintro b oo m c i' hi h0 hm hx ⟨kk,dU⟩
   simp [execOp,ho,hx,dU,Instr.indexAt,asIntOf,run_underlying hu,h0,hm,sizeOf,typeInfo,hi,dt]
  have d_:∀(ct:List CT) (r:List (List DC)),aY P et ct.length=true→e= {sv:= .gN ct (r.getD n.toNat []) 0,ok:=decide (0≤n) && decide (n<r.length)} →
    (∀β φ,Core w0 S st.get st.obj β φ a.tmps w→ak w (Av st.obj β) β (.sl ct r) (a.eval x))→Good P w0 S st o e a w:=by
   intro ct r hz he hx
   subst he
   simp only[Bool.and_eq_true,decide_eq_true_eq] at aJ
   obtain⟨i',hi,dB⟩:=aW hz
   refine ao hR hd rfl rfl fun β φ hc=> ?_
   have hx:=hx β φ hc
   have GI:=hc.ev h2
   simp only[ak] at hx GI
   obtain⟨fp,hr,cR⟩:=hx
   obtain⟨q,m,c,hv,hm,_,_,iU⟩:=dh hr
   have jK:0<m:=by omega
   rcases iU with ⟨h0,_⟩ | ⟨_,b,oo,aA,rfl,cr,hl,rfl,eJ⟩
   ·omega
   ·have KF:n.toNat<r.length:=by omega
    refine⟨_,run b oo m c i' hi aJ.1 (by omega) hv ⟨k,GI.1⟩, ?_⟩
    have hb:¬Av st.obj β b:=cR b (by simp)
    have hf:aA[n.toNat]? =some aA[n.toNat]:=by simp
    have:=eJ n.toNat (r.getD n.toNat []) aA[n.toNat] (cD KF) hf
    simp only[ak]
    refine⟨b,oo+n.toNat*ct.length,aA[n.toNat],by rw[dB];rfl,cr,hb, ?_,fun y hy=>cR y ?_⟩
    ·simpa only[Nat.add_assoc] using this
    ·simp only[List.mem_cons,List.mem_flatten]
     exact .inr ⟨_,List.getElem_mem _,hy⟩
  split at he
  ·rename_i ct r
   cases hz:aY P et ct.length
   ·simp [hz] at he
   ·simp only[hz,cond_true,M.aa,Option.some.injEq] at he
    exact d_ ct r hz he.symm fun β φ hc=>hc.ev h1
  ·rename_i id
   simp only[M.aT,Option.bind_eq_some_iff] at he
   obtain⟨ob,aK,he⟩:=he
   split at he
   ·rename_i t' ct r fz u
    cases hz:aY P et ct.length
    ·simp [hz] at he
    ·simp only[hz,cond_true,M.aa,Option.some.injEq] at he
     subst he
     simp only[Bool.and_eq_true,decide_eq_true_eq] at aJ
     obtain⟨i',hi,dB⟩:=aW hz
     refine ao hR hd rfl rfl fun β φ hc=> ?_
     have hx:=hc.ev h1
     have GI:=hc.ev h2
     simp only[ak] at hx GI
     obtain⟨vals,aA,aZ,_⟩:=hc.ay id _ aK
     rcases aZ.2 with ⟨_,h0,_⟩ | ⟨g,cap,cur,hv,_⟩
     ·omega
     ·refine⟨_,run g 0 r.length cap i' hi aJ.1 aJ.2 (hx.1.trans hv) ⟨k,GI.1⟩, ?_⟩
      simp only[ak]
      exact⟨g,by rw[hv];rfl,by rw[dB];simp⟩
   ·rename_i ct r
    cases hz:aY P et ct.length
    ·simp [hz] at he
    ·simp only[hz,cond_true,M.aa,Option.some.injEq] at he
     refine d_ ct r hz he.symm fun β φ hc=> ?_
     have hx:=hc.ev h1
     simp only[ak] at hx
     rw[hx.1]
     exact (hc.ay id _ aK).1
   ·simp at he
  ·simp at he
 ·simp at he
theorem mD (hR:Rel w0 S st a w) (hd:∀d,o.dst=some d→bc st.n d) {t:TypeId} {x:Operand} (ho:o.op= .load t x) {sx:SV}
  (h1:(cd x).val st.get st.obj=some sx) (he:(mv P t sx).val st.get st.obj=some e) (aJ:e.ok=true):Good P w0 S st o e a w:=by
 unfold mv at he
 split at he
 case h_2=>simp at he
 rename_i td hu
 have agg:∀(b oo:Nat) (vs:List Value) (i:TypeInfo),bj P t=true→P.info? t=some i→vs.length=i.size→(∀j v,vs[j]? =some v→w.cell? ⟨b,oo+j,none⟩=some v)→
   a.eval x= .pointer (some ⟨b,oo,none⟩)→(execOp a.eval o).run P w= .ok (.value (.agg vs.toArray)) w:=by
  intro b oo vs i h2 hi hl hcell hx
  simp [execOp,ho,hx,dY h2 hi hl hcell]
 have one:∀(b oo:Nat) (v:Value),bj P t=false→w.cell? ⟨b,oo,none⟩=some v→a.eval x= .pointer (some ⟨b,oo,none⟩)→(execOp a.eval o).run P w= .ok (.value v) w:=by
  intro b oo v h2 hcell hx
  simp [execOp,ho,hx,dZ h2 hu hcell]
 unfold CO at he
 split at he
 ·rename_i id off
  simp only[M.aT,Option.bind_eq_some_iff] at he
  obtain⟨ob,aK,he⟩:=he
  split at he
  ·rename_i t' cells
   cases ha:bj P t
   ·simp only[ha,cond_false] at he
    split at he
    ·rename_i s hs
     simp only[M.aa,Option.some.injEq] at he
     subst he
     refine ao hR hd rfl rfl fun β φ hc=> ?_
     have hx:=hc.ev h1
     simp only[ak] at hx
     obtain⟨vs,hh,hr,_,_⟩:=hc.ay id _ aK
     obtain⟨v,hv,fi⟩:=af.get _ _ _ _ hr hs
     exact⟨v,one _ _ v ha (by rw[jw hh];exact hv) hx,fi⟩
    ·simp at he
   ·simp only[ha,cond_true] at he
    split at he
    ·rename_i i hi
     cases hz:Nat.ble (off+i.size) cells.length
     ·simp [hz] at he
     ·simp only[hz,cond_true,M.aa,Option.some.injEq] at he
      subst he
      have hle:=Nat.le_of_ble_eq_true hz
      refine ao hR hd rfl rfl fun β φ hc=> ?_
      have hx:=hc.ev h1
      simp only[ak] at hx
      obtain⟨vs,hh,hr,bd,_⟩:=hc.ay id _ aK
      have hlen:=af.length _ _ hr
      refine⟨_,agg _ off ((vs.drop off).take i.size) i ha hi (by simp;omega) (fun j v hj=> ?_) hx, ?_⟩
      ·rw[jw hh]
       rw[List.getElem?_take] at hj
       split at hj
       ·simpa using hj
       ·cases hj
      ·simp only[ak]
       exact⟨_,rfl,af.take _ _ _ (af.drop _ _ _ hr),fun y hy=>bd y (List.mem_of_mem_drop (List.mem_of_mem_take hy))⟩
    ·simp at he
  ·simp at he
 ·rename_i ct row off
  cases ha:bj P t
  ·simp only[ha,cond_false] at he
   split at he
   ·rename_i c AZ
    simp only[M.aa,Option.some.injEq] at he
    subst he
    refine ao hR hd rfl rfl fun β φ hc=> ?_
    have hx:=hc.ev h1
    simp only[ak] at hx
    obtain⟨b,oo,fp,hv,_,_,hr,cR⟩:=hx
    obtain⟨v,BG,e1,e2,e3⟩:=a9.get _ _ _ _ _ _ hr AZ
    exact⟨v,one _ _ v ha e1 hv,dg e2 (fun y hy=>cR y (e3 y hy))⟩
   ·simp at he
  ·simp only[ha,cond_true] at he
   split at he
   ·rename_i i hi
    cases hz:Nat.ble (off+i.size) ct.length
    ·simp [hz] at he
    ·simp only[hz,cond_true,M.aa,Option.some.injEq] at he
     subst he
     have hle:=Nat.le_of_ble_eq_true hz
     refine ao hR hd rfl rfl fun β φ hc=> ?_
     have hx:=hc.ev h1
     simp only[ak] at hx
     obtain⟨b,oo,fp,hv,_,_,hr,cR⟩:=hx
     obtain⟨vs,l1,l2,l3,l4⟩:=a9.bO (β:=β) hr cR i.size off hle
     refine⟨_,agg b (oo+off) vs i ha hi l1 (fun j v hj=> ?_) hv, ?_⟩
     ·have:=l2 j v hj
      rw[←this,Nat.add_assoc]
     ·simp only[ak]
      exact⟨vs,rfl,l3,l4⟩
   ·simp at he
 ·rename_i id i z off
  simp only[M.aT,Option.bind_eq_some_iff] at he
  obtain⟨ob,aK,he⟩:=he
  split at he
  ·rename_i t' ct rows fz u
   cases hz:Nat.beq z ct.length
   ·simp [hz] at he
   have Jp:=Nat.eq_of_beq_eq_true hz
   simp only[hz,Bool.not_true,cond_false] at he
   have reads:∀β φ,Core w0 S st.get st.obj β φ a.tmps w→i<rows.length→∃g fp,a.eval x= .pointer (some ⟨g,i*ct.length+off,none⟩)∧
     a9 w ct (rows.getD i []) (fun j=>w.cell? ⟨g,i*ct.length+j,none⟩) fp∧∀y∈fp,¬Av st.obj β y:=by
    intro β φ hc hi
    have hx:=hc.ev h1
    simp only[ak] at hx
    obtain⟨g,hg,hv⟩:=hx
    obtain⟨vals,aA,aZ,de,cR,_⟩:=hc.ay id _ aK
    have hf:i<aA.length:=by rw[de.1];exact hi
    have:=de.2 i (rows.getD i []) aA[i] (cD hi) (by simp)
    refine⟨g,aA[i],by rw[hv,Jp],bn.a9.jV (fun j v hj=>aZ.cell hg hj) this,fun y hy=>cR y ?_⟩
    exact List.mem_flatten.2 ⟨_,List.getElem_mem _,hy⟩
   cases ha:bj P t
   ·simp only[ha,cond_false] at he
    split at he
    ·rename_i c AZ
     simp only[M.aa,Option.some.injEq] at he
     subst he
     have hi:i<rows.length:=by simpa using aJ
     refine ao hR hd rfl rfl fun β φ hc=> ?_
     obtain⟨g,fp,hv,hr,cR⟩:=reads β φ hc hi
     obtain⟨v,BG,e1,e2,e3⟩:=a9.get _ _ _ _ _ _ hr AZ
     exact⟨v,one _ _ v ha e1 hv,dg e2 (fun y hy=>cR y (e3 y hy))⟩
    ·simp at he
   ·simp only[ha,cond_true] at he
    split at he
    ·rename_i j hj
     cases hz:Nat.ble (off+j.size) ct.length
     ·simp [hz] at he
     ·simp only[hz,cond_true,M.aa,Option.some.injEq] at he
      subst he
      have hi:i<rows.length:=by simpa using aJ
      have hle:=Nat.le_of_ble_eq_true hz
      refine ao hR hd rfl rfl fun β φ hc=> ?_
      obtain⟨g,fp,hv,hr,cR⟩:=reads β φ hc hi
      obtain⟨vs,l1,l2,l3,l4⟩:=a9.bO (β:=β) hr cR j.size off hle
      refine⟨_,agg g (i*ct.length+off) vs j ha hj l1 (fun k v hk=> ?_) hv, ?_⟩
      ·have:=l2 k v hk
       rw[←this,Nat.add_assoc]
      ·simp only[ak]
       exact⟨vs,rfl,l3,l4⟩
    ·simp at he
  ·simp at he
 ·simp at he
end
end Go.Proofs.YtnlkklmcfafgeaaGreat.Vm
