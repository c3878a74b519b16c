/- The value machine: definitions, the relation to the model, plain operations. Conditions: as each lemma says. -/
import Derived.WalkKit
import Derived.Maps.AppendAt
import Derived.Orders
import Derived.Lib.Strings
namespace Go.Proofs.YthpmalpdnnbkgaaGreat.Vm
inductive CT where
 | int (k:IntKind)
 | bool
 | str
 | sl (e:List CT)
inductive DC where
 | int (n:Int)
 | bool (b:Bool)
 | str (s:List UInt8)
 | sl (rows:List (List DC))
instance:Inhabited DC:=⟨.int 0⟩
def ak (x y:Bool):Bool:=bif y then x else false
theorem Kk (x y:Bool):(ak x y=true)=(x=true∧y=true):=by cases x<;>cases y<;>simp [ak]
def DC.asInt:DC→Int
 | .int n=>n
 | _=>0
def DC.asBool:DC→Bool
 | .bool b=>b
 | _=>false
def DC.asStr:DC→List UInt8
 | .str s=>s
 | _=>[]
def DC.asRows:DC→List (List DC)
 | .sl r=>r
 | _=>[]
inductive SV where
 | Jq
 | undef
 | kb (b:Bool)
 | int (k:IntKind) (n:Int)
 | bool (b:Bool)
 | str (s:List UInt8)
 | sl (e:List CT) (rows:List (List DC))
 | nil
 | own (id:Nat)
 | agg (cs:List SV)
 | ptr (id off:Nat)
 | Ou (e:List CT) (row:List DC) (off:Nat)
 | EC (id i sz off:Nat)
 | tup (vs:List SV)
 | clo (g:Nat) (cs:List SV)
 | osl (id lo z:Nat)
instance:Inhabited SV:=⟨.Jq⟩
inductive bP where
 | box (t:TypeId) (cells:List SV)
 | row (t:TypeId) (e:List CT) (rows:List (List DC)) (fz u:Bool)
 | imm (e:List CT) (rows:List (List DC))
 | deep (t:TypeId) (e:List CT) (ts:List TypeId) (rows:List (List DC)) (hl:Option (Nat×Nat))
mutual
def abD:CT→CT→Bool
 | .int k,.int k'=>decide (k=k')
 | .bool,.bool=>true
 | .str,.str=>true
 | .sl e,.sl e'=>dG e e'
 | _,_=>false
def dG:List CT→List CT→Bool
 | [],[]=>true
 | a::l,b::m=>abD a b && dG l m
 | _,_=>false
end
def ctsOf (P:Program):Nat→TypeId→Option (List CT)
 | 0,_=>none
 | n+1,t=>
  match P.underlying t with
  | some .bool=>some [.bool]
  | some (.int k)=>some [.int k]
  | some .string=>some [.str]
  | some (.slice e)=>match ctsOf P n e with | some l=>some [.sl l] | none=>none
  | some (.struct fs)=>fs.toList.foldr (fun f r=>match ctsOf P n f.type,r with | some l,some m=>some (l++m) | _,_=>none) (some [])
  | _=>none
def isAggB (P:Program) (t:TypeId):Bool:=
 match P.underlying t with
 | some (.struct _)=>true
 | some (.array _ _)=>true
 | _=>false
def inR (k:IntKind) (n:Int):Bool:=decide (k.min≤n) && decide (n≤k.max)
def ofConst:Value→SV
 | .bool b=> .kb b
 | .int k n=>bif inR k n then .int k n else .Jq
 | .string s=>bif Nat.ble s.data.toList.length maxLen then .str s.data.toList else .Jq
 | .slice none 0 0=> .nil
 | _=> .Jq
def aa5:CT→DC→SV
 | .int k,d=> .int k d.asInt
 | .bool,d=> .bool d.asBool
 | .str,d=> .str d.asStr
 | .sl e,d=> .sl e d.asRows
def kU:List CT→List DC→Nat→List SV
 | [],_,_=>[]
 | c::cs,ds,k=>aa5 c (ds.getD k default)::kU cs ds (k+1)
inductive M (α:Type) where
 | pure (a:α)
 | fail
 | slot (i:Nat) (k:SV→M α)
 | obj (id:Nat) (k:bP→M α)
def M.bind {α β:Type} :M α→(α→M β)→M β
 | .pure a,f=>f a
 | .fail,_=> .fail
 | .slot i k,f=> .slot i fun s=>(k s).bind f
 | .obj i k,f=> .obj i fun s=>(k s).bind f
instance:Monad M where
 pure:=M.pure
 bind:=M.bind
structure u4 where
 sv:SV
 cw:Option (Nat×Nat×List SV):=none
 ow:List (Nat×Option bP):=[]
 ok:Bool:=true
structure AK where
 cts:List CT
 agg:Bool
inductive RC where
 | imm (ct:CT)
 | own (t:TypeId) (e:List CT)
 | deep (t:TypeId) (e:List CT) (ts:List TypeId)
structure RK where
 cells:List RC
 agg:Bool
inductive TT where
 | flat (t:TypeId)
 | deep (t:TypeId) (its:List TypeId)
inductive MK where
 | box (t:TypeId)
 | rows (ts:List TT)
structure Sum where
 ps:List AK
 rs:List RK
 fn:List DC→Bool×List DC
 ms:List (Option MK):=[]
 pt:Option (TypeId×List CT):=none
 ann:Bool:=false
abbrev Ctx:=List (Nat×Sum)
def lkS:Ctx→Nat→Option Sum
 | [],_=>none
 | (k,s)::l,i=>bif Nat.beq k i then some s else lkS l i
def oq:Operand→M SV
 | .tmp t=> .slot t .pure
 | .const v=> .pure (ofConst v)
 | _=> .fail
def aiM:List Operand→M (List SV)
 | []=> .pure []
 | x::l=>(oq x).bind fun s=>(aiM l).bind fun r=> .pure (s::r)
def dF:SV→M (List SV)
 | .agg cs=> .pure cs
 | .Jq=> .fail
 | .undef=> .fail
 | .tup _=> .fail
 | .clo _ _=> .fail
 | .osl _ _ _=> .fail
 | s=> .pure [s]
mutual
def Hx (g:Bool):SV→SV→SV
 | .undef,.undef=> .undef
 | .kb x,.kb y=>bif x==y then .kb x else .bool (bif x then g else !g)
 | .kb x,.bool y=> .bool (bif g then x else y)
 | .bool x,.kb y=> .bool (bif g then x else y)
 | .bool x,.bool y=> .bool (bif g then x else y)
 | .int k n,.int k' m=>bif decide (k=k') then .int k (bif g then n else m) else .Jq
 | .str n,.str m=> .str (bif g then n else m)
 | .sl e r,.sl e' r'=>bif dG e e' then .sl e (bif g then r else r') else .Jq
 | .sl e r,.nil=> .sl e (bif g then r else [])
 | .nil,.sl e r=> .sl e (bif g then [] else r)
 | .nil,.nil=> .nil
 | .own i,.own j=>bif Nat.beq i j then .own i else .Jq
 | .ptr i o,.ptr j o'=>bif Nat.beq i j && Nat.beq o o' then .ptr i o else .Jq
 | .Ou e r o,.Ou e' r' o'=>bif dG e e' && Nat.beq o o' then .Ou e (bif g then r else r') o else .Jq
 | .EC i x z o,.EC j y z' o'=>bif Nat.beq i j && Nat.beq z z' && Nat.beq o o' then .EC i (bif g then x else y) z o else .Jq
 | .agg l,.agg m=>bif Nat.beq l.length m.length then .agg (UO g l m) else .Jq
 | .tup l,.tup m=>bif Nat.beq l.length m.length then .tup (UO g l m) else .Jq
 | _,_=> .Jq
def UO (g:Bool):List SV→List SV→List SV
 | a::l,b::m=>Hx g a b::UO g l m
 | _,_=>[]
end
abbrev HJ:=List (Nat×List CT×List (List DC)×Bool)
def Jc (ct:CT):SV→M (DC×HJ×Bool)
 | .int k n=>match ct with | .int k'=>bif decide (k=k') then .pure (.int n,[],true) else .fail | _=> .fail
 | .kb b=>match ct with | .bool=> .pure (.bool b,[],true) | _=> .fail
 | .bool b=>match ct with | .bool=> .pure (.bool b,[],true) | _=> .fail
 | .str s=>match ct with | .str=> .pure (.str s,[],true) | _=> .fail
 | .sl e r=>match ct with | .sl e'=>bif dG e e' then .pure (.sl r,[],false) else .fail | _=> .fail
 | .nil=>match ct with | .sl _=> .pure (.sl [],[],true) | _=> .fail
 | .own id=>match ct with
  | .sl e'=> .obj id fun
   | .row _ e r _ u=>bif dG e e' then .pure (.sl r,[(id,e,r,u)],u) else .fail
   | .imm e r=>bif dG e e' then .pure (.sl r,[],false) else .fail
   | .deep _ e _ r none=>bif dG e e' then .pure (.sl r,[(id,e,r,true)],true) else .fail
   | _=> .fail
  | _=> .fail
 | _=> .fail
def ou:List CT→List SV→M (List DC×HJ×Bool)
 | [],[]=> .pure ([],[],true)
 | c::cs,s::ss=>(Jc c s).bind fun d=>(ou cs ss).bind fun r=> .pure (d.1::r.1,d.2.1++r.2.1,d.2.2 && r.2.2)
 | _,_=> .fail
def cg:List CT→Bool
 | []=>true
 | .sl _::_=>false
 | _::l=>cg l
def eK:List CT→Nat
 | []=>0
 | .sl _::l=>eK l+1
 | _::l=>eK l
def KC:List TypeId→List TypeId→Bool
 | [],[]=>true
 | a::l,b::m=>Nat.beq a b && KC l m
 | _,_=>false
theorem Mp:∀(a b:List TypeId),KC a b=true→a=b
 | [],[],_=>rfl
 | a::l,b::m,h=>by
  simp only[KC,Bool.and_eq_true] at h
  rw[Nat.eq_of_beq_eq_true h.1,Mp l m h.2]
 | [],_::_,h=>by simp [KC] at h
 | _::_,[],h=>by simp [KC] at h
def ari (P:Program):Nat→TypeId→Option (List TypeId)
 | 0,_=>none
 | n+1,t=>
  match P.underlying t with
  | some (.slice e)=>some [e]
  | some (.struct fs)=>fs.toList.foldr (fun f r=>match ari P n f.type,r with | some l,some m=>some (l++m) | _,_=>none) (some [])
  | some _=>some []
  | none=>none
def eA (P:Program) (t:TypeId) (n:Nat):Bool:=
 match P.info? t with
 | some i=>Nat.beq i.size n
 | none=>false
def Jd (P:Program) (t:TypeId) (n:Nat):Bool:=
 match P.info? t with
 | some i=>decide (n*i.bytes≤140737488355328) && decide (n≤9223372036854775807)
 | none=>false
def bD (d k:Nat):Nat:=d*64+k
def ash (d n:Nat):Bool:=Nat.blt d (n % 1099511627776) && Nat.ble (n / 1099511627776) d
def eD (n d:Nat):Prop:=d<n % 1099511627776∧n / 1099511627776≤d
theorem afC {d n:Nat} (h:ash d n=true):eD n d:=by
 unfold ash at h
 rw[Bool.and_eq_true] at h
 exact⟨Nat.le_of_ble_eq_true h.1,Nat.le_of_ble_eq_true h.2⟩
def apU (op:BinOp) (k:IntKind) (x y:Int):Option (SV×Bool):=
 match op with
 | .add=>some (.int k (k.wrap (x+y)),true)
 | .sub=>some (.int k (k.wrap (x - y)),true)
 | .mul=>some (.int k (k.wrap (x*y)),true)
 | .quo=>some (.int k (k.wrap (x.tdiv y)), !(y==0))
 | .rem=>some (.int k (x.tmod y), !(y==0))
 | .and=>some (.int k (bits .and k x y),true)
 | .or=>some (.int k (bits .or k x y),true)
 | .xor=>some (.int k (bits .xor k x y),true)
 | .andNot=>some (.int k (bits .andNot k x y),true)
 | .eql=>some (.bool (x==y),true)
 | .neq=>some (.bool (x != y),true)
 | .lss=>some (.bool (decide (x<y)),true)
 | .leq=>some (.bool (decide (x≤y)),true)
 | .gtr=>some (.bool (decide (y<x)),true)
 | .geq=>some (.bool (decide (y≤x)),true)
 | _=>none
end Go.Proofs.YthpmalpdnnbkgaaGreat.Vm
namespace Go.Proofs.YthpmalpdnnbkgaaGreat.Vm
def bE:HJ→List (Nat×Option bP)
 | []=>[]
 | (id,e,r,_)::l=>(id,some (.imm e r))::bE l
def lU (id:Nat):HJ→Bool
 | []=>true
 | (i,_)::l=> !(Nat.beq i id) && lU id l
def d4:HJ→Bool
 | []=>true
 | (i,_)::l=>lU i l && d4 l
def S2 (e:List CT):SV→M (List (List DC)×HJ×Bool)
 | .nil=> .pure ([],[],true)
 | .sl e' r=>bif dG e e' then .pure (r,[],false) else .fail
 | .own id=> .obj id fun
  | .row _ e' r _ u=>bif dG e e' then .pure (r,[(id,e',r,u)],u) else .fail
  | .imm e' r=>bif dG e e' then .pure (r,[],false) else .fail
  | _=> .fail
 | _=> .fail
def an6 (P:Program) (t:TypeId):SV→M u4
 | .ptr id off=> .obj id fun
  | .box _ cells=>
   bif isAggB P t then
    match P.info? t with
    | some i=>bif Nat.ble (off+i.size) cells.length then .pure {sv:= .agg ((cells.drop off).take i.size)} else .fail
    | none=> .fail
   else match cells[off]? with
    | some s=> .pure {sv:=s}
    | none=> .fail
  | _=> .fail
 | .Ou e row off=>
  bif isAggB P t then
   match P.info? t with
   | some i=>bif Nat.ble (off+i.size) e.length then .pure {sv:= .agg (kU ((e.drop off).take i.size) row off)} else .fail
   | none=> .fail
  else match e[off]? with
   | some c=> .pure {sv:=aa5 c (row.getD off default)}
   | none=> .fail
 | .EC id i z off=> .obj id fun
  | .row _ e rows _ _=>
   bif !(Nat.beq z e.length) then .fail else
   bif isAggB P t then
    match P.info? t with
    | some j=>bif Nat.ble (off+j.size) e.length then .pure {sv:= .agg (kU ((e.drop off).take j.size) (rows.getD i []) off),ok:=decide (i<rows.length)} else .fail
    | none=> .fail
   else match e[off]? with
    | some c=> .pure {sv:=aa5 c ((rows.getD i []).getD off default),ok:=decide (i<rows.length)}
    | none=> .fail
  | _=> .fail
 | _=> .fail
def aiN (P:Program) (t:TypeId) (s:SV):M u4:=
 match P.underlying t with
 | some _=>an6 P t s
 | none=> .fail
def aD (row:List DC) (off:Nat) (ds:List DC):List DC:=row.take off++(ds++row.drop (off+ds.length))
def amh (P:Program) (t:TypeId) (addr x:SV):M u4:=
 (dF x).bind fun lE=>
 bif eA P t lE.length then
  match addr with
  | .ptr id off=> .obj id fun
   | .box _ cells=>bif Nat.ble (off+lE.length) cells.length then .pure {sv:= .undef,cw:=some (id,off,lE)} else .fail
   | _=> .fail
  | .EC id i z off=> .obj id fun
   | .row t' e rows fz u=>
    bif Nat.beq z e.length && Nat.ble (off+lE.length) e.length then
     (ou ((e.drop off).take lE.length) lE).bind fun r=>
     bif lU id r.2.1 && d4 r.2.1 then
      .pure {sv:= .undef,ow:=(id,some (.row t' e (rows.set i (aD (rows.getD i []) off r.1)) fz (u && r.2.2)))::bE r.2.1,ok:=decide (i<rows.length)}
     else .fail
    else .fail
   | _=> .fail
  | _=> .fail
 else .fail
def ami (P:Program) (t:TypeId):Bool:=
 match P.underlying t with
 | some .bool=>true
 | _=>false
def ane (P:Program) (t:TypeId) (op:BinOp) (a b:Bool):M u4:=
 bif ami P t then
  match op with
  | .eql=> .pure {sv:= .bool (a==b)}
  | .neq=> .pure {sv:= .bool (!(a==b))}
  | _=> .fail
 else .fail
def amj (P:Program) (t:TypeId) (xs:List SV) (off:Nat):Option (List SV):=
 bif isAggB P t then
  match P.info? t with
  | some i=>bif Nat.ble (off+i.size) xs.length then some ((xs.drop off).take i.size) else none
  | none=>none
 else match xs[off]? with
  | some x=>some [x]
  | none=>none
def Mq (P:Program) (eqv:TypeId→List SV→List SV→Option Bool) (xs ys:List SV):List Field→Option Bool
 | []=>some true
 | f::fs=>
  bif f.name== "_" then none else
  match amj P f.type xs f.offset,amj P f.type ys f.offset with
  | some a,some b=>match eqv f.type a b,Mq P eqv xs ys fs with
   | some c,some r=>some (bif c then r else false)
   | _,_=>none
  | _,_=>none
def aiO (t:TypeDesc) (x y:SV):Option Bool:=
 match t,x,y with
 | .int _,.int k a,.int k' b=>bif decide (k=k') then some (a==b) else none
 | .string,.str a,.str b=>some (a==b)
 | .bool,.bool a,.bool b=>some (a==b)
 | .bool,.kb a,.bool b=>some (a==b)
 | .bool,.bool a,.kb b=>some (a==b)
 | _,_,_=>none
def alx (P:Program):Nat→TypeId→List SV→List SV→Option Bool
 | 0,_,_,_=>none
 | n+1,t,xs,ys=>
  match P.underlying t with
  | some (.struct fs)=>bif P.stoodInHeld t then none else Mq P (alx P n) xs ys fs.toList
  | some d=>match xs,ys with
   | [x],[y]=>aiO d x y
   | _,_=>none
  | none=>none
def asU (P:Program) (t:TypeId) (op:BinOp) (xs ys:List SV):M u4:=
 match P.underlying t with
 | some (.struct _)=>
  bif P.eqGuardType P.depth t then .fail else
  match alx P 8 t xs ys,op with
  | some b,.eql=> .pure {sv:= .bool b}
  | some b,.neq=> .pure {sv:= .bool (!b)}
  | _,_=> .fail
 | _=> .fail
def asi (P:Program) (t:TypeId) (op:BinOp) (x y:SV):M u4:=
 match x,y with
 | .int k a,.int k' b=>
  match op with
  | .shl=> .pure {sv:= .int k (k.wrap (a*2 ^ (min b.toNat k.bits))),ok:=decide (0≤b)}
  | .shr=> .pure {sv:= .int k (a.fdiv (2 ^ (min b.toNat k.bits))),ok:=decide (0≤b)}
  | _=>bif decide (k=k') then
    match apU op k a b with
    | some (s,c)=> .pure {sv:=s,ok:=c}
    | none=> .fail
   else .fail
 | .str a,.str b=>
  match op with
  | .add=> .pure {sv:= .str (a++b),ok:=decide (a.length+b.length≤9223372036854775807)}
  | .eql=> .pure {sv:= .bool (a==b)}
  | .neq=> .pure {sv:= .bool (!(a==b))}
  | _=> .fail
 | .bool a,.bool b=>ane P t op a b
 | .kb a,.bool b=>ane P t op a b
 | .bool a,.kb b=>ane P t op a b
 | .agg xs,.agg ys=>asU P t op xs ys
 | _,_=> .fail
def unM (op:UnOp) (x:SV):M u4:=
 match op,x with
 | .not,.kb b=> .pure {sv:= .kb (!b)}
 | .not,.bool b=> .pure {sv:= .bool (!b)}
 | .neg,.int k n=> .pure {sv:= .int k (k.wrap (0 - n))}
 | .xor,.int k n=> .pure {sv:= .int k (bits .xor k (if k.signed then -1 else k.max) n)}
 | _,_=> .fail
def byteOf (r:List DC):UInt8:=UInt8.ofNat (r.headD default).asInt.toNat
def ofByte (b:UInt8):List DC:=[.int b.toNat]
def apV (P:Program) (d:Option Nat) (src dst:TypeId) (x:SV):M u4:=
 match P.underlying dst,P.underlying src with
 | some (.int k),some _=>match x with
  | .int _ n=> .pure {sv:= .int k (k.wrap n)}
  | _=> .fail
 | some .string,some .string=>match x with
  | .str s=> .pure {sv:= .str s}
  | _=> .fail
 | some .string,some (.slice e)=>match P.underlying e with
  | some (.int .u8)=>(S2 [.int .u8] x).bind fun r=> .pure {sv:= .str (r.1.map byteOf)}
  | _=> .fail
 | some (.slice e),some .string=>
  match P.underlying e,x,d with
  | some (.int .u8),.str s,some d=>bif eA P e 1 then .pure {sv:= .own (bD d 0),ow:=[(bD d 0,some (.row e [.int .u8] (s.map ofByte) true true))]} else .fail
  | _,_,_=> .fail
 | _,_=> .fail
def Bk (P:Program) (t:TypeId):M (List SV):=
 match P.info? t with
 | some i=>match i.zero with
  | some z=>bif z.cells.toList.all (·.oneCell') then .pure (z.cells.toList.map ofConst) else .fail
  | none=> .fail
 | none=> .fail
def arL (P:Program) (d:Option Nat) (t:TypeId) (l c:SV):M u4:=
 match P.underlying t,l,c,d with
 | some (.slice et),.int .i64 n,.int .i64 m,some d=>
  match ctsOf P 16 et,P.info? et with
  | some e,some i=>
   bif Nat.beq i.size e.length && Nat.blt 0 e.length then
    (Bk P et).bind fun z=>(ou e z).bind fun r=>
     .pure {sv:= .own (bD d 0),ow:=[(bD d 0,some (.row et e (List.replicate n.toNat r.1) false true))],ok:=decide (0≤n) && decide (n≤m) && decide (m.toNat*i.bytes≤140737488355328) && decide (m≤9223372036854775807)}
   else .fail
  | _,_=> .fail
 | _,_,_,_=> .fail
def aa6 (P:Program) (fs:Array Field):List (Nat×Operand)→List SV→M (List SV)
 | [],cells=> .pure cells
 | (i,x)::rest,cells=>
  match fs[i]? with
  | some f=>(oq x).bind fun s=>(dF s).bind fun cs=>
   bif eA P f.type cs.length && Nat.ble (f.offset+cs.length) cells.length then
    aa6 P fs rest (cells.take f.offset++(cs++cells.drop (f.offset+cs.length)))
   else .fail
  | none=> .fail
def ED (e:List CT):Nat→List (Nat×Operand)→M (List (List DC)×HJ×Bool)
 | _,[]=> .pure ([],[],true)
 | k,(i,x)::rest=>
  bif Nat.beq i k then
   (oq x).bind fun s=>(dF s).bind fun cs=>(ou e cs).bind fun r=>(ED e (k+1) rest).bind fun q=>
    .pure (r.1::q.1,r.2.1++q.2.1,r.2.2 && q.2.2)
  else .fail
def Bl (n:Nat) (lo hi:Option SV):Option (Nat×Nat×Bool):=
 match lo,hi with
 | none,none=>some (0,n,true)
 | some (.int _ l),none=>some (l.toNat,n,decide (0≤l) && decide (l≤n))
 | none,some (.int _ h)=>some (0,h.toNat,decide (0≤h) && decide (h≤n))
 | some (.int _ l),some (.int _ h)=>some (l.toNat,h.toNat,decide (0≤l) && decide (l≤h) && decide (h≤n))
 | _,_=>none
def aa7:Option Operand→M (Option SV)
 | none=> .pure none
 | some x=>(oq x).bind fun s=> .pure (some s)
def an7 (P:Program) (t:TypeId) (x:SV) (lo hi:Option SV):M u4:=
 match P.underlying t with
 | some .string=>match x with
  | .str s=>match Bl s.length lo hi with
   | some (l,h,c)=> .pure {sv:= .str ((s.take h).drop l),ok:=c}
   | none=> .fail
  | _=> .fail
 | some (.slice et)=>
  match x with
  | .sl e r=>bif eA P et e.length then match Bl r.length lo hi with
   | some (l,h,c)=> .pure {sv:= .sl e ((r.take h).drop l),ok:=c}
   | none=> .fail
   else .fail
  | .own id=> .obj id fun
   | .row t' e r false _=>bif Nat.beq t' et && eA P et e.length then match Bl r.length lo hi with
    | some (l,h,c)=> .pure {sv:= .sl e ((r.take h).drop l),ow:=[(id,some (.imm e r))],ok:=c}
    | none=> .fail
    else .fail
   | .imm e r=>bif eA P et e.length then match Bl r.length lo hi with
    | some (l,h,c)=> .pure {sv:= .sl e ((r.take h).drop l),ok:=c}
    | none=> .fail
    else .fail
   | _=> .fail
  | _=> .fail
 | _=> .fail
def an8 (P:Program) (t:TypeId) (x:SV) (lo hi:Option SV):M u4:=
 match P.underlying t,x,lo,hi with
 | some (.slice et),.own id,some (.int _ l),none=> .obj id fun
  | .row t' e r _ _=>bif Nat.beq t' et && eA P et e.length then .pure {sv:= .osl id l.toNat e.length,ok:=decide (0≤l) && decide (l≤r.length) && decide (0<r.length)} else .fail
  | _=> .fail
 | _,_,_,_=> .fail
def ale (Γ:Ctx):Option Nat→Bool
 | some d=>match lkS Γ (1125899906842624+d) with | some s=>s.ann | none=>false
 | none=>false
def apW (P:Program) (t:TypeId) (x y:SV):M u4:=
 match P.underlying t,x,y with
 | some (.slice et),.osl id lo z,.str s=> .obj id fun
  | .row t' e r fz u=>
   bif Nat.beq t' et && eA P et 1 && Nat.beq z 1 && dG e [.int .u8] then
    .pure {sv:= .int .i64 (min s.length (r.length - lo):Nat),ow:=[(id,some (.row t' e (r.take lo++(((s.take (r.length - lo)).map ofByte)++r.drop (lo+min s.length (r.length - lo)))) fz u))],ok:=decide (lo≤r.length)}
   else .fail
  | _=> .fail
 | _,_,_=> .fail
def MZ (P:Program) (t:TypeId) (x i:SV):M u4:=
 match P.underlying t,i with
 | some (.slice et),.int _ n=>
  match x with
  | .sl e r=>bif eA P et e.length then .pure {sv:= .Ou e (r.getD n.toNat []) 0,ok:=decide (0≤n) && decide (n<r.length)} else .fail
  | .own id=> .obj id fun
   | .row _ e r _ _=>bif eA P et e.length then .pure {sv:= .EC id n.toNat e.length 0,ok:=decide (0≤n) && decide (n<r.length)} else .fail
   | .imm e r=>bif eA P et e.length then .pure {sv:= .Ou e (r.getD n.toNat []) 0,ok:=decide (0≤n) && decide (n<r.length)} else .fail
   | _=> .fail
  | _=> .fail
 | _,_=> .fail
def an9 (P:Program) (t:TypeId) (x i:SV):M u4:=
 match P.underlying t,x,i with
 | some .string,.str s,.int _ n=> .pure {sv:= .int .u8 (s.getD n.toNat 0).toNat,ok:=decide (0≤n) && decide (n<s.length)}
 | _,_,_=> .fail
def arj (P:Program) (t:TypeId) (x:SV):M u4:=
 match P.underlying t,x with
 | some .string,.str s=> .pure {sv:= .int .i64 s.length}
 | some (.slice _),.nil=> .pure {sv:= .int .i64 0}
 | some (.slice _),.sl _ r=> .pure {sv:= .int .i64 r.length}
 | some (.slice _),.own id=> .obj id fun
  | .row _ _ r _ _=> .pure {sv:= .int .i64 r.length}
  | .imm _ r=> .pure {sv:= .int .i64 r.length}
  | _=> .fail
 | _,_=> .fail
def aoW (P:Program) (d:Option Nat) (t:TypeId) (s x:SV):M u4:=
 match P.underlying t,d with
 | some (.slice et),some d=>
  match ctsOf P 16 et with
  | some e=>
   bif eA P et e.length && Nat.blt 0 e.length then
    (Bk P et).bind fun z=>bif Nat.beq z.length e.length then
     match s with
     | .nil=>(S2 e x).bind fun q=>
      .pure {sv:= .own (bD d 0),ow:=(bD d 0,some (.row et e q.1 false (cg e || q.2.2)))::(bif cg e then [] else bE q.2.1),ok:=Jd P et q.1.length}
     | .own id=> .obj id fun
      | .row t' e' r false u=>
       bif Nat.beq t' et && dG e' e then
        (S2 e x).bind fun q=>
        bif lU id q.2.1 then
         .pure {sv:= .own (bD d 0),ow:=(bD d 0,some (.row et e (r++q.1) false (u && (cg e || q.2.2))))::(id,none)::(bif cg e then [] else bE q.2.1),ok:=Jd P et (r.length+q.1.length)}
        else .fail
       else .fail
      | _=> .fail
     | .osl id lo z=> .obj id fun
      | .row t' e' r false _=>
       bif Nat.beq t' et && dG e' e && Nat.beq z e.length && cg e then
        (S2 e x).bind fun q=>
        bif lU id q.2.1 then
         .pure {sv:= .sl e (r.drop lo++q.1),ow:=[(id,none)],ok:=Jd P et ((r.drop lo).length+q.1.length) && decide (lo≤r.length)}
        else .fail
       else .fail
      | _=> .fail
     | _=> .fail
    else .fail
   else .fail
  | none=> .fail
 | _,_=> .fail
def S3:List AK→List SV→M (List DC×HJ)
 | [],[]=> .pure ([],[])
 | k::ks,s::ss=>
  (match k.agg,s with
   | true,.agg cs=>ou k.cts cs
   | true,_=> .fail
   | false,.agg _=> .fail
   | false,s=>ou k.cts [s]).bind fun r=>(S3 ks ss).bind fun q=> .pure (r.1++q.1,r.2.1++q.2)
 | _,_=> .fail
def qB (d:Nat):Nat→List RC→List DC→List SV×List (Nat×Option bP)
 | _,[],_=>([],[])
 | k,.imm c::rs,ds=>let q:=qB d k rs ds.tail;(aa5 c (ds.headD default)::q.1,q.2)
 | k,.own t e::rs,ds=>
  let q:=qB d (k+1) rs ds.tail
  (.own (bD d k)::q.1,(bD d k,some (.row t e (ds.headD default).asRows false true))::q.2)
 | k,.deep t e ts::rs,ds=>
  let q:=qB d (k+1) rs ds.tail
  (.own (bD d k)::q.1,(bD d k,some (.deep t e ts (ds.headD default).asRows none))::q.2)
def zl:List RC→Nat
 | []=>0
 | .imm _::l=>zl l
 | .own _ _::l=>zl l+1
 | .deep _ _ _::l=>zl l+1
def eQ (d:Nat):Nat→List RK→List DC→List SV×List (Nat×Option bP)
 | _,[],_=>([],[])
 | k,r::rs,ds=>
  let q:=qB d k r.cells (ds.take r.cells.length)
  let p:=eQ d (k+zl r.cells) rs (ds.drop r.cells.length)
  ((bif r.agg then .agg q.1 else q.1.headD .Jq)::p.1,q.2++p.2)
def PJ:List RC→Bool
 | []=>false
 | .imm (.sl _)::_=>true
 | _::l=>PJ l
def shares (s:Sum):Bool:=s.rs.any fun r=>PJ r.cells
def DB:List RK→Nat
 | []=>0
 | r::rs=>zl r.cells+DB rs
def PK:List SV→SV
 | [x]=>x
 | l=> .tup l
inductive MU where
 | box (id:Nat) (t:TypeId) (cs:List CT)
 | row (id:Nat) (t:TypeId) (e:List CT) (u:Bool)
 | deep (id:Nat) (t:TypeId) (e:List CT) (ts:List TypeId)
 | non
def jH:List MU→List Nat
 | []=>[]
 | .box id _ _::l=>id::jH l
 | .row id _ _ _::l=>id::jH l
 | .deep id _ _ _::l=>id::jH l
 | .non::l=>jH l
def ec:List CT→List TypeId→List SV→M (List DC×List MU)
 | [],[],[]=> .pure ([],[])
 | .sl e::cs,t::ts,s::ss=>
  (match s with
   | .own id=> .obj id fun
    | .row t' e' r false u=>bif Nat.beq t' t && dG e' e && cg e then .pure (.sl r,.row id t' e' u) else .fail
    | _=> .fail
   | .nil=>bif cg e then .pure (.sl [],.non) else .fail
   | _=> .fail:M (DC×MU)).bind fun q=>(ec cs ts ss).bind fun r=> .pure (q.1::r.1,q.2::r.2)
 | .int k::cs,ts,s::ss=>(Jc (.int k) s).bind fun q=>(ec cs ts ss).bind fun r=> .pure (q.1::r.1,r.2)
 | .bool::cs,ts,s::ss=>(Jc .bool s).bind fun q=>(ec cs ts ss).bind fun r=> .pure (q.1::r.1,r.2)
 | .str::cs,ts,s::ss=>(Jc .str s).bind fun q=>(ec cs ts ss).bind fun r=> .pure (q.1::r.1,r.2)
 | _,_,_=> .fail
def dg:List CT→List TT→List SV→M (List DC×List MU)
 | [],[],[]=> .pure ([],[])
 | .sl e::cs,.flat t::ts,s::ss=>
  (match s with
   | .own id=> .obj id fun
    | .row t' e' r false u=>bif Nat.beq t' t && dG e' e && cg e then .pure (.sl r,.row id t' e' u) else .fail
    | _=> .fail
   | .nil=>bif cg e then .pure (.sl [],.non) else .fail
   | _=> .fail:M (DC×MU)).bind fun q=>(dg cs ts ss).bind fun r=> .pure (q.1::r.1,q.2::r.2)
 | .sl e::cs,.deep t its::ts,s::ss=>
  (match s with
   | .own id=> .obj id fun
    | .deep t' e' DP r none=>bif Nat.beq t' t && dG e' e && KC DP its then .pure (.sl r,.deep id t' e' DP) else .fail
    | _=> .fail
   | .nil=> .pure (.sl [],.non)
   | _=> .fail:M (DC×MU)).bind fun q=>(dg cs ts ss).bind fun r=> .pure (q.1::r.1,q.2::r.2)
 | .int k::cs,ts,s::ss=>(Jc (.int k) s).bind fun q=>(dg cs ts ss).bind fun r=> .pure (q.1::r.1,r.2)
 | .bool::cs,ts,s::ss=>(Jc .bool s).bind fun q=>(dg cs ts ss).bind fun r=> .pure (q.1::r.1,r.2)
 | .str::cs,ts,s::ss=>(Jc .str s).bind fun q=>(dg cs ts ss).bind fun r=> .pure (q.1::r.1,r.2)
 | _,_,_=> .fail
def jh:List AK→List (Option MK)→List SV→M (List DC×HJ×List MU)
 | [],[],[]=> .pure ([],[],[])
 | k::ks,none::ms,s::ss=>
  (match k.agg,s with
   | true,.agg cs=>ou k.cts cs
   | true,_=> .fail
   | false,.agg _=> .fail
   | false,s=>ou k.cts [s]).bind fun r=>(jh ks ms ss).bind fun q=> .pure (r.1++q.1,r.2.1++q.2.1,q.2.2)
 | k::ks,some (.box t)::ms,.ptr id 0::ss=> .obj id fun
  | .box t' cells=>
   bif Nat.beq t' t then
    (ou k.cts cells).bind fun r=>bif r.2.1.isEmpty then (jh ks ms ss).bind fun q=> .pure (r.1++q.1,q.2.1,.box id t' k.cts::q.2.2) else .fail
   else .fail
  | _=> .fail
 | k::ks,some (.rows ts)::ms,s::ss=>
  (match k.agg,s with
   | true,.agg cs=>dg k.cts ts cs
   | true,_=> .fail
   | false,.agg _=> .fail
   | false,s=>dg k.cts ts [s]).bind fun r=>(jh ks ms ss).bind fun q=> .pure (r.1++q.1,q.2.1,r.2++q.2.2)
 | _,_,_=> .fail
def aa8:List MU→List DC→List (Nat×Option bP)
 | [],_=>[]
 | .box id t cs::l,ds=>(id,some (.box t (kU cs ds 0)))::aa8 l (ds.drop cs.length)
 | .row id t e u::l,ds=>(id,some (.row t e (ds.headD default).asRows false u))::aa8 l ds.tail
 | .deep id t e ts::l,ds=>(id,some (.deep t e ts (ds.headD default).asRows none))::aa8 l ds.tail
 | .non::l,ds=>aa8 l ds.tail
def sO:List RK→Nat
 | []=>0
 | r::rs=>r.cells.length+sO rs
def wQ:List Nat→Bool
 | []=>true
 | i::l=> !(l.any fun j=>Nat.beq j i) && wQ l
def aa9 (s:Sum) (d:Option Nat) (args:List SV):M u4:=
 bif Nat.blt (DB s.rs) 64 && !(shares s) && (d.isSome || s.rs.isEmpty) then
  (jh s.ps s.ms args).bind fun r=>
   bif d4 r.2.1 && wQ (jH r.2.2) && (jH r.2.2).all (fun i=>lU i r.2.1) then
    .pure {sv:=PK (eQ (d.getD 0) 0 s.rs (s.fn r.1).2).1,ow:=(eQ (d.getD 0) 0 s.rs (s.fn r.1).2).2++(aa8 r.2.2 ((s.fn r.1).2.drop (sO s.rs))++bE r.2.1),ok:=(s.fn r.1).1}
   else .fail
 else .fail
def S4 (Γ:Ctx) (d:Option Nat) (g:Nat) (args:List SV):M u4:=
 match lkS Γ g with
 | some s=>
  bif s.ann then .fail else
  match s.pt with
  | some (t,cts)=>
   match d with
   | some d=>
    (S3 s.ps args).bind fun r=>
     bif d4 r.2 then
      .pure {sv:= .ptr (bD d 0) 0,ow:=(bD d 0,some (.box t (kU cts (s.fn r.1).2 0)))::bE r.2,ok:=(s.fn r.1).1}
     else .fail
   | none=> .fail
  | none=>
  match s.ms,d with
  | [],some d=>
   bif Nat.blt (DB s.rs) 64 then
    (S3 s.ps args).bind fun r=>
     bif !(shares s) || d4 r.2 then
      .pure {sv:=PK (eQ d 0 s.rs (s.fn r.1).2).1,ow:=(eQ d 0 s.rs (s.fn r.1).2).2++(bif shares s then bE r.2 else []),ok:=(s.fn r.1).1}
     else .fail
   else .fail
  | [],none=> .fail
  | _::_,d=>aa9 s d args
 | none=> .fail
def arM (Γ:Ctx) (d:Option Nat) (g:Nat) (args:List SV):M u4:=
 match lkS Γ g with
 | some s=>
  bif s.ann then .fail else
  match s.pt,s.ms with
  | none,_::_=>aa9 s d args
  | _,_=> .fail
 | none=> .fail
def apX (P:Program) (t:TypeId) (i z off:Nat) (e:List CT) (rows:List (List DC)):M u4:=
 bif !(Nat.beq z e.length) then .fail else
 match P.underlying t with
 | none=> .fail
 | some _=>
  bif isAggB P t then
   match P.info? t with
   | some j=>bif Nat.ble (off+j.size) e.length && cg ((e.drop off).take j.size) then .pure {sv:= .agg (kU ((e.drop off).take j.size) (rows.getD i []) off),ok:=decide (i<rows.length)} else .fail
   | none=> .fail
  else match e[off]? with
   | some c=>bif cg [c] then .pure {sv:=aa5 c ((rows.getD i []).getD off default),ok:=decide (i<rows.length)} else .fail
   | none=> .fail
def arN (P:Program) (d:Option Nat) (t:TypeId) (id i z off:Nat) (t':TypeId) (e:List CT) (ts:List TypeId) (rows:List (List DC)) (hl:Option (Nat×Nat)):M u4:=
 match hl,e[off]?,ts,d with
 | none,some (.sl e'),[t1],some d=>
  bif Nat.beq z e.length && Nat.beq (eK e) 1 && !(isAggB P t) && (P.underlying t).isSome then
   .pure {sv:= .own (bD d 0),ow:=[(bD d 0,some (.row t1 e' ((rows.getD i []).getD off default).asRows false true)),(id,some (.deep t' e ts rows (some (i,bD d 0))))],ok:=decide (i<rows.length)}
  else .fail
 | _,_,_,_=> .fail
def arO (P:Program) (Γ:Ctx) (d:Option Nat) (t:TypeId) (s:SV):M u4:=
 match s with
 | .EC id i z off=> .obj id fun
  | .deep t' e ts rows hl=>bif ale Γ d then arN P d t id i z off t' e ts rows hl else apX P t i z off e rows
  | _=>aiN P t s
 | _=>aiN P t s
def Je:List MU→List (Nat×Option bP)
 | []=>[]
 | .box id _ _::l=>(id,none)::Je l
 | .row id _ _ _::l=>(id,none)::Je l
 | .deep id _ _ _::l=>(id,none)::Je l
 | .non::l=>Je l
def an_:Option (Nat×Nat)→Nat→Bool
 | none,_=>true
 | some (j,_),i=>Nat.beq j i
def apY (P:Program) (t:TypeId) (id i z off:Nat) (t':TypeId) (e:List CT) (ts:List TypeId) (rows:List (List DC)) (hl:Option (Nat×Nat)) (x:SV):M u4:=
 (dF x).bind fun lE=>
 bif eA P t lE.length && Nat.beq z e.length && Nat.ble (off+lE.length) e.length then
  bif cg ((e.drop off).take lE.length) then
   (ou ((e.drop off).take lE.length) lE).bind fun r=>
    bif r.2.1.isEmpty then .pure {sv:= .undef,ow:=[(id,some (.deep t' e ts (rows.set i (aD (rows.getD i []) off r.1)) hl))],ok:=decide (i<rows.length)} else .fail
  else bif Nat.beq (eK ((e.drop off).take lE.length)) (eK e) then
   (ec ((e.drop off).take lE.length) ts lE).bind fun r=>
    bif wQ (id::jH r.2) then
     .pure {sv:= .undef,ow:=(id,some (.deep t' e ts (rows.set i (aD (rows.getD i []) off r.1)) none))::Je r.2,ok:=decide (i<rows.length) && an_ hl i}
    else .fail
  else .fail
 else .fail
def apZ (P:Program) (t:TypeId) (addr x:SV):M u4:=
 match addr with
 | .EC id i z off=> .obj id fun
  | .deep t' e ts rows hl=>apY P t id i z off t' e ts rows hl x
  | _=>amh P t addr x
 | _=>amh P t addr x
def UP (P:Program) (t:TypeId) (x i:SV):M u4:=
 match x with
 | .own id=> .obj id fun
  | .deep _ e _ rows _=>
   match P.underlying t,i with
   | some (.slice et),.int _ n=>bif eA P et e.length then .pure {sv:= .EC id n.toNat e.length 0,ok:=decide (0≤n) && decide (n<rows.length)} else .fail
   | _,_=> .fail
  | _=>MZ P t x i
 | _=>MZ P t x i
def asj (P:Program) (t:TypeId) (x:SV):M u4:=
 match x with
 | .own id=> .obj id fun
  | .deep _ _ _ rows _=>
   match P.underlying t with
   | some (.slice _)=> .pure {sv:= .int .i64 rows.length}
   | _=> .fail
  | _=>arj P t x
 | _=>arj P t x
def arP (P:Program) (d:Option Nat) (t:TypeId) (l c:SV):M u4:=
 match P.underlying t,l,c,d with
 | some (.slice et),.int .i64 n,.int .i64 m,some d=>
  match ctsOf P 16 et,ari P 16 et,P.info? et with
  | some e,some ts,some i=>
   bif Nat.beq i.size e.length && Nat.blt 0 e.length then
    (Bk P et).bind fun z=>(ec e ts z).bind fun r=>
     bif (jH r.2).isEmpty then
      .pure {sv:= .own (bD d 0),ow:=[(bD d 0,some (.deep et e ts (List.replicate n.toNat r.1) none))],ok:=decide (0≤n) && decide (n≤m) && decide (m.toNat*i.bytes≤140737488355328) && decide (m≤9223372036854775807)}
     else .fail
   else .fail
  | _,_,_=> .fail
 | _,_,_,_=> .fail
def EE (e:List CT) (ts:List TypeId):Nat→List (Nat×Operand)→M (List (List DC)×List MU)
 | _,[]=> .pure ([],[])
 | k,(i,x)::rest=>
  bif Nat.beq i k then
   (oq x).bind fun s=>(dF s).bind fun cs=>(ec e ts cs).bind fun r=>(EE e ts (k+1) rest).bind fun q=> .pure (r.1::q.1,r.2++q.2)
  else .fail
def ap0 (P:Program) (d:Option Nat) (t:TypeId) (len:Nat) (parts:List (Nat×Operand)):M u4:=
 match P.underlying t,d with
 | some (.slice et),some d=>
  match ctsOf P 16 et,ari P 16 et with
  | some e,some ts=>
   bif eA P et e.length && Nat.blt 0 e.length && Nat.beq len parts.length && Nat.ble (len*e.length) 16777216 then
    (Bk P et).bind fun _=>(EE e ts 0 parts).bind fun q=>
     bif wQ (jH q.2) then
      .pure {sv:= .own (bD d 0),ow:=(bD d 0,some (.deep et e ts q.1 none))::Je q.2}
     else .fail
   else .fail
  | _,_=> .fail
 | _,_=> .fail
def aly (et:TypeId) (e:List CT) (ts:List TypeId):SV→M (List (List DC)×List Nat)
 | .nil=> .pure ([],[])
 | .own id=> .obj id fun
  | .deep t' e' DP r none=>bif Nat.beq t' et && dG e' e && KC DP ts then .pure (r,[id]) else .fail
  | _=> .fail
 | _=> .fail
def gone (ids:List Nat):List (Nat×Option bP):=ids.map fun i=>(i,none)
def aoX (P:Program) (d:Option Nat) (t:TypeId) (s x:SV):M u4:=
 match P.underlying t,d with
 | some (.slice et),some d=>
  match ctsOf P 16 et,ari P 16 et with
  | some e,some ts=>
   bif eA P et e.length && Nat.blt 0 e.length then
    (Bk P et).bind fun z=>bif Nat.beq z.length e.length then
     (aly et e ts s).bind fun p=>(aly et e ts x).bind fun q=>
      bif wQ (p.2++q.2) then
       .pure {sv:= .own (bD d 0),ow:=(bD d 0,some (.deep et e ts (p.1++q.1) none))::gone (p.2++q.2),ok:=Jd P et (p.1.length+q.1.length)}
      else .fail
    else .fail
   else .fail
  | _,_=> .fail
 | _,_=> .fail
def ark (mx:Bool) (x y:SV):M u4:=
 match x,y with
 | .int k a,.int k' b=>bif decide (k=k') then .pure {sv:= .int k (bif mx then (if a<b then b else a) else (if b<a then b else a))} else .fail
 | _,_=> .fail
def evalOp (P:Program) (Γ:Ctx) (o:Oper):M u4:=
 match o.op with
 | .move x=>(oq x).bind fun s=> .pure {sv:=s}
 | .assign x=>(oq x).bind fun s=> .pure {sv:=s}
 | .pick c a b=>(oq c).bind fun c=>(oq a).bind fun a=>(oq b).bind fun b=>
  match c with
  | .kb t=> .pure {sv:=bif t then a else b}
  | .bool g=> .pure {sv:=Hx g a b}
  | _=> .fail
 | .alloc t=>match o.dst with
  | some d=>(Bk P t).bind fun z=> .pure {sv:= .ptr (bD d 0) 0,ow:=[(bD d 0,some (.box t z))]}
  | none=> .fail
 | .box t x=>match o.dst with
  | some d=>(oq x).bind fun s=>(dF s).bind fun cs=> .pure {sv:= .ptr (bD d 0) 0,ow:=[(bD d 0,some (.box t cs))]}
  | none=> .fail
 | .build t parts=>match P.underlying t with
  | some (.struct fs)=>match fs.toList.mapM (fun f=>(P.info? f.type).map fun i=>(f.offset,i.size)) with
   | some _=>(Bk P t).bind fun z=>(aa6 P fs parts.toList z).bind fun cs=> .pure {sv:= .agg cs}
   | none=> .fail
  | _=> .fail
 | .buildSlice t len parts=>bif ale Γ o.dst then ap0 P o.dst t len parts.toList else match P.underlying t,o.dst with
  | some (.slice et),some d=>match ctsOf P 16 et with
   | some e=>bif eA P et e.length && Nat.blt 0 e.length && Nat.beq len parts.toList.length && Nat.ble (len*e.length) 16777216 then
     (Bk P et).bind fun _=>(ED e 0 parts.toList).bind fun q=>
      bif d4 q.2.1 then
       .pure {sv:= .own (bD d 0),ow:=(bD d 0,some (.row et e q.1 false q.2.2))::bE q.2.1}
      else .fail
    else .fail
   | none=> .fail
  | _,_=> .fail
 | .load t x=>(oq x).bind fun s=>arO P Γ o.dst t s
 | .store t x y=>(oq x).bind fun a=>(oq y).bind fun v=>apZ P t a v
 | .nilCheck x=>(oq x).bind fun s=>match s with
  | .ptr .. => .pure {sv:=s}
  | .Ou .. => .pure {sv:=s}
  | .EC .. => .pure {sv:=s}
  | _=> .fail
 | .binOp op t x y _=>(oq x).bind fun a=>(oq y).bind fun b=>asi P t op a b
 | .unOp op _ x=>(oq x).bind fun a=>unM op a
 | .convert s t x=>(oq x).bind fun a=>apV P o.dst s t a
 | .makeSlice t l c=>(oq l).bind fun l=>(oq c).bind fun c=>bif ale Γ o.dst then arP P o.dst t l c else arL P o.dst t l c
 | .slice t x lo hi mx=>match mx with
  | none=>(oq x).bind fun s=>(aa7 lo).bind fun l=>(aa7 hi).bind fun h=>bif ale Γ o.dst then an8 P t s l h else an7 P t s l h
  | some _=> .fail
 | .fieldAddr t x f=>match P.underlying t with
  | some (.struct fs)=>match fs[f]? with
   | some fd=>bif eA P fd.type 0 then .fail else match P.info? fd.type with
    | none=> .fail
    | some _=>(oq x).bind fun s=>match s with
     | .ptr id off=> .pure {sv:= .ptr id (off+fd.offset)}
     | .Ou e r off=> .pure {sv:= .Ou e r (off+fd.offset)}
     | .EC id i z off=> .pure {sv:= .EC id i z (off+fd.offset)}
     | _=> .fail
   | none=> .fail
  | _=> .fail
 | .indexAddr t x i=>(oq x).bind fun s=>(oq i).bind fun n=>UP P t s n
 | .index t x i=>(oq x).bind fun s=>(oq i).bind fun n=>an9 P t s n
 | .extract x i=>(oq x).bind fun s=>match s with
  | .tup vs=>match vs[i]? with
   | some v=> .pure {sv:=v}
   | none=> .fail
  | _=> .fail
 | .makeFunc fn first captured=>match fn,first.toList with
  | .func g,[]=>(aiM captured.toList).bind fun cs=> .pure {sv:= .clo g cs}
  | _,_=> .fail
 | .call c=>match c.callee with
  | .value (.func g)=>(aiM c.args.toList).bind fun l=>S4 Γ o.dst g l
  | .value (.tmp k)=>(oq (.tmp k)).bind fun s=>match s with
   | .clo g cs=>(aiM c.args.toList).bind fun l=>arM Γ o.dst g (l++cs)
   | _=> .fail
  | .builtin .len=>match c.args.toList,c.argTypes.toList with
   | [x],[t]=>(oq x).bind fun s=>asj P t s
   | _,_=> .fail
  | .builtin .min=>match c.args.toList with
   | [x,y]=>(oq x).bind fun a=>(oq y).bind fun b=>ark false a b
   | _=> .fail
  | .builtin .max=>match c.args.toList with
   | [x,y]=>(oq x).bind fun a=>(oq y).bind fun b=>ark true a b
   | _=> .fail
  | .builtin .append=>match c.args.toList,c.argTypes.toList with
   | [s,x],[t,t']=>bif Nat.beq t t' then (oq s).bind fun a=>(oq x).bind fun b=>bif ale Γ o.dst then aoX P o.dst t a b else aoW P o.dst t a b else .fail
   | _,_=> .fail
  | .builtin .copy=>match c.args.toList,c.argTypes.toList with
   | [s,x],[t,_]=>(oq s).bind fun a=>(oq x).bind fun b=>apW P t a b
   | _,_=> .fail
  | _=> .fail
 | _=> .fail
structure St where
 n:Nat
 sl:List (Nat×SV)
 hp:List (Nat×bP)
 ok:Bool
 ls:List Nat
 lm:List Nat
def UQ:List (Nat×SV)→Nat→SV
 | [],_=> .Jq
 | (k,s)::l,i=>bif Nat.beq k i then s else UQ l i
def Bt:List (Nat×bP)→Nat→Option bP
 | [],_=>none
 | (k,s)::l,i=>bif Nat.beq k i then some s else Bt l i
def erO:List (Nat×bP)→Nat→List (Nat×bP)
 | [],_=>[]
 | (k,s)::l,i=>bif Nat.beq k i then erO l i else (k,s)::erO l i
def St.get (st:St) (i:Nat):SV:=UQ st.sl i
def St.obj (st:St) (i:Nat):Option bP:=Bt st.hp i
def M.run {α:Type} (f:Nat→SV) (h:Nat→Option bP):M α→Option (α×List Nat×List Nat)
 | .pure a=>some (a,[],[])
 | .fail=>none
 | .slot i k=>match (k (f i)).run f h with
  | some (a,s,o)=>some (a,i::s,o)
  | none=>none
 | .obj i k=>match h i with
  | some x=>match (k x).run f h with
   | some (a,s,o)=>some (a,s,i::o)
   | none=>none
  | none=>none
def St.fail (st:St):St:= {st with ok:=false,sl:=[],hp:=[]}
def tR:List SV→Nat→List SV→List SV
 | cells,off,lE=>cells.take off++(lE++cells.drop (off+lE.length))
def aiP:List (Nat×Option bP)→List (Nat×bP)→List (Nat×bP)
 | [],h=>h
 | (i,some o)::l,h=>(i,o)::erO (aiP l h) i
 | (i,none)::l,h=>erO (aiP l h) i
def arl:Option (Nat×Nat×List SV)→List (Nat×bP)→List (Nat×bP)
 | none,h=>h
 | some (i,off,lE),h=>match Bt h i with
  | some (.box t cells)=>(i,.box t (tR cells off lE))::erO h i
  | _=>h
def St.apply (st:St) (d:Option Nat) (e:u4):St:=
 {n:=st.n
  sl:=match d with | some d=>(d,e.sv)::st.sl | none=>st.sl
  hp:=aiP e.ow (arl e.cw st.hp)
  ok:=ak (ak st.ok e.ok) (match d with | some d=>ash d st.n | none=>true)
  ls:=match d with | some d=>d::st.ls | none=>st.ls
  lm:=(match e.cw with | some (i,_)=>[i] | none=>[])++(e.ow.map (·.1)++st.lm)}
def St.skip (st:St) (d:Option Nat):St:=st.apply d {sv:= .undef}
def PL (i:Nat):List Nat→Bool
 | []=>false
 | k::l=>Nat.beq k i || PL i l
def M0 (g:Bool) (f h:Nat→SV):List Nat→List (Nat×SV)→List (Nat×SV)
 | [],l=>l
 | i::r,l=>(i,Hx g (f i) (h i))::M0 g f h r l
def dedup:List Nat→List Nat
 | []=>[]
 | i::l=>bif PL i l then dedup l else i::dedup l
def aa_ (hp:List (Nat×bP)):List Nat→Bool
 | []=>true
 | i::l=>(match Bt hp i with | some _=>false | none=>true) && aa_ hp l
def St.reset (st:St):St:= {st with ls:=[],lm:=[]}
def RF (g x y:Bool):Bool:=bif x && y then true else bif g then x else y
theorem al7 (g x y:Bool):RF g x y=bif g then x else y:=by cases g<;>cases x<;>cases y<;>rfl
def aiQ (g:Bool):Option bP→Option bP→Option bP
 | some (.box t cs),some (.box t' cs')=>bif Nat.beq t t' && Nat.beq cs.length cs'.length then some (.box t (UO g cs cs')) else none
 | some (.row t e r fz u),some (.row t' e' r' fz' u')=>bif Nat.beq t t' && dG e e' && (fz==fz') && (u==u') then some (.row t e (bif g then r else r') fz u) else none
 | _,_=>none
def tS (hp:List (Nat×bP)):List Nat→List Nat
 | []=>[]
 | i::l=>match Bt hp i with | some _=>i::tS hp l | none=>tS hp l
def XJ (g:Bool) (f h:Nat→Option bP):List Nat→List (Nat×Option bP)
 | []=>[]
 | i::l=>(i,aiQ g (f i) (h i))::XJ g f h l
def merge (pre:St) (g:Bool) (a b:St):St:=
 {n:=pre.n
  sl:=M0 g a.get b.get (dedup (a.ls++b.ls)) pre.sl
  hp:=aiP (XJ g a.obj b.obj (tS pre.hp (dedup (a.lm++b.lm)))) pre.hp
  ok:=RF g a.ok b.ok
  ls:=dedup (a.ls++b.ls)++pre.ls
  lm:=tS pre.hp (dedup (a.lm++b.lm))++pre.lm}
def ap1:SV→Bool
 | .Jq=>true
 | .undef=>true
 | _=>false
def anf (g:Bool) (f h:Nat→SV):List Nat→Bool
 | []=>true
 | i::r=>(ap1 (f i) || ap1 (h i) || !(ap1 (Hx g (f i) (h i)))) && anf g f h r
def aba (pre:St) (g:Bool) (a b:St):Bool:=
 aa_ pre.hp a.lm && aa_ pre.hp b.lm && anf g a.get b.get (dedup (a.ls++b.ls))
def St.Lp (st:St) (s:Nat) (b:Bool):St:= {st with sl:=(s,.kb b)::st.sl,ls:=s::st.ls}
mutual
def l5:SV→List Nat
 | .own i=>[i]
 | .ptr i _=>[i]
 | .EC i _ _ _=>[i]
 | .agg l=>jI l
 | .tup l=>jI l
 | .clo _ l=>jI l
 | .osl i _ _=>[i]
 | _=>[]
def jI:List SV→List Nat
 | []=>[]
 | a::l=>l5 a++jI l
end
def oy:bP→List Nat
 | .box _ cells=>jI cells
 | .deep _ _ _ _ (some (_,i))=>[i]
 | _=>[]
def aoa (e:u4):List Nat:=
 l5 e.sv++((match e.cw with | some (_,_,lE)=>jI lE | none=>[])++e.ow.flatMap fun x=>x.1::(match x.2 with | some o=>oy o | none=>[]))
structure sP where
 i:Nat
 d:Option Nat
 rs:List Nat
 ro:List Nat
 wo:List Nat
 m:List Nat
def afq:List Oper→List Nat
 | []=>[]
 | o::l=>match o.dst with | some d=>d::afq l | none=>afq l
def aiR (ds:List Nat):List Nat→Bool
 | []=>true
 | i::l=> !(PL (i / 64) ds) && aiR ds l
def FZ (ds:List Nat) (st:St):Bool:=
 (st.sl.all fun x=>aiR ds (l5 x.2)) && (st.hp.all fun x=>aiR ds (x.1::oy x.2))
def XK (d:Option Nat) (e:u4) (st:St):Bool:=
 match e.ow,d with
 | _::_,some d=>FZ [d] st
 | _,_=>true
def St.tT (P:Program) (Γ:Ctx) (st:St) (o:Oper):St:=
 match (evalOp P Γ o).run st.get st.obj with
 | some (e,_)=>bif XK o.dst e st then st.apply o.dst e else st.fail
 | none=>st.fail
def PM:List Nat→List Nat→List Nat
 | [],m=>m
 | i::l,m=>bif PL i m then PM l m else i::PM l m
def aob:List Oper→List (List Nat)→List (List Nat)
 | [],acc=>acc
 | o::l,acc=>aob l (acc++[o.after.toList.foldr (fun e r=>bif Region.binds .any e then PM (PM [e.on] (acc.getD e.on [])) r else r) []])
def M1:List Oper→Nat→Bool
 | [],_=>true
 | o::l,i=>(o.after.toList.all fun e=> !(Region.binds .any e) || Nat.blt e.on i) && M1 l (i+1)
def Mr (l:List Nat):List Nat→Bool
 | []=>false
 | i::m=>PL i l || Mr l m
def XL:Option Nat→List Nat
 | some d=>[d]
 | none=>[]
def Bm (a b:sP):Bool:=
 Mr (XL a.d) (b.rs++XL b.d) || Mr a.rs (XL b.d) || Mr a.wo (b.ro++b.wo) || Mr a.ro b.wo ||
 (match a.d with | some d=>b.m.any fun i=>Nat.beq (i / 64) d | none=>false)
def abb (b a:sP):Bool:=match b.d with | some d=>a.m.any fun i=>Nat.beq (i / 64) d | none=>false
def afD (an:List (List Nat)) (a:sP):List sP→Bool
 | []=>true
 | b::l=>(!(Bm a b) || PL a.i (an.getD b.i [])) && !(abb b a) && afD an a l
def aiS (an:List (List Nat)):List sP→Bool
 | []=>true
 | a::l=>afD an a l && aiS an l
def Ms (ops:Array Oper) (o:Oper):List Nat:=
 match o.guard with
 | some (j,_)=>XL ((ops[j]?).bind (·.dst))
 | none=>[]
def jJ (P:Program) (Γ:Ctx) (ops:Array Oper) (i:Nat) (st:St) (o:Oper):sP:=
 match (evalOp P Γ o).run st.get st.obj with
 | some (e,s,r)=>⟨i,o.dst,Ms ops o++s,(match e.cw with | some (i,_)=>[i] | none=>[])++r,(match e.cw with | some (i,_)=>[i] | none=>[])++e.ow.map (·.1),aoa e⟩
 | none=>⟨i,o.dst,[],[],[],[]⟩
def Qt (ops:Array Oper) (i:Nat) (o:Oper):sP:=⟨i,o.dst,Ms ops o,[],[],[]⟩
def Jf (ops:Array Oper) (st:St) (o:Oper):Option Bool:=
 match o.guard with
 | none=>some true
 | some (j,want)=>
  match (ops[j]?).bind (·.dst) with
  | none=>none
  | some s=>
   match st.get s with
   | .kb b=>some (b==want)
   | .undef=>some false
   | _=>none
def eL (P:Program) (Γ:Ctx) (ops:Array Oper) (gs:List Nat) (chk:List sP→Bool):List Oper→Nat→List sP→St→St
 | [],_,acc,st=> {st with ok:=ak st.ok (chk acc)}
 | o::rest,i,acc,st=>
  match Jf ops st o with
  | none=>st.fail
  | some false=>eL P Γ ops gs chk rest (i+1) (acc++[Qt ops i o]) (st.skip o.dst)
  | some true=>
   match o.dst with
   | none=>eL P Γ ops gs chk rest (i+1) (acc++[jJ P Γ ops i st o]) (st.tT P Γ o)
   | some s=>
    bif PL s gs then
     match (st.tT P Γ o).get s with
     | .bool g=>merge (st.tT P Γ o) g (eL P Γ ops gs chk rest (i+1) (acc++[jJ P Γ ops i st o]) ((st.tT P Γ o).reset.Lp s true))
       (eL P Γ ops gs chk rest (i+1) (acc++[jJ P Γ ops i st o]) ((st.tT P Γ o).reset.Lp s false))
     | _=>eL P Γ ops gs chk rest (i+1) (acc++[jJ P Γ ops i st o]) (st.tT P Γ o)
    else eL P Γ ops gs chk rest (i+1) (acc++[jJ P Γ ops i st o]) (st.tT P Γ o)
def UR (ops:Array Oper):List Oper→List Nat
 | []=>[]
 | o::l=>Ms ops o++UR ops l
def oc (P:Program) (Γ:Ctx) (ops:Array Oper) (draw:Bool) (st:St):St:=
 bif draw then
  bif FZ (afq ops.toList) st && M1 ops.toList 0 && P.follows .mixedOrders then eL P Γ ops (UR ops ops.toList) (aiS (aob ops.toList [])) ops.toList 0 [] st else st.fail
 else eL P Γ ops (UR ops ops.toList) (fun _=>true) ops.toList 0 [] st
def simple:Code→Bool
 | .skip=>true
 | .region _ _ _=>true
 | .seq a b=>simple a && simple b
 | .cond _ a b=>simple a && simple b
 | _=>false
def ev (st:St):Operand→SV
 | .tmp t=>st.get t
 | .const v=>ofConst v
 | _=> .Jq
def St.yK (st:St) (c:Operand) (b:Bool):St:=
 match c with
 | .tmp t=>st.Lp t b
 | _=>st
def exec (P:Program) (Γ:Ctx):Code→St→St
 | .skip,st=>st
 | .region _ ops draw,st=>oc P Γ ops draw st
 | .seq a b,st=>exec P Γ b (exec P Γ a st)
 | .cond c a b,st=>
  match ev st c with
  | .kb t=>bif t then exec P Γ a st else exec P Γ b st
  | .bool g=>merge st g (exec P Γ a (st.reset.yK c true)) (exec P Γ b (st.reset.yK c false))
  | _=>st.fail
 | _,st=>st.fail
abbrev aV:=Bool×List DC
def bad:aV:=(false,[])
inductive CK where
 | aU
 | own (t:TypeId)
 | imm (t:TypeId)
 | deep (t:TypeId) (ts:List TypeId)
structure dv where
 bJ:List (Nat×CK)
 boxes:List (Nat×List (Nat×CK))
def lkA:List (Nat×dv)→Nat→Option dv
 | [],_=>none
 | (k,s)::l,i=>bif Nat.beq k i then some s else lkA l i
def lkK:List (Nat×CK)→Nat→CK
 | [],_=> .aU
 | (k,s)::l,i=>bif Nat.beq k i then s else lkK l i
def abc:List SV→Bool
 | []=>true
 | .ptr _ _::l=>abc l
 | _=>false
def cR (P:Program) (hp:List (Nat×bP)) (ck:CK) (nid:Nat) (s:SV):SV×List (Nat×bP×Option Nat):=
 match s with
 | .own id=>match Bt hp id with
  | some (.row t e r fz u)=>match ck with
   | .imm _=>(.Jq,[])
   | _=>(.own nid,[(nid,.row t e r fz u,some id)])
  | some (.imm e r)=>(.sl e r,[])
  | some (.deep t e ts r none)=>match ck with
   | .imm _=>(.Jq,[])
   | _=>(.own nid,[(nid,.deep t e ts r none,some id)])
  | _=>(.Jq,[])
 | .nil=>match ck with
  | .own t=>match ctsOf P 16 t with
   | some e=>(.own nid,[(nid,.row t e [] false true,none)])
   | none=>(.Jq,[])
  | .deep t ts=>match ctsOf P 16 t with
   | some e=>(.own nid,[(nid,.deep t e ts [] none,none)])
   | none=>(.Jq,[])
  | .imm t=>match ctsOf P 16 t with
   | some e=>(.sl e [],[])
   | none=>(.Jq,[])
  | .aU=>(.nil,[])
 | .kb b=>(.bool b,[])
 | .agg _=>(.Jq,[])
 | .tup _=>(.Jq,[])
 | .EC .. =>(.Jq,[])
 | .osl .. =>(.Jq,[])
 | .clo g cs=>bif abc cs then (.clo g cs,[]) else (.Jq,[])
 | s=>(s,[])
def en (P:Program) (st:St):List (Nat×CK)→List (Nat×SV)×List (Nat×bP×Option Nat)
 | []=>([],[])
 | (i,ck)::l=>
  let c:=cR P st.hp ck (bD (10000+i) 0) (st.get i)
  let q:=en P st l
  ((i,c.1)::q.1,c.2++q.2)
def ji (P:Program) (hp:List (Nat×bP)) (cks:List (Nat×CK)) (b:Nat):Nat→List SV→List SV×List (Nat×bP×Option Nat)
 | _,[]=>([],[])
 | k,s::l=>
  let c:=cR P hp (lkK cks k) (bD (20000+b*4) k) s
  let q:=ji P hp cks b (k+1) l
  (c.1::q.1,c.2++q.2)
def dV (P:Program) (hp:List (Nat×bP)):List (Nat×List (Nat×CK))→List (Nat×bP)×List (Nat×bP×Option Nat)
 | []=>([],[])
 | (b,cks)::l=>
  let q:=dV P hp l
  match Bt hp b with
  | some (.box t cells)=>
   let c:=ji P hp cks b 0 cells
   ((b,.box t c.1)::q.1,c.2++q.2)
  | _=>q
def GQ:List Nat→Bool
 | []=>true
 | i::l=> !(PL i l) && GQ l
def EF:List (Nat×bP×Option Nat)→List Nat
 | []=>[]
 | (_,_,some i)::l=>i::EF l
 | (_,_,none)::l=>EF l
def ang:List (Nat×bP)→Option Nat
 | []=>none
 | (i,.deep _ _ _ _ (some _))::_=>some i
 | _::l=>ang l
def D0:List CT→Nat
 | []=>0
 | .sl _::_=>0
 | _::l=>D0 l+1
def asl (e e2:List CT):Bool:=
 match e[D0 e]? with
 | some (.sl e')=>dG e' e2
 | _=>false
def St.ap2 (st:St):St:=
 match ang st.hp with
 | some id=>match st.obj id with
  | some (.deep t e [t1] rows (some (i,nid)))=>match st.obj nid with
   | some (.row t2 e2 r false _)=>
    bif Nat.beq t2 t1 && asl e e2 && Nat.beq (eK e) 1 && !(Nat.beq nid id) && cg e2 then
     {st with hp:=aiP [(id,some (.deep t e [t1] (rows.set i (aD (rows.getD i []) (D0 e) [.sl r])) none)),(nid,none)] st.hp}
    else st
   | _=>st
  | _=>st
 | none=>st
def abd (P:Program) (an:dv) (st:St):St:=
 let s:=en P st an.bJ
 let b:=dV P st.hp an.boxes
 let rows:=s.2++b.2
 bif GQ (EF rows) && GQ (b.1.map (·.1)++rows.map (·.1)) then
  {n:=st.n,sl:=s.1,hp:=b.1++rows.map (fun x=>(x.1,x.2.1)),ok:=st.ok,ls:=[],lm:=[]}
 else st.fail
def canon (P:Program) (an:dv) (st:St):St:=abd P an st.ap2
def St.gd (st:St) (k:St→aV):aV:=bif st.ok then k {st with ok:=true} else bad
theorem aoY {st:St} {k:St→aV} {r:List DC} (h:st.gd k=(true,r)):k st=(true,r):=by
 unfold St.gd at h
 cases hk:st.ok with
 | true=>
  rw[hk] at h
  obtain⟨_,_,_,_,_,_⟩:=st
  subst hk
  exact h
 | false=>
  rw[hk] at h
  exact absurd (congrArg Prod.fst h) (by simp [bad])
structure amk where
 F5:St→aV
 ext:Nat→St→aV
 ret:St→aV
def zm:Code→Option Nat
 | .region id _ _=>some id
 | .seq a b=>match zm a with | some i=>some i | none=>zm b
 | .cond _ a b=>match zm a with | some i=>some i | none=>zm b
 | .block _ a=>zm a
 | .loop a=>zm a
 | _=>none
def run (P:Program) (Γ:Ctx) (A:List (Nat×dv)) (N:Nat):Code→St→amk→aV
 | .skip,st,K=>K.F5 st
 | .region _ ops draw,st,K=>(oc P Γ ops draw st).gd K.F5
 | .seq a b,st,K=>run P Γ A N a st {F5:=fun s=>run P Γ A N b s K,ext:=K.ext,ret:=K.ret}
 | .cond c a b,st,K=>
  match ev st c with
  | .kb t=>bif t then run P Γ A N a st K else run P Γ A N b st K
  | .bool g=>
   bif simple a && simple b && aba st g (exec P Γ a (st.reset.yK c true)) (exec P Γ b (st.reset.yK c false)) then
    (merge st g (exec P Γ a (st.reset.yK c true)) (exec P Γ b (st.reset.yK c false))).gd K.F5
   else bif g then run P Γ A N a (st.yK c true) K else run P Γ A N b (st.yK c false) K
  | _=>bad
 | .block id a,st,K=>run P Γ A N a st {F5:=K.F5,ext:=fun i s=>bif Nat.beq i id then K.F5 s else K.ext i s,ret:=K.ret}
 | .loop a,st,K=>
  match (zm a).bind (lkA A) with
  | some an=>(Nat.rec (motive:=fun _=>St→aV) (fun _=>bad) (fun _ ih s=>run P Γ A N a s {F5:=fun s'=>ih (canon P an s'),ext:=K.ext,ret:=K.ret}) N) (canon P an st)
  | none=>bad
 | .exit id,st,K=>K.ext id st
 | .ret,st,K=>K.ret st
 | _,_,_=>bad
def M3 (P:Program):List ResultVar→M (List SV)
 | []=> .pure []
 | .tmp t::l=> .slot t fun s=>(M3 P l).bind fun r=> .pure (s::r)
 | .cell a t::l=> .slot a fun s=>(match s with | .ptr id off=>aiN P t (.ptr id off) | _=> .fail).bind fun e=>(M3 P l).bind fun r=> .pure (e.sv::r)
def KD:RC→SV→M (DC×List Nat×List Nat)
 | .imm ct,s=>(Jc ct s).bind fun q=> .pure (q.1,[],q.2.1.map (·.1))
 | .own _ _,.nil=> .pure (.sl [],[],[])
 | .own t e,.own id=> .obj id fun
  | .row t' e' r false u=>bif Nat.beq t t' && dG e e' && u then .pure (.sl r,[id],[]) else .fail
  | _=> .fail
 | .own _ _,_=> .fail
 | .deep _ _ _,.nil=> .pure (.sl [],[],[])
 | .deep t e ts,.own id=> .obj id fun
  | .deep t' e' DP r none=>bif Nat.beq t t' && dG e e' && KC ts DP then .pure (.sl r,[id],[]) else .fail
  | _=> .fail
 | .deep _ _ _,_=> .fail
def DD:List RC→List SV→M (List DC×List Nat×List Nat)
 | [],[]=> .pure ([],[],[])
 | c::cs,s::ss=>(KD c s).bind fun q=>(DD cs ss).bind fun r=> .pure (q.1::r.1,q.2.1++r.2.1,q.2.2++r.2.2)
 | _,_=> .fail
def KE:List RK→List SV→M (List DC×List Nat×List Nat)
 | [],[]=> .pure ([],[],[])
 | k::ks,s::ss=>
  (match k.agg,s with
   | true,.agg cs=>DD k.cells cs
   | true,_=> .fail
   | false,.agg _=> .fail
   | false,s=>DD k.cells [s]).bind fun q=>(KE ks ss).bind fun r=> .pure (q.1++r.1,q.2.1++r.2.1,q.2.2++r.2.2)
 | _,_=> .fail
def asm (t:TypeId) (cts:List CT):List SV→M (List DC)
 | [.ptr id 0]=> .obj id fun
  | .box t' cells=>bif Nat.beq t' t then (ou cts cells).bind fun q=>bif q.2.1.isEmpty then .pure q.1 else .fail else .fail
  | _=> .fail
 | _=> .fail
def fin (P:Program) (fn:Func) (s:Sum) (st:St):aV:=
 match s.pt with
 | some (t,cts)=>
  match ((M3 P fn.results.toList).bind fun l=>asm t cts l).run st.get st.obj with
  | some (ds,_)=>(st.ok,ds)
  | none=>bad
 | none=>
 match ((M3 P fn.results.toList).bind fun l=>KE s.rs l).run st.get st.obj with
 | some ((ds,own,im),_)=>(st.ok && GQ own && im.all (fun i=> !(PL i own)),ds)
 | none=>bad
def US:Nat→List AK→List DC→List (Nat×SV)
 | _,[],_=>[]
 | i,k::ks,ds=>(i,bif k.agg then .agg (kU k.cts ds 0) else (kU k.cts ds 0).headD .Jq)::US (i+1) ks (ds.drop k.cts.length)
def bg (P:Program) (Γ:Ctx) (A:List (Nat×dv)) (N:Nat) (fn:Func) (s:Sum) (ds:List DC):aV:=
 match fn.body with
 | some c=>run P Γ A N c {n:=fn.ntmps,sl:=US 0 s.ps ds,hp:=[],ok:=true,ls:=[],lm:=[]} {F5:=fin P fn s,ext:=fun _ _=>bad,ret:=fin P fn s}
 | none=>bad
end Go.Proofs.YthpmalpdnnbkgaaGreat.Vm
namespace Go.Proofs.YthpmalpdnnbkgaaGreat.Vm
mutual
def RdC (w:World):CT→DC→Value→List Nat→Prop
 | .int k,d,v,fp=>∃n,d= .int n∧v= .int k n∧inR k n=true∧fp=[]
 | .bool,d,v,fp=>∃b,d= .bool b∧v= .bool b∧fp=[]
 | .str,d,v,fp=>∃s:List UInt8,d= .str s∧v= .string ⟨s.toArray⟩∧s.length≤maxLen∧fp=[]
 | .sl e,d,v,fp=>∃rows a n c,d= .sl rows∧v= .slice a n c∧rows.length=n∧n≤c∧c≤maxLen∧
   ((n=0∧fp=[])∨(0<n∧∃(b o:Nat) (fps:List (List Nat)),a=some ⟨b,o,none⟩∧b<w.heap.size∧fps.length=n∧fp=b::fps.flatten∧
    ∀i r f,rows[i]? =some r→fps[i]? =some f→RdL w e r (fun j=>w.cell? ⟨b,o+(i*e.length+j),none⟩) f))
def RdL (w:World):List CT→List DC→(Nat→Option Value)→List Nat→Prop
 | [],r,_,fp=>r=[]∧fp=[]
 | c::cs,r,f,fp=>∃d r' v f1 f2,r=d::r'∧f 0=some v∧RdC w c d v f1∧RdL w cs r' (fun j=>f (j+1)) f2∧fp=f1++f2
end
theorem aoZ {w w':World} {b o:Nat} (h:w'.heap[b]? =w.heap[b]?):w'.cell? ⟨b,o,none⟩=w.cell? ⟨b,o,none⟩:=by
 simp [World.cell?,h]
mutual
theorem RdC.lt {w:World} :∀(c:CT) (d:DC) (v:Value) (fp:List Nat),RdC w c d v fp→∀b∈fp,b<w.heap.size
 | .int _,_,_,_,h=>by
  obtain⟨_,_,_,_,rfl⟩:=(by simpa only[RdC] using h)
  simp
 | .bool,_,_,_,h=>by
  obtain⟨_,_,_,rfl⟩:=(by simpa only[RdC] using h)
  simp
 | .str,_,_,_,h=>by
  obtain⟨_,_,_,_,rfl⟩:=(by simpa only[RdC] using h)
  simp
 | .sl e,_,_,_,h=>by
  simp only[RdC] at h
  obtain⟨rows,a,n,c,_,_,hn,_,_,⟨_,rfl⟩ | ⟨_,b,o,fps,_,hb,hl,rfl,hr⟩⟩:=h
  ·simp
  ·intro x hx
   simp only[List.mem_cons,List.mem_flatten] at hx
   rcases hx with rfl | ⟨f,hf,hx⟩
   ·exact hb
   ·obtain⟨i,hi,rfl⟩:=List.getElem_of_mem hf
    have hi':i<rows.length:=by omega
    exact RdL.lt e _ _ _ (hr i rows[i] fps[i] (by simp) (by simp)) x hx
theorem RdL.lt {w:World} :∀(cs:List CT) (r:List DC) (f:Nat→Option Value) (fp:List Nat),RdL w cs r f fp→∀b∈fp,b<w.heap.size
 | [],_,_,_,h=>by
  simp only[RdL] at h
  simp [h.2]
 | c::cs,_,_,_,h=>by
  simp only[RdL] at h
  obtain⟨d,r',v,f1,f2,_,_,h1,h2,rfl⟩:=h
  intro b hb
  simp only[List.mem_append] at hb
  rcases hb with hb | hb
  ·exact RdC.lt c _ _ _ h1 b hb
  ·exact RdL.lt cs _ _ _ h2 b hb
end
mutual
theorem RdC.mono {w w':World} (hs:w.heap.size≤w'.heap.size):∀(c:CT) (d:DC) (v:Value) (fp:List Nat),RdC w c d v fp→(∀b∈fp,w'.heap[b]? =w.heap[b]?)→RdC w' c d v fp
 | .int _,_,_,_,h,_=>by simpa only[RdC] using h
 | .bool,_,_,_,h,_=>by simpa only[RdC] using h
 | .str,_,_,_,h,_=>by simpa only[RdC] using h
 | .sl e,_,_,_,h,hb=>by
  simp only[RdC] at h ⊢
  obtain⟨rows,a,n,c,hd,hv,hn,hc,hm,⟨h0,rfl⟩ | ⟨hp,b,o,fps,ha,hlt,hl,rfl,hr⟩⟩:=h
  ·exact⟨rows,a,n,c,hd,hv,hn,hc,hm,.inl ⟨h0,rfl⟩⟩
  ·refine⟨rows,a,n,c,hd,hv,hn,hc,hm,.inr ⟨hp,b,o,fps,ha,by omega,hl,rfl,fun i r f hi hf=> ?_⟩⟩
   refine RdL.mono hs e r _ _ f (hr i r f hi hf) (fun j=> ?_) (fun x hx=>hb x ?_)
   ·exact (aoZ (hb b (by simp))).symm ▸ rfl
   ·simp only[List.mem_cons,List.mem_flatten]
    exact .inr ⟨f,List.mem_of_getElem? hf,hx⟩
theorem RdL.mono {w w':World} (hs:w.heap.size≤w'.heap.size):∀(cs:List CT) (r:List DC) (f f':Nat→Option Value) (fp:List Nat),RdL w cs r f fp→(∀j,f' j=f j)→(∀b∈fp,w'.heap[b]? =w.heap[b]?)→RdL w' cs r f' fp
 | [],_,_,_,_,h,_,_=>by simpa only[RdL] using h
 | c::cs,_,_,_,_,h,hf,hb=>by
  simp only[RdL] at h ⊢
  obtain⟨d,r',v,f1,f2,hr,h0,h1,h2,rfl⟩:=h
  exact⟨d,r',v,f1,f2,hr,(hf 0).trans h0,RdC.mono hs c _ _ _ h1 (fun b hx=>hb b (by simp [hx])),RdL.mono hs cs _ _ _ _ h2 (fun j=>hf (j+1)) (fun b hx=>hb b (by simp [hx])),rfl⟩
end
theorem RdL.length {w:World} :∀(cs:List CT) (r:List DC) (f:Nat→Option Value) (fp:List Nat),RdL w cs r f fp→r.length=cs.length
 | [],_,_,_,h=>by
  simp only[RdL] at h
  simp [h.1]
 | c::cs,_,_,_,h=>by
  simp only[RdL] at h
  obtain⟨d,r',v,f1,f2,rfl,_,_,h2,_⟩:=h
  simp [RdL.length cs _ _ _ h2]
structure Env where
 Bn:Nat→Nat
 val:Nat→Value
 Ol:Nat→Prop
 nb:Nat→List Nat
mutual
def bX (w:World) (av:Nat→Prop) (β:Env):SV→Value→Prop
 | .Jq,_=>True
 | .undef,v=>v=undef
 | .kb b,v=>v= .bool b
 | .int k n,v=>v= .int k n∧inR k n=true
 | .bool b,v=>v= .bool b
 | .str s,v=>v= .string ⟨s.toArray⟩∧s.length≤maxLen
 | .sl e r,v=>∃fp,RdC w (.sl e) (.sl r) v fp∧∀b∈fp,¬av b
 | .nil,v=>v= .slice none 0 0
 | .own id,v=>v=β.val id∧v.oneCell'=true
 | .agg cs,v=>∃vs:List Value,v= .agg vs.toArray∧bt w av β cs vs∧∀x∈vs,x.oneCell'=true
 | .ptr id off,v=>v= .pointer (some ⟨β.Bn id,off,none⟩)
 | .Ou e r off,v=>∃b o fp,v= .pointer (some ⟨b,o+off,none⟩)∧b<w.heap.size∧¬av b∧RdL w e r (fun j=>w.cell? ⟨b,o+j,none⟩) fp∧∀x∈fp,¬av x
 | .EC id i z off,v=>∃g,(β.val id).ownBlock=some g∧v= .pointer (some ⟨g,i*z+off,none⟩)
 | .tup vs,v=>∃l:List Value,v= .tuple l.toArray∧bt w av β vs l
 | .clo g cs,v=>∃l:List Value,v= .func (.func g) #[] l.toArray∧bt w av β cs l
 | .osl id lo z,v=>∃g n c,β.val id= .slice (some ⟨g,0,none⟩) n c∧lo≤n∧v= .slice (some ⟨g,if lo<c then lo*z else 0,none⟩) (n - lo) (c - lo)
def bt (w:World) (av:Nat→Prop) (β:Env):List SV→List Value→Prop
 | [],l=>l=[]
 | s::ss,l=>∃v l',l=v::l'∧bX w av β s v∧bt w av β ss l'
end
mutual
theorem bX.mono {w w':World} {av av':Nat→Prop} {β β':Env} (hs:w.heap.size≤w'.heap.size)
  (hw:∀b,b<w.heap.size→¬av b→w'.heap[b]? =w.heap[b]?) (ha:∀b,av' b→av b∨w.heap.size≤b):
  ∀(s:SV) (v:Value),bX w av β s v→(∀i∈l5 s,β'.val i=β.val i∧β'.Bn i=β.Bn i)→bX w' av' β' s v
 | .Jq,_,_,_=>by simp only[bX]
 | .undef,_,h,_=>by simpa only[bX] using h
 | .kb _,_,h,_=>by simpa only[bX] using h
 | .int _ _,_,h,_=>by simpa only[bX] using h
 | .bool _,_,h,_=>by simpa only[bX] using h
 | .str _,_,h,_=>by simpa only[bX] using h
 | .nil,_,h,_=>by simpa only[bX] using h
 | .sl e r,v,h,_=>by
  simp only[bX] at h ⊢
  obtain⟨fp,h1,h2⟩:=h
  have hlt:=RdC.lt _ _ _ _ h1
  refine⟨fp,RdC.mono hs _ _ _ _ h1 (fun b hb=>hw b (hlt b hb) (h2 b hb)),fun b hb hx=> ?_⟩
  rcases ha b hx with h | h
  ·exact h2 b hb h
  ·have:=hlt b hb;omega
 | .own id,_,h,hi=>by
  simp only[bX] at h ⊢
  rw[(hi id (by simp [l5])).1]
  exact h
 | .ptr id _,_,h,hi=>by
  simp only[bX] at h ⊢
  rw[h,(hi id (by simp [l5])).2]
 | .EC id i z off,_,h,hi=>by
  simp only[bX] at h ⊢
  rw[(hi id (by simp [l5])).1]
  exact h
 | .Ou e r off,v,h,_=>by
  simp only[bX] at h ⊢
  obtain⟨b,o,fp,rfl,hb,tU,h1,h2⟩:=h
  have hlt:=RdL.lt _ _ _ _ h1
  have key:∀x,x<w.heap.size→¬av x→¬av' x:=fun x hx hn hx'=>by
   rcases ha x hx' with h | h
   ·exact hn h
   ·omega
  refine⟨b,o,fp,rfl,by omega,key b hb tU,RdL.mono hs _ _ _ _ _ h1 (fun j=>aoZ (hw b hb tU)) (fun x hx=>hw x (hlt x hx) (h2 x hx)),fun x hx=>key x (hlt x hx) (h2 x hx)⟩
 | .agg cs,v,h,hi=>by
  simp only[bX] at h ⊢
  obtain⟨vs,rfl,h,h1⟩:=h
  exact⟨vs,rfl,bt.mono hs hw ha cs vs h (by simpa [l5] using hi),h1⟩
 | .tup cs,v,h,hi=>by
  simp only[bX] at h ⊢
  obtain⟨vs,rfl,h⟩:=h
  exact⟨vs,rfl,bt.mono hs hw ha cs vs h (by simpa [l5] using hi)⟩
 | .clo _ cs,v,h,hi=>by
  simp only[bX] at h ⊢
  obtain⟨vs,rfl,h⟩:=h
  exact⟨vs,rfl,bt.mono hs hw ha cs vs h (by simpa [l5] using hi)⟩
 | .osl id _ _,_,h,hi=>by
  simp only[bX] at h ⊢
  rw[(hi id (by simp [l5])).1]
  exact h
theorem bt.mono {w w':World} {av av':Nat→Prop} {β β':Env} (hs:w.heap.size≤w'.heap.size)
  (hw:∀b,b<w.heap.size→¬av b→w'.heap[b]? =w.heap[b]?) (ha:∀b,av' b→av b∨w.heap.size≤b):
  ∀(s:List SV) (v:List Value),bt w av β s v→(∀i∈jI s,β'.val i=β.val i∧β'.Bn i=β.Bn i)→bt w' av' β' s v
 | [],_,h,_=>by simpa only[bt] using h
 | s::ss,_,h,hi=>by
  simp only[bt] at h ⊢
  obtain⟨v,l',rfl,h1,h2⟩:=h
  exact⟨v,l',rfl,bX.mono hs hw ha s v h1 (fun i hx=>hi i (by simp [jI,hx])),bt.mono hs hw ha ss l' h2 (fun i hx=>hi i (by simp [jI,hx]))⟩
end
theorem bt.length {w:World} {av:Nat→Prop} {β:Env} :∀(s:List SV) (v:List Value),bt w av β s v→v.length=s.length
 | [],_,h=>by simp only[bt] at h;simp [h]
 | s::ss,_,h=>by
  simp only[bt] at h
  obtain⟨v,l',rfl,_,h2⟩:=h
  simp [bt.length ss l' h2]
theorem bt.get {w:World} {av:Nat→Prop} {β:Env} :∀(ss:List SV) (vs:List Value) (i:Nat) (s:SV),bt w av β ss vs→ss[i]? =some s→∃v,vs[i]? =some v∧bX w av β s v
 | [],_,_,_,_,hi=>by simp at hi
 | s::ss,_,i,x,h,hi=>by
  simp only[bt] at h
  obtain⟨v,l',rfl,h1,h2⟩:=h
  cases i with
  | zero=>simp at hi;subst hi;exact⟨v,by simp,h1⟩
  | succ i=>simpa using bt.get ss l' i x h2 (by simpa using hi)
theorem bt.append {w:World} {av:Nat→Prop} {β:Env} :∀(a:List SV) (x:List Value) (b:List SV) (y:List Value),bt w av β a x→bt w av β b y→bt w av β (a++b) (x++y)
 | [],_,_,_,h,h'=>by simp only[bt] at h;simpa [h] using h'
 | s::ss,_,_,_,h,h'=>by
  simp only[bt] at h
  obtain⟨v,l',rfl,h1,h2⟩:=h
  simp only[List.cons_append,bt]
  exact⟨v,_,rfl,h1,bt.append ss l' _ _ h2 h'⟩
theorem bt.take {w:World} {av:Nat→Prop} {β:Env} :∀(a:List SV) (x:List Value) (n:Nat),bt w av β a x→bt w av β (a.take n) (x.take n)
 | [],_,n,h=>by simp only[bt] at h;simp [h,bt]
 | s::ss,_,n,h=>by
  simp only[bt] at h
  obtain⟨v,l',rfl,h1,h2⟩:=h
  cases n with
  | zero=>simp [bt]
  | succ n=>simp only[List.take_succ_cons,bt];exact⟨v,_,rfl,h1,bt.take ss l' n h2⟩
theorem bt.drop {w:World} {av:Nat→Prop} {β:Env} :∀(a:List SV) (x:List Value) (n:Nat),bt w av β a x→bt w av β (a.drop n) (x.drop n)
 | [],_,n,h=>by simp only[bt] at h;simp [h,bt]
 | s::ss,_,n,h=>by
  simp only[bt] at h
  obtain⟨v,l',rfl,h1,h2⟩:=h
  cases n with
  | zero=>simp only[List.drop_zero,bt];exact⟨v,l',rfl,h1,h2⟩
  | succ n=>simpa using bt.drop ss l' n h2
mutual
theorem ap3:∀(a b:CT),abD a b=true→a=b
 | .int k,.int k',h=>by simp [abD] at h;rw[h]
 | .bool,.bool,_=>rfl
 | .str,.str,_=>rfl
 | .sl e,.sl e',h=>by simp only[abD] at h;rw[dR e e' h]
 | .int _,.bool,h | .int _,.str,h | .int _,.sl _,h | .bool,.int _,h | .bool,.str,h | .bool,.sl _,h | .str,.int _,h | .str,.bool,h | .str,.sl _,h | .sl _,.int _,h | .sl _,.bool,h | .sl _,.str,h=>by simp [abD] at h
theorem dR:∀(a b:List CT),dG a b=true→a=b
 | [],[],_=>rfl
 | a::l,b::m,h=>by
  simp only[dG,Bool.and_eq_true] at h
  rw[ap3 a b h.1,dR l m h.2]
 | [],_::_,h | _::_,[],h=>by simp [dG] at h
end
theorem bX.ao0 {w:World} {av:Nat→Prop} {β:Env} (e:List CT) (v:Value) (h:v= .slice none 0 0):bX w av β (.sl e []) v:=by
 unfold bX
 refine⟨[], ?_,by simp⟩
 unfold RdC
 exact⟨[],none,0,0,rfl,h,rfl,Nat.le_refl _,Nat.zero_le _,.inl ⟨rfl,rfl⟩⟩
mutual
theorem bX.merge {w:World} {av:Nat→Prop} {β:Env} (g:Bool) (a b:SV) (v:Value) (h:bX w av β (bif g then a else b) v):bX w av β (Hx g a b) v:=by
 rw[Hx.eq_def]
 split
 ·cases g<;>simpa using h
 ·rename_i x y
  cases g<;>cases x<;>cases y<;>simp_all [bX]
 ·cases g<;>simp_all [bX]
 ·cases g<;>simp_all [bX]
 ·cases g<;>simp_all [bX]
 ·rename_i k n k' m
  by_cases hk:k=k'
  ·subst hk;cases g<;>simp_all [bX]
  ·simp [hk,bX]
 ·cases g<;>simp_all [bX]
 ·rename_i e r e' r'
  cases hl:dG e e'
  ·simp [bX]
  ·have:=dR _ _ hl
   subst this
   cases g<;>simpa using h
 ·cases g
  ·exact bX.ao0 _ _ (by simpa [bX] using h)
  ·simpa using h
 ·cases g
  ·simpa using h
  ·exact bX.ao0 _ _ (by simpa [bX] using h)
 ·cases g<;>simpa using h
 ·rename_i i j
  cases hl:Nat.beq i j
  ·simp [bX]
  ·have:=Nat.eq_of_beq_eq_true hl
   subst this
   simpa using h
 ·rename_i i o j o'
  cases hl:Nat.beq i j && Nat.beq o o'
  ·simp [bX]
  ·simp only[Bool.and_eq_true] at hl
   have h1:=Nat.eq_of_beq_eq_true hl.1
   have h2:=Nat.eq_of_beq_eq_true hl.2
   subst h1 h2
   simpa using h
 ·rename_i e r o e' r' o'
  cases hl:dG e e' && Nat.beq o o'
  ·simp [bX]
  ·simp only[Bool.and_eq_true] at hl
   have h1:=dR _ _ hl.1
   have h2:=Nat.eq_of_beq_eq_true hl.2
   subst h1 h2
   cases g<;>simpa using h
 ·rename_i i x z o j y z' o'
  cases hl:Nat.beq i j && Nat.beq z z' && Nat.beq o o'
  ·simp [bX]
  ·simp only[Bool.and_eq_true] at hl
   have h1:=Nat.eq_of_beq_eq_true hl.1.1
   have h2:=Nat.eq_of_beq_eq_true hl.1.2
   have h3:=Nat.eq_of_beq_eq_true hl.2
   subst h1 h2 h3
   cases g<;>simpa using h
 ·rename_i l m
  cases hl:Nat.beq l.length m.length
  ·simp [bX]
  ·simp only[cond_true,bX]
   have hlen:=Nat.eq_of_beq_eq_true hl
   cases g
   ·simp only[cond_false,bX] at h
    obtain⟨vs,rfl,h,h1⟩:=h
    exact⟨vs,rfl,bt.merge false l m vs hlen h,h1⟩
   ·simp only[cond_true,bX] at h
    obtain⟨vs,rfl,h,h1⟩:=h
    exact⟨vs,rfl,bt.merge true l m vs hlen h,h1⟩
 ·rename_i l m
  cases hl:Nat.beq l.length m.length
  ·simp [bX]
  ·simp only[cond_true,bX]
   have hlen:=Nat.eq_of_beq_eq_true hl
   cases g
   ·simp only[cond_false,bX] at h
    obtain⟨vs,rfl,h⟩:=h
    exact⟨vs,rfl,bt.merge false l m vs hlen h⟩
   ·simp only[cond_true,bX] at h
    obtain⟨vs,rfl,h⟩:=h
    exact⟨vs,rfl,bt.merge true l m vs hlen h⟩
 ·simp only[bX]
termination_by SizeOf.sizeOf a
theorem bt.merge {w:World} {av:Nat→Prop} {β:Env} (g:Bool):∀(a b:List SV) (v:List Value),a.length=b.length→bt w av β (bif g then a else b) v→bt w av β (UO g a b) v
 | [],[],v,_,h=>by cases g<;>simpa [UO] using h
 | [],_::_,v,hl,h=>by simp at hl
 | _::_,[],v,hl,h=>by simp at hl
 | a::l,b::m,v,hl,h=>by
  simp only[UO,bt]
  have hl':l.length=m.length:=by simpa using hl
  cases g
  ·simp only[cond_false,bt] at h
   obtain⟨x,l',rfl,h1,h2⟩:=h
   exact⟨x,l',rfl,bX.merge false a b x h1,bt.merge false l m l' hl' h2⟩
  ·simp only[cond_true,bt] at h
   obtain⟨x,l',rfl,h1,h2⟩:=h
   exact⟨x,l',rfl,bX.merge true a b x h1,bt.merge true l m l' hl' h2⟩
termination_by a=>SizeOf.sizeOf a
end
end Go.Proofs.YthpmalpdnnbkgaaGreat.Vm
namespace Go.Proofs.YthpmalpdnnbkgaaGreat.Vm
def qC (w:World) (t size:Nat) (fz:Bool) (v:Value) (n:Nat) (vals:List Value):Prop:=
 vals.length=n*size∧
 ((v= .slice none 0 0∧n=0∧fz=false)∨
  ∃(g cap:Nat) (cur:Array Value),v= .slice (some ⟨g,0,none⟩) n cap∧w.heap[g]? =some (.cells cur t (bif fz then (cur.size,cur.size+1) else (0,0)))∧
   n≤cap∧cap≤maxLen∧cur.size=cap*size∧cur.toList.take (n*size)=vals)
def Bu (w:World) (e:List CT) (rows:List (List DC)) (vals:List Value) (fps:List (List Nat)):Prop:=
 fps.length=rows.length∧∀i r f,rows[i]? =some r→fps[i]? =some f→RdL w e r (fun j=>vals[i*e.length+j]?) f
def cb (β:Env) (id:Nat):bP→List Nat
 | .box _ _=>[β.Bn id]
 | .row _ _ _ _ _=>(β.val id).ownBlock.toList
 | .imm _ _=>[]
 | .deep _ _ _ _ _=>(β.val id).ownBlock.toList++β.nb id
def SlH (w:World) (hv:Option Value) (t:TypeId) (e:List CT) (rows:List (List DC)) (v:Value) (mb:List Nat):Prop:=
 match hv with
 | none=>∃vals fps,qC w t e.length false v rows.length vals∧Bu w e rows vals fps∧mb=v.ownBlock.toList
 | some v0=>v=v0∧v0.oneCell'=true∧mb=[]
def aN (w:World) (hv:Option Value):List CT→List TypeId→List DC→List Value→List Nat→Prop
 | [],ts,ds,us,mb=>ts=[]∧ds=[]∧us=[]∧mb=[]
 | .sl e::cs,ts,ds,us,mb=>∃t DP rows ds' v eo m1 Om,ts=t::DP∧ds= .sl rows::ds'∧us=v::eo∧cg e=true∧SlH w hv t e rows v m1∧aN w hv cs DP ds' eo Om∧mb=m1++Om
 | c::cs,ts,ds,us,mb=>∃d ds' v eo,ds=d::ds'∧us=v::eo∧RdC w c d v []∧aN w hv cs ts ds' eo mb
def kV (w:World) (e:List CT) (ts:List TypeId) (rows:List (List DC)) (vals:List Value) (hv:Nat→Option Value) (d_:List (List Nat)):Prop:=
 d_.length=rows.length∧∀i r m,rows[i]? =some r→d_[i]? =some m→aN w (hv i) e ts r ((vals.drop (i*e.length)).take e.length) m
def PN (β:Env):Option (Nat×Nat)→Nat→Option Value
 | none,_=>none
 | some (i,id),j=>if j=i then some (β.val id) else none
def Av (h:Nat→Option bP) (β:Env) (b:Nat):Prop:=(∃id o,h id=some o∧b∈cb β id o)∨β.Ol b
def Mt (w:World) (av:Nat→Prop) (β:Env) (id:Nat):bP→List Nat→Prop
 | .box t cells,φ=>∃vs:List Value,w.heap[β.Bn id]? =some (.cells vs.toArray t (0,0))∧bt w av β cells vs∧(∀x∈vs,x.oneCell'=true)∧φ=[β.Bn id]
 | .row t e rows fz u,φ=>∃vals fps,qC w t e.length fz (β.val id) rows.length vals∧Bu w e rows vals fps∧(∀b∈fps.flatten,¬av b)∧
   φ=(β.val id).ownBlock.toList++(bif u then fps.flatten else [])
 | .imm e rows,φ=>bX w av β (.sl e rows) (β.val id)∧φ=[]
 | .deep t e ts rows hl,φ=>∃vals d_,qC w t e.length false (β.val id) rows.length vals∧kV w e ts rows vals (PN β hl) d_∧β.nb id=d_.flatten∧φ=(β.val id).ownBlock.toList++d_.flatten
structure Own where
 may:Nat→Prop
 Ol:Nat→Prop
 fx:List (Nat×Value)
instance:CoeFun Own (fun _=>Nat→Prop):=⟨Own.may⟩
def Own.none:Own:=⟨fun _=>False,fun _=>False,[]⟩
structure Kept (S:Own) (w0 w:World):Prop where
 os:w.os=w0.os
 tape:w.tape=w0.tape
 output:w.output=w0.output
 size:w0.heap.size≤w.heap.size
 block:∀k,k<w0.heap.size→¬S k→w.heap[k]? =w0.heap[k]?
structure Core (w0:World) (S:Own) (f:Nat→SV) (h:Nat→Option bP) (β:Env) (φ:Nat→List Nat) (tm:Array Value) (w:World):Prop where
 bJ:∀i,bX w (Av h β) β (f i) (tm.getD i undef)
 dA:∀id o,h id=some o→Mt w (Av h β) β id o (φ id)
 fresh:∀id o,h id=some o→(φ id).Nodup∧∀b∈φ id,(w0.heap.size≤b∨S b)∧b<w.heap.size
 sep:∀i j o p,i≠j→h i=some o→h j=some p→∀b∈φ i,b ∉ φ j
 Ol:∀b,β.Ol b→b<w0.heap.size∧¬S b
 bars:β.Ol=S.Ol
theorem Bu.lt {w:World} {e:List CT} {rows:List (List DC)} {vals:List Value} {fps:List (List Nat)} (h:Bu w e rows vals fps):∀b∈fps.flatten,b<w.heap.size:=by
 intro b hb
 obtain⟨f,hf,hb⟩:=List.mem_flatten.1 hb
 obtain⟨i,hi,rfl⟩:=List.getElem_of_mem hf
 have hi':i<rows.length:=by have:=h.1;omega
 exact RdL.lt e _ _ _ (h.2 i rows[i] fps[i] (by simp) (by simp)) b hb
theorem Bu.mono {w w':World} {e:List CT} {rows:List (List DC)} {vals:List Value} {fps:List (List Nat)} (h:Bu w e rows vals fps) (hs:w.heap.size≤w'.heap.size)
  (hb:∀b∈fps.flatten,w'.heap[b]? =w.heap[b]?):Bu w' e rows vals fps:=
 ⟨h.1,fun i r f hi hf=>RdL.mono hs e r _ _ f (h.2 i r f hi hf) (fun _=>rfl) (fun b hx=>hb b (List.mem_flatten.2 ⟨f,List.mem_of_getElem? hf,hx⟩))⟩
theorem qC.mono {w w':World} {t size:Nat} {fz:Bool} {v:Value} {n:Nat} {vals:List Value} (h:qC w t size fz v n vals)
  (hb:∀b∈v.ownBlock.toList,w'.heap[b]? =w.heap[b]?):qC w' t size fz v n vals:=by
 refine⟨h.1, ?_⟩
 rcases h.2 with hn | ⟨g,cap,cur,rfl,hg,rest⟩
 ·exact .inl hn
 ·exact .inr ⟨g,cap,cur,rfl,(hb g (by simp [Value.ownBlock])).trans hg,rest⟩
theorem qC.one {w:World} {t size:Nat} {fz:Bool} {v:Value} {n:Nat} {vals:List Value} (h:qC w t size fz v n vals):v.oneCell'=true:=by
 rcases h.2 with ⟨rfl,_⟩ | ⟨g,cap,cur,rfl,_⟩<;>rfl
theorem qC.lt {w:World} {t size:Nat} {fz:Bool} {v:Value} {n:Nat} {vals:List Value} (h:qC w t size fz v n vals):∀b∈v.ownBlock.toList,b<w.heap.size:=by
 rcases h.2 with ⟨rfl,_⟩ | ⟨g,cap,cur,rfl,hg,_⟩
 ·simp [Value.ownBlock]
 ·intro b hb
  simp [Value.ownBlock] at hb
  subst hb
  exact (Array.getElem?_eq_some_iff.1 hg).1
theorem qC.owns {w:World} {t size:Nat} {v:Value} {n:Nat} {vals:List Value} (h:qC w t size false v n vals):w.ownsRow 0 t size v n vals:=by
 refine⟨h.1, ?_⟩
 rcases h.2 with ⟨hv,hn,_⟩ | ⟨g,cap,cur,hv,hg,rest⟩
 ·exact .inl ⟨hv,hn⟩
 ·exact .inr ⟨g,cap,cur,hv,Nat.zero_le _,by simpa using hg,rest⟩
theorem qC.ap4 {w:World} {t size:Nat} {v:Value} {n:Nat} {vals:List Value} {base:Nat} (h:w.ownsRow base t size v n vals):qC w t size false v n vals:=by
 refine⟨h.1, ?_⟩
 rcases h.2 with ⟨hv,hn⟩ | ⟨g,cap,cur,hv,_,hg,rest⟩
 ·exact .inl ⟨hv,hn,rfl⟩
 ·exact .inr ⟨g,cap,cur,hv,by simpa using hg,rest⟩
theorem Bu.aiT:∀(cs:List CT) (r:List DC) (f:Nat→Option Value) (fp:List Nat) {w:World},cg cs=true→RdL w cs r f fp→fp=[]
 | [],r,g,fp,w,_,h=>by simp only[RdL] at h;exact h.2
 | c::cs,r,g,fp,w,hf,h=>by
  simp only[RdL] at h
  obtain⟨d,r',v,f1,f2,rfl,_,h1,h2,rfl⟩:=h
  cases c with
  | sl e=>simp [cg] at hf
  | int k=>
   simp only[RdC] at h1
   obtain⟨_,_,_,_,rfl⟩:=h1
   rw[Bu.aiT cs r' _ f2 (by simpa [cg] using hf) h2]
   rfl
  | bool=>
   simp only[RdC] at h1
   obtain⟨_,_,_,rfl⟩:=h1
   rw[Bu.aiT cs r' _ f2 (by simpa [cg] using hf) h2]
   rfl
  | str=>
   simp only[RdC] at h1
   obtain⟨_,_,_,_,rfl⟩:=h1
   rw[Bu.aiT cs r' _ f2 (by simpa [cg] using hf) h2]
   rfl
theorem Bu.ao1 {w:World} {e:List CT} {rows:List (List DC)} {vals:List Value} {fps:List (List Nat)} (hf:cg e=true) (h:Bu w e rows vals fps):fps.flatten=[]:=by
 rw[List.flatten_eq_nil_iff]
 intro l hl
 obtain⟨i,hi,rfl⟩:=List.getElem_of_mem hl
 have hi':i<rows.length:=by have:=h.1;omega
 exact Bu.aiT e _ _ _ hf (h.2 i rows[i] fps[i] (by simp) (by simp))
theorem aN.flat {w:World} {hv:Option Value} {c:CT} {cs:List CT} {ts:List TypeId} {ds:List DC} {us:List Value} {mb:List Nat} (hc:cg [c]=true):
  aN w hv (c::cs) ts ds us mb=∃d ds' v eo,ds=d::ds'∧us=v::eo∧RdC w c d v []∧aN w hv cs ts ds' eo mb:=by
 cases c with
 | sl e=>simp [cg] at hc
 | int k=>simp only[aN]
 | bool=>simp only[aN]
 | str=>simp only[aN]
theorem aN.mono {w w':World} {hv:Option Value} (hs:w.heap.size≤w'.heap.size):∀(cs:List CT) (ts:List TypeId) (ds:List DC) (us:List Value) (mb:List Nat),aN w hv cs ts ds us mb→(∀b∈mb,w'.heap[b]? =w.heap[b]?)→aN w' hv cs ts ds us mb
 | [],_,_,_,_,h,_=>by simpa only[aN] using h
 | .sl e::cs,_,_,_,_,h,hb=>by
  simp only[aN] at h ⊢
  obtain⟨t,DP,rows,ds',v,eo,m1,Om,h1,h2,h3,h4,h5,h6,rfl⟩:=h
  refine⟨t,DP,rows,ds',v,eo,m1,Om,h1,h2,h3,h4, ?_,aN.mono hs cs _ _ _ _ h6 (fun b hx=>hb b (List.mem_append_right _ hx)),rfl⟩
  cases hv with
  | some v0=>exact h5
  | none=>
   obtain⟨vals,fps,g1,g2,rfl⟩:=h5
   refine⟨vals,fps,g1.mono (fun b hx=>hb b (List.mem_append_left _ hx)),g2.mono hs (fun b hx=> ?_),rfl⟩
   rw[g2.ao1 h4] at hx
   simp at hx
 | .int k::cs,_,_,_,_,h,hb=>by
  simp only[aN] at h ⊢
  obtain⟨d,ds',v,eo,h1,h2,h3,h4⟩:=h
  exact⟨d,ds',v,eo,h1,h2,RdC.mono hs _ _ _ _ h3 (by simp),aN.mono hs cs _ _ _ _ h4 hb⟩
 | .bool::cs,_,_,_,_,h,hb=>by
  simp only[aN] at h ⊢
  obtain⟨d,ds',v,eo,h1,h2,h3,h4⟩:=h
  exact⟨d,ds',v,eo,h1,h2,RdC.mono hs _ _ _ _ h3 (by simp),aN.mono hs cs _ _ _ _ h4 hb⟩
 | .str::cs,_,_,_,_,h,hb=>by
  simp only[aN] at h ⊢
  obtain⟨d,ds',v,eo,h1,h2,h3,h4⟩:=h
  exact⟨d,ds',v,eo,h1,h2,RdC.mono hs _ _ _ _ h3 (by simp),aN.mono hs cs _ _ _ _ h4 hb⟩
theorem kV.mono {w w':World} {e:List CT} {ts:List TypeId} {rows:List (List DC)} {vals:List Value} {hv hv':Nat→Option Value} {d_:List (List Nat)} (h:kV w e ts rows vals hv d_) (hs:w.heap.size≤w'.heap.size)
  (hb:∀b∈d_.flatten,w'.heap[b]? =w.heap[b]?) (hh:∀i,hv' i=hv i):kV w' e ts rows vals hv' d_:=
 ⟨h.1,fun i r m hi hm=>by rw[hh];exact aN.mono hs _ _ _ _ _ (h.2 i r m hi hm) (fun b hx=>hb b (List.mem_flatten.2 ⟨m,List.mem_of_getElem? hm,hx⟩))⟩
theorem bF {w:World} {av:Nat→Prop} {β:Env} {id:Nat} {o:bP} {φ:List Nat} (h:Mt w av β id o φ):∀b∈cb β id o,b∈φ:=by
 cases o with
 | box t cells=>
  obtain⟨vs,_,_,_,rfl⟩:=h
  simp [cb]
 | row t e rows fz u=>
  obtain⟨vals,fps,_,_,_,rfl⟩:=h
  intro b hb
  exact List.mem_append_left _ hb
 | imm e rows=>simp [cb]
 | deep t e ts rows hl=>
  obtain⟨vals,d_,_,_,hn,rfl⟩:=h
  intro b hb
  simpa only[cb,hn] using hb
theorem Mt.mono {w w':World} {av av':Nat→Prop} {β β':Env} {id:Nat} {o:bP} {φ:List Nat} (h:Mt w av β id o φ) (hs:w.heap.size≤w'.heap.size)
  (hw:∀b,b<w.heap.size→¬av b→w'.heap[b]? =w.heap[b]?) (ha:∀b,av' b→av b∨w.heap.size≤b)
  (MF:∀i,i=id∨i∈oy o→β'.val i=β.val i∧β'.Bn i=β.Bn i) (ht:∀b∈cb β id o,w'.heap[b]? =w.heap[b]?) (hnb:β'.nb id=β.nb id):Mt w' av' β' id o φ:=by
 have key:∀x,x<w.heap.size→¬av x→¬av' x:=fun x hx hn hx'=>by
  rcases ha x hx' with h | h
  ·exact hn h
  ·omega
 have h0:=MF id (.inl rfl)
 cases o with
 | box t cells=>
  obtain⟨vs,h1,h2,h3,rfl⟩:=h
  refine⟨vs, ?_,bt.mono hs hw ha _ _ h2 (fun i hi=>MF i (.inr hi)),h3,by rw[h0.2]⟩
  rw[h0.2,ht _ (by simp [cb])]
  exact h1
 | row t e rows fz u=>
  obtain⟨vals,fps,h1,h2,h3,rfl⟩:=h
  refine⟨vals,fps, ?_,h2.mono hs (fun b hb=>hw b (h2.lt b hb) (h3 b hb)),fun b hb=>key b (h2.lt b hb) (h3 b hb),by rw[h0.1]⟩
  rw[h0.1]
  exact h1.mono ht
 | imm e rows=>
  obtain⟨h1,rfl⟩:=h
  refine⟨?_,rfl⟩
  rw[h0.1]
  exact bX.mono hs hw ha _ _ h1 (by simp [l5])
 | deep t e ts rows hl=>
  obtain⟨vals,d_,h1,h2,h3,rfl⟩:=h
  refine⟨vals,d_, ?_,h2.mono hs (fun b hb=>ht b ?_) (fun j=> ?_),by rw[hnb];exact h3,by rw[h0.1]⟩
  ·rw[h0.1]
   exact h1.mono (fun b hb=>ht b (by simp only[cb];exact List.mem_append_left _ hb))
  ·simp only[cb,h3]
   exact List.mem_append_right _ hb
  ·cases hl with
   | none=>rfl
   | some x=>
    obtain⟨k,nid⟩:=x
    simp only[PN]
    rw[(MF nid (.inr (by simp [oy]))).1]
theorem Core.aiU {w0:World} {S:Own} {f:Nat→SV} {h h':Nat→Option bP} {β β':Env} {φ φ':Nat→List Nat} {tm:Array Value} {w w':World}
  (hc:Core w0 S f h β φ tm w) (X:Nat→Prop)
  (hs:w.heap.size≤w'.heap.size) (hw:∀b,b<w.heap.size→¬Av h β b→w'.heap[b]? =w.heap[b]?) (ha:∀b,Av h' β' b→Av h β b∨w.heap.size≤b)
  (hf:∀i,∀id∈l5 (f i),¬X id) (MF:∀id,¬X id→β'.val id=β.val id∧β'.Bn id=β.Bn id)
  (hk:∀id o,h' id=some o→
   (¬X id∧h id=some o∧β'.nb id=β.nb id∧φ' id=φ id∧(∀i∈oy o,¬X i)∧∀b∈cb β id o,w'.heap[b]? =w.heap[b]?)∨
   (Mt w' (Av h' β') β' id o (φ' id)∧(φ' id).Nodup∧∀b∈φ' id,(w0.heap.size≤b∨S b)∧b<w'.heap.size))
  (asn:∀i j o p,i≠j→h' i=some o→h' j=some p→∀b∈φ' i,b ∉ φ' j) (GR:β'.Ol=β.Ol:=by rfl):Core w0 S f h' β' φ' tm w' where
 bJ i:=bX.mono hs hw ha _ _ (hc.bJ i) (fun id Bo=>MF id (hf i id Bo))
 dA id o ho:=by
  rcases hk id o ho with ⟨hx,h1,hn,h2,h3,h4⟩ | h1
  ·rw[h2]
   exact (hc.dA id o h1).mono hs hw ha (fun i hi=>MF i (hi.elim (fun e=>e ▸ hx) (h3 i))) h4 hn
  ·exact h1.1
 fresh id o ho:=by
  rcases hk id o ho with ⟨hx,h1,hn,h2,h3,h4⟩ | h1
  ·rw[h2]
   refine⟨(hc.fresh id o h1).1,fun b hb=> ?_⟩
   have:=(hc.fresh id o h1).2 b hb
   exact⟨this.1,by omega⟩
  ·exact h1.2
 sep:=asn
 Ol b hb:=hc.Ol b (GR ▸ hb)
 bars:=GR.trans hc.bars
theorem Core.step {w0:World} {S:Own} {f:Nat→SV} {h h':Nat→Option bP} {β β':Env} {φ φ':Nat→List Nat} {tm:Array Value} {w w':World}
  (hc:Core w0 S f h β φ tm w) (X:Nat→Prop)
  (hs:w.heap.size≤w'.heap.size) (hw:∀b,b<w.heap.size→¬Av h β b→w'.heap[b]? =w.heap[b]?) (ha:∀b,Av h' β' b→Av h β b∨w.heap.size≤b)
  (hf:∀i,∀id∈l5 (f i),¬X id) (MF:∀id,¬X id→β'.val id=β.val id∧β'.Bn id=β.Bn id)
  (hk:∀id o,h' id=some o→
   (¬X id∧h id=some o∧φ' id=φ id∧(∀i∈oy o,¬X i)∧∀b∈cb β id o,w'.heap[b]? =w.heap[b]?)∨
   (Mt w' (Av h' β') β' id o (φ' id)∧(φ' id).Nodup∧∀b∈φ' id,(w0.heap.size≤b∨S b)∧b<w'.heap.size))
  (asn:∀i j o p,i≠j→h' i=some o→h' j=some p→∀b∈φ' i,b ∉ φ' j) (GR:β'.Ol=β.Ol:=by rfl) (hnb:∀id,β'.nb id=β.nb id:=by intro _;rfl):Core w0 S f h' β' φ' tm w':=
 hc.aiU X hs hw ha hf MF (fun id o ho=>(hk id o ho).elim (fun h=> .inl ⟨h.1,h.2.1,hnb id,h.2.2⟩) .inr) asn GR
theorem Core.arQ {w0:World} {S:Own} {f:Nat→SV} {h:Nat→Option bP} {β:Env} {φ:Nat→List Nat} {tm:Array Value} {w:World} (hc:Core w0 S f h β φ tm w) (hk:w0.heap.size≤w.heap.size) {b:Nat} (hb:Av h β b):b<w.heap.size:=by
 rcases hb with ⟨j,oj,hj,ie⟩ | hb
 ·exact ((hc.fresh j oj hj).2 b (bF (hc.dA j oj hj) b ie)).2
 ·have:=(hc.Ol b hb).1
  omega
theorem Core.aml {w0:World} {S:Own} {f:Nat→SV} {h:Nat→Option bP} {β:Env} {φ:Nat→List Nat} {tm:Array Value} {w:World} (hc:Core w0 S f h β φ tm w) {j:Nat} {oj:bP} (hj:h j=some oj) {b:Nat} (hb:b∈φ j):¬β.Ol b:=by
 intro hx
 have h1:=hc.Ol b hx
 rcases ((hc.fresh j oj hj).2 b hb).1 with h2 | h2
 ·omega
 ·exact h1.2 h2
def dB {α:Type} (f:Nat→α) (d:Nat) (x:α):Nat→α:=fun i=>if i=d then x else f i
theorem Core.put {w0:World} {S:Own} {f:Nat→SV} {h:Nat→Option bP} {β:Env} {φ:Nat→List Nat} {tm:Array Value} {w:World}
  (hc:Core w0 S f h β φ tm w) (d:Nat) (s:SV) (v:Value) (hd:d<tm.size) (hv:bX w (Av h β) β s v):Core w0 S (dB f d s) h β φ (tm.setIfInBounds d v) w where
 bJ i:=by
  by_cases hi:i=d
  ·subst hi
   simpa [dB,Array.getD,hd] using hv
  ·have:=hc.bJ i
   have e:(tm.setIfInBounds d v).getD i undef=tm.getD i undef:=by
    simp only[Array.getD_eq_getD_getElem?,Array.getElem?_setIfInBounds]
    rw[if_neg (fun e=>hi e.symm)]
   rw[e]
   simpa [dB,hi] using this
 dA:=hc.dA
 fresh:=hc.fresh
 sep:=hc.sep
 Ol:=hc.Ol
 bars:=hc.bars
structure Rel (w0:World) (S:Own) (st:St) (a:Act) (w:World):Prop where
 size:a.tmps.size=st.n % 1099511627776
 fx:∀x∈S.fx,x.1<st.n / 1099511627776∧a.tmps.getD x.1 undef=x.2
 defers:a.defers=[]
 kept:Kept S w0 w
 core:∃β φ,Core w0 S st.get st.obj β φ a.tmps w
def M.val {α:Type} (f:Nat→SV) (h:Nat→Option bP):M α→Option α
 | .pure a=>some a
 | .fail=>none
 | .slot i k=>(k (f i)).val f h
 | .obj i k=>match h i with
  | some x=>(k x).val f h
  | none=>none
theorem M.EG {α:Type} {f:Nat→SV} {h:Nat→Option bP} :∀(m:M α) {a:α} {s o:List Nat},m.run f h=some (a,s,o)→m.val f h=some a
 | .pure a,_,_,_,e=>by simp only[M.run,Option.some.injEq,Prod.mk.injEq] at e;simp [M.val,e.1]
 | .fail,_,_,_,e=>by simp [M.run] at e
 | .slot i k,a,s,o,e=>by
  simp only[M.run] at e
  split at e
  ·rename_i b s' o' hk
   simp only[Option.some.injEq,Prod.mk.injEq] at e
   obtain⟨rfl,_,_⟩:=e
   exact M.EG (k (f i)) hk
  ·cases e
 | .obj i k,a,s,o,e=>by
  simp only[M.run] at e
  split at e
  ·rename_i x hx
   split at e
   ·rename_i b s' o' hk
    simp only[Option.some.injEq,Prod.mk.injEq] at e
    obtain⟨rfl,_,_⟩:=e
    simp only[M.val,hx]
    exact M.EG (k x) hk
   ·cases e
  ·cases e
@[simp] theorem M.aX {α β:Type} {f:Nat→SV} {h:Nat→Option bP} (k:α→M β):∀(m:M α),(m.bind k).val f h=(m.val f h).bind fun a=>(k a).val f h
 | .pure a=>rfl
 | .fail=>rfl
 | .slot i q=>by simp only[M.bind,M.val];exact M.aX k (q (f i))
 | .obj i q=>by
  simp only[M.bind,M.val]
  cases h i with
  | none=>rfl
  | some x=>exact M.aX k (q x)
@[simp] theorem M.ax {α:Type} {f:Nat→SV} {h:Nat→Option bP} (a:α):(M.pure a).val f h=some a:=rfl
@[simp] theorem M.aiV {α:Type} {f:Nat→SV} {h:Nat→Option bP} :(M.fail:M α).val f h=none:=rfl
@[simp] theorem M.eB {α:Type} {f:Nat→SV} {h:Nat→Option bP} (i:Nat) (k:bP→M α):(M.obj i k).val f h=(h i).bind fun x=>(k x).val f h:=by
 simp only[M.val]
 cases h i<;>rfl
@[simp] theorem M.XM {α:Type} {f:Nat→SV} {h:Nat→Option bP} (i:Nat) (k:SV→M α):(M.slot i k).val f h=(k (f i)).val f h:=rfl
def evS (f:Nat→SV):Operand→SV
 | .tmp t=>f t
 | .const v=>ofConst v
 | _=> .Jq
theorem ao2 {f:Nat→SV} {h:Nat→Option bP} {x:Operand} {s:SV} (e:(oq x).val f h=some s):s=evS f x:=by
 cases x<;>simp [oq,M.val] at e<;>simp [evS,e]
theorem UT {w:World} {av:Nat→Prop} {β:Env} (v:Value):bX w av β (ofConst v) v:=by
 unfold ofConst
 split
 ·simp [bX]
 ·rename_i k n
  cases hi:inR k n<;>simp [bX,hi]
 ·rename_i s
  cases hi:Nat.ble s.data.toList.length maxLen
  ·simp [bX]
  ·simp only[cond_true,bX]
   exact⟨by simp,Nat.le_of_ble_eq_true hi⟩
 ·simp [bX]
 ·simp [bX]
theorem Core.ev {w0:World} {S:Own} {f:Nat→SV} {h:Nat→Option bP} {β:Env} {φ:Nat→List Nat} {a:Act} {w:World}
  (hc:Core w0 S f h β φ a.tmps w) {x:Operand} {s:SV} (e:(oq x).val f h=some s):bX w (Av h β) β s (a.eval x):=by
 have:=ao2 e
 subst this
 cases x with
 | tmp t=>exact hc.bJ t
 | const v=>exact UT v
 | global g=>simp [evS,bX]
 | func g=>simp [evS,bX]
end Go.Proofs.YthpmalpdnnbkgaaGreat.Vm
namespace Go.Proofs.YthpmalpdnnbkgaaGreat.Vm
def fo:List (Nat×Option bP)→(Nat→Option bP)→Nat→Option bP
 | [],h=>h
 | (i,x)::l,h=>dB (fo l h) i x
def fc:Option (Nat×Nat×List SV)→(Nat→Option bP)→Nat→Option bP
 | none,h=>h
 | some (i,off,lE),h=>match h i with
  | some (.box t cells)=>dB h i (some (.box t (tR cells off lE)))
  | _=>h
theorem amm (h:List (Nat×bP)) (i j:Nat):Bt (erO h i) j=if j=i then none else Bt h j:=by
 induction h with
 | nil=>simp [erO,Bt]
 | cons x l ih=>
  obtain⟨k,o⟩:=x
  simp only[erO,Bt]
  cases hk:Nat.beq k i
  ·simp only[cond_false,Bt]
   cases hj:Nat.beq k j
   ·simpa using ih
   ·have e1:=Nat.eq_of_beq_eq_true hj
    have e2:=Nat.ne_of_beq_eq_false hk
    subst e1
    simp [e2]
  ·have e1:=Nat.eq_of_beq_eq_true hk
   subst e1
   simp only[cond_true]
   rw[ih]
   by_cases hj:j=k
   ·simp [hj]
   ·have:Nat.beq k j=false:=by
     cases hb:Nat.beq k j
     ·rfl
     ·exact absurd (Nat.eq_of_beq_eq_true hb).symm hj
    simp [hj,this]
theorem anh (h:List (Nat×bP)) (i j:Nat) (o:bP):Bt ((i,o)::h) j=if j=i then some o else Bt h j:=by
 simp only[Bt]
 cases hk:Nat.beq i j
 ·have e2:=Nat.ne_of_beq_eq_false hk
  rw[if_neg (fun e=>e2 e.symm)]
  rfl
 ·simp [(Nat.eq_of_beq_eq_true hk).symm]
theorem XN (ow:List (Nat×Option bP)) (h:List (Nat×bP)):Bt (aiP ow h)=fo ow (Bt h):=by
 induction ow with
 | nil=>rfl
 | cons x l ih=>
  obtain⟨i,o⟩:=x
  funext j
  cases o with
  | none=>simp only[aiP,amm,fo,dB,ih]
  | some o=>
   simp only[aiP,anh,amm,fo,dB,ih]
   split<;>rfl
theorem ap5 (cw:Option (Nat×Nat×List SV)) (h:List (Nat×bP)):Bt (arl cw h)=fc cw (Bt h):=by
 cases cw with
 | none=>rfl
 | some x=>
  obtain⟨i,off,lE⟩:=x
  simp only[arl,fc]
  cases hb:Bt h i with
  | none=>rfl
  | some b=>
   cases b with
   | box t cells=>
    funext j
    simp only[anh,amm,dB]
    split<;>rfl
   | row=>rfl
   | imm=>rfl
   | deep=>rfl
theorem HK (st:St) (d:Option Nat) (e:u4):(st.apply d e).obj=fo e.ow (fc e.cw st.obj):=by
 show Bt (aiP e.ow (arl e.cw st.hp))=_
 rw[XN,ap5]
 rfl
theorem apply_get (st:St) (d:Nat) (e:u4):(st.apply (some d) e).get=dB st.get d e.sv:=by
 funext i
 show UQ ((d,e.sv)::st.sl) i=_
 simp only[UQ,dB,St.get]
 cases hk:Nat.beq d i
 ·have e2:=Nat.ne_of_beq_eq_false hk
  rw[if_neg (fun h=>e2 h.symm)]
  rfl
 ·simp [(Nat.eq_of_beq_eq_true hk).symm]
theorem PO (st:St) (e:u4):(st.apply none e).get=st.get:=rfl
def Good (P:Program) (w0:World) (S:Own) (st:St) (o:Oper) (e:u4) (a:Act) (w:World):Prop:=
 ∀Q,o.wp P a w (fun a' w'=>∃v,a'=a.put o.dst v∧Rel w0 S (st.apply o.dst e) a' w') Q
theorem M4 {w0:World} {S:Own} {st:St} {o:Oper} {e:u4} {a:Act} {w w':World} {v:Value} (hR:Rel w0 S st a w) (hd:∀d,o.dst=some d→eD st.n d)
  (hk:Kept S w0 w') (hc:∃β φ,Core w0 S st.get (fo e.ow (fc e.cw st.obj)) β φ a.tmps w'∧bX w' (Av (fo e.ow (fc e.cw st.obj)) β) β e.sv v):
  Rel w0 S (st.apply o.dst e) (a.put o.dst v) w':=by
 obtain⟨β,φ,hc,hv⟩:=hc
 cases dL:o.dst with
 | none=>
  refine⟨hR.size,hR.fx,hR.defers,hk,β,φ, ?_⟩
  rw[HK,PO]
  exact hc
 | some d=>
  refine⟨?_, ?_,hR.defers,hk,β,φ, ?_⟩
  ·simp only[Act.put,Array.size_setIfInBounds]
   exact hR.size
  ·intro x hx
   have h1:=hR.fx x hx
   have h2:=(hd d dL).2
   refine⟨h1.1, ?_⟩
   simp only[Act.put,Array.getD_eq_getD_getElem?,Array.getElem?_setIfInBounds]
   rw[if_neg (by omega),←Array.getD_eq_getD_getElem?]
   exact h1.2
  ·rw[HK,apply_get]
   exact hc.put d e.sv v (by rw[hR.size];exact (hd d dL).1) hv
theorem oe {P:Program} {w0:World} {S:Own} {st:St} {o:Oper} {e:u4} {a:Act} {w w':World} {v:Value} (hR:Rel w0 S st a w) (hd:∀d,o.dst=some d→eD st.n d)
  (fa:(execOp a.eval o).run P w= .ok (.value v) w') (hk:Kept S w0 w')
  (hc:∃β φ,Core w0 S st.get (fo e.ow (fc e.cw st.obj)) β φ a.tmps w'∧bX w' (Av (fo e.ow (fc e.cw st.obj)) β) β e.sv v):Good P w0 S st o e a w:=by
 intro Q
 unfold Oper.wp
 rw[fa]
 exact⟨v,rfl,M4 hR hd hk hc⟩
theorem Qu {P:Program} {w0:World} {S:Own} {st:St} {o:Oper} {e:u4} {a:Act} {w w':World} (hR:Rel w0 S st a w) (hd:∀d,o.dst=some d→eD st.n d)
  (fa:(execOp a.eval o).run P w= .ok .skip w') (hk:Kept S w0 w')
  (hc:∃β φ,Core w0 S st.get (fo e.ow (fc e.cw st.obj)) β φ a.tmps w'∧bX w' (Av (fo e.ow (fc e.cw st.obj)) β) β e.sv undef):Good P w0 S st o e a w:=by
 intro Q
 unfold Oper.wp
 rw[fa]
 exact⟨undef,rfl,M4 hR hd hk hc⟩
theorem cl {P:Program} {w0:World} {S:Own} {st:St} {o:Oper} {e:u4} {a:Act} {w:World} (hR:Rel w0 S st a w) (hd:∀d,o.dst=some d→eD st.n d)
  (XO:e.cw=none) (how:e.ow=[])
  (h:∀β φ,Core w0 S st.get st.obj β φ a.tmps w→∃v,(execOp a.eval o).run P w= .ok (.value v) w∧bX w (Av st.obj β) β e.sv v):Good P w0 S st o e a w:=by
 obtain⟨β,φ,hc⟩:=hR.core
 obtain⟨v,fa,hv⟩:=h β φ hc
 refine oe hR hd fa hR.kept ⟨β,φ, ?_, ?_⟩
 ·rw[XO,how];exact hc
 ·rw[XO,how];exact hv
theorem Hy {k:IntKind} {n:Int} :inR k n=true↔k.min≤n∧n≤k.max:=by simp [inR]
theorem Jg (k:IntKind) (n:Int):inR k (k.wrap n)=true:=Hy.2 (wrap_within k n)
theorem PQ (op:BinOp) (k:IntKind) (x y:Int):inR k (bits op k x y)=true:=Hy.2 (bits_within op k x y)
theorem abE (k:IntKind):k.min≤0:=by cases k<;>decide
theorem abF (k:IntKind):0≤k.max:=by cases k<;>decide
theorem amn (x y:Int):(0≤x→0≤x.tmod y∧x.tmod y≤x)∧(x≤0→x≤x.tmod y∧x.tmod y≤0):=by
 have hpos:∀z:Int,0≤z→0≤z.tmod y∧z.tmod y≤z:=by
  intro z hz
  refine⟨Int.tmod_nonneg y hz, ?_⟩
  have h:=Int.natAbs_tmod z y
  have h1:z.natAbs % y.natAbs≤z.natAbs:=Nat.mod_le _ _
  have h2:=Int.tmod_nonneg y hz
  omega
 refine⟨hpos x,fun hx=> ?_⟩
 have h:=hpos (-x) (by omega)
 rw[Int.neg_tmod] at h
 omega
theorem ap6 {k:IntKind} {x:Int} (y:Int) (h:inR k x=true):inR k (x.tmod y)=true:=by
 rw[Hy] at*
 have h0:=abE k
 have h1:=abF k
 have ht:=amn x y
 rcases Int.le_total 0 x with hx | hx
 ·have:=ht.1 hx;omega
 ·have:=ht.2 hx;omega
theorem amo (x:Int) (n:Nat):(0≤x→0≤x.fdiv (2 ^ n)∧x.fdiv (2 ^ n)≤x)∧(x≤0→x≤x.fdiv (2 ^ n)∧x.fdiv (2 ^ n)≤0):=by
 have hm:(1:Int)≤2 ^ n:=by
  have:0<2 ^ n:=Nat.two_pow_pos n
  have h2:((2 ^ n:Nat):Int)=(2:Int) ^ n:=by simp
  omega
 rw[Int.fdiv_eq_ediv_of_nonneg x (by omega)]
 generalize (2:Int) ^ n=m at hm
 refine⟨fun hx=>⟨Int.ediv_nonneg hx (by omega),Int.ediv_le_self m hx⟩,fun hx=>⟨?_, ?_⟩⟩
 ·rw[Int.le_ediv_iff_mul_le (by omega)]
  have:=Int.mul_le_mul_of_nonpos_left hx hm
  simpa using this
 ·have:=Int.ediv_le_ediv (by omega:(0:Int)<m) hx
  simpa using this
theorem ap7 {k:IntKind} {x:Int} (n:Nat) (h:inR k x=true):inR k (x.fdiv (2 ^ n))=true:=by
 rw[Hy] at*
 have h0:=abE k
 have h1:=abF k
 have ht:=amo x n
 rcases Int.le_total 0 x with hx | hx
 ·have:=ht.1 hx;omega
 ·have:=ht.2 hx;omega
theorem apv {P:Program} {w:World} {op:BinOp} {k:IntKind} {x y:Int} {t:TypeId} {s:SV} {c:Bool} (h:apU op k x y=some (s,c)) (hc:c=true) (hx:inR k x=true)
  {av:Nat→Prop} {β:Env} :∃v,(binOp op t (.int k x) (.int k y)).run P w= .ok v w∧bX w av β s v:=by
 unfold apU at h
 split at h<;>simp only[Option.some.injEq,Prod.mk.injEq,reduceCtorEq] at h
 all_goals obtain⟨rfl,hcc⟩:=h
 ·exact⟨_,by simp [binOp,Op.intArith];rfl,by simp [bX,Jg]⟩
 ·exact⟨_,by simp [binOp,Op.intArith];rfl,by simp [bX,Jg]⟩
 ·exact⟨_,by simp [binOp,Op.intArith];rfl,by simp [bX,Jg]⟩
 ·have hy:y≠0:=by rw[←hcc] at hc;simpa using hc
  exact⟨_,by simp [binOp,Op.intDiv,hy];rfl,by simp [bX,Jg]⟩
 ·have hy:y≠0:=by rw[←hcc] at hc;simpa using hc
  exact⟨_,by simp [binOp,Op.intDiv,hy];rfl,by simp [bX,ap6 y hx]⟩
 ·exact⟨.int k (bits .and k x y),by simp only[binOp,ne_eq,not_true_eq_false,if_false];rfl,by simp [bX,PQ]⟩
 ·exact⟨.int k (bits .or k x y),by simp only[binOp,ne_eq,not_true_eq_false,if_false];rfl,by simp [bX,PQ]⟩
 ·exact⟨.int k (bits .xor k x y),by simp only[binOp,ne_eq,not_true_eq_false,if_false];rfl,by simp [bX,PQ]⟩
 ·exact⟨.int k (bits .andNot k x y),by simp only[binOp,ne_eq,not_true_eq_false,if_false];rfl,by simp [bX,PQ]⟩
 all_goals exact⟨_,by simp [binOp,Op.intCmp];rfl,by simp [bX]⟩
end Go.Proofs.YthpmalpdnnbkgaaGreat.Vm
set_option linter.unusedVariables false
set_option linter.unusedSimpArgs false
namespace Go.Proofs.YthpmalpdnnbkgaaGreat.Vm
theorem Hz {w:World} {av:Nat→Prop} {β:Env} {c:CT} {d:DC} {v:Value} {fp:List Nat} (h:RdC w c d v fp) (ha:∀b∈fp,¬av b):bX w av β (aa5 c d) v:=by
 cases c with
 | int k=>
  simp only[RdC] at h
  obtain⟨n,rfl,rfl,hi,_⟩:=h
  simp [aa5,DC.asInt,bX,hi]
 | bool=>
  simp only[RdC] at h
  obtain⟨b,rfl,rfl,_⟩:=h
  simp [aa5,DC.asBool,bX]
 | str=>
  simp only[RdC] at h
  obtain⟨s,rfl,rfl,hl,_⟩:=h
  simp [aa5,DC.asStr,bX,hl]
 | sl e=>
  have h':=h
  simp only[RdC] at h
  obtain⟨rows,a,n,cp,rfl,_⟩:=h
  simp only[aa5,DC.asRows,bX]
  exact⟨fp,h',ha⟩
theorem RdC.one {w:World} {c:CT} {d:DC} {v:Value} {fp:List Nat} (h:RdC w c d v fp):v.oneCell'=true:=by
 cases c with
 | int k=>simp only[RdC] at h;obtain⟨n,_,rfl,_⟩:=h;rfl
 | bool=>simp only[RdC] at h;obtain⟨b,_,rfl,_⟩:=h;rfl
 | str=>simp only[RdC] at h;obtain⟨s,_,rfl,_⟩:=h;rfl
 | sl e=>simp only[RdC] at h;obtain⟨rows,a,n,cp,_,rfl,_⟩:=h;rfl
theorem RdL.get {w:World} :∀(cs:List CT) (r:List DC) (f:Nat→Option Value) (fp:List Nat) (i:Nat) (c:CT),RdL w cs r f fp→cs[i]? =some c→
  ∃v fp',f i=some v∧RdC w c (r.getD i default) v fp'∧∀b∈fp',b∈fp
 | [],_,_,_,_,_,_,hi=>by simp at hi
 | c::cs,_,_,_,i,x,h,hi=>by
  simp only[RdL] at h
  obtain⟨d,r',v,f1,f2,rfl,h0,h1,h2,rfl⟩:=h
  cases i with
  | zero=>
   simp at hi
   subst hi
   exact⟨v,f1,h0,by simpa using h1,fun b hb=>by simp [hb]⟩
  | succ i=>
   obtain⟨v',fp',e1,e2,e3⟩:=RdL.get cs r' _ f2 i x h2 (by simpa using hi)
   exact⟨v',fp',e1,by simpa using e2,fun b hb=>by simp [e3 b hb]⟩
theorem RdL.lE {w:World} {av:Nat→Prop} {β:Env} {cs:List CT} {r:List DC} {f:Nat→Option Value} {fp:List Nat} (h:RdL w cs r f fp) (ha:∀b∈fp,¬av b):
  ∀(n k:Nat),k+n≤cs.length→∃vs:List Value,vs.length=n∧(∀j v,vs[j]? =some v→f (k+j)=some v)∧bt w av β (kU ((cs.drop k).take n) r k) vs∧∀x∈vs,x.oneCell'=true
 | 0,k,_=>⟨[],rfl,by simp,by simp [kU,bt],by simp⟩
 | n+1,k,hk=>by
  have hlt:k<cs.length:=by omega
  obtain⟨v,fp',e1,e2,e3⟩:=RdL.get cs r f fp k cs[k] h (by simp)
  obtain⟨vs,l1,l2,l3,l4⟩:=RdL.lE (β:=β) h ha n (k+1) (by omega)
  refine⟨v::vs,by simp [l1], ?_, ?_, ?_⟩
  ·intro j u hj
   cases j with
   | zero=>simp at hj;subst hj;simpa using e1
   | succ j=>have:=l2 j u (by simpa using hj);rw[←this];congr 1;omega
  ·have:(cs.drop k).take (n+1)=cs[k]::(cs.drop (k+1)).take n:=by
    rw[List.drop_eq_getElem_cons hlt,List.take_succ_cons]
   rw[this]
   simp only[kU,bt]
   exact⟨v,vs,rfl,Hz e2 (fun b hb=>ha b (e3 b hb)),l3⟩
  ·intro x hx
   rcases List.mem_cons.1 hx with rfl | hx
   ·exact e2.one
   ·exact l4 x hx
theorem sQ (b o n:Nat):(⟨b,o,none⟩:Addr).add n=⟨b,o+n,none⟩:=by
 unfold Addr.add
 split
 ·rename_i h;subst h;rfl
 ·rfl
theorem Qv {P:Program} {w:World} {t:TypeId} {d:TypeDesc} (h:P.underlying t=some d):(isAgg t).run P w= .ok (isAggB P t) w:=by
 simp only[isAgg,Sem.run_bind,run_underlying h,Result.andThen_ok,isAggB,h]
 cases d<;>rfl
theorem abG {P:Program} {t:TypeId} (h:isAggB P t=true):∃d,P.underlying t=some d:=by
 unfold isAggB at h
 split at h<;>first | exact⟨_,by assumption⟩ | cases h
theorem Jh {P:Program} {w:World} {t:TypeId} {i:TypeInfo} {b o:Nat} {vs:List Value} (ha:isAggB P t=true) (hi:P.info? t=some i)
  (hl:vs.length=i.size) (hc:∀j v,vs[j]? =some v→w.cell? ⟨b,o+j,none⟩=some v):
  (Instr.loadAt t (.pointer (some ⟨b,o,none⟩))).run P w= .ok (.agg vs.toArray) w:=by
 obtain⟨d,hd⟩:=abG ha
 have:=run_loadCells_list (P:=P) (w:=w) ⟨b,o,none⟩ vs (fun j v hj=>by rw[sQ];exact hc j v hj)
 rw[hl] at this
 simp only[Instr.loadAt,Instr.sureAddr,loadVar,Sem.run_bind,Sem.run_pure,Result.andThen_ok,Qv hd,ha,if_true,sizeOf,typeInfo,run_program,hi,this]
theorem DE {P:Program} {w:World} {t:TypeId} {d:TypeDesc} {b o:Nat} {v:Value} (ha:isAggB P t=false) (hd:P.underlying t=some d)
  (hc:w.cell? ⟨b,o,none⟩=some v):(Instr.loadAt t (.pointer (some ⟨b,o,none⟩))).run P w= .ok v w:=by
 simp [Instr.loadAt,Instr.sureAddr,loadVar,Qv hd,ha,hc]
section
variable {P:Program} {Γ:Ctx} {w0:World} {S:Own} {st:St} {o:Oper} {e:u4} {a:Act} {w:World}
theorem aiW (hR:Rel w0 S st a w) (hd:∀d,o.dst=some d→eD st.n d) {x:Operand} (ho:o.op= .move x∨o.op= .assign x) {s:SV}
  (h1:(oq x).val st.get st.obj=some s) (he:e= {sv:=s}):Good P w0 S st o e a w:=by
 subst he
 refine cl hR hd rfl rfl fun β φ hc=>⟨a.eval x, ?_,hc.ev h1⟩
 rcases ho with ho | ho<;>simp [execOp,ho]
theorem aoc (hR:Rel w0 S st a w) (hd:∀d,o.dst=some d→eD st.n d) {c x y:Operand} (ho:o.op= .pick c x y) {sc sx sy:SV}
  (h0:(oq c).val st.get st.obj=some sc) (h1:(oq x).val st.get st.obj=some sx) (h2:(oq y).val st.get st.obj=some sy)
  (he:(match sc with | .kb t=>M.pure ({sv:=bif t then sx else sy} :u4) | .bool g=> .pure {sv:=Hx g sx sy} | _=> .fail).val st.get st.obj=some e):Good P w0 S st o e a w:=by
 split at he
 ·rename_i t
  simp only[M.ax,Option.some.injEq] at he
  subst he
  refine cl hR hd rfl rfl fun β φ hc=>⟨if t then a.eval x else a.eval y, ?_, ?_⟩
  ·have hv:=hc.ev h0
   simp only[bX] at hv
   simp [execOp,ho,hv,asBool]
  ·cases t
   ·exact hc.ev h2
   ·exact hc.ev h1
 ·rename_i t
  simp only[M.ax,Option.some.injEq] at he
  subst he
  refine cl hR hd rfl rfl fun β φ hc=>⟨if t then a.eval x else a.eval y, ?_, ?_⟩
  ·have hv:=hc.ev h0
   simp only[bX] at hv
   simp [execOp,ho,hv,asBool]
  ·refine bX.merge _ _ _ _ ?_
   cases t
   ·exact hc.ev h2
   ·exact hc.ev h1
 ·simp at he
theorem aiX (hR:Rel w0 S st a w) (hd:∀d,o.dst=some d→eD st.n d) {x:Operand} (ho:o.op= .nilCheck x) {s:SV} (h1:(oq x).val st.get st.obj=some s)
  (he:(match s with | .ptr .. =>M.pure ({sv:=s} :u4) | .Ou .. => .pure {sv:=s} | .EC .. => .pure {sv:=s} | _=> .fail).val st.get st.obj=some e):Good P w0 S st o e a w:=by
 split at he
 ·simp only[M.ax,Option.some.injEq] at he
  subst he
  refine cl hR hd rfl rfl fun β φ hc=>⟨a.eval x, ?_,hc.ev h1⟩
  have hv:=hc.ev h1
  simp only[bX] at hv
  simp [execOp,ho,hv]
 ·simp only[M.ax,Option.some.injEq] at he
  subst he
  refine cl hR hd rfl rfl fun β φ hc=>⟨a.eval x, ?_,hc.ev h1⟩
  have hv:=hc.ev h1
  simp only[bX] at hv
  obtain⟨b,o',fp,hv,_⟩:=hv
  simp [execOp,ho,hv]
 ·simp only[M.ax,Option.some.injEq] at he
  subst he
  refine cl hR hd rfl rfl fun β φ hc=>⟨a.eval x, ?_,hc.ev h1⟩
  have hv:=hc.ev h1
  simp only[bX] at hv
  obtain⟨g,_,hv⟩:=hv
  simp [execOp,ho,hv]
 ·simp at he
theorem afr (hR:Rel w0 S st a w) (hd:∀d,o.dst=some d→eD st.n d) {t:TypeId} {x:Operand} {f:Nat} (ho:o.op= .fieldAddr t x f) {fs:Array Field} {fd:Field} {i:TypeInfo}
  (hu:P.underlying t=some (.struct fs)) (hf:fs[f]? =some fd) (hz:eA P fd.type 0=false) (hi:P.info? fd.type=some i) {s:SV} (h1:(oq x).val st.get st.obj=some s)
  (he:(match s with
     | .ptr id off=>M.pure ({sv:= .ptr id (off+fd.offset)} :u4)
     | .Ou e r off=> .pure {sv:= .Ou e r (off+fd.offset)}
     | .EC id i z off=> .pure {sv:= .EC id i z (off+fd.offset)}
     | _=> .fail).val st.get st.obj=some e):Good P w0 S st o e a w:=by
 have hsz:i.size≠0:=by
  simp only[eA,hi] at hz
  exact Nat.ne_of_beq_eq_false hz
 have run:∀b off,a.eval x= .pointer (some ⟨b,off,none⟩)→(execOp a.eval o).run P w= .ok (.value (.pointer (some ⟨b,off+fd.offset,none⟩))) w:=by
  intro b off hv
  simp [execOp,ho,hv,Instr.fieldAt,run_underlying hu,hf,Instr.sureAddr,fieldPlace,sizeOf,typeInfo,hi,hsz,sQ]
 split at he
 ·simp only[M.ax,Option.some.injEq] at he
  subst he
  refine cl hR hd rfl rfl fun β φ hc=> ?_
  have hv:=hc.ev h1
  simp only[bX] at hv
  exact⟨_,run _ _ hv,by simp [bX]⟩
 ·simp only[M.ax,Option.some.injEq] at he
  subst he
  refine cl hR hd rfl rfl fun β φ hc=> ?_
  have hv:=hc.ev h1
  simp only[bX] at hv
  obtain⟨b,o',fp,hv,hlt,tU,hr⟩:=hv
  exact⟨_,run _ _ hv,by simp only[bX];exact⟨b,o',fp,by rw[Nat.add_assoc],hlt,tU,hr⟩⟩
 ·simp only[M.ax,Option.some.injEq] at he
  subst he
  refine cl hR hd rfl rfl fun β φ hc=> ?_
  have hv:=hc.ev h1
  simp only[bX] at hv
  obtain⟨g,hg,hv⟩:=hv
  exact⟨_,run _ _ hv,by simp only[bX];exact⟨g,hg,by rw[Nat.add_assoc]⟩⟩
 ·simp at he
theorem alf (hR:Rel w0 S st a w) (hd:∀d,o.dst=some d→eD st.n d) {x:Operand} {i:Nat} (ho:o.op= .extract x i) {vs:List SV} {v:SV}
  (h1:(oq x).val st.get st.obj=some (.tup vs)) (hv:vs[i]? =some v) (he:e= {sv:=v}):Good P w0 S st o e a w:=by
 subst he
 refine cl hR hd rfl rfl fun β φ hc=> ?_
 have hx:=hc.ev h1
 simp only[bX] at hx
 obtain⟨l,hl,hr⟩:=hx
 obtain⟨u,hu,hs⟩:=bt.get _ _ _ _ hr hv
 exact⟨u,by simp [execOp,ho,hl,Instr.extract,hu],hs⟩
theorem M5 (s:List UInt8):(⟨s.toArray⟩:ByteArray).toList=s:=by rw[Lib.toList_data]
theorem Mu (s:List UInt8):(⟨s.toArray⟩:ByteArray).size=s.length:=by simp [ByteArray.size]
theorem aod (s t:List UInt8):(⟨s.toArray⟩:ByteArray)++(⟨t.toArray⟩:ByteArray)=⟨(s++t).toArray⟩:=by
 apply ByteArray.ext
 simp
theorem XP {t:TypeId} {ty:TypeDesc} {vs:List Value} {off:Nat} {v:Value} (ha:isAggB P t=false) (hd:P.underlying t=some ty) (hv:vs[off]? =some v):(part t vs.toArray off).run P w= .ok v w:=by
 simp only[part,Sem.run_bind,Qv hd,Result.andThen_ok,ha]
 simp [hv]
theorem XQ {t:TypeId} {i:TypeInfo} {vs:List Value} {off:Nat} (ha:isAggB P t=true) (hi:P.info? t=some i):(part t vs.toArray off).run P w= .ok (.agg ((vs.drop off).take i.size).toArray) w:=by
 obtain⟨d,hd⟩:=abG ha
 simp only[part,Sem.run_bind,Qv hd,Result.andThen_ok,ha,if_true,sizeOf,typeInfo,run_program,hi,Sem.run_pure]
 simp [List.extract_eq_take_drop]
theorem apw {av:Nat→Prop} {β:Env} {x y:SV} {v u:Value} (hx:bX w av β x v) (hy:bX w av β y u) {t:TypeId} {ty:TypeDesc} (hd:P.underlying t=some ty) (d:Nat) {b:Bool}
  (h:aiO ty x y=some b):(Op.equalIn (d+1) t v u).run P w= .ok b w:=by
 unfold aiO at h
 split at h
 ·rename_i k0 k a k' c
  by_cases hk:k=k'
  ·subst hk
   simp only[decide_true,cond_true,Option.some.injEq] at h
   simp only[bX] at hx hy
   rw[hx.1,hy.1,run_equalIn_int w d t _ _ _ _ hd,h]
  ·simp [hk] at h
 ·simp only[Option.some.injEq] at h
  simp only[bX] at hx hy
  rw[hx.1,hy.1,run_equalIn_string w d t _ _ hd,M5,M5,h]
 ·simp only[Option.some.injEq] at h
  simp only[bX] at hx hy
  rw[hx,hy,run_equalIn_bool w d t _ _ hd,h]
 ·simp only[Option.some.injEq] at h
  simp only[bX] at hx hy
  rw[hx,hy,run_equalIn_bool w d t _ _ hd,h]
 ·simp only[Option.some.injEq] at h
  simp only[bX] at hx hy
  rw[hx,hy,run_equalIn_bool w d t _ _ hd,h]
 ·cases h
theorem bt.XR {av:Nat→Prop} {β:Env} :∀(ss:List SV) (vs:List Value) (k n:Nat),bt w av β ss vs→bt w av β ((ss.drop k).take n) ((vs.drop k).take n)
 | [],vs,k,n,h=>by
  simp only[bt] at h
  subst h
  simp [bt]
 | s::ss,vs,k,n,h=>by
  simp only[bt] at h
  obtain⟨v,l,rfl,h1,h2⟩:=h
  cases k with
  | succ k=>simpa using bt.XR ss l k n h2
  | zero=>
   cases n with
   | zero=>simp [bt]
   | succ n=>
    simp only[List.drop_zero,List.take_succ_cons,bt]
    exact⟨v,_,rfl,h1,by simpa using bt.XR ss l 0 n h2⟩
def asV (P:Program) (w:World) (av:Nat→Prop) (β:Env) (d:Nat) (eqv:TypeId→List SV→List SV→Option Bool):Prop:=
 ∀(t:TypeId) (xs ys:List SV) (vs us:List Value) (b:Bool),bt w av β xs vs→bt w av β ys us→eqv t xs ys=some b→
  (isAggB P t=true→(Op.equalIn d t (.agg vs.toArray) (.agg us.toArray)).run P w= .ok b w)∧
  (isAggB P t=false→(∃ty,P.underlying t=some ty)∧∀v u,vs=[v]→us=[u]→(Op.equalIn d t v u).run P w= .ok b w)
theorem XS {av:Nat→Prop} {β:Env} {d:Nat} {eqv:TypeId→List SV→List SV→Option Bool} (hq:asV P w av β d eqv) {xs ys:List SV} {vs us:List Value} (hx:bt w av β xs vs) (hy:bt w av β ys us):
  ∀(fs:List Field) (b:Bool),Mq P eqv xs ys fs=some b→(Op.eqFields d vs.toArray us.toArray fs).run P w= .ok b w
 | [],b,h=>by
  simp only[Mq,Option.some.injEq] at h
  subst h
  rfl
 | f::fs,b,h=>by
  unfold Mq at h
  cases hn:f.name== "_"
  ·simp only[hn,cond_false] at h
   have asW:f.name≠ "_" :=by simpa using hn
   split at h
   ·rename_i a c h1 h2
    split at h
    ·rename_i e r he hr
     simp only[Option.some.injEq] at h
     have ih:=XS hq hx hy fs r hr
     unfold Op.eqFields
     rw[if_pos asW]
     have key:∃v u:Value,(part f.type vs.toArray f.offset).run P w= .ok v w∧(part f.type us.toArray f.offset).run P w= .ok u w∧(Op.equalIn d f.type v u).run P w= .ok e w:=by
      unfold amj at h1 h2
      cases ha:isAggB P f.type
      ·simp only[ha,cond_false] at h1 h2
       split at h1
       ·rename_i s1 g1
        split at h2
        ·rename_i s2 g2
         simp only[Option.some.injEq] at h1 h2
         subst h1
         subst h2
         obtain⟨v1,e1,q1⟩:=bt.get _ _ _ _ hx g1
         obtain⟨v2,e2,q2⟩:=bt.get _ _ _ _ hy g2
         obtain⟨⟨ty,hu⟩,fa⟩:=(hq f.type [s1] [s2] [v1] [v2] e (by simp [bt,q1]) (by simp [bt,q2]) he).2 ha
         exact⟨v1,v2,XP ha hu e1,XP ha hu e2,fa _ _ rfl rfl⟩
        ·cases h2
       ·cases h1
      ·simp only[ha,cond_true] at h1 h2
       split at h1
       ·rename_i i hi
        rw[hi] at h2
        simp only[] at h2
        cases hb1:Nat.ble (f.offset+i.size) xs.length
        ·simp [hb1] at h1
        cases RG:Nat.ble (f.offset+i.size) ys.length
        ·simp [RG] at h2
        simp only[hb1,RG,cond_true,Option.some.injEq] at h1 h2
        subst h1
        subst h2
        exact⟨_,_,XQ ha hi,XQ ha hi,(hq _ _ _ _ _ e (bt.XR _ _ _ _ hx) (bt.XR _ _ _ _ hy) he).1 ha⟩
       ·cases h1
     obtain⟨v,u,p1,p2,p3⟩:=key
     simp only[Sem.run_bind,p1,p2,p3,Result.andThen_ok]
     subst h
     cases e
     ·simp
     ·simpa using ih
    ·cases h
   ·cases h
  ·simp [hn] at h
theorem ani {av:Nat→Prop} {β:Env} (d:Nat):∀n:Nat,asV P w av β (d+n) (alx P n)
 | 0=>by
  intro t xs ys vs us b hx hy h
  simp [alx] at h
 | n+1=>by
  intro t xs ys vs us b hx hy h
  have ih:=ani (av:=av) (β:=β) d n
  unfold alx at h
  split at h
  ·rename_i fs hu
   cases hp:P.stoodInHeld t
   ·simp only[hp,cond_false] at h
    have hag:isAggB P t=true:=by simp [isAggB,hu]
    have hfs:P.fieldsOf t=fs:=by simp [Program.fieldsOf,hu]
    refine⟨fun _=> ?_,fun hf=>by rw[hag] at hf;cases hf⟩
    rw[←Nat.add_assoc,run_equalIn_agg w (d+n) t _ _ (by rw[hfs];exact hu) hp,hfs]
    exact XS ih hx hy _ _ h
   ·simp [hp] at h
  ·rename_i ty hns hu
   split at h
   ·rename_i x y
    have hx':=hx
    have hy':=hy
    simp only[bt] at hx' hy'
    obtain⟨v,l1,rfl,q1,rfl⟩:=hx'
    obtain⟨u,l2,rfl,q2,rfl⟩:=hy'
    refine⟨fun hag=> ?_,fun _=>⟨⟨_,hu⟩, ?_⟩⟩
    ·unfold isAggB at hag
     rw[hu] at hag
     split at hag
     ·rename_i g _ hu' g2
      simp only[Option.some.injEq] at g2
      subst g2
      simp [aiO] at h
     ·rename_i g2
      simp only[Option.some.injEq] at g2
      subst g2
      simp [aiO] at h
     ·cases hag
    ·intro v' u' e1 e2
     simp only[List.cons.injEq,and_true] at e1 e2
     subst e1
     subst e2
     rw[←Nat.add_assoc]
     exact apw q1 q2 hu (d+n) h
   ·cases h
  ·cases h
theorem apx (hR:Rel w0 S st a w) (hd:∀d,o.dst=some d→eD st.n d) {op:BinOp} {t t':TypeId} {x y:Operand} (ho:o.op= .binOp op t x y t') {sx sy:SV}
  (h1:(oq x).val st.get st.obj=some sx) (h2:(oq y).val st.get st.obj=some sy) (he:(asi P t op sx sy).val st.get st.obj=some e) (hok:e.ok=true):Good P w0 S st o e a w:=by
 have ap8:∀b c:Bool,(∀β φ,Core w0 S st.get st.obj β φ a.tmps w→a.eval x= .bool b∧a.eval y= .bool c)→
   ((ane P t op b c).val st.get st.obj=some e)→Good P w0 S st o e a w:=by
  intro b c hbc he
  unfold ane at he
  cases ht:ami P t
  ·simp [ht] at he
  have hu:P.underlying t=some .bool:=by
   unfold ami at ht
   split at ht
   ·assumption
   ·cases ht
  simp only[ht,cond_true] at he
  split at he
  ·simp only[M.ax,Option.some.injEq] at he
   subst he
   refine cl hR hd rfl rfl fun β φ hc=>⟨_, ?_,by simp [bX];rfl⟩
   have:=hbc β φ hc
   simp [execOp,ho,this.1,this.2,eqGuard,binOp,run_equal_bool w t b c hu]
  ·simp only[M.ax,Option.some.injEq] at he
   subst he
   refine cl hR hd rfl rfl fun β φ hc=>⟨_, ?_,by simp [bX];rfl⟩
   have:=hbc β φ hc
   simp [execOp,ho,this.1,this.2,eqGuard,binOp,run_equal_bool w t b c hu]
  ·simp at he
 unfold asi at he
 split at he
 ·rename_i k n k' m
  split at he
  ·simp only[M.ax,Option.some.injEq] at he
   subst he
   have hm:0≤m:=by simpa using hok
   refine cl hR hd rfl rfl fun β φ hc=> ?_
   have hx:=hc.ev h1
   have hy:=hc.ev h2
   simp only[bX] at hx hy
   refine⟨_, ?_,by simp only[bX];exact⟨rfl,Jg _ _⟩⟩
   simp [execOp,ho,hx.1,hy.1,eqGuard,binOp,Op.shift,Int.not_lt.2 hm]
  ·simp only[M.ax,Option.some.injEq] at he
   subst he
   have hm:0≤m:=by simpa using hok
   refine cl hR hd rfl rfl fun β φ hc=> ?_
   have hx:=hc.ev h1
   have hy:=hc.ev h2
   simp only[bX] at hx hy
   refine⟨_, ?_,by simp only[bX];exact⟨rfl,ap7 _ hx.2⟩⟩
   simp [execOp,ho,hx.1,hy.1,eqGuard,binOp,Op.shift,Int.not_lt.2 hm]
  ·by_cases hk:k=k'
   ·subst hk
    simp only[decide_true,cond_true] at he
    split at he
    ·rename_i s c hi
     simp only[M.ax,Option.some.injEq] at he
     subst he
     refine cl hR hd rfl rfl fun β φ hc=> ?_
     have hx:=hc.ev h1
     have hy:=hc.ev h2
     simp only[bX] at hx hy
     obtain⟨v,fa,hs⟩:=apv (P:=P) (w:=w) (t:=t) (av:=Av st.obj β) (β:=β) hi hok hx.2
     refine⟨v, ?_,hs⟩
     simp [execOp,ho,hx.1,hy.1,eqGuard,fa]
    ·simp at he
   ·simp [hk] at he
 ·rename_i s1 s2
  split at he
  ·simp only[M.ax,Option.some.injEq] at he
   subst he
   have hm:s1.length+s2.length≤9223372036854775807:=by simpa using hok
   refine cl hR hd rfl rfl fun β φ hc=> ?_
   have hx:=hc.ev h1
   have hy:=hc.ev h2
   simp only[bX] at hx hy
   refine⟨.string ⟨(s1++s2).toArray⟩, ?_,by unfold bX;exact⟨rfl,by simp only[List.length_append,maxLen];omega⟩⟩
   have hn:¬(((s1.length+s2.length:Nat):Int)>IntKind.i64.max):=by
    have:IntKind.i64.max=9223372036854775807:=by decide
    omega
   simp only[execOp,ho,hx.1,hy.1,eqGuard,binOp,Op.stringOp,Mu,aod]
   rw[if_neg hn]
   rfl
  ·simp only[M.ax,Option.some.injEq] at he
   subst he
   refine cl hR hd rfl rfl fun β φ hc=> ?_
   have hx:=hc.ev h1
   have hy:=hc.ev h2
   simp only[bX] at hx hy
   refine⟨.bool (s1==s2), ?_,by simp [bX]⟩
   simp [execOp,ho,hx.1,hy.1,eqGuard,binOp,Op.stringOp,M5]
  ·simp only[M.ax,Option.some.injEq] at he
   subst he
   refine cl hR hd rfl rfl fun β φ hc=> ?_
   have hx:=hc.ev h1
   have hy:=hc.ev h2
   simp only[bX] at hx hy
   refine⟨.bool (!(s1==s2)), ?_,by simp [bX]⟩
   simp [execOp,ho,hx.1,hy.1,eqGuard,binOp,Op.stringOp,M5]
  ·simp at he
 ·refine ap8 _ _ (fun β φ hc=> ?_) he
  have hx:=hc.ev h1
  have hy:=hc.ev h2
  simp only[bX] at hx hy
  exact⟨hx,hy⟩
 ·refine ap8 _ _ (fun β φ hc=> ?_) he
  have hx:=hc.ev h1
  have hy:=hc.ev h2
  simp only[bX] at hx hy
  exact⟨hx,hy⟩
 ·refine ap8 _ _ (fun β φ hc=> ?_) he
  have hx:=hc.ev h1
  have hy:=hc.ev h2
  simp only[bX] at hx hy
  exact⟨hx,hy⟩
 ·rename_i xs ys
  unfold asU at he
  split at he
  ·rename_i fs hu
   cases hg:P.eqGuardType P.depth t
   ·simp only[hg,cond_false] at he
    have hag:isAggB P t=true:=by simp [isAggB,hu]
    have key:∀b,alx P 8 t xs ys=some b→∀β φ,Core w0 S st.get st.obj β φ a.tmps w→∃vs us:List Value,a.eval x= .agg vs.toArray∧a.eval y= .agg us.toArray∧(Op.equalIn 10000 t (.agg vs.toArray) (.agg us.toArray)).run P w= .ok b w:=by
     intro b hb β φ hc
     have hx:=hc.ev h1
     have hy:=hc.ev h2
     simp only[bX] at hx hy
     obtain⟨vs,e1,s1,_⟩:=hx
     obtain⟨us,e2,s2,_⟩:=hy
     exact⟨vs,us,e1,e2,(ani 9992 8 t xs ys vs us b s1 s2 hb).1 hag⟩
    split at he
    ·rename_i b hb
     simp only[M.ax,Option.some.injEq] at he
     subst he
     refine cl hR hd rfl rfl fun β φ hc=>⟨.bool b, ?_,by simp [bX]⟩
     obtain⟨vs,us,e1,e2,hr⟩:=key b hb β φ hc
     simp only[execOp,ho,e1,e2,Sem.run_bind,run_eqGuard_agg w _ t x y _ _ hg,Result.andThen_ok,run_eql_struct,hr]
     rfl
    ·rename_i b hb
     simp only[M.ax,Option.some.injEq] at he
     subst he
     refine cl hR hd rfl rfl fun β φ hc=>⟨.bool (!b), ?_,by simp [bX]⟩
     obtain⟨vs,us,e1,e2,hr⟩:=key b hb β φ hc
     simp only[execOp,ho,e1,e2,Sem.run_bind,run_eqGuard_agg w _ t x y _ _ hg,Result.andThen_ok,run_neq_struct,hr]
     rfl
    ·simp at he
   ·simp [hg] at he
  ·simp at he
 ·simp at he
theorem ap9 (hR:Rel w0 S st a w) (hd:∀d,o.dst=some d→eD st.n d) {op:UnOp} {t:TypeId} {x:Operand} (ho:o.op= .unOp op t x) {sx:SV}
  (h1:(oq x).val st.get st.obj=some sx) (he:(unM op sx).val st.get st.obj=some e):Good P w0 S st o e a w:=by
 unfold unM at he
 split at he<;>simp only[M.ax,M.aiV,Option.some.injEq,reduceCtorEq] at he
 all_goals
  subst he
  refine cl hR hd rfl rfl fun β φ hc=> ?_
  have hx:=hc.ev h1
  simp only[bX] at hx
 ·exact⟨_,by simp [execOp,ho,hx,Op.unary];rfl,by simp [bX]⟩
 ·exact⟨_,by simp [execOp,ho,hx,Op.unary];rfl,by simp [bX]⟩
 ·exact⟨_,by simp [execOp,ho,hx.1,Op.unary,Op.intArith];rfl,by simp only[Int.zero_sub];unfold bX;exact⟨rfl,Jg _ _⟩⟩
 ·refine⟨_,by simp only[execOp,ho,hx.1,Op.unary,intBits_xor];rfl,by unfold bX;exact⟨rfl,PQ _ _ _ _⟩⟩
end
end Go.Proofs.YthpmalpdnnbkgaaGreat.Vm
namespace Go.Proofs.YthpmalpdnnbkgaaGreat.Vm
theorem XT {w:World} {b o:Nat} {vs:List Value} {t:TypeId} {fz:Nat×Nat} (h:w.heap[b]? =some (.cells vs.toArray t fz)):w.cell? ⟨b,o,none⟩=vs[o]? :=by
 simp [World.cell?,h]
theorem ap_ {w:World} {b o:Nat} {cur:Array Value} {t:TypeId} {fz:Nat×Nat} (h:w.heap[b]? =some (.cells cur t fz)):w.cell? ⟨b,o,none⟩=cur[o]? :=by
 simp [World.cell?,h]
theorem qC.cell {w:World} {t size:Nat} {fz:Bool} {v:Value} {n:Nat} {vals:List Value} (h:qC w t size fz v n vals) {g j:Nat} {u:Value} (hg:v.ownBlock=some g)
  (hj:vals[j]? =some u):w.cell? ⟨g,j,none⟩=some u:=by
 rcases h.2 with ⟨rfl,_⟩ | ⟨g',cap,cur,rfl,hh,_,_,_,asX⟩
 ·simp [Value.ownBlock] at hg
 ·simp [Value.ownBlock] at hg
  subst hg
  rw[ap_ hh]
  rw[←asX,List.getElem?_take] at hj
  split at hj
  ·simpa using hj
  ·cases hj
theorem qC.block {w:World} {t size:Nat} {fz:Bool} {v:Value} {n:Nat} {vals:List Value} (h:qC w t size fz v n vals) (hn:0<n):∃g,v.ownBlock=some g:=by
 rcases h.2 with ⟨rfl,h0,_⟩ | ⟨g',cap,cur,rfl,_⟩
 ·omega
 ·exact⟨g',rfl⟩
theorem vI {w:World} {e:List CT} {r:List (List DC)} {v:Value} {fp:List Nat} (h:RdC w (.sl e) (.sl r) v fp):
  ∃a n c,v= .slice a n c∧r.length=n∧n≤c∧c≤maxLen∧
   ((n=0∧fp=[])∨(0<n∧∃(b o:Nat) (fps:List (List Nat)),a=some ⟨b,o,none⟩∧b<w.heap.size∧fps.length=n∧fp=b::fps.flatten∧
    ∀i r' f,r[i]? =some r'→fps[i]? =some f→RdL w e r' (fun j=>w.cell? ⟨b,o+(i*e.length+j),none⟩) f)):=by
 simp only[RdC] at h
 obtain⟨rows,a,n,c,hd,hv,hn,hc,hm,h⟩:=h
 injection hd with hd
 subst hd
 exact⟨a,n,c,hv,hn,hc,hm,h⟩
theorem PR {w:World} {e:List CT} {r:List (List DC)} {fp:List Nat} {a:Option Addr} {n c:Nat} (hn:r.length=n) (hc:n≤c) (hm:c≤maxLen)
  (h:(n=0∧fp=[])∨(0<n∧∃(b o:Nat) (fps:List (List Nat)),a=some ⟨b,o,none⟩∧b<w.heap.size∧fps.length=n∧fp=b::fps.flatten∧
    ∀i r' f,r[i]? =some r'→fps[i]? =some f→RdL w e r' (fun j=>w.cell? ⟨b,o+(i*e.length+j),none⟩) f)):RdC w (.sl e) (.sl r) (.slice a n c) fp:=by
 unfold RdC
 exact⟨r,a,n,c,rfl,rfl,hn,hc,hm,h⟩
theorem fi {w:World} {av:Nat→Prop} {β:Env} {id t:Nat} {e:List CT} {rows:List (List DC)} {fz u:Bool} {φ:List Nat} (h:Mt w av β id (.row t e rows fz u) φ):
  ∃fp,RdC w (.sl e) (.sl rows) (β.val id) fp∧(∀b∈fp,b∈(β.val id).ownBlock.toList∨¬av b)∧(u=true→(∀b∈fp,b∈φ)∧(φ.Nodup→fp.Nodup)):=by
 obtain⟨vals,fps,h1,h2,h3,hφ⟩:=h
 rcases Nat.eq_zero_or_pos rows.length with h0 | h0
 ·refine⟨[], ?_,by simp,by simp⟩
  rcases h1.2 with ⟨hv,_⟩ | ⟨g,cap,cur,hv,_,hc,hm,_⟩
  ·rw[hv]
   exact PR h0 (Nat.le_refl _) (Nat.zero_le _) (.inl ⟨rfl,rfl⟩)
  ·rw[hv]
   exact PR rfl hc hm (.inl ⟨h0,rfl⟩)
 ·obtain⟨g,hg⟩:=h1.block h0
  have hlt:=h1.lt g (by simp [hg])
  have hv:∃cap,β.val id= .slice (some ⟨g,0,none⟩) rows.length cap∧rows.length≤cap∧cap≤maxLen:=by
   rcases h1.2 with ⟨hv,h0',_⟩ | ⟨g',cap,cur,hv,_,hc,hm,_⟩
   ·omega
   ·have:g'=g:=by simpa [hv,Value.ownBlock] using hg
    subst this
    exact⟨cap,hv,hc,hm⟩
  obtain⟨cap,hv,hc,hm⟩:=hv
  refine⟨g::fps.flatten, ?_, ?_, ?_⟩
  ·rw[hv]
   refine PR rfl hc hm (.inr ⟨h0,g,0,fps,rfl,hlt,h2.1,rfl,fun i r f hi hf=> ?_⟩)
   have hr:=h2.2 i r f hi hf
   refine RdL.XU ?_ hr
   intro j u hj
   have:=h1.cell hg hj
   simpa using this
  ·intro b hb
   rcases List.mem_cons.1 hb with rfl | hb
   ·exact .inl (by simp [hg])
   ·exact .inr (h3 b hb)
  ·intro hu
   subst hu
   have:φ=g::fps.flatten:=by rw[hφ,hg];rfl
   rw[this]
   exact⟨fun b hb=>hb,fun hn=>hn⟩
where
 RdL.XU {w:World} {cs:List CT} {r:List DC} {f f':Nat→Option Value} {fp:List Nat} (hf:∀j u,f j=some u→f' j=some u) (h:RdL w cs r f fp):RdL w cs r f' fp:=by
  induction cs generalizing r f f' fp with
  | nil=>simpa only[RdL] using h
  | cons c cs ih=>
   simp only[RdL] at h ⊢
   obtain⟨d,r',v,f1,f2,hr,h0,h1,h2,hfp⟩:=h
   exact⟨d,r',v,f1,f2,hr,hf 0 v h0,h1,ih (fun j u hj=>hf (j+1) u hj) h2,hfp⟩
 RdL.UU {w:World} {cs:List CT} {r:List DC} {f f':Nat→Option Value} {fp:List Nat} (hf:∀j u,j<cs.length→f j=some u→f' j=some u) (h:RdL w cs r f fp):RdL w cs r f' fp:=by
  induction cs generalizing r f f' fp with
  | nil=>simpa only[RdL] using h
  | cons c cs ih=>
   simp only[RdL] at h ⊢
   obtain⟨d,r',v,f1,f2,hr,h0,h1,h2,hfp⟩:=h
   exact⟨d,r',v,f1,f2,hr,hf 0 v (by simp) h0,h1,ih (fun j u hj hju=>hf (j+1) u (by simp;omega) hju) h2,hfp⟩
theorem alz {w:World} {t:TypeId} {e:List CT} {rows:List (List DC)} {fz:Bool} {v:Value} {vals:List Value} {fps:List (List Nat)} (h1:qC w t e.length fz v rows.length vals) (h2:Bu w e rows vals fps):
  ∃fp,RdC w (.sl e) (.sl rows) v fp∧fp.Sublist (v.ownBlock.toList++fps.flatten):=by
 rcases Nat.eq_zero_or_pos rows.length with h0 | h0
 ·refine⟨[], ?_,List.nil_sublist _⟩
  rcases h1.2 with ⟨hv,_⟩ | ⟨g,cap,cur,hv,_,hc,hm,_⟩
  ·rw[hv]
   exact PR h0 (Nat.le_refl _) (Nat.zero_le _) (.inl ⟨rfl,rfl⟩)
  ·rw[hv]
   exact PR rfl hc hm (.inl ⟨h0,rfl⟩)
 ·obtain⟨g,hg⟩:=h1.block h0
  have hlt:=h1.lt g (by simp [hg])
  have hv:∃cap,v= .slice (some ⟨g,0,none⟩) rows.length cap∧rows.length≤cap∧cap≤maxLen:=by
   rcases h1.2 with ⟨hv,h0',_⟩ | ⟨g',cap,cur,hv,_,hc,hm,_⟩
   ·omega
   ·have:g'=g:=by simpa [hv,Value.ownBlock] using hg
    subst this
    exact⟨cap,hv,hc,hm⟩
  obtain⟨cap,hv,hc,hm⟩:=hv
  refine⟨g::fps.flatten, ?_, ?_⟩
  ·rw[hv]
   refine PR rfl hc hm (.inr ⟨h0,g,0,fps,rfl,hlt,h2.1,rfl,fun i r f hi hf=> ?_⟩)
   refine fi.RdL.XU ?_ (h2.2 i r f hi hf)
   intro j u hj
   have:=h1.cell hg hj
   simpa using this
  ·rw[hg]
   exact List.Sublist.refl _
theorem anj (n:Nat) (Q:Nat→List Nat→Prop) (h:∀i,i<n→∃f,Q i f):∃l:List (List Nat),l.length=n∧∀i f,l[i]? =some f→Q i f:=by
 induction n with
 | zero=>exact⟨[],rfl,by simp⟩
 | succ n ih=>
  obtain⟨l,hl,hq⟩:=ih (fun i hi=>h i (by omega))
  obtain⟨f,hf⟩:=h n (by omega)
  refine⟨l++[f],by simp [hl],fun i g hg=> ?_⟩
  rw[List.getElem?_append] at hg
  split at hg
  ·exact hq i g hg
  ·rename_i hi
   have:i - l.length=0:=by
    cases hk:i - l.length with
    | zero=>rfl
    | succ k=>rw[hk] at hg;simp at hg
   rw[this] at hg
   simp only[List.getElem?_cons_zero,Option.some.injEq] at hg
   subst hg
   have:i=n:=by omega
   subst this
   exact hf
theorem abH:∀(l m:List (List Nat)),l.length=m.length→(∀(i:Nat) (f g:List Nat),l[i]? =some f→m[i]? =some g→f.Sublist g)→l.flatten.Sublist m.flatten
 | [],[],_,_=>List.Sublist.refl _
 | [],_::_,h,_=>by simp at h
 | _::_,[],h,_=>by simp at h
 | a::l,b::m,h,hs=>by
  simp only[List.flatten_cons]
  exact (hs 0 a b rfl rfl).append (abH l m (by simpa using h) (fun i f g hf hg=>hs (i+1) f g (by simpa using hf) (by simpa using hg)))
theorem aN.reads {w:World} :∀(cs:List CT) (ts:List TypeId) (ds:List DC) (us:List Value) (mb:List Nat),aN w none cs ts ds us mb→∃fp,RdL w cs ds (fun j=>us[j]?) fp∧fp.Sublist mb
 | [],_,_,_,_,h=>by
  simp only[aN] at h
  obtain⟨_,rfl,rfl,rfl⟩:=h
  exact⟨[],by simp [RdL],List.Sublist.refl _⟩
 | .sl e::cs,_,_,_,_,h=>by
  simp only[aN] at h
  obtain⟨t,DP,rows,ds',v,eo,m1,Om,rfl,rfl,rfl,hf,⟨vals,fps,g1,g2,rfl⟩,h6,rfl⟩:=h
  obtain⟨fp,r1,s1⟩:=alz g1 g2
  rw[g2.ao1 hf,List.append_nil] at s1
  obtain⟨PT,r2,s2⟩:=aN.reads cs _ _ _ _ h6
  refine⟨fp++PT, ?_,s1.append s2⟩
  simp only[RdL]
  exact⟨_,ds',v,fp,PT,rfl,rfl,r1,by simpa using r2,rfl⟩
 | .int k::cs,_,_,_,_,h=>by
  simp only[aN] at h
  obtain⟨d,ds',v,eo,rfl,rfl,h3,h4⟩:=h
  obtain⟨PT,r2,s2⟩:=aN.reads cs _ _ _ _ h4
  refine⟨PT, ?_,s2⟩
  simp only[RdL]
  exact⟨d,ds',v,[],PT,rfl,rfl,h3,by simpa using r2,rfl⟩
 | .bool::cs,_,_,_,_,h=>by
  simp only[aN] at h
  obtain⟨d,ds',v,eo,rfl,rfl,h3,h4⟩:=h
  obtain⟨PT,r2,s2⟩:=aN.reads cs _ _ _ _ h4
  refine⟨PT, ?_,s2⟩
  simp only[RdL]
  exact⟨d,ds',v,[],PT,rfl,rfl,h3,by simpa using r2,rfl⟩
 | .str::cs,_,_,_,_,h=>by
  simp only[aN] at h
  obtain⟨d,ds',v,eo,rfl,rfl,h3,h4⟩:=h
  obtain⟨PT,r2,s2⟩:=aN.reads cs _ _ _ _ h4
  refine⟨PT, ?_,s2⟩
  simp only[RdL]
  exact⟨d,ds',v,[],PT,rfl,rfl,h3,by simpa using r2,rfl⟩
theorem Lq {α:Type} {l:List α} {k n j:Nat} {u:α} (h:((l.drop k).take n)[j]? =some u):l[k+j]? =some u:=by
 rw[List.getElem?_take] at h
 split at h
 ·rwa [List.getElem?_drop] at h
 ·cases h
theorem kV.reads {w:World} {e:List CT} {ts:List TypeId} {rows:List (List DC)} {vals:List Value} {d_:List (List Nat)} (h:kV w e ts rows vals (fun _=>none) d_):
  ∃fps,Bu w e rows vals fps∧fps.flatten.Sublist d_.flatten:=by
 obtain⟨fps,hl,hf⟩:=anj rows.length (fun i f=>∀r m,rows[i]? =some r→d_[i]? =some m→RdL w e r (fun j=>vals[i*e.length+j]?) f∧f.Sublist m) (fun i hi=>by
  have hm:i<d_.length:=by rw[h.1];exact hi
  obtain⟨f,h1,h2⟩:=aN.reads _ _ _ _ _ (h.2 i rows[i] d_[i] (by simp) (by simp))
  refine⟨f,fun r m hr hm'=> ?_⟩
  rw[List.getElem?_eq_getElem hi,Option.some.injEq] at hr
  rw[List.getElem?_eq_getElem hm,Option.some.injEq] at hm'
  subst hr hm'
  exact⟨fi.RdL.XU (fun j u hj=>Lq hj) h1,h2⟩)
 refine⟨fps,⟨hl,fun i r f hr hf'=> ?_⟩,abH fps d_ (by rw[hl,h.1]) (fun i f m hf' hm=> ?_)⟩
 ·have hi:i<rows.length:=(List.getElem?_eq_some_iff.1 hr).1
  have hm:i<d_.length:=by rw[h.1];exact hi
  exact (hf i f hf' r d_[i] hr (by simp)).1
 ·have hi:i<rows.length:=by rw[←hl];exact (List.getElem?_eq_some_iff.1 hf').1
  exact (hf i f hf' rows[i] m (by simp) hm).2
def amp (o:bP) (e:List CT) (rows:List (List DC)) (u:Bool):Prop:=
 (∃t fz,o= .row t e rows fz u)∨(∃t ts,o= .deep t e ts rows none∧u=true)
theorem alA {w:World} {av:Nat→Prop} {β:Env} {id:Nat} {o:bP} {e:List CT} {rows:List (List DC)} {u:Bool} {φ:List Nat} (h:Mt w av β id o φ) (hm:amp o e rows u):
  ∃fp,RdC w (.sl e) (.sl rows) (β.val id) fp∧(∀b∈fp,b∈cb β id o∨¬av b)∧(u=true→(∀b∈fp,b∈φ)∧(φ.Nodup→fp.Nodup)):=by
 rcases hm with ⟨t,fz,rfl⟩ | ⟨t,ts,rfl,rfl⟩
 ·exact fi h
 ·obtain⟨vals,d_,h1,h2,h3,rfl⟩:=h
  obtain⟨fps,h4,h5⟩:=h2.reads
  obtain⟨fp,h6,h7⟩:=alz h1 h4
  have h8:fp.Sublist ((β.val id).ownBlock.toList++d_.flatten):=h7.trans ((List.Sublist.refl _).append h5)
  exact⟨fp,h6,fun b hb=> .inl (by simp only[cb,h3];exact h8.subset hb),fun _=>⟨fun b hb=>h8.subset hb,fun hn=>h8.nodup hn⟩⟩
section
variable {P:Program} {Γ:Ctx} {w0:World} {S:Own} {st:St} {o:Oper} {e:u4} {a:Act} {w:World}
theorem ank (hR:Rel w0 S st a w) (hd:∀d,o.dst=some d→eD st.n d) {t:TypeId} {x i:Operand} (ho:o.op= .index t x i) {sx si:SV}
  (h1:(oq x).val st.get st.obj=some sx) (h2:(oq i).val st.get st.obj=some si) (he:(an9 P t sx si).val st.get st.obj=some e) (hok:e.ok=true):Good P w0 S st o e a w:=by
 unfold an9 at he
 split at he
 ·rename_i s k n hu
  simp only[M.ax,Option.some.injEq] at he
  subst he
  simp only[Bool.and_eq_true,decide_eq_true_eq] at hok
  obtain⟨hn0,hn1⟩:=hok
  refine cl hR hd rfl rfl fun β φ hc=> ?_
  have hx:=hc.ev h1
  have hy:=hc.ev h2
  simp only[bX] at hx hy
  have hlt:n.toNat<s.length:=by omega
  refine⟨.int .u8 (s.getD n.toNat 0).toNat, ?_, ?_⟩
  ·have hget:(⟨s.toArray⟩:ByteArray)[n.toNat]? =some (s.getD n.toNat 0):=by
    rw[ByteArray.getElem?_lt' _ _ (by rw[Mu];exact hlt)]
    simp [ByteArray.getElem_eq_getElem_data,List.getD,hlt]
   simp [execOp,ho,hx.1,hy.1,Instr.index,asIntOf,run_underlying hu,hn0,hget]
  ·unfold bX
   refine⟨rfl, ?_⟩
   have:=(s.getD n.toNat 0).toNat_lt
   rw[Hy]
   have h1:IntKind.u8.min=0:=by decide
   have h2:IntKind.u8.max=255:=by decide
   omega
 ·simp at he
theorem XV (hR:Rel w0 S st a w) (hd:∀d,o.dst=some d→eD st.n d) {mx:Bool} {c:Call} {x y:Operand} (ho:o.op= .call c) (hb:c.callee= .builtin (bif mx then .max else .min))
  (hx:c.args= #[x,y]) {sx sy:SV} (h1:(oq x).val st.get st.obj=some sx) (h2:(oq y).val st.get st.obj=some sy) (he:(ark mx sx sy).val st.get st.obj=some e):Good P w0 S st o e a w:=by
 unfold ark at he
 split at he
 ·rename_i k n k' m
  by_cases hk:k=k'
  ·subst hk
   simp only[decide_true,cond_true,M.ax,Option.some.injEq] at he
   subst he
   refine cl hR hd rfl rfl fun β φ hc=> ?_
   have h1:=hc.ev h1
   have h2:=hc.ev h2
   simp only[bX] at h1 h2
   refine⟨.int k (bif mx then (if n<m then m else n) else (if m<n then m else n)), ?_, ?_⟩
   ·cases mx
    ·simp [execOp,ho,resolve,hb,hx,invoke,builtin,h1.1,h2.1,Builtin.min_,Builtin.min2]
    ·simp [execOp,ho,resolve,hb,hx,invoke,builtin,h1.1,h2.1,Builtin.max_,Builtin.max2]
   ·cases mx
    ·unfold bX
     refine⟨rfl, ?_⟩
     simp only[cond_false]
     split
     ·exact h2.2
     ·exact h1.2
    ·unfold bX
     refine⟨rfl, ?_⟩
     simp only[cond_true]
     split
     ·exact h2.2
     ·exact h1.2
  ·simp [hk] at he
 ·simp at he
theorem amq {n:Nat} (h:n≤maxLen):inR .i64 (n:Int)=true:=by
 rw[Hy]
 have h1:IntKind.i64.min= -9223372036854775808:=by decide
 have h2:IntKind.i64.max=9223372036854775807:=by decide
 simp only[maxLen] at h
 omega
theorem alB (hR:Rel w0 S st a w) (hd:∀d,o.dst=some d→eD st.n d) {c:Call} {x:Operand} {t:TypeId} (ho:o.op= .call c) (hb:c.callee= .builtin .len)
  (hx:c.args= #[x]) (ht:c.argTypes= #[t]) {sx:SV} (h1:(oq x).val st.get st.obj=some sx) (he:(arj P t sx).val st.get st.obj=some e):Good P w0 S st o e a w:=by
 have amr:∀(et:TypeId) (n:Nat),P.underlying t=some (.slice et)→n≤maxLen→e= {sv:= .int .i64 n} →
   (∀β φ,Core w0 S st.get st.obj β φ a.tmps w→∃q c,a.eval x= .slice q n c)→Good P w0 S st o e a w:=by
  intro et n hu hn he hv
  subst he
  refine cl hR hd rfl rfl fun β φ hc=> ?_
  obtain⟨q,c',hv⟩:=hv β φ hc
  refine⟨.int .i64 n, ?_,by unfold bX;exact⟨rfl,amq hn⟩⟩
  simp [execOp,ho,resolve,hb,hx,ht,invoke,builtin,hv,Builtin.len_,run_underlying hu,goInt]
 unfold arj at he
 split at he
 ·rename_i s hu
  simp only[M.ax,Option.some.injEq] at he
  subst he
  refine cl hR hd rfl rfl fun β φ hc=> ?_
  have h1:=hc.ev h1
  simp only[bX] at h1
  refine⟨.int .i64 s.length, ?_,by unfold bX;exact⟨rfl,amq h1.2⟩⟩
  simp [execOp,ho,resolve,hb,hx,ht,invoke,builtin,h1.1,Builtin.len_,run_underlying hu,goInt,Mu]
 ·rename_i et hu
  simp only[M.ax,Option.some.injEq] at he
  refine amr et 0 hu (Nat.zero_le _) he.symm fun β φ hc=> ?_
  have h1:=hc.ev h1
  simp only[bX] at h1
  exact⟨none,0,h1⟩
 ·rename_i et e' r hu
  simp only[M.ax,Option.some.injEq] at he
  have key:∀β φ,Core w0 S st.get st.obj β φ a.tmps w→∃q c,a.eval x= .slice q r.length c∧r.length≤maxLen:=by
   intro β φ hc
   have h1:=hc.ev h1
   simp only[bX] at h1
   obtain⟨fp,h1,_⟩:=h1
   obtain⟨q,n,c',hv,hn,hcc,hm,_⟩:=vI h1
   exact⟨q,c',by rw[hn];exact hv,by omega⟩
  obtain⟨β,φ,hc⟩:=hR.core
  obtain⟨_,_,_,hle⟩:=key β φ hc
  exact amr et r.length hu hle he.symm fun β φ hc=>by
   obtain⟨q,c',hv,_⟩:=key β φ hc
   exact⟨q,c',hv⟩
 ·rename_i et id hu
  simp only[M.eB,Option.bind_eq_some_iff] at he
  obtain⟨ob,dT,he⟩:=he
  split at he
  ·rename_i t' e' r fz u
   simp only[M.ax,Option.some.injEq] at he
   have key:∀β φ,Core w0 S st.get st.obj β φ a.tmps w→∃q c,a.eval x= .slice q r.length c∧r.length≤maxLen:=by
    intro β φ hc
    have h1:=hc.ev h1
    simp only[bX] at h1
    obtain⟨fp,h2,_,_⟩:=fi (hc.dA id _ dT)
    obtain⟨q,n,c',hv,hn,hcc,hm,_⟩:=vI h2
    exact⟨q,c',by rw[hn,h1.1];exact hv,by omega⟩
   obtain⟨β,φ,hc⟩:=hR.core
   obtain⟨_,_,_,hle⟩:=key β φ hc
   exact amr et r.length hu hle he.symm fun β φ hc=>by
    obtain⟨q,c',hv,_⟩:=key β φ hc
    exact⟨q,c',hv⟩
  ·rename_i e' r
   simp only[M.ax,Option.some.injEq] at he
   have key:∀β φ,Core w0 S st.get st.obj β φ a.tmps w→∃q c,a.eval x= .slice q r.length c∧r.length≤maxLen:=by
    intro β φ hc
    have h1:=hc.ev h1
    simp only[bX] at h1
    obtain⟨h2,_⟩:=hc.dA id _ dT
    simp only[bX] at h2
    obtain⟨fp,h2,_⟩:=h2
    obtain⟨q,n,c',hv,hn,hcc,hm,_⟩:=vI h2
    exact⟨q,c',by rw[hn,h1.1];exact hv,by omega⟩
   obtain⟨β,φ,hc⟩:=hR.core
   obtain⟨_,_,_,hle⟩:=key β φ hc
   exact amr et r.length hu hle he.symm fun β φ hc=>by
    obtain⟨q,c',hv,_⟩:=key β φ hc
    exact⟨q,c',hv⟩
  ·simp at he
 ·simp at he
end
end Go.Proofs.YthpmalpdnnbkgaaGreat.Vm
namespace Go.Proofs.YthpmalpdnnbkgaaGreat.Vm
section
variable {P:Program} {Γ:Ctx} {w0:World} {S:Own} {st:St} {o:Oper} {e:u4} {a:Act} {w:World}
theorem ep {t:TypeId} {n:Nat} (h:eA P t n=true):∃i,P.info? t=some i∧i.size=n:=by
 unfold eA at h
 split at h
 ·rename_i i hi
  exact⟨i,hi,Nat.eq_of_beq_eq_true h⟩
 ·cases h
theorem tV {α:Type} {l:List α} {i:Nat} {d:α} (h:i<l.length):l[i]? =some (l.getD i d):=by
 simp [List.getD,h]
theorem On (hR:Rel w0 S st a w) (hd:∀d,o.dst=some d→eD st.n d) {t:TypeId} {x i:Operand} (ho:o.op= .indexAddr t x i) {sx si:SV}
  (h1:(oq x).val st.get st.obj=some sx) (h2:(oq i).val st.get st.obj=some si) (he:(MZ P t sx si).val st.get st.obj=some e) (hok:e.ok=true):Good P w0 S st o e a w:=by
 unfold MZ at he
 split at he
 ·rename_i et k n hu
  have run:∀(b oo m c:Nat) (i':TypeInfo),P.info? et=some i'→0≤n→n<(m:Int)→a.eval x= .slice (some ⟨b,oo,none⟩) m c→(∃kk,a.eval i= .int kk n)→
    (execOp a.eval o).run P w= .ok (.value (.pointer (some ⟨b,oo+n.toNat*i'.size,none⟩))) w:=by
   rintro b oo m c i' hi h0 hm hx ⟨kk,hi'⟩
   simp [execOp,ho,hx,hi',Instr.indexAt,asIntOf,run_underlying hu,h0,hm,sizeOf,typeInfo,hi,sQ]
  have imm:∀(ct:List CT) (r:List (List DC)),eA P et ct.length=true→e= {sv:= .Ou ct (r.getD n.toNat []) 0,ok:=decide (0≤n) && decide (n<r.length)} →
    (∀β φ,Core w0 S st.get st.obj β φ a.tmps w→bX w (Av st.obj β) β (.sl ct r) (a.eval x))→Good P w0 S st o e a w:=by
   intro ct r hz he hx
   subst he
   simp only[Bool.and_eq_true,decide_eq_true_eq] at hok
   obtain⟨i',hi,hsz⟩:=ep hz
   refine cl hR hd rfl rfl fun β φ hc=> ?_
   have hx:=hx β φ hc
   have hi2:=hc.ev h2
   simp only[bX] at hx hi2
   obtain⟨fp,hr,tU⟩:=hx
   obtain⟨q,m,c,hv,hm,_,_,abI⟩:=vI hr
   have hpos:0<m:=by omega
   rcases abI with ⟨h0,_⟩ | ⟨_,b,oo,fps,rfl,hlt,hl,rfl,GS⟩
   ·omega
   ·have atG:n.toNat<r.length:=by omega
    refine⟨_,run b oo m c i' hi hok.1 (by omega) hv ⟨k,hi2.1⟩, ?_⟩
    have hb:¬Av st.obj β b:=tU b (by simp)
    have hf:fps[n.toNat]? =some fps[n.toNat]:=by simp
    have:=GS n.toNat (r.getD n.toNat []) fps[n.toNat] (tV atG) hf
    simp only[bX]
    refine⟨b,oo+n.toNat*ct.length,fps[n.toNat],by rw[hsz];rfl,hlt,hb, ?_,fun y hy=>tU y ?_⟩
    ·simpa only[Nat.add_assoc] using this
    ·simp only[List.mem_cons,List.mem_flatten]
     exact .inr ⟨_,List.getElem_mem _,hy⟩
  split at he
  ·rename_i ct r
   cases hz:eA P et ct.length
   ·simp [hz] at he
   ·simp only[hz,cond_true,M.ax,Option.some.injEq] at he
    exact imm ct r hz he.symm fun β φ hc=>hc.ev h1
  ·rename_i id
   simp only[M.eB,Option.bind_eq_some_iff] at he
   obtain⟨ob,dT,he⟩:=he
   split at he
   ·rename_i t' ct r fz u
    cases hz:eA P et ct.length
    ·simp [hz] at he
    ·simp only[hz,cond_true,M.ax,Option.some.injEq] at he
     subst he
     simp only[Bool.and_eq_true,decide_eq_true_eq] at hok
     obtain⟨i',hi,hsz⟩:=ep hz
     refine cl hR hd rfl rfl fun β φ hc=> ?_
     have hx:=hc.ev h1
     have hi2:=hc.ev h2
     simp only[bX] at hx hi2
     obtain⟨vals,fps,eO,_⟩:=hc.dA id _ dT
     rcases eO.2 with ⟨_,h0,_⟩ | ⟨g,cap,cur,hv,_⟩
     ·omega
     ·refine⟨_,run g 0 r.length cap i' hi hok.1 hok.2 (hx.1.trans hv) ⟨k,hi2.1⟩, ?_⟩
      simp only[bX]
      exact⟨g,by rw[hv];rfl,by rw[hsz];simp⟩
   ·rename_i ct r
    cases hz:eA P et ct.length
    ·simp [hz] at he
    ·simp only[hz,cond_true,M.ax,Option.some.injEq] at he
     refine imm ct r hz he.symm fun β φ hc=> ?_
     have hx:=hc.ev h1
     simp only[bX] at hx
     rw[hx.1]
     exact (hc.dA id _ dT).1
   ·simp at he
  ·simp at he
 ·simp at he
theorem aiY (hR:Rel w0 S st a w) (hd:∀d,o.dst=some d→eD st.n d) {t:TypeId} {x:Operand} (ho:o.op= .load t x) {sx:SV}
  (h1:(oq x).val st.get st.obj=some sx) (he:(aiN P t sx).val st.get st.obj=some e) (hok:e.ok=true):Good P w0 S st o e a w:=by
 unfold aiN at he
 split at he
 case h_2=>simp at he
 rename_i td hu
 have agg:∀(b oo:Nat) (vs:List Value) (i:TypeInfo),isAggB P t=true→P.info? t=some i→vs.length=i.size→(∀j v,vs[j]? =some v→w.cell? ⟨b,oo+j,none⟩=some v)→
   a.eval x= .pointer (some ⟨b,oo,none⟩)→(execOp a.eval o).run P w= .ok (.value (.agg vs.toArray)) w:=by
  intro b oo vs i h2 hi hl hcell hx
  simp [execOp,ho,hx,Jh h2 hi hl hcell]
 have one:∀(b oo:Nat) (v:Value),isAggB P t=false→w.cell? ⟨b,oo,none⟩=some v→a.eval x= .pointer (some ⟨b,oo,none⟩)→(execOp a.eval o).run P w= .ok (.value v) w:=by
  intro b oo v h2 hcell hx
  simp [execOp,ho,hx,DE h2 hu hcell]
 unfold an6 at he
 split at he
 ·rename_i id off
  simp only[M.eB,Option.bind_eq_some_iff] at he
  obtain⟨ob,dT,he⟩:=he
  split at he
  ·rename_i t' cells
   cases ha:isAggB P t
   ·simp only[ha,cond_false] at he
    split at he
    ·rename_i s hs
     simp only[M.ax,Option.some.injEq] at he
     subst he
     refine cl hR hd rfl rfl fun β φ hc=> ?_
     have hx:=hc.ev h1
     simp only[bX] at hx
     obtain⟨vs,hh,hr,_,_⟩:=hc.dA id _ dT
     obtain⟨v,hv,Mv⟩:=bt.get _ _ _ _ hr hs
     exact⟨v,one _ _ v ha (by rw[XT hh];exact hv) hx,Mv⟩
    ·simp at he
   ·simp only[ha,cond_true] at he
    split at he
    ·rename_i i hi
     cases hz:Nat.ble (off+i.size) cells.length
     ·simp [hz] at he
     ·simp only[hz,cond_true,M.ax,Option.some.injEq] at he
      subst he
      have hle:=Nat.le_of_ble_eq_true hz
      refine cl hR hd rfl rfl fun β φ hc=> ?_
      have hx:=hc.ev h1
      simp only[bX] at hx
      obtain⟨vs,hh,hr,fm,_⟩:=hc.dA id _ dT
      have hlen:=bt.length _ _ hr
      refine⟨_,agg _ off ((vs.drop off).take i.size) i ha hi (by simp;omega) (fun j v hj=> ?_) hx, ?_⟩
      ·rw[XT hh]
       rw[List.getElem?_take] at hj
       split at hj
       ·simpa using hj
       ·cases hj
      ·simp only[bX]
       exact⟨_,rfl,bt.take _ _ _ (bt.drop _ _ _ hr),fun y hy=>fm y (List.mem_of_mem_drop (List.mem_of_mem_take hy))⟩
    ·simp at he
  ·simp at he
 ·rename_i ct row off
  cases ha:isAggB P t
  ·simp only[ha,cond_false] at he
   split at he
   ·rename_i c hcc
    simp only[M.ax,Option.some.injEq] at he
    subst he
    refine cl hR hd rfl rfl fun β φ hc=> ?_
    have hx:=hc.ev h1
    simp only[bX] at hx
    obtain⟨b,oo,fp,hv,_,_,hr,tU⟩:=hx
    obtain⟨v,fp',e1,e2,e3⟩:=RdL.get _ _ _ _ _ _ hr hcc
    exact⟨v,one _ _ v ha e1 hv,Hz e2 (fun y hy=>tU y (e3 y hy))⟩
   ·simp at he
  ·simp only[ha,cond_true] at he
   split at he
   ·rename_i i hi
    cases hz:Nat.ble (off+i.size) ct.length
    ·simp [hz] at he
    ·simp only[hz,cond_true,M.ax,Option.some.injEq] at he
     subst he
     have hle:=Nat.le_of_ble_eq_true hz
     refine cl hR hd rfl rfl fun β φ hc=> ?_
     have hx:=hc.ev h1
     simp only[bX] at hx
     obtain⟨b,oo,fp,hv,_,_,hr,tU⟩:=hx
     obtain⟨vs,l1,l2,l3,l4⟩:=RdL.lE (β:=β) hr tU i.size off hle
     refine⟨_,agg b (oo+off) vs i ha hi l1 (fun j v hj=> ?_) hv, ?_⟩
     ·have:=l2 j v hj
      rw[←this,Nat.add_assoc]
     ·simp only[bX]
      exact⟨vs,rfl,l3,l4⟩
   ·simp at he
 ·rename_i id i z off
  simp only[M.eB,Option.bind_eq_some_iff] at he
  obtain⟨ob,dT,he⟩:=he
  split at he
  ·rename_i t' ct rows fz u
   cases hz:Nat.beq z ct.length
   ·simp [hz] at he
   have hz':=Nat.eq_of_beq_eq_true hz
   simp only[hz,Bool.not_true,cond_false] at he
   have reads:∀β φ,Core w0 S st.get st.obj β φ a.tmps w→i<rows.length→∃g fp,a.eval x= .pointer (some ⟨g,i*ct.length+off,none⟩)∧
     RdL w ct (rows.getD i []) (fun j=>w.cell? ⟨g,i*ct.length+j,none⟩) fp∧∀y∈fp,¬Av st.obj β y:=by
    intro β φ hc hi
    have hx:=hc.ev h1
    simp only[bX] at hx
    obtain⟨g,hg,hv⟩:=hx
    obtain⟨vals,fps,eO,u_,tU,_⟩:=hc.dA id _ dT
    have hf:i<fps.length:=by rw[u_.1];exact hi
    have:=u_.2 i (rows.getD i []) fps[i] (tV hi) (by simp)
    refine⟨g,fps[i],by rw[hv,hz'],fi.RdL.XU (fun j v hj=>eO.cell hg hj) this,fun y hy=>tU y ?_⟩
    exact List.mem_flatten.2 ⟨_,List.getElem_mem _,hy⟩
   cases ha:isAggB P t
   ·simp only[ha,cond_false] at he
    split at he
    ·rename_i c hcc
     simp only[M.ax,Option.some.injEq] at he
     subst he
     have hi:i<rows.length:=by simpa using hok
     refine cl hR hd rfl rfl fun β φ hc=> ?_
     obtain⟨g,fp,hv,hr,tU⟩:=reads β φ hc hi
     obtain⟨v,fp',e1,e2,e3⟩:=RdL.get _ _ _ _ _ _ hr hcc
     exact⟨v,one _ _ v ha e1 hv,Hz e2 (fun y hy=>tU y (e3 y hy))⟩
    ·simp at he
   ·simp only[ha,cond_true] at he
    split at he
    ·rename_i j hj
     cases hz:Nat.ble (off+j.size) ct.length
     ·simp [hz] at he
     ·simp only[hz,cond_true,M.ax,Option.some.injEq] at he
      subst he
      have hi:i<rows.length:=by simpa using hok
      have hle:=Nat.le_of_ble_eq_true hz
      refine cl hR hd rfl rfl fun β φ hc=> ?_
      obtain⟨g,fp,hv,hr,tU⟩:=reads β φ hc hi
      obtain⟨vs,l1,l2,l3,l4⟩:=RdL.lE (β:=β) hr tU j.size off hle
      refine⟨_,agg g (i*ct.length+off) vs j ha hj l1 (fun k v hk=> ?_) hv, ?_⟩
      ·have:=l2 k v hk
       rw[←this,Nat.add_assoc]
      ·simp only[bX]
       exact⟨vs,rfl,l3,l4⟩
    ·simp at he
  ·simp at he
 ·simp at he
end
end Go.Proofs.YthpmalpdnnbkgaaGreat.Vm
