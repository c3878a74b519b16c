/- The value machine: definitions, the relation to the model, plain operations. Conditions: as each lemma says. -/
import Derived.WalkKit
import Derived.Maps.AppendAt
import Derived.Orders
import Derived.Lib.Strings
namespace Go.Proofs.YtngbcccnjiaddaaGreat.Vm
inductive CT where
 | int (k:IntKind)
 | bool
 | str
 | sl (e:List CT)
inductive DC where
 | int (n:Int)
 | bool (b:Bool)
 | str (s:List UInt8)
 | sl (rows:List (List DC))
instance:Inhabited DC:=⟨.int 0⟩
def DF (x y:Bool):Bool:=bif y then x else false
theorem fT (x y:Bool):(DF x y=true)=(x=true∧y=true):=by cases x<;>cases y<;>simp [DF]
def DC.asInt:DC→Int
 | .int n=>n
 | _=>0
def DC.asBool:DC→Bool
 | .bool b=>b
 | _=>false
def DC.FO:DC→List UInt8
 | .str s=>s
 | _=>[]
def DC.cX:DC→List (List DC)
 | .sl r=>r
 | _=>[]
inductive SV where
 | eY
 | undef
 | kb (b:Bool)
 | int (k:IntKind) (n:Int)
 | bool (b:Bool)
 | str (s:List UInt8)
 | sl (e:List CT) (rows:List (List DC))
 | nil
 | own (id:Nat)
 | agg (cs:List SV)
 | ptr (id off:Nat)
 | gu (e:List CT) (row:List DC) (off:Nat)
 | dL (id i sz off:Nat)
 | C9 (vs:List SV)
 | E8 (g:Nat) (cs:List SV)
 | Ge (id lo z:Nat)
instance:Inhabited SV:=⟨.eY⟩
inductive ai where
 | box (t:TypeId) (cells:List SV)
 | row (t:TypeId) (e:List CT) (rows:List (List DC)) (fz u:Bool)
 | dQ (e:List CT) (rows:List (List DC))
 | deep (t:TypeId) (e:List CT) (ts:List TypeId) (rows:List (List DC)) (hl:Option (Nat×Nat))
mutual
def kg:CT→CT→Bool
 | .int k,.int k'=>decide (k=k')
 | .bool,.bool=>true
 | .str,.str=>true
 | .sl e,.sl e'=>aC e e'
 | _,_=>false
def aC:List CT→List CT→Bool
 | [],[]=>true
 | a::l,b::m=>kg a b && aC l m
 | _,_=>false
end
def fb (P:Program):Nat→TypeId→Option (List CT)
 | 0,_=>none
 | n+1,t=>
  match P.underlying t with
  | some .bool=>some [.bool]
  | some (.int k)=>some [.int k]
  | some .string=>some [.str]
  | some (.slice e)=>match fb P n e with | some l=>some [.sl l] | none=>none
  | some (.struct fs)=>fs.toList.foldr (fun f r=>match fb P n f.type,r with | some l,some m=>some (l++m) | _,_=>none) (some [])
  | _=>none
def bh (P:Program) (t:TypeId):Bool:=
 match P.underlying t with
 | some (.struct _)=>true
 | some (.array _ _)=>true
 | _=>false
def Be (k:IntKind) (n:Int):Bool:=decide (k.min≤n) && decide (n≤k.max)
def ofConst:Value→SV
 | .bool b=> .kb b
 | .int k n=>bif Be k n then .int k n else .eY
 | .string s=>bif Nat.ble s.data.toList.length maxLen then .str s.data.toList else .eY
 | .slice none 0 0=> .nil
 | _=> .eY
def j0:CT→DC→SV
 | .int k,d=> .int k d.asInt
 | .bool,d=> .bool d.asBool
 | .str,d=> .str d.FO
 | .sl e,d=> .sl e d.cX
def bM:List CT→List DC→Nat→List SV
 | [],_,_=>[]
 | c::cs,ds,k=>j0 c (ds.getD k default)::bM cs ds (k+1)
inductive M (α:Type) where
 | pure (a:α)
 | fail
 | slot (i:Nat) (k:SV→M α)
 | obj (id:Nat) (k:ai→M α)
def M.bind {α β:Type} :M α→(α→M β)→M β
 | .pure a,f=>f a
 | .fail,_=> .fail
 | .slot i k,f=> .slot i fun s=>(k s).bind f
 | .obj i k,f=> .obj i fun s=>(k s).bind f
instance:Monad M where
 pure:=M.pure
 bind:=M.bind
structure cB where
 sv:SV
 cw:Option (Nat×Nat×List SV):=none
 ow:List (Nat×Option ai):=[]
 ok:Bool:=true
structure AK where
 cb:List CT
 agg:Bool
inductive RC where
 | dQ (ct:CT)
 | own (t:TypeId) (e:List CT)
 | deep (t:TypeId) (e:List CT) (ts:List TypeId)
structure RK where
 cells:List RC
 agg:Bool
inductive TT where
 | flat (t:TypeId)
 | deep (t:TypeId) (its:List TypeId)
inductive MK where
 | box (t:TypeId)
 | rows (ts:List TT)
structure Sum where
 ps:List AK
 rs:List RK
 fn:List DC→Bool×List DC
 ms:List (Option MK):=[]
 pt:Option (TypeId×List CT):=none
 Gl:Bool:=false
abbrev Ctx:=List (Nat×Sum)
def Fz:Ctx→Nat→Option Sum
 | [],_=>none
 | (k,s)::l,i=>bif Nat.beq k i then some s else Fz l i
def bV:Operand→M SV
 | .tmp t=> .slot t .pure
 | .const v=> .pure (ofConst v)
 | _=> .fail
def Dc:List Operand→M (List SV)
 | []=> .pure []
 | x::l=>(bV x).bind fun s=>(Dc l).bind fun r=> .pure (s::r)
def aA:SV→M (List SV)
 | .agg cs=> .pure cs
 | .eY=> .fail
 | .undef=> .fail
 | .C9 _=> .fail
 | .E8 _ _=> .fail
 | .Ge _ _ _=> .fail
 | s=> .pure [s]
mutual
def ep (g:Bool):SV→SV→SV
 | .undef,.undef=> .undef
 | .kb x,.kb y=>bif x==y then .kb x else .bool (bif x then g else !g)
 | .kb x,.bool y=> .bool (bif g then x else y)
 | .bool x,.kb y=> .bool (bif g then x else y)
 | .bool x,.bool y=> .bool (bif g then x else y)
 | .int k n,.int k' m=>bif decide (k=k') then .int k (bif g then n else m) else .eY
 | .str n,.str m=> .str (bif g then n else m)
 | .sl e r,.sl e' r'=>bif aC e e' then .sl e (bif g then r else r') else .eY
 | .sl e r,.nil=> .sl e (bif g then r else [])
 | .nil,.sl e r=> .sl e (bif g then [] else r)
 | .nil,.nil=> .nil
 | .own i,.own j=>bif Nat.beq i j then .own i else .eY
 | .ptr i o,.ptr j o'=>bif Nat.beq i j && Nat.beq o o' then .ptr i o else .eY
 | .gu e r o,.gu e' r' o'=>bif aC e e' && Nat.beq o o' then .gu e (bif g then r else r') o else .eY
 | .dL i x z o,.dL j y z' o'=>bif Nat.beq i j && Nat.beq z z' && Nat.beq o o' then .dL i (bif g then x else y) z o else .eY
 | .agg l,.agg m=>bif Nat.beq l.length m.length then .agg (iQ g l m) else .eY
 | .C9 l,.C9 m=>bif Nat.beq l.length m.length then .C9 (iQ g l m) else .eY
 | _,_=> .eY
def iQ (g:Bool):List SV→List SV→List SV
 | a::l,b::m=>ep g a b::iQ g l m
 | _,_=>[]
end
abbrev eB:=List (Nat×List CT×List (List DC)×Bool)
def eU (ct:CT):SV→M (DC×eB×Bool)
 | .int k n=>match ct with | .int k'=>bif decide (k=k') then .pure (.int n,[],true) else .fail | _=> .fail
 | .kb b=>match ct with | .bool=> .pure (.bool b,[],true) | _=> .fail
 | .bool b=>match ct with | .bool=> .pure (.bool b,[],true) | _=> .fail
 | .str s=>match ct with | .str=> .pure (.str s,[],true) | _=> .fail
 | .sl e r=>match ct with | .sl e'=>bif aC e e' then .pure (.sl r,[],false) else .fail | _=> .fail
 | .nil=>match ct with | .sl _=> .pure (.sl [],[],true) | _=> .fail
 | .own id=>match ct with
  | .sl e'=> .obj id fun
   | .row _ e r _ u=>bif aC e e' then .pure (.sl r,[(id,e,r,u)],u) else .fail
   | .dQ e r=>bif aC e e' then .pure (.sl r,[],false) else .fail
   | .deep _ e _ r none=>bif aC e e' then .pure (.sl r,[(id,e,r,true)],true) else .fail
   | _=> .fail
  | _=> .fail
 | _=> .fail
def bT:List CT→List SV→M (List DC×eB×Bool)
 | [],[]=> .pure ([],[],true)
 | c::cs,s::ss=>(eU c s).bind fun d=>(bT cs ss).bind fun r=> .pure (d.1::r.1,d.2.1++r.2.1,d.2.2 && r.2.2)
 | _,_=> .fail
def al:List CT→Bool
 | []=>true
 | .sl _::_=>false
 | _::l=>al l
def aV:List CT→Nat
 | []=>0
 | .sl _::l=>aV l+1
 | _::l=>aV l
def fj:List TypeId→List TypeId→Bool
 | [],[]=>true
 | a::l,b::m=>Nat.beq a b && fj l m
 | _,_=>false
theorem fR:∀(a b:List TypeId),fj a b=true→a=b
 | [],[],_=>rfl
 | a::l,b::m,h=>by
  simp only[fj,Bool.and_eq_true] at h
  rw[Nat.eq_of_beq_eq_true h.1,fR l m h.2]
 | [],_::_,h=>by simp [fj] at h
 | _::_,[],h=>by simp [fj] at h
def FM (P:Program):Nat→TypeId→Option (List TypeId)
 | 0,_=>none
 | n+1,t=>
  match P.underlying t with
  | some (.slice e)=>some [e]
  | some (.struct fs)=>fs.toList.foldr (fun f r=>match FM P n f.type,r with | some l,some m=>some (l++m) | _,_=>none) (some [])
  | some _=>some []
  | none=>none
def aX (P:Program) (t:TypeId) (n:Nat):Bool:=
 match P.info? t with
 | some i=>Nat.beq i.size n
 | none=>false
def eQ (P:Program) (t:TypeId) (n:Nat):Bool:=
 match P.info? t with
 | some i=>decide (n*i.bytes≤140737488355328) && decide (n≤9223372036854775807)
 | none=>false
def ag (d k:Nat):Nat:=d*64+k
def Gp (d n:Nat):Bool:=Nat.blt d (n % 1099511627776) && Nat.ble (n / 1099511627776) d
def ba (n d:Nat):Prop:=d<n % 1099511627776∧n / 1099511627776≤d
theorem kY {d n:Nat} (h:Gp d n=true):ba n d:=by
 unfold Gp at h
 rw[Bool.and_eq_true] at h
 exact⟨Nat.le_of_ble_eq_true h.1,Nat.le_of_ble_eq_true h.2⟩
def Et (op:BinOp) (k:IntKind) (x y:Int):Option (SV×Bool):=
 match op with
 | .add=>some (.int k (k.wrap (x+y)),true)
 | .sub=>some (.int k (k.wrap (x - y)),true)
 | .mul=>some (.int k (k.wrap (x*y)),true)
 | .quo=>some (.int k (k.wrap (x.tdiv y)), !(y==0))
 | .rem=>some (.int k (x.tmod y), !(y==0))
 | .and=>some (.int k (bits .and k x y),true)
 | .or=>some (.int k (bits .or k x y),true)
 | .xor=>some (.int k (bits .xor k x y),true)
 | .andNot=>some (.int k (bits .andNot k x y),true)
 | .eql=>some (.bool (x==y),true)
 | .neq=>some (.bool (x != y),true)
 | .lss=>some (.bool (decide (x<y)),true)
 | .leq=>some (.bool (decide (x≤y)),true)
 | .gtr=>some (.bool (decide (y<x)),true)
 | .geq=>some (.bool (decide (y≤x)),true)
 | _=>none
end Go.Proofs.YtngbcccnjiaddaaGreat.Vm
namespace Go.Proofs.YtngbcccnjiaddaaGreat.Vm
def ah:eB→List (Nat×Option ai)
 | []=>[]
 | (id,e,r,_)::l=>(id,some (.dQ e r))::ah l
def bK (id:Nat):eB→Bool
 | []=>true
 | (i,_)::l=> !(Nat.beq i id) && bK id l
def aI:eB→Bool
 | []=>true
 | (i,_)::l=>bK i l && aI l
def kz (e:List CT):SV→M (List (List DC)×eB×Bool)
 | .nil=> .pure ([],[],true)
 | .sl e' r=>bif aC e e' then .pure (r,[],false) else .fail
 | .own id=> .obj id fun
  | .row _ e' r _ u=>bif aC e e' then .pure (r,[(id,e',r,u)],u) else .fail
  | .dQ e' r=>bif aC e e' then .pure (r,[],false) else .fail
  | _=> .fail
 | _=> .fail
def Cg (P:Program) (t:TypeId):SV→M cB
 | .ptr id off=> .obj id fun
  | .box _ cells=>
   bif bh P t then
    match P.info? t with
    | some i=>bif Nat.ble (off+i.size) cells.length then .pure {sv:= .agg ((cells.drop off).take i.size)} else .fail
    | none=> .fail
   else match cells[off]? with
    | some s=> .pure {sv:=s}
    | none=> .fail
  | _=> .fail
 | .gu e row off=>
  bif bh P t then
   match P.info? t with
   | some i=>bif Nat.ble (off+i.size) e.length then .pure {sv:= .agg (bM ((e.drop off).take i.size) row off)} else .fail
   | none=> .fail
  else match e[off]? with
   | some c=> .pure {sv:=j0 c (row.getD off default)}
   | none=> .fail
 | .dL id i z off=> .obj id fun
  | .row _ e rows _ _=>
   bif !(Nat.beq z e.length) then .fail else
   bif bh P t then
    match P.info? t with
    | some j=>bif Nat.ble (off+j.size) e.length then .pure {sv:= .agg (bM ((e.drop off).take j.size) (rows.getD i []) off),ok:=decide (i<rows.length)} else .fail
    | none=> .fail
   else match e[off]? with
    | some c=> .pure {sv:=j0 c ((rows.getD i []).getD off default),ok:=decide (i<rows.length)}
    | none=> .fail
  | _=> .fail
 | _=> .fail
def lR (P:Program) (t:TypeId) (s:SV):M cB:=
 match P.underlying t with
 | some _=>Cg P t s
 | none=> .fail
def bF (row:List DC) (off:Nat) (ds:List DC):List DC:=row.take off++(ds++row.drop (off+ds.length))
def AD (P:Program) (t:TypeId) (addr x:SV):M cB:=
 (aA x).bind fun bE=>
 bif aX P t bE.length then
  match addr with
  | .ptr id off=> .obj id fun
   | .box _ cells=>bif Nat.ble (off+bE.length) cells.length then .pure {sv:= .undef,cw:=some (id,off,bE)} else .fail
   | _=> .fail
  | .dL id i z off=> .obj id fun
   | .row t' e rows fz u=>
    bif Nat.beq z e.length && Nat.ble (off+bE.length) e.length then
     (bT ((e.drop off).take bE.length) bE).bind fun r=>
     bif bK id r.2.1 && aI r.2.1 then
      .pure {sv:= .undef,ow:=(id,some (.row t' e (rows.set i (bF (rows.getD i []) off r.1)) fz (u && r.2.2)))::ah r.2.1,ok:=decide (i<rows.length)}
     else .fail
    else .fail
   | _=> .fail
  | _=> .fail
 else .fail
def Ao (P:Program) (t:TypeId):Bool:=
 match P.underlying t with
 | some .bool=>true
 | _=>false
def AQ (P:Program) (t:TypeId) (op:BinOp) (a b:Bool):M cB:=
 bif Ao P t then
  match op with
  | .eql=> .pure {sv:= .bool (a==b)}
  | .neq=> .pure {sv:= .bool (!(a==b))}
  | _=> .fail
 else .fail
def m8 (P:Program) (t:TypeId) (xs:List SV) (off:Nat):Option (List SV):=
 bif bh P t then
  match P.info? t with
  | some i=>bif Nat.ble (off+i.size) xs.length then some ((xs.drop off).take i.size) else none
  | none=>none
 else match xs[off]? with
  | some x=>some [x]
  | none=>none
def fF (P:Program) (eqv:TypeId→List SV→List SV→Option Bool) (xs ys:List SV):List Field→Option Bool
 | []=>some true
 | f::fs=>
  bif f.name== "_" then none else
  match m8 P f.type xs f.offset,m8 P f.type ys f.offset with
  | some a,some b=>match eqv f.type a b,fF P eqv xs ys fs with
   | some c,some r=>some (bif c then r else false)
   | _,_=>none
  | _,_=>none
def lE (t:TypeDesc) (x y:SV):Option Bool:=
 match t,x,y with
 | .int _,.int k a,.int k' b=>bif decide (k=k') then some (a==b) else none
 | .string,.str a,.str b=>some (a==b)
 | .bool,.bool a,.bool b=>some (a==b)
 | .bool,.kb a,.bool b=>some (a==b)
 | .bool,.bool a,.kb b=>some (a==b)
 | _,_,_=>none
def mF (P:Program):Nat→TypeId→List SV→List SV→Option Bool
 | 0,_,_,_=>none
 | n+1,t,xs,ys=>
  match P.underlying t with
  | some (.struct fs)=>bif P.stoodInHeld t then none else fF P (mF P n) xs ys fs.toList
  | some d=>match xs,ys with
   | [x],[y]=>lE d x y
   | _,_=>none
  | none=>none
def Hu (P:Program) (t:TypeId) (op:BinOp) (xs ys:List SV):M cB:=
 match P.underlying t with
 | some (.struct _)=>
  bif P.eqGuardType P.depth t then .fail else
  match mF P 8 t xs ys,op with
  | some b,.eql=> .pure {sv:= .bool b}
  | some b,.neq=> .pure {sv:= .bool (!b)}
  | _,_=> .fail
 | _=> .fail
def Gm (P:Program) (t:TypeId) (op:BinOp) (x y:SV):M cB:=
 match x,y with
 | .int k a,.int k' b=>
  match op with
  | .shl=> .pure {sv:= .int k (k.wrap (a*2 ^ (min b.toNat k.bits))),ok:=decide (0≤b)}
  | .shr=> .pure {sv:= .int k (a.fdiv (2 ^ (min b.toNat k.bits))),ok:=decide (0≤b)}
  | _=>bif decide (k=k') then
    match Et op k a b with
    | some (s,c)=> .pure {sv:=s,ok:=c}
    | none=> .fail
   else .fail
 | .str a,.str b=>
  match op with
  | .add=> .pure {sv:= .str (a++b),ok:=decide (a.length+b.length≤9223372036854775807)}
  | .eql=> .pure {sv:= .bool (a==b)}
  | .neq=> .pure {sv:= .bool (!(a==b))}
  | _=> .fail
 | .bool a,.bool b=>AQ P t op a b
 | .kb a,.bool b=>AQ P t op a b
 | .bool a,.kb b=>AQ P t op a b
 | .agg xs,.agg ys=>Hu P t op xs ys
 | _,_=> .fail
def Kp (op:UnOp) (x:SV):M cB:=
 match op,x with
 | .not,.kb b=> .pure {sv:= .kb (!b)}
 | .not,.bool b=> .pure {sv:= .bool (!b)}
 | .neg,.int k n=> .pure {sv:= .int k (k.wrap (0 - n))}
 | .xor,.int k n=> .pure {sv:= .int k (bits .xor k (if k.signed then -1 else k.max) n)}
 | _,_=> .fail
def byteOf (r:List DC):UInt8:=UInt8.ofNat (r.headD default).asInt.toNat
def eP (b:UInt8):List DC:=[.int b.toNat]
def DR (P:Program) (d:Option Nat) (src dst:TypeId) (x:SV):M cB:=
 match P.underlying dst,P.underlying src with
 | some (.int k),some _=>match x with
  | .int _ n=> .pure {sv:= .int k (k.wrap n)}
  | _=> .fail
 | some .string,some .string=>match x with
  | .str s=> .pure {sv:= .str s}
  | _=> .fail
 | some .string,some (.slice e)=>match P.underlying e with
  | some (.int .u8)=>(kz [.int .u8] x).bind fun r=> .pure {sv:= .str (r.1.map byteOf)}
  | _=> .fail
 | some (.slice e),some .string=>
  match P.underlying e,x,d with
  | some (.int .u8),.str s,some d=>bif aX P e 1 then .pure {sv:= .own (ag d 0),ow:=[(ag d 0,some (.row e [.int .u8] (s.map eP) true true))]} else .fail
  | _,_,_=> .fail
 | _,_=> .fail
def dh (P:Program) (t:TypeId):M (List SV):=
 match P.info? t with
 | some i=>match i.zero with
  | some z=>bif z.cells.toList.all (·.oneCell') then .pure (z.cells.toList.map ofConst) else .fail
  | none=> .fail
 | none=> .fail
def Gc (P:Program) (d:Option Nat) (t:TypeId) (l c:SV):M cB:=
 match P.underlying t,l,c,d with
 | some (.slice et),.int .i64 n,.int .i64 m,some d=>
  match fb P 16 et,P.info? et with
  | some e,some i=>
   bif Nat.beq i.size e.length && Nat.blt 0 e.length then
    (dh P et).bind fun z=>(bT e z).bind fun r=>
     .pure {sv:= .own (ag d 0),ow:=[(ag d 0,some (.row et e (List.replicate n.toNat r.1) false true))],ok:=decide (0≤n) && decide (n≤m) && decide (m.toNat*i.bytes≤140737488355328) && decide (m≤9223372036854775807)}
   else .fail
  | _,_=> .fail
 | _,_,_,_=> .fail
def jL (P:Program) (fs:Array Field):List (Nat×Operand)→List SV→M (List SV)
 | [],cells=> .pure cells
 | (i,x)::rest,cells=>
  match fs[i]? with
  | some f=>(bV x).bind fun s=>(aA s).bind fun cs=>
   bif aX P f.type cs.length && Nat.ble (f.offset+cs.length) cells.length then
    jL P fs rest (cells.take f.offset++(cs++cells.drop (f.offset+cs.length)))
   else .fail
  | none=> .fail
def dK (e:List CT):Nat→List (Nat×Operand)→M (List (List DC)×eB×Bool)
 | _,[]=> .pure ([],[],true)
 | k,(i,x)::rest=>
  bif Nat.beq i k then
   (bV x).bind fun s=>(aA s).bind fun cs=>(bT e cs).bind fun r=>(dK e (k+1) rest).bind fun q=>
    .pure (r.1::q.1,r.2.1++q.2.1,r.2.2 && q.2.2)
  else .fail
def dg (n:Nat) (lo hi:Option SV):Option (Nat×Nat×Bool):=
 match lo,hi with
 | none,none=>some (0,n,true)
 | some (.int _ l),none=>some (l.toNat,n,decide (0≤l) && decide (l≤n))
 | none,some (.int _ h)=>some (0,h.toNat,decide (0≤h) && decide (h≤n))
 | some (.int _ l),some (.int _ h)=>some (l.toNat,h.toNat,decide (0≤l) && decide (l≤h) && decide (h≤n))
 | _,_=>none
def lF:Option Operand→M (Option SV)
 | none=> .pure none
 | some x=>(bV x).bind fun s=> .pure (some s)
def Cv (P:Program) (t:TypeId) (x:SV) (lo hi:Option SV):M cB:=
 match P.underlying t with
 | some .string=>match x with
  | .str s=>match dg s.length lo hi with
   | some (l,h,c)=> .pure {sv:= .str ((s.take h).drop l),ok:=c}
   | none=> .fail
  | _=> .fail
 | some (.slice et)=>
  match x with
  | .sl e r=>bif aX P et e.length then match dg r.length lo hi with
   | some (l,h,c)=> .pure {sv:= .sl e ((r.take h).drop l),ok:=c}
   | none=> .fail
   else .fail
  | .own id=> .obj id fun
   | .row t' e r false _=>bif Nat.beq t' et && aX P et e.length then match dg r.length lo hi with
    | some (l,h,c)=> .pure {sv:= .sl e ((r.take h).drop l),ow:=[(id,some (.dQ e r))],ok:=c}
    | none=> .fail
    else .fail
   | .dQ e r=>bif aX P et e.length then match dg r.length lo hi with
    | some (l,h,c)=> .pure {sv:= .sl e ((r.take h).drop l),ok:=c}
    | none=> .fail
    else .fail
   | _=> .fail
  | _=> .fail
 | _=> .fail
def AO (Γ:Ctx):Option Nat→Bool
 | some d=>match Fz Γ (1125899906842624+d) with | some s=>s.Gl | none=>false
 | none=>false
def fZ (P:Program) (t:TypeId) (x i:SV):M cB:=
 match P.underlying t,i with
 | some (.slice et),.int _ n=>
  match x with
  | .sl e r=>bif aX P et e.length then .pure {sv:= .gu e (r.getD n.toNat []) 0,ok:=decide (0≤n) && decide (n<r.length)} else .fail
  | .own id=> .obj id fun
   | .row _ e r _ _=>bif aX P et e.length then .pure {sv:= .dL id n.toNat e.length 0,ok:=decide (0≤n) && decide (n<r.length)} else .fail
   | .dQ e r=>bif aX P et e.length then .pure {sv:= .gu e (r.getD n.toNat []) 0,ok:=decide (0≤n) && decide (n<r.length)} else .fail
   | _=> .fail
  | _=> .fail
 | _,_=> .fail
def Cf (P:Program) (t:TypeId) (x i:SV):M cB:=
 match P.underlying t,x,i with
 | some .string,.str s,.int _ n=> .pure {sv:= .int .u8 (s.getD n.toNat 0).toNat,ok:=decide (0≤n) && decide (n<s.length)}
 | _,_,_=> .fail
def Fy (P:Program) (t:TypeId) (x:SV):M cB:=
 match P.underlying t,x with
 | some .string,.str s=> .pure {sv:= .int .i64 s.length}
 | some (.slice _),.nil=> .pure {sv:= .int .i64 0}
 | some (.slice _),.sl _ r=> .pure {sv:= .int .i64 r.length}
 | some (.slice _),.own id=> .obj id fun
  | .row _ _ r _ _=> .pure {sv:= .int .i64 r.length}
  | .dQ _ r=> .pure {sv:= .int .i64 r.length}
  | _=> .fail
 | _,_=> .fail
def CF (P:Program) (d:Option Nat) (t:TypeId) (s x:SV):M cB:=
 match P.underlying t,d with
 | some (.slice et),some d=>
  match fb P 16 et with
  | some e=>
   bif aX P et e.length && Nat.blt 0 e.length then
    (dh P et).bind fun z=>bif Nat.beq z.length e.length then
     match s with
     | .nil=>(kz e x).bind fun q=>
      .pure {sv:= .own (ag d 0),ow:=(ag d 0,some (.row et e q.1 false (al e || q.2.2)))::(bif al e then [] else ah q.2.1),ok:=eQ P et q.1.length}
     | .own id=> .obj id fun
      | .row t' e' r false u=>
       bif Nat.beq t' et && aC e' e then
        (kz e x).bind fun q=>
        bif bK id q.2.1 then
         .pure {sv:= .own (ag d 0),ow:=(ag d 0,some (.row et e (r++q.1) false (u && (al e || q.2.2))))::(id,none)::(bif al e then [] else ah q.2.1),ok:=eQ P et (r.length+q.1.length)}
        else .fail
       else .fail
      | _=> .fail
     | _=> .fail
    else .fail
   else .fail
  | none=> .fail
 | _,_=> .fail
def m6 (P:Program) (d:Option Nat) (t t':TypeId) (s x:SV):M cB:=
 match P.underlying t,P.underlying t',d,s,x with
 | some (.slice et),some .string,some d,.own id,.str b=> .obj id fun
  | .row t1 e r false u=>
   bif Nat.beq t1 et && aC e [.int .u8] && aX P et 1 then
    (dh P et).bind fun z=>bif Nat.beq z.length 1 then
     .pure {sv:= .own (ag d 0),ow:=[(ag d 0,some (.row et [.int .u8] (r++b.map eP) false u)),(id,none)],ok:=eQ P et (r.length+b.length)}
    else .fail
   else .fail
  | _=> .fail
 | _,_,_,_,_=> .fail
def i7:List AK→List SV→M (List DC×eB)
 | [],[]=> .pure ([],[])
 | k::ks,s::ss=>
  (match k.agg,s with
   | true,.agg cs=>bT k.cb cs
   | true,_=> .fail
   | false,.agg _=> .fail
   | false,s=>bT k.cb [s]).bind fun r=>(i7 ks ss).bind fun q=> .pure (r.1++q.1,r.2.1++q.2)
 | _,_=> .fail
def bU (d:Nat):Nat→List RC→List DC→List SV×List (Nat×Option ai)
 | _,[],_=>([],[])
 | k,.dQ c::rs,ds=>let q:=bU d k rs ds.tail;(j0 c (ds.headD default)::q.1,q.2)
 | k,.own t e::rs,ds=>
  let q:=bU d (k+1) rs ds.tail
  (.own (ag d k)::q.1,(ag d k,some (.row t e (ds.headD default).cX false true))::q.2)
 | k,.deep t e ts::rs,ds=>
  let q:=bU d (k+1) rs ds.tail
  (.own (ag d k)::q.1,(ag d k,some (.deep t e ts (ds.headD default).cX none))::q.2)
def cV:List RC→Nat
 | []=>0
 | .dQ _::l=>cV l
 | .own _ _::l=>cV l+1
 | .deep _ _ _::l=>cV l+1
def aZ (d:Nat):Nat→List RK→List DC→List SV×List (Nat×Option ai)
 | _,[],_=>([],[])
 | k,r::rs,ds=>
  let q:=bU d k r.cells (ds.take r.cells.length)
  let p:=aZ d (k+cV r.cells) rs (ds.drop r.cells.length)
  ((bif r.agg then .agg q.1 else q.1.headD .eY)::p.1,q.2++p.2)
def gP:List RC→Bool
 | []=>false
 | .dQ (.sl _)::_=>true
 | _::l=>gP l
def shares (s:Sum):Bool:=s.rs.any fun r=>gP r.cells
def du:List RK→Nat
 | []=>0
 | r::rs=>cV r.cells+du rs
def gW:List SV→SV
 | [x]=>x
 | l=> .C9 l
inductive MU where
 | box (id:Nat) (t:TypeId) (cs:List CT)
 | row (id:Nat) (t:TypeId) (e:List CT) (u:Bool)
 | deep (id:Nat) (t:TypeId) (e:List CT) (ts:List TypeId)
 | BN
def bz:List MU→List Nat
 | []=>[]
 | .box id _ _::l=>id::bz l
 | .row id _ _ _::l=>id::bz l
 | .deep id _ _ _::l=>id::bz l
 | .BN::l=>bz l
def aP:List CT→List TypeId→List SV→M (List DC×List MU)
 | [],[],[]=> .pure ([],[])
 | .sl e::cs,t::ts,s::ss=>
  (match s with
   | .own id=> .obj id fun
    | .row t' e' r false u=>bif Nat.beq t' t && aC e' e && al e then .pure (.sl r,.row id t' e' u) else .fail
    | _=> .fail
   | .nil=>bif al e then .pure (.sl [],.BN) else .fail
   | _=> .fail:M (DC×MU)).bind fun q=>(aP cs ts ss).bind fun r=> .pure (q.1::r.1,q.2::r.2)
 | .int k::cs,ts,s::ss=>(eU (.int k) s).bind fun q=>(aP cs ts ss).bind fun r=> .pure (q.1::r.1,r.2)
 | .bool::cs,ts,s::ss=>(eU .bool s).bind fun q=>(aP cs ts ss).bind fun r=> .pure (q.1::r.1,r.2)
 | .str::cs,ts,s::ss=>(eU .str s).bind fun q=>(aP cs ts ss).bind fun r=> .pure (q.1::r.1,r.2)
 | _,_,_=> .fail
def au:List CT→List TT→List SV→M (List DC×List MU)
 | [],[],[]=> .pure ([],[])
 | .sl e::cs,.flat t::ts,s::ss=>
  (match s with
   | .own id=> .obj id fun
    | .row t' e' r false u=>bif Nat.beq t' t && aC e' e && al e then .pure (.sl r,.row id t' e' u) else .fail
    | _=> .fail
   | .nil=>bif al e then .pure (.sl [],.BN) else .fail
   | _=> .fail:M (DC×MU)).bind fun q=>(au cs ts ss).bind fun r=> .pure (q.1::r.1,q.2::r.2)
 | .sl e::cs,.deep t its::ts,s::ss=>
  (match s with
   | .own id=> .obj id fun
    | .deep t' e' dE r none=>bif Nat.beq t' t && aC e' e && fj dE its then .pure (.sl r,.deep id t' e' dE) else .fail
    | _=> .fail
   | .nil=> .pure (.sl [],.BN)
   | _=> .fail:M (DC×MU)).bind fun q=>(au cs ts ss).bind fun r=> .pure (q.1::r.1,q.2::r.2)
 | .int k::cs,ts,s::ss=>(eU (.int k) s).bind fun q=>(au cs ts ss).bind fun r=> .pure (q.1::r.1,r.2)
 | .bool::cs,ts,s::ss=>(eU .bool s).bind fun q=>(au cs ts ss).bind fun r=> .pure (q.1::r.1,r.2)
 | .str::cs,ts,s::ss=>(eU .str s).bind fun q=>(au cs ts ss).bind fun r=> .pure (q.1::r.1,r.2)
 | _,_,_=> .fail
def bq:List AK→List (Option MK)→List SV→M (List DC×eB×List MU)
 | [],[],[]=> .pure ([],[],[])
 | k::ks,none::ms,s::ss=>
  (match k.agg,s with
   | true,.agg cs=>bT k.cb cs
   | true,_=> .fail
   | false,.agg _=> .fail
   | false,s=>bT k.cb [s]).bind fun r=>(bq ks ms ss).bind fun q=> .pure (r.1++q.1,r.2.1++q.2.1,q.2.2)
 | k::ks,some (.box t)::ms,.ptr id 0::ss=> .obj id fun
  | .box t' cells=>
   bif Nat.beq t' t then
    (bT k.cb cells).bind fun r=>bif r.2.1.isEmpty then (bq ks ms ss).bind fun q=> .pure (r.1++q.1,q.2.1,.box id t' k.cb::q.2.2) else .fail
   else .fail
  | _=> .fail
 | k::ks,some (.rows ts)::ms,s::ss=>
  (match k.agg,s with
   | true,.agg cs=>au k.cb ts cs
   | true,_=> .fail
   | false,.agg _=> .fail
   | false,s=>au k.cb ts [s]).bind fun r=>(bq ks ms ss).bind fun q=> .pure (r.1++q.1,q.2.1,r.2++q.2.2)
 | _,_,_=> .fail
def jZ:List MU→List DC→List (Nat×Option ai)
 | [],_=>[]
 | .box id t cs::l,ds=>(id,some (.box t (bM cs ds 0)))::jZ l (ds.drop cs.length)
 | .row id t e u::l,ds=>(id,some (.row t e (ds.headD default).cX false u))::jZ l ds.tail
 | .deep id t e ts::l,ds=>(id,some (.deep t e ts (ds.headD default).cX none))::jZ l ds.tail
 | .BN::l,ds=>jZ l ds.tail
def ch:List RK→Nat
 | []=>0
 | r::rs=>r.cells.length+ch rs
def cG:List Nat→Bool
 | []=>true
 | i::l=> !(l.any fun j=>Nat.beq j i) && cG l
def m7 (s:Sum) (d:Option Nat) (args:List SV):M cB:=
 bif Nat.blt (du s.rs) 64 && !(shares s) && (d.isSome || s.rs.isEmpty) then
  (bq s.ps s.ms args).bind fun r=>
   bif aI r.2.1 && cG (bz r.2.2) && (bz r.2.2).all (fun i=>bK i r.2.1) then
    .pure {sv:=gW (aZ (d.getD 0) 0 s.rs (s.fn r.1).2).1,ow:=(aZ (d.getD 0) 0 s.rs (s.fn r.1).2).2++(jZ r.2.2 ((s.fn r.1).2.drop (ch s.rs))++ah r.2.1),ok:=(s.fn r.1).1}
   else .fail
 else .fail
def kf (Γ:Ctx) (d:Option Nat) (g:Nat) (args:List SV):M cB:=
 match Fz Γ g with
 | some s=>
  bif s.Gl then .fail else
  match s.pt with
  | some _=> .fail
  | none=>
  match s.ms,d with
  | [],some d=>
   bif Nat.blt (du s.rs) 64 then
    (i7 s.ps args).bind fun r=>
     bif !(shares s) || aI r.2 then
      .pure {sv:=gW (aZ d 0 s.rs (s.fn r.1).2).1,ow:=(aZ d 0 s.rs (s.fn r.1).2).2++(bif shares s then ah r.2 else []),ok:=(s.fn r.1).1}
     else .fail
   else .fail
  | [],none=> .fail
  | _::_,d=>m7 s d args
 | none=> .fail
def ED (P:Program) (t:TypeId) (i z off:Nat) (e:List CT) (rows:List (List DC)):M cB:=
 bif !(Nat.beq z e.length) then .fail else
 match P.underlying t with
 | none=> .fail
 | some _=>
  bif bh P t then
   match P.info? t with
   | some j=>bif Nat.ble (off+j.size) e.length && al ((e.drop off).take j.size) then .pure {sv:= .agg (bM ((e.drop off).take j.size) (rows.getD i []) off),ok:=decide (i<rows.length)} else .fail
   | none=> .fail
  else match e[off]? with
   | some c=>bif al [c] then .pure {sv:=j0 c ((rows.getD i []).getD off default),ok:=decide (i<rows.length)} else .fail
   | none=> .fail
def Gh (P:Program) (d:Option Nat) (t:TypeId) (id i z off:Nat) (t':TypeId) (e:List CT) (ts:List TypeId) (rows:List (List DC)) (hl:Option (Nat×Nat)):M cB:=
 match hl,e[off]?,ts,d with
 | none,some (.sl e'),[t1],some d=>
  bif Nat.beq z e.length && Nat.beq (aV e) 1 && !(bh P t) && (P.underlying t).isSome then
   .pure {sv:= .own (ag d 0),ow:=[(ag d 0,some (.row t1 e' ((rows.getD i []).getD off default).cX false true)),(id,some (.deep t' e ts rows (some (i,ag d 0))))],ok:=decide (i<rows.length)}
  else .fail
 | _,_,_,_=> .fail
def Ga (P:Program) (Γ:Ctx) (d:Option Nat) (t:TypeId) (s:SV):M cB:=
 match s with
 | .dL id i z off=> .obj id fun
  | .deep t' e ts rows hl=>bif AO Γ d then Gh P d t id i z off t' e ts rows hl else ED P t i z off e rows
  | _=>lR P t s
 | _=>lR P t s
def eK:List MU→List (Nat×Option ai)
 | []=>[]
 | .box id _ _::l=>(id,none)::eK l
 | .row id _ _ _::l=>(id,none)::eK l
 | .deep id _ _ _::l=>(id,none)::eK l
 | .BN::l=>eK l
def B_:Option (Nat×Nat)→Nat→Bool
 | none,_=>true
 | some (j,_),i=>Nat.beq j i
def EO (P:Program) (t:TypeId) (id i z off:Nat) (t':TypeId) (e:List CT) (ts:List TypeId) (rows:List (List DC)) (hl:Option (Nat×Nat)) (x:SV):M cB:=
 (aA x).bind fun bE=>
 bif aX P t bE.length && Nat.beq z e.length && Nat.ble (off+bE.length) e.length then
  bif al ((e.drop off).take bE.length) then
   (bT ((e.drop off).take bE.length) bE).bind fun r=>
    bif r.2.1.isEmpty then .pure {sv:= .undef,ow:=[(id,some (.deep t' e ts (rows.set i (bF (rows.getD i []) off r.1)) hl))],ok:=decide (i<rows.length)} else .fail
  else bif Nat.beq (aV ((e.drop off).take bE.length)) (aV e) then
   (aP ((e.drop off).take bE.length) ts bE).bind fun r=>
    bif cG (id::bz r.2) then
     .pure {sv:= .undef,ow:=(id,some (.deep t' e ts (rows.set i (bF (rows.getD i []) off r.1)) none))::eK r.2,ok:=decide (i<rows.length) && B_ hl i}
    else .fail
  else .fail
 else .fail
def EP (P:Program) (t:TypeId) (addr x:SV):M cB:=
 match addr with
 | .dL id i z off=> .obj id fun
  | .deep t' e ts rows hl=>EO P t id i z off t' e ts rows hl x
  | _=>AD P t addr x
 | _=>AD P t addr x
def iM (P:Program) (t:TypeId) (x i:SV):M cB:=
 match x with
 | .own id=> .obj id fun
  | .deep _ e _ rows _=>
   match P.underlying t,i with
   | some (.slice et),.int _ n=>bif aX P et e.length then .pure {sv:= .dL id n.toNat e.length 0,ok:=decide (0≤n) && decide (n<rows.length)} else .fail
   | _,_=> .fail
  | _=>fZ P t x i
 | _=>fZ P t x i
def G8 (P:Program) (t:TypeId) (x:SV):M cB:=
 match x with
 | .own id=> .obj id fun
  | .deep _ _ _ rows _=>
   match P.underlying t with
   | some (.slice _)=> .pure {sv:= .int .i64 rows.length}
   | _=> .fail
  | _=>Fy P t x
 | _=>Fy P t x
def Gb (P:Program) (d:Option Nat) (t:TypeId) (l c:SV):M cB:=
 match P.underlying t,l,c,d with
 | some (.slice et),.int .i64 n,.int .i64 m,some d=>
  match fb P 16 et,FM P 16 et,P.info? et with
  | some e,some ts,some i=>
   bif Nat.beq i.size e.length && Nat.blt 0 e.length then
    (dh P et).bind fun z=>(aP e ts z).bind fun r=>
     bif (bz r.2).isEmpty then
      .pure {sv:= .own (ag d 0),ow:=[(ag d 0,some (.deep et e ts (List.replicate n.toNat r.1) none))],ok:=decide (0≤n) && decide (n≤m) && decide (m.toNat*i.bytes≤140737488355328) && decide (m≤9223372036854775807)}
     else .fail
   else .fail
  | _,_,_=> .fail
 | _,_,_,_=> .fail
def dJ (e:List CT) (ts:List TypeId):Nat→List (Nat×Operand)→M (List (List DC)×List MU)
 | _,[]=> .pure ([],[])
 | k,(i,x)::rest=>
  bif Nat.beq i k then
   (bV x).bind fun s=>(aA s).bind fun cs=>(aP e ts cs).bind fun r=>(dJ e ts (k+1) rest).bind fun q=> .pure (r.1::q.1,r.2++q.2)
  else .fail
def DW (P:Program) (d:Option Nat) (t:TypeId) (len:Nat) (parts:List (Nat×Operand)):M cB:=
 match P.underlying t,d with
 | some (.slice et),some d=>
  match fb P 16 et,FM P 16 et with
  | some e,some ts=>
   bif aX P et e.length && Nat.blt 0 e.length && Nat.beq len parts.length && Nat.ble (len*e.length) 16777216 then
    (dh P et).bind fun _=>(dJ e ts 0 parts).bind fun q=>
     bif cG (bz q.2) then
      .pure {sv:= .own (ag d 0),ow:=(ag d 0,some (.deep et e ts q.1 none))::eK q.2}
     else .fail
   else .fail
  | _,_=> .fail
 | _,_=> .fail
def mD (et:TypeId) (e:List CT) (ts:List TypeId):SV→M (List (List DC)×List Nat)
 | .nil=> .pure ([],[])
 | .own id=> .obj id fun
  | .deep t' e' dE r none=>bif Nat.beq t' et && aC e' e && fj dE ts then .pure (r,[id]) else .fail
  | _=> .fail
 | _=> .fail
def gone (ids:List Nat):List (Nat×Option ai):=ids.map fun i=>(i,none)
def CE (P:Program) (d:Option Nat) (t:TypeId) (s x:SV):M cB:=
 match P.underlying t,d with
 | some (.slice et),some d=>
  match fb P 16 et,FM P 16 et with
  | some e,some ts=>
   bif aX P et e.length && Nat.blt 0 e.length then
    (dh P et).bind fun z=>bif Nat.beq z.length e.length then
     (mD et e ts s).bind fun p=>(mD et e ts x).bind fun q=>
      bif cG (p.2++q.2) then
       .pure {sv:= .own (ag d 0),ow:=(ag d 0,some (.deep et e ts (p.1++q.1) none))::gone (p.2++q.2),ok:=eQ P et (p.1.length+q.1.length)}
      else .fail
    else .fail
   else .fail
  | _,_=> .fail
 | _,_=> .fail
def FD (mx:Bool) (x y:SV):M cB:=
 match x,y with
 | .int k a,.int k' b=>bif decide (k=k') then .pure {sv:= .int k (bif mx then (if a<b then b else a) else (if b<a then b else a))} else .fail
 | _,_=> .fail
def evalOp (P:Program) (Γ:Ctx) (o:Oper):M cB:=
 match o.op with
 | .move x=>(bV x).bind fun s=> .pure {sv:=s}
 | .assign x=>(bV x).bind fun s=> .pure {sv:=s}
 | .pick c a b=>(bV c).bind fun c=>(bV a).bind fun a=>(bV b).bind fun b=>
  match c with
  | .kb t=> .pure {sv:=bif t then a else b}
  | .bool g=> .pure {sv:=ep g a b}
  | _=> .fail
 | .alloc t=>match o.dst with
  | some d=>(dh P t).bind fun z=> .pure {sv:= .ptr (ag d 0) 0,ow:=[(ag d 0,some (.box t z))]}
  | none=> .fail
 | .box t x=>match o.dst with
  | some d=>(bV x).bind fun s=>(aA s).bind fun cs=> .pure {sv:= .ptr (ag d 0) 0,ow:=[(ag d 0,some (.box t cs))]}
  | none=> .fail
 | .build t parts=>match P.underlying t with
  | some (.struct fs)=>match fs.toList.mapM (fun f=>(P.info? f.type).map fun i=>(f.offset,i.size)) with
   | some _=>(dh P t).bind fun z=>(jL P fs parts.toList z).bind fun cs=> .pure {sv:= .agg cs}
   | none=> .fail
  | _=> .fail
 | .buildSlice t len parts=>bif AO Γ o.dst then DW P o.dst t len parts.toList else match P.underlying t,o.dst with
  | some (.slice et),some d=>match fb P 16 et with
   | some e=>bif aX P et e.length && Nat.blt 0 e.length && Nat.beq len parts.toList.length && Nat.ble (len*e.length) 16777216 then
     (dh P et).bind fun _=>(dK e 0 parts.toList).bind fun q=>
      bif aI q.2.1 then
       .pure {sv:= .own (ag d 0),ow:=(ag d 0,some (.row et e q.1 false q.2.2))::ah q.2.1}
      else .fail
    else .fail
   | none=> .fail
  | _,_=> .fail
 | .load t x=>(bV x).bind fun s=>Ga P Γ o.dst t s
 | .store t x y=>(bV x).bind fun a=>(bV y).bind fun v=>EP P t a v
 | .nilCheck x=>(bV x).bind fun s=>match s with
  | .ptr .. => .pure {sv:=s}
  | .gu .. => .pure {sv:=s}
  | .dL .. => .pure {sv:=s}
  | _=> .fail
 | .binOp op t x y _=>(bV x).bind fun a=>(bV y).bind fun b=>Gm P t op a b
 | .unOp op _ x=>(bV x).bind fun a=>Kp op a
 | .convert s t x=>(bV x).bind fun a=>DR P o.dst s t a
 | .makeSlice t l c=>(bV l).bind fun l=>(bV c).bind fun c=>bif AO Γ o.dst then Gb P o.dst t l c else Gc P o.dst t l c
 | .slice t x lo hi mx=>match mx with
  | none=>(bV x).bind fun s=>(lF lo).bind fun l=>(lF hi).bind fun h=>Cv P t s l h
  | some _=> .fail
 | .fieldAddr t x f=>match P.underlying t with
  | some (.struct fs)=>match fs[f]? with
   | some fd=>bif aX P fd.type 0 then .fail else match P.info? fd.type with
    | none=> .fail
    | some _=>(bV x).bind fun s=>match s with
     | .ptr id off=> .pure {sv:= .ptr id (off+fd.offset)}
     | .gu e r off=> .pure {sv:= .gu e r (off+fd.offset)}
     | .dL id i z off=> .pure {sv:= .dL id i z (off+fd.offset)}
     | _=> .fail
   | none=> .fail
  | _=> .fail
 | .indexAddr t x i=>(bV x).bind fun s=>(bV i).bind fun n=>iM P t s n
 | .index t x i=>(bV x).bind fun s=>(bV i).bind fun n=>Cf P t s n
 | .extract x i=>(bV x).bind fun s=>match s with
  | .C9 vs=>match vs[i]? with
   | some v=> .pure {sv:=v}
   | none=> .fail
  | _=> .fail
 | .call c=>match c.callee with
  | .value (.func g)=>(Dc c.args.toList).bind fun l=>kf Γ o.dst g l
  | .builtin .len=>match c.args.toList,c.argTypes.toList with
   | [x],[t]=>(bV x).bind fun s=>G8 P t s
   | _,_=> .fail
  | .builtin .min=>match c.args.toList with
   | [x,y]=>(bV x).bind fun a=>(bV y).bind fun b=>FD false a b
   | _=> .fail
  | .builtin .max=>match c.args.toList with
   | [x,y]=>(bV x).bind fun a=>(bV y).bind fun b=>FD true a b
   | _=> .fail
  | .builtin .append=>match c.args.toList,c.argTypes.toList with
   | [s,x],[t,t']=>bif Nat.beq t t' then (bV s).bind fun a=>(bV x).bind fun b=>bif AO Γ o.dst then CE P o.dst t a b else CF P o.dst t a b else (bV s).bind fun a=>(bV x).bind fun b=>m6 P o.dst t t' a b
   | _,_=> .fail
  | _=> .fail
 | _=> .fail
structure St where
 n:Nat
 sl:List (Nat×SV)
 hp:List (Nat×ai)
 ok:Bool
 ls:List Nat
 lm:List Nat
def iO:List (Nat×SV)→Nat→SV
 | [],_=> .eY
 | (k,s)::l,i=>bif Nat.beq k i then s else iO l i
def de:List (Nat×ai)→Nat→Option ai
 | [],_=>none
 | (k,s)::l,i=>bif Nat.beq k i then some s else de l i
def FP:List (Nat×ai)→Nat→List (Nat×ai)
 | [],_=>[]
 | (k,s)::l,i=>bif Nat.beq k i then FP l i else (k,s)::FP l i
def St.get (st:St) (i:Nat):SV:=iO st.sl i
def St.obj (st:St) (i:Nat):Option ai:=de st.hp i
def M.run {α:Type} (f:Nat→SV) (h:Nat→Option ai):M α→Option (α×List Nat×List Nat)
 | .pure a=>some (a,[],[])
 | .fail=>none
 | .slot i k=>match (k (f i)).run f h with
  | some (a,s,o)=>some (a,i::s,o)
  | none=>none
 | .obj i k=>match h i with
  | some x=>match (k x).run f h with
   | some (a,s,o)=>some (a,s,i::o)
   | none=>none
  | none=>none
def St.fail (st:St):St:= {st with ok:=false,sl:=[],hp:=[]}
def cr:List SV→Nat→List SV→List SV
 | cells,off,bE=>cells.take off++(bE++cells.drop (off+bE.length))
def j5:List (Nat×Option ai)→List (Nat×ai)→List (Nat×ai)
 | [],h=>h
 | (i,some o)::l,h=>(i,o)::FP (j5 l h) i
 | (i,none)::l,h=>FP (j5 l h) i
def FH:Option (Nat×Nat×List SV)→List (Nat×ai)→List (Nat×ai)
 | none,h=>h
 | some (i,off,bE),h=>match de h i with
  | some (.box t cells)=>(i,.box t (cr cells off bE))::FP h i
  | _=>h
def St.apply (st:St) (d:Option Nat) (e:cB):St:=
 {n:=st.n
  sl:=match d with | some d=>(d,e.sv)::st.sl | none=>st.sl
  hp:=j5 e.ow (FH e.cw st.hp)
  ok:=DF (DF st.ok e.ok) (match d with | some d=>Gp d st.n | none=>true)
  ls:=match d with | some d=>d::st.ls | none=>st.ls
  lm:=(match e.cw with | some (i,_)=>[i] | none=>[])++(e.ow.map (·.1)++st.lm)}
def St.skip (st:St) (d:Option Nat):St:=st.apply d {sv:= .undef}
def gT (i:Nat):List Nat→Bool
 | []=>false
 | k::l=>Nat.beq k i || gT i l
def f_ (g:Bool) (f h:Nat→SV):List Nat→List (Nat×SV)→List (Nat×SV)
 | [],l=>l
 | i::r,l=>(i,ep g (f i) (h i))::f_ g f h r l
def dedup:List Nat→List Nat
 | []=>[]
 | i::l=>bif gT i l then dedup l else i::dedup l
def kc (hp:List (Nat×ai)):List Nat→Bool
 | []=>true
 | i::l=>(match de hp i with | some _=>false | none=>true) && kc hp l
def St.reset (st:St):St:= {st with ls:=[],lm:=[]}
def KW (g x y:Bool):Bool:=bif x && y then true else bif g then x else y
theorem EH (g x y:Bool):KW g x y=bif g then x else y:=by cases g<;>cases x<;>cases y<;>rfl
def lU (g:Bool):Option ai→Option ai→Option ai
 | some (.box t cs),some (.box t' AR)=>bif Nat.beq t t' && Nat.beq cs.length AR.length then some (.box t (iQ g cs AR)) else none
 | some (.row t e r fz u),some (.row t' e' r' IV u')=>bif Nat.beq t t' && aC e e' && (fz==IV) && (u==u') then some (.row t e (bif g then r else r') fz u) else none
 | _,_=>none
def cq (hp:List (Nat×ai)):List Nat→List Nat
 | []=>[]
 | i::l=>match de hp i with | some _=>i::cq hp l | none=>cq hp l
def jo (g:Bool) (f h:Nat→Option ai):List Nat→List (Nat×Option ai)
 | []=>[]
 | i::l=>(i,lU g (f i) (h i))::jo g f h l
def merge (pre:St) (g:Bool) (a b:St):St:=
 {n:=pre.n
  sl:=f_ g a.get b.get (dedup (a.ls++b.ls)) pre.sl
  hp:=j5 (jo g a.obj b.obj (cq pre.hp (dedup (a.lm++b.lm)))) pre.hp
  ok:=KW g a.ok b.ok
  ls:=dedup (a.ls++b.ls)++pre.ls
  lm:=cq pre.hp (dedup (a.lm++b.lm))++pre.lm}
def Eu:SV→Bool
 | .eY=>true
 | .undef=>true
 | _=>false
def Bi (g:Bool) (f h:Nat→SV):List Nat→Bool
 | []=>true
 | i::r=>(Eu (f i) || Eu (h i) || !(Eu (ep g (f i) (h i)))) && Bi g f h r
def jY (pre:St) (g:Bool) (a b:St):Bool:=
 kc pre.hp a.lm && kc pre.hp b.lm && Bi g a.get b.get (dedup (a.ls++b.ls))
def St.fq (st:St) (s:Nat) (b:Bool):St:= {st with sl:=(s,.kb b)::st.sl,ls:=s::st.ls}
mutual
def bH:SV→List Nat
 | .own i=>[i]
 | .ptr i _=>[i]
 | .dL i _ _ _=>[i]
 | .agg l=>bA l
 | .C9 l=>bA l
 | .E8 _ l=>bA l
 | .Ge i _ _=>[i]
 | _=>[]
def bA:List SV→List Nat
 | []=>[]
 | a::l=>bH a++bA l
end
def bZ:ai→List Nat
 | .box _ cells=>bA cells
 | .deep _ _ _ _ (some (_,i))=>[i]
 | _=>[]
def BT (e:cB):List Nat:=
 bH e.sv++((match e.cw with | some (_,_,bE)=>bA bE | none=>[])++e.ow.flatMap fun x=>x.1::(match x.2 with | some o=>bZ o | none=>[]))
structure cg where
 i:Nat
 d:Option Nat
 rs:List Nat
 ro:List Nat
 wo:List Nat
 m:List Nat
def kJ:List Oper→List Nat
 | []=>[]
 | o::l=>match o.dst with | some d=>d::kJ l | none=>kJ l
def lW (ds:List Nat):List Nat→Bool
 | []=>true
 | i::l=> !(gT (i / 64) ds) && lW ds l
def dU (ds:List Nat) (st:St):Bool:=
 (st.sl.all fun x=>lW ds (bH x.2)) && (st.hp.all fun x=>lW ds (x.1::bZ x.2))
def jd (d:Option Nat) (e:cB) (st:St):Bool:=
 match e.ow,d with
 | _::_,some d=>dU [d] st
 | _,_=>true
def St.cj (P:Program) (Γ:Ctx) (st:St) (o:Oper):St:=
 match (evalOp P Γ o).run st.get st.obj with
 | some (e,_)=>bif jd o.dst e st then st.apply o.dst e else st.fail
 | none=>st.fail
def gZ:List Nat→List Nat→List Nat
 | [],m=>m
 | i::l,m=>bif gT i m then gZ l m else i::gZ l m
def BP:List Oper→List (List Nat)→List (List Nat)
 | [],acc=>acc
 | o::l,acc=>BP l (acc++[o.after.toList.foldr (fun e r=>bif Region.binds .any e then gZ (gZ [e.on] (acc.getD e.on [])) r else r) []])
def fU:List Oper→Nat→Bool
 | [],_=>true
 | o::l,i=>(o.after.toList.all fun e=> !(Region.binds .any e) || Nat.blt e.on i) && fU l (i+1)
def fC (l:List Nat):List Nat→Bool
 | []=>false
 | i::m=>gT i l || fC l m
def jv:Option Nat→List Nat
 | some d=>[d]
 | none=>[]
def da (a b:cg):Bool:=
 fC (jv a.d) (b.rs++jv b.d) || fC a.rs (jv b.d) || fC a.wo (b.ro++b.wo) || fC a.ro b.wo ||
 (match a.d with | some d=>b.m.any fun i=>Nat.beq (i / 64) d | none=>false)
def jO (b a:cg):Bool:=match b.d with | some d=>a.m.any fun i=>Nat.beq (i / 64) d | none=>false
def ln (an:List (List Nat)) (a:cg):List cg→Bool
 | []=>true
 | b::l=>(!(da a b) || gT a.i (an.getD b.i [])) && !(jO b a) && ln an a l
def lx (an:List (List Nat)):List cg→Bool
 | []=>true
 | a::l=>ln an a l && lx an l
def fH (ops:Array Oper) (o:Oper):List Nat:=
 match o.guard with
 | some (j,_)=>jv ((ops[j]?).bind (·.dst))
 | none=>[]
def bw (P:Program) (Γ:Ctx) (ops:Array Oper) (i:Nat) (st:St) (o:Oper):cg:=
 match (evalOp P Γ o).run st.get st.obj with
 | some (e,s,r)=>⟨i,o.dst,fH ops o++s,(match e.cw with | some (i,_)=>[i] | none=>[])++r,(match e.cw with | some (i,_)=>[i] | none=>[])++e.ow.map (·.1),BT e⟩
 | none=>⟨i,o.dst,[],[],[],[]⟩
def iq (ops:Array Oper) (i:Nat) (o:Oper):cg:=⟨i,o.dst,fH ops o,[],[],[]⟩
def eV (ops:Array Oper) (st:St) (o:Oper):Option Bool:=
 match o.guard with
 | none=>some true
 | some (j,want)=>
  match (ops[j]?).bind (·.dst) with
  | none=>none
  | some s=>
   match st.get s with
   | .kb b=>some (b==want)
   | .undef=>some false
   | _=>none
def aT (P:Program) (Γ:Ctx) (ops:Array Oper) (gs:List Nat) (jN:List cg→Bool):List Oper→Nat→List cg→St→St
 | [],_,acc,st=> {st with ok:=DF st.ok (jN acc)}
 | o::rest,i,acc,st=>
  match eV ops st o with
  | none=>st.fail
  | some false=>aT P Γ ops gs jN rest (i+1) (acc++[iq ops i o]) (st.skip o.dst)
  | some true=>
   match o.dst with
   | none=>aT P Γ ops gs jN rest (i+1) (acc++[bw P Γ ops i st o]) (st.cj P Γ o)
   | some s=>
    bif gT s gs then
     match (st.cj P Γ o).get s with
     | .bool g=>merge (st.cj P Γ o) g (aT P Γ ops gs jN rest (i+1) (acc++[bw P Γ ops i st o]) ((st.cj P Γ o).reset.fq s true))
       (aT P Γ ops gs jN rest (i+1) (acc++[bw P Γ ops i st o]) ((st.cj P Γ o).reset.fq s false))
     | _=>aT P Γ ops gs jN rest (i+1) (acc++[bw P Γ ops i st o]) (st.cj P Γ o)
    else aT P Γ ops gs jN rest (i+1) (acc++[bw P Γ ops i st o]) (st.cj P Γ o)
def iJ (ops:Array Oper):List Oper→List Nat
 | []=>[]
 | o::l=>fH ops o++iJ ops l
def bJ (P:Program) (Γ:Ctx) (ops:Array Oper) (draw:Bool) (st:St):St:=
 bif draw then
  bif dU (kJ ops.toList) st && fU ops.toList 0 && P.follows .mixedOrders then aT P Γ ops (iJ ops ops.toList) (lx (BP ops.toList [])) ops.toList 0 [] st else st.fail
 else aT P Γ ops (iJ ops ops.toList) (fun _=>true) ops.toList 0 [] st
def simple:Code→Bool
 | .skip=>true
 | .region _ _ _=>true
 | .seq a b=>simple a && simple b
 | .cond _ a b=>simple a && simple b
 | _=>false
def ev (st:St):Operand→SV
 | .tmp t=>st.get t
 | .const v=>ofConst v
 | _=> .eY
def St.cN (st:St) (c:Operand) (b:Bool):St:=
 match c with
 | .tmp t=>st.fq t b
 | _=>st
def exec (P:Program) (Γ:Ctx):Code→St→St
 | .skip,st=>st
 | .region _ ops draw,st=>bJ P Γ ops draw st
 | .seq a b,st=>exec P Γ b (exec P Γ a st)
 | .cond c a b,st=>
  match ev st c with
  | .kb t=>bif t then exec P Γ a st else exec P Γ b st
  | .bool g=>merge st g (exec P Γ a (st.reset.cN c true)) (exec P Γ b (st.reset.cN c false))
  | _=>st.fail
 | _,st=>st.fail
abbrev ke:=Bool×List DC
def jK:ke:=(false,[])
inductive CK where
 | mh
 | own (t:TypeId)
 | dQ (t:TypeId)
 | deep (t:TypeId) (ts:List TypeId)
structure kW where
 bN:List (Nat×CK)
 boxes:List (Nat×List (Nat×CK))
def IE:List (Nat×kW)→Nat→Option kW
 | [],_=>none
 | (k,s)::l,i=>bif Nat.beq k i then some s else IE l i
def Km:List (Nat×CK)→Nat→CK
 | [],_=> .mh
 | (k,s)::l,i=>bif Nat.beq k i then s else Km l i
def jJ:List SV→Bool
 | []=>true
 | .ptr _ _::l=>jJ l
 | _=>false
def ar (P:Program) (hp:List (Nat×ai)) (ck:CK) (nid:Nat) (s:SV):SV×List (Nat×ai×Option Nat):=
 match s with
 | .own id=>match de hp id with
  | some (.row t e r fz u)=>match ck with
   | .dQ _=>(.eY,[])
   | _=>(.own nid,[(nid,.row t e r fz u,some id)])
  | some (.dQ e r)=>(.sl e r,[])
  | some (.deep t e ts r none)=>match ck with
   | .dQ _=>(.eY,[])
   | _=>(.own nid,[(nid,.deep t e ts r none,some id)])
  | _=>(.eY,[])
 | .nil=>match ck with
  | .own t=>match fb P 16 t with
   | some e=>(.own nid,[(nid,.row t e [] false true,none)])
   | none=>(.eY,[])
  | .deep t ts=>match fb P 16 t with
   | some e=>(.own nid,[(nid,.deep t e ts [] none,none)])
   | none=>(.eY,[])
  | .dQ t=>match fb P 16 t with
   | some e=>(.sl e [],[])
   | none=>(.eY,[])
  | .mh=>(.nil,[])
 | .kb b=>(.bool b,[])
 | .agg _=>(.eY,[])
 | .C9 _=>(.eY,[])
 | .dL .. =>(.eY,[])
 | .Ge .. =>(.eY,[])
 | .E8 g cs=>bif jJ cs then (.E8 g cs,[]) else (.eY,[])
 | s=>(s,[])
def aQ (P:Program) (st:St):List (Nat×CK)→List (Nat×SV)×List (Nat×ai×Option Nat)
 | []=>([],[])
 | (i,ck)::l=>
  let c:=ar P st.hp ck (ag (10000+i) 0) (st.get i)
  let q:=aQ P st l
  ((i,c.1)::q.1,c.2++q.2)
def br (P:Program) (hp:List (Nat×ai)) (lC:List (Nat×CK)) (b:Nat):Nat→List SV→List SV×List (Nat×ai×Option Nat)
 | _,[]=>([],[])
 | k,s::l=>
  let c:=ar P hp (Km lC k) (ag (20000+b*4) k) s
  let q:=br P hp lC b (k+1) l
  (c.1::q.1,c.2++q.2)
def aE (P:Program) (hp:List (Nat×ai)):List (Nat×List (Nat×CK))→List (Nat×ai)×List (Nat×ai×Option Nat)
 | []=>([],[])
 | (b,lC)::l=>
  let q:=aE P hp l
  match de hp b with
  | some (.box t cells)=>
   let c:=br P hp lC b 0 cells
   ((b,.box t c.1)::q.1,c.2++q.2)
  | _=>q
def ea:List Nat→Bool
 | []=>true
 | i::l=> !(gT i l) && ea l
def dO:List (Nat×ai×Option Nat)→List Nat
 | []=>[]
 | (_,_,some i)::l=>i::dO l
 | (_,_,none)::l=>dO l
def AX:List (Nat×ai)→Option Nat
 | []=>none
 | (i,.deep _ _ _ _ (some _))::_=>some i
 | _::l=>AX l
def dG:List CT→Nat
 | []=>0
 | .sl _::_=>0
 | _::l=>dG l+1
def He (e e2:List CT):Bool:=
 match e[dG e]? with
 | some (.sl e')=>aC e' e2
 | _=>false
def St.Dk (st:St):St:=
 match AX st.hp with
 | some id=>match st.obj id with
  | some (.deep t e [t1] rows (some (i,nid)))=>match st.obj nid with
   | some (.row t2 e2 r false _)=>
    bif Nat.beq t2 t1 && He e e2 && Nat.beq (aV e) 1 && !(Nat.beq nid id) && al e2 then
     {st with hp:=j5 [(id,some (.deep t e [t1] (rows.set i (bF (rows.getD i []) (dG e) [.sl r])) none)),(nid,none)] st.hp}
    else st
   | _=>st
  | _=>st
 | none=>st
def jM (P:Program) (an:kW) (st:St):St:=
 let s:=aQ P st an.bN
 let b:=aE P st.hp an.boxes
 let rows:=s.2++b.2
 bif ea (dO rows) && ea (b.1.map (·.1)++rows.map (·.1)) then
  {n:=st.n,sl:=s.1,hp:=b.1++rows.map (fun x=>(x.1,x.2.1)),ok:=st.ok,ls:=[],lm:=[]}
 else st.fail
def cP (st:St):List (Nat×CK)→eB
 | []=>[]
 | (i,.dQ _)::l=>match st.get i with
  | .own id=>match st.obj id with
   | some (.row _ e r _ u)=>bif bK id (cP st l) then (id,e,r,u)::cP st l else cP st l
   | _=>cP st l
  | _=>cP st l
 | (_,.mh)::l=>cP st l
 | (_,.own _)::l=>cP st l
 | (_,.deep _ _)::l=>cP st l
def St.Jl (st:St) (an:kW):St:= {st with hp:=j5 (ah (cP st an.bN)) st.hp}
def canon (P:Program) (an:kW) (st:St):St:=jM P an (st.Dk.Jl an)
def St.gd (st:St) (k:St→ke):ke:=bif st.ok then k {st with ok:=true} else jK
theorem CN {st:St} {k:St→ke} {r:List DC} (h:st.gd k=(true,r)):k st=(true,r):=by
 unfold St.gd at h
 cases hk:st.ok with
 | true=>
  rw[hk] at h
  obtain⟨_,_,_,_,_,_⟩:=st
  subst hk
  exact h
 | false=>
  rw[hk] at h
  exact absurd (congrArg Prod.fst h) (by simp [jK])
structure m0 where
 d5:St→ke
 ext:Nat→St→ke
 ret:St→ke
def cS:Code→Option Nat
 | .region id _ _=>some id
 | .seq a b=>match cS a with | some i=>some i | none=>cS b
 | .cond _ a b=>match cS a with | some i=>some i | none=>cS b
 | .block _ a=>cS a
 | .loop a=>cS a
 | _=>none
def run (P:Program) (Γ:Ctx) (A:List (Nat×kW)) (N:Nat):Code→St→m0→ke
 | .skip,st,K=>K.d5 st
 | .region _ ops draw,st,K=>(bJ P Γ ops draw st).gd K.d5
 | .seq a b,st,K=>run P Γ A N a st {d5:=fun s=>run P Γ A N b s K,ext:=K.ext,ret:=K.ret}
 | .cond c a b,st,K=>
  match ev st c with
  | .kb t=>bif t then run P Γ A N a st K else run P Γ A N b st K
  | .bool g=>
   bif simple a && simple b && jY st g (exec P Γ a (st.reset.cN c true)) (exec P Γ b (st.reset.cN c false)) then
    (merge st g (exec P Γ a (st.reset.cN c true)) (exec P Γ b (st.reset.cN c false))).gd K.d5
   else bif g then run P Γ A N a (st.cN c true) K else run P Γ A N b (st.cN c false) K
  | _=>jK
 | .block id a,st,K=>run P Γ A N a st {d5:=K.d5,ext:=fun i s=>bif Nat.beq i id then K.d5 s else K.ext i s,ret:=K.ret}
 | .loop a,st,K=>
  match (cS a).bind (IE A) with
  | some an=>(Nat.rec (motive:=fun _=>St→ke) (fun _=>jK) (fun _ ih s=>run P Γ A N a s {d5:=fun s'=>ih (canon P an s'),ext:=K.ext,ret:=K.ret}) N) (canon P an st)
  | none=>jK
 | .exit id,st,K=>K.ext id st
 | .ret,st,K=>K.ret st
 | _,_,_=>jK
def gg (P:Program):List ResultVar→M (List SV)
 | []=> .pure []
 | .tmp t::l=> .slot t fun s=>(gg P l).bind fun r=> .pure (s::r)
 | .cell a t::l=> .slot a fun s=>(match s with | .ptr id off=>lR P t (.ptr id off) | _=> .fail).bind fun e=>(gg P l).bind fun r=> .pure (e.sv::r)
def fe:RC→SV→M (DC×List Nat×List Nat)
 | .dQ ct,s=>(eU ct s).bind fun q=> .pure (q.1,[],q.2.1.map (·.1))
 | .own _ _,.nil=> .pure (.sl [],[],[])
 | .own t e,.own id=> .obj id fun
  | .row t' e' r false u=>bif Nat.beq t t' && aC e e' && u then .pure (.sl r,[id],[]) else .fail
  | _=> .fail
 | .own _ _,_=> .fail
 | .deep _ _ _,.nil=> .pure (.sl [],[],[])
 | .deep t e ts,.own id=> .obj id fun
  | .deep t' e' dE r none=>bif Nat.beq t t' && aC e e' && fj ts dE then .pure (.sl r,[id],[]) else .fail
  | _=> .fail
 | .deep _ _ _,_=> .fail
def dp:List RC→List SV→M (List DC×List Nat×List Nat)
 | [],[]=> .pure ([],[],[])
 | c::cs,s::ss=>(fe c s).bind fun q=>(dp cs ss).bind fun r=> .pure (q.1::r.1,q.2.1++r.2.1,q.2.2++r.2.2)
 | _,_=> .fail
def ff:List RK→List SV→M (List DC×List Nat×List Nat)
 | [],[]=> .pure ([],[],[])
 | k::ks,s::ss=>
  (match k.agg,s with
   | true,.agg cs=>dp k.cells cs
   | true,_=> .fail
   | false,.agg _=> .fail
   | false,s=>dp k.cells [s]).bind fun q=>(ff ks ss).bind fun r=> .pure (q.1++r.1,q.2.1++r.2.1,q.2.2++r.2.2)
 | _,_=> .fail
def Gs (t:TypeId) (cb:List CT):List SV→M (List DC)
 | [.ptr id 0]=> .obj id fun
  | .box t' cells=>bif Nat.beq t' t then (bT cb cells).bind fun q=>bif q.2.1.isEmpty then .pure q.1 else .fail else .fail
  | _=> .fail
 | _=> .fail
def fin (P:Program) (fn:Func) (s:Sum) (st:St):ke:=
 match s.pt with
 | some (t,cb)=>
  match ((gg P fn.results.toList).bind fun l=>Gs t cb l).run st.get st.obj with
  | some (ds,_)=>(st.ok,ds)
  | none=>jK
 | none=>
 match ((gg P fn.results.toList).bind fun l=>ff s.rs l).run st.get st.obj with
 | some ((ds,own,im),_)=>(st.ok && ea own && im.all (fun i=> !(gT i own)),ds)
 | none=>jK
def iN:Nat→List AK→List DC→List (Nat×SV)
 | _,[],_=>[]
 | i,k::ks,ds=>(i,bif k.agg then .agg (bM k.cb ds 0) else (bM k.cb ds 0).headD .eY)::iN (i+1) ks (ds.drop k.cb.length)
def Hc (P:Program) (Γ:Ctx) (A:List (Nat×kW)) (N:Nat) (fn:Func) (s:Sum) (ds:List DC):ke:=
 match fn.body with
 | some c=>run P Γ A N c {n:=fn.ntmps,sl:=iN 0 s.ps ds,hp:=[],ok:=true,ls:=[],lm:=[]} {d5:=fin P fn s,ext:=fun _ _=>jK,ret:=fin P fn s}
 | none=>jK
end Go.Proofs.YtngbcccnjiaddaaGreat.Vm
namespace Go.Proofs.YtngbcccnjiaddaaGreat.Vm
mutual
def bQ (w:World):CT→DC→Value→List Nat→Prop
 | .int k,d,v,fp=>∃n,d= .int n∧v= .int k n∧Be k n=true∧fp=[]
 | .bool,d,v,fp=>∃b,d= .bool b∧v= .bool b∧fp=[]
 | .str,d,v,fp=>∃s:List UInt8,d= .str s∧v= .string ⟨s.toArray⟩∧s.length≤maxLen∧fp=[]
 | .sl e,d,v,fp=>∃rows a n c,d= .sl rows∧v= .slice a n c∧rows.length=n∧n≤c∧c≤maxLen∧
   ((n=0∧fp=[])∨(0<n∧∃(b o:Nat) (az:List (List Nat)),a=some ⟨b,o,none⟩∧b<w.heap.size∧az.length=n∧fp=b::az.flatten∧
    ∀i r f,rows[i]? =some r→az[i]? =some f→aS w e r (fun j=>w.cell? ⟨b,o+(i*e.length+j),none⟩) f))
def aS (w:World):List CT→List DC→(Nat→Option Value)→List Nat→Prop
 | [],r,_,fp=>r=[]∧fp=[]
 | c::cs,r,f,fp=>∃d r' v f1 f2,r=d::r'∧f 0=some v∧bQ w c d v f1∧aS w cs r' (fun j=>f (j+1)) f2∧fp=f1++f2
end
theorem CG {w w':World} {b o:Nat} (h:w'.heap[b]? =w.heap[b]?):w'.cell? ⟨b,o,none⟩=w.cell? ⟨b,o,none⟩:=by
 simp [World.cell?,h]
mutual
theorem bQ.lt {w:World} :∀(c:CT) (d:DC) (v:Value) (fp:List Nat),bQ w c d v fp→∀b∈fp,b<w.heap.size
 | .int _,_,_,_,h=>by
  obtain⟨_,_,_,_,rfl⟩:=(by simpa only[bQ] using h)
  simp
 | .bool,_,_,_,h=>by
  obtain⟨_,_,_,rfl⟩:=(by simpa only[bQ] using h)
  simp
 | .str,_,_,_,h=>by
  obtain⟨_,_,_,_,rfl⟩:=(by simpa only[bQ] using h)
  simp
 | .sl e,_,_,_,h=>by
  simp only[bQ] at h
  obtain⟨rows,a,n,c,_,_,hn,_,_,⟨_,rfl⟩ | ⟨_,b,o,az,_,hb,hl,rfl,hr⟩⟩:=h
  ·simp
  ·intro x hx
   simp only[List.mem_cons,List.mem_flatten] at hx
   rcases hx with rfl | ⟨f,hf,hx⟩
   ·exact hb
   ·obtain⟨i,hi,rfl⟩:=List.getElem_of_mem hf
    have dD:i<rows.length:=by omega
    exact aS.lt e _ _ _ (hr i rows[i] az[i] (by simp) (by simp)) x hx
theorem aS.lt {w:World} :∀(cs:List CT) (r:List DC) (f:Nat→Option Value) (fp:List Nat),aS w cs r f fp→∀b∈fp,b<w.heap.size
 | [],_,_,_,h=>by
  simp only[aS] at h
  simp [h.2]
 | c::cs,_,_,_,h=>by
  simp only[aS] at h
  obtain⟨d,r',v,f1,f2,_,_,h1,h2,rfl⟩:=h
  intro b hb
  simp only[List.mem_append] at hb
  rcases hb with hb | hb
  ·exact bQ.lt c _ _ _ h1 b hb
  ·exact aS.lt cs _ _ _ h2 b hb
end
mutual
theorem bQ.mono {w w':World} (hs:w.heap.size≤w'.heap.size):∀(c:CT) (d:DC) (v:Value) (fp:List Nat),bQ w c d v fp→(∀b∈fp,w'.heap[b]? =w.heap[b]?)→bQ w' c d v fp
 | .int _,_,_,_,h,_=>by simpa only[bQ] using h
 | .bool,_,_,_,h,_=>by simpa only[bQ] using h
 | .str,_,_,_,h,_=>by simpa only[bQ] using h
 | .sl e,_,_,_,h,hb=>by
  simp only[bQ] at h ⊢
  obtain⟨rows,a,n,c,hd,hv,hn,hc,hm,⟨h0,rfl⟩ | ⟨hp,b,o,az,ha,cd,hl,rfl,hr⟩⟩:=h
  ·exact⟨rows,a,n,c,hd,hv,hn,hc,hm,.inl ⟨h0,rfl⟩⟩
  ·refine⟨rows,a,n,c,hd,hv,hn,hc,hm,.inr ⟨hp,b,o,az,ha,by omega,hl,rfl,fun i r f hi hf=> ?_⟩⟩
   refine aS.mono hs e r _ _ f (hr i r f hi hf) (fun j=> ?_) (fun x hx=>hb x ?_)
   ·exact (CG (hb b (by simp))).symm ▸ rfl
   ·simp only[List.mem_cons,List.mem_flatten]
    exact .inr ⟨f,List.mem_of_getElem? hf,hx⟩
theorem aS.mono {w w':World} (hs:w.heap.size≤w'.heap.size):∀(cs:List CT) (r:List DC) (f f':Nat→Option Value) (fp:List Nat),aS w cs r f fp→(∀j,f' j=f j)→(∀b∈fp,w'.heap[b]? =w.heap[b]?)→aS w' cs r f' fp
 | [],_,_,_,_,h,_,_=>by simpa only[aS] using h
 | c::cs,_,_,_,_,h,hf,hb=>by
  simp only[aS] at h ⊢
  obtain⟨d,r',v,f1,f2,hr,h0,h1,h2,rfl⟩:=h
  exact⟨d,r',v,f1,f2,hr,(hf 0).trans h0,bQ.mono hs c _ _ _ h1 (fun b hx=>hb b (by simp [hx])),aS.mono hs cs _ _ _ _ h2 (fun j=>hf (j+1)) (fun b hx=>hb b (by simp [hx])),rfl⟩
end
theorem aS.length {w:World} :∀(cs:List CT) (r:List DC) (f:Nat→Option Value) (fp:List Nat),aS w cs r f fp→r.length=cs.length
 | [],_,_,_,h=>by
  simp only[aS] at h
  simp [h.1]
 | c::cs,_,_,_,h=>by
  simp only[aS] at h
  obtain⟨d,r',v,f1,f2,rfl,_,_,h2,_⟩:=h
  simp [aS.length cs _ _ _ h2]
structure Env where
 di:Nat→Nat
 val:Nat→Value
 gr:Nat→Prop
 nb:Nat→List Nat
mutual
def ak (w:World) (av:Nat→Prop) (β:Env):SV→Value→Prop
 | .eY,_=>True
 | .undef,v=>v=undef
 | .kb b,v=>v= .bool b
 | .int k n,v=>v= .int k n∧Be k n=true
 | .bool b,v=>v= .bool b
 | .str s,v=>v= .string ⟨s.toArray⟩∧s.length≤maxLen
 | .sl e r,v=>∃fp,bQ w (.sl e) (.sl r) v fp∧∀b∈fp,¬av b
 | .nil,v=>v= .slice none 0 0
 | .own id,v=>v=β.val id∧v.oneCell'=true
 | .agg cs,v=>∃vs:List Value,v= .agg vs.toArray∧af w av β cs vs∧∀x∈vs,x.oneCell'=true
 | .ptr id off,v=>v= .pointer (some ⟨β.di id,off,none⟩)
 | .gu e r off,v=>∃b o fp,v= .pointer (some ⟨b,o+off,none⟩)∧b<w.heap.size∧¬av b∧aS w e r (fun j=>w.cell? ⟨b,o+j,none⟩) fp∧∀x∈fp,¬av x
 | .dL id i z off,v=>∃g,(β.val id).ownBlock=some g∧v= .pointer (some ⟨g,i*z+off,none⟩)
 | .C9 vs,v=>∃l:List Value,v= .tuple l.toArray∧af w av β vs l
 | .E8 g cs,v=>∃l:List Value,v= .func (.func g) #[] l.toArray∧af w av β cs l
 | .Ge id lo z,v=>∃g n c,β.val id= .slice (some ⟨g,0,none⟩) n c∧lo≤n∧v= .slice (some ⟨g,if lo<c then lo*z else 0,none⟩) (n - lo) (c - lo)
def af (w:World) (av:Nat→Prop) (β:Env):List SV→List Value→Prop
 | [],l=>l=[]
 | s::ss,l=>∃v l',l=v::l'∧ak w av β s v∧af w av β ss l'
end
mutual
theorem ak.mono {w w':World} {av av':Nat→Prop} {β β':Env} (hs:w.heap.size≤w'.heap.size)
  (hw:∀b,b<w.heap.size→¬av b→w'.heap[b]? =w.heap[b]?) (ha:∀b,av' b→av b∨w.heap.size≤b):
  ∀(s:SV) (v:Value),ak w av β s v→(∀i∈bH s,β'.val i=β.val i∧β'.di i=β.di i)→ak w' av' β' s v
 | .eY,_,_,_=>by simp only[ak]
 | .undef,_,h,_=>by simpa only[ak] using h
 | .kb _,_,h,_=>by simpa only[ak] using h
 | .int _ _,_,h,_=>by simpa only[ak] using h
 | .bool _,_,h,_=>by simpa only[ak] using h
 | .str _,_,h,_=>by simpa only[ak] using h
 | .nil,_,h,_=>by simpa only[ak] using h
 | .sl e r,v,h,_=>by
  simp only[ak] at h ⊢
  obtain⟨fp,h1,h2⟩:=h
  have cd:=bQ.lt _ _ _ _ h1
  refine⟨fp,bQ.mono hs _ _ _ _ h1 (fun b hb=>hw b (cd b hb) (h2 b hb)),fun b hb hx=> ?_⟩
  rcases ha b hx with h | h
  ·exact h2 b hb h
  ·have:=cd b hb;omega
 | .own id,_,h,hi=>by
  simp only[ak] at h ⊢
  rw[(hi id (by simp [bH])).1]
  exact h
 | .ptr id _,_,h,hi=>by
  simp only[ak] at h ⊢
  rw[h,(hi id (by simp [bH])).2]
 | .dL id i z off,_,h,hi=>by
  simp only[ak] at h ⊢
  rw[(hi id (by simp [bH])).1]
  exact h
 | .gu e r off,v,h,_=>by
  simp only[ak] at h ⊢
  obtain⟨b,o,fp,rfl,hb,cA,h1,h2⟩:=h
  have cd:=aS.lt _ _ _ _ h1
  have key:∀x,x<w.heap.size→¬av x→¬av' x:=fun x hx hn BM=>by
   rcases ha x BM with h | h
   ·exact hn h
   ·omega
  refine⟨b,o,fp,rfl,by omega,key b hb cA,aS.mono hs _ _ _ _ _ h1 (fun j=>CG (hw b hb cA)) (fun x hx=>hw x (cd x hx) (h2 x hx)),fun x hx=>key x (cd x hx) (h2 x hx)⟩
 | .agg cs,v,h,hi=>by
  simp only[ak] at h ⊢
  obtain⟨vs,rfl,h,h1⟩:=h
  exact⟨vs,rfl,af.mono hs hw ha cs vs h (by simpa [bH] using hi),h1⟩
 | .C9 cs,v,h,hi=>by
  simp only[ak] at h ⊢
  obtain⟨vs,rfl,h⟩:=h
  exact⟨vs,rfl,af.mono hs hw ha cs vs h (by simpa [bH] using hi)⟩
 | .E8 _ cs,v,h,hi=>by
  simp only[ak] at h ⊢
  obtain⟨vs,rfl,h⟩:=h
  exact⟨vs,rfl,af.mono hs hw ha cs vs h (by simpa [bH] using hi)⟩
 | .Ge id _ _,_,h,hi=>by
  simp only[ak] at h ⊢
  rw[(hi id (by simp [bH])).1]
  exact h
theorem af.mono {w w':World} {av av':Nat→Prop} {β β':Env} (hs:w.heap.size≤w'.heap.size)
  (hw:∀b,b<w.heap.size→¬av b→w'.heap[b]? =w.heap[b]?) (ha:∀b,av' b→av b∨w.heap.size≤b):
  ∀(s:List SV) (v:List Value),af w av β s v→(∀i∈bA s,β'.val i=β.val i∧β'.di i=β.di i)→af w' av' β' s v
 | [],_,h,_=>by simpa only[af] using h
 | s::ss,_,h,hi=>by
  simp only[af] at h ⊢
  obtain⟨v,l',rfl,h1,h2⟩:=h
  exact⟨v,l',rfl,ak.mono hs hw ha s v h1 (fun i hx=>hi i (by simp [bA,hx])),af.mono hs hw ha ss l' h2 (fun i hx=>hi i (by simp [bA,hx]))⟩
end
theorem af.length {w:World} {av:Nat→Prop} {β:Env} :∀(s:List SV) (v:List Value),af w av β s v→v.length=s.length
 | [],_,h=>by simp only[af] at h;simp [h]
 | s::ss,_,h=>by
  simp only[af] at h
  obtain⟨v,l',rfl,_,h2⟩:=h
  simp [af.length ss l' h2]
theorem af.get {w:World} {av:Nat→Prop} {β:Env} :∀(ss:List SV) (vs:List Value) (i:Nat) (s:SV),af w av β ss vs→ss[i]? =some s→∃v,vs[i]? =some v∧ak w av β s v
 | [],_,_,_,_,hi=>by simp at hi
 | s::ss,_,i,x,h,hi=>by
  simp only[af] at h
  obtain⟨v,l',rfl,h1,h2⟩:=h
  cases i with
  | zero=>simp at hi;subst hi;exact⟨v,by simp,h1⟩
  | succ i=>simpa using af.get ss l' i x h2 (by simpa using hi)
theorem af.append {w:World} {av:Nat→Prop} {β:Env} :∀(a:List SV) (x:List Value) (b:List SV) (y:List Value),af w av β a x→af w av β b y→af w av β (a++b) (x++y)
 | [],_,_,_,h,h'=>by simp only[af] at h;simpa [h] using h'
 | s::ss,_,_,_,h,h'=>by
  simp only[af] at h
  obtain⟨v,l',rfl,h1,h2⟩:=h
  simp only[List.cons_append,af]
  exact⟨v,_,rfl,h1,af.append ss l' _ _ h2 h'⟩
theorem af.take {w:World} {av:Nat→Prop} {β:Env} :∀(a:List SV) (x:List Value) (n:Nat),af w av β a x→af w av β (a.take n) (x.take n)
 | [],_,n,h=>by simp only[af] at h;simp [h,af]
 | s::ss,_,n,h=>by
  simp only[af] at h
  obtain⟨v,l',rfl,h1,h2⟩:=h
  cases n with
  | zero=>simp [af]
  | succ n=>simp only[List.take_succ_cons,af];exact⟨v,_,rfl,h1,af.take ss l' n h2⟩
theorem af.drop {w:World} {av:Nat→Prop} {β:Env} :∀(a:List SV) (x:List Value) (n:Nat),af w av β a x→af w av β (a.drop n) (x.drop n)
 | [],_,n,h=>by simp only[af] at h;simp [h,af]
 | s::ss,_,n,h=>by
  simp only[af] at h
  obtain⟨v,l',rfl,h1,h2⟩:=h
  cases n with
  | zero=>simp only[List.drop_zero,af];exact⟨v,l',rfl,h1,h2⟩
  | succ n=>simpa using af.drop ss l' n h2
mutual
theorem DS:∀(a b:CT),kg a b=true→a=b
 | .int k,.int k',h=>by simp [kg] at h;rw[h]
 | .bool,.bool,_=>rfl
 | .str,.str,_=>rfl
 | .sl e,.sl e',h=>by simp only[kg] at h;rw[aG e e' h]
 | .int _,.bool,h | .int _,.str,h | .int _,.sl _,h | .bool,.int _,h | .bool,.str,h | .bool,.sl _,h | .str,.int _,h | .str,.bool,h | .str,.sl _,h | .sl _,.int _,h | .sl _,.bool,h | .sl _,.str,h=>by simp [kg] at h
theorem aG:∀(a b:List CT),aC a b=true→a=b
 | [],[],_=>rfl
 | a::l,b::m,h=>by
  simp only[aC,Bool.and_eq_true] at h
  rw[DS a b h.1,aG l m h.2]
 | [],_::_,h | _::_,[],h=>by simp [aC] at h
end
theorem ak.CH {w:World} {av:Nat→Prop} {β:Env} (e:List CT) (v:Value) (h:v= .slice none 0 0):ak w av β (.sl e []) v:=by
 unfold ak
 refine⟨[], ?_,by simp⟩
 unfold bQ
 exact⟨[],none,0,0,rfl,h,rfl,Nat.le_refl _,Nat.zero_le _,.inl ⟨rfl,rfl⟩⟩
mutual
theorem ak.merge {w:World} {av:Nat→Prop} {β:Env} (g:Bool) (a b:SV) (v:Value) (h:ak w av β (bif g then a else b) v):ak w av β (ep g a b) v:=by
 rw[ep.eq_def]
 split
 ·cases g<;>simpa using h
 ·rename_i x y
  cases g<;>cases x<;>cases y<;>simp_all [ak]
 ·cases g<;>simp_all [ak]
 ·cases g<;>simp_all [ak]
 ·cases g<;>simp_all [ak]
 ·rename_i k n k' m
  by_cases hk:k=k'
  ·subst hk;cases g<;>simp_all [ak]
  ·simp [hk,ak]
 ·cases g<;>simp_all [ak]
 ·rename_i e r e' r'
  cases hl:aC e e'
  ·simp [ak]
  ·have:=aG _ _ hl
   subst this
   cases g<;>simpa using h
 ·cases g
  ·exact ak.CH _ _ (by simpa [ak] using h)
  ·simpa using h
 ·cases g
  ·simpa using h
  ·exact ak.CH _ _ (by simpa [ak] using h)
 ·cases g<;>simpa using h
 ·rename_i i j
  cases hl:Nat.beq i j
  ·simp [ak]
  ·have:=Nat.eq_of_beq_eq_true hl
   subst this
   simpa using h
 ·rename_i i o j o'
  cases hl:Nat.beq i j && Nat.beq o o'
  ·simp [ak]
  ·simp only[Bool.and_eq_true] at hl
   have h1:=Nat.eq_of_beq_eq_true hl.1
   have h2:=Nat.eq_of_beq_eq_true hl.2
   subst h1 h2
   simpa using h
 ·rename_i e r o e' r' o'
  cases hl:aC e e' && Nat.beq o o'
  ·simp [ak]
  ·simp only[Bool.and_eq_true] at hl
   have h1:=aG _ _ hl.1
   have h2:=Nat.eq_of_beq_eq_true hl.2
   subst h1 h2
   cases g<;>simpa using h
 ·rename_i i x z o j y z' o'
  cases hl:Nat.beq i j && Nat.beq z z' && Nat.beq o o'
  ·simp [ak]
  ·simp only[Bool.and_eq_true] at hl
   have h1:=Nat.eq_of_beq_eq_true hl.1.1
   have h2:=Nat.eq_of_beq_eq_true hl.1.2
   have h3:=Nat.eq_of_beq_eq_true hl.2
   subst h1 h2 h3
   cases g<;>simpa using h
 ·rename_i l m
  cases hl:Nat.beq l.length m.length
  ·simp [ak]
  ·simp only[cond_true,ak]
   have hlen:=Nat.eq_of_beq_eq_true hl
   cases g
   ·simp only[cond_false,ak] at h
    obtain⟨vs,rfl,h,h1⟩:=h
    exact⟨vs,rfl,af.merge false l m vs hlen h,h1⟩
   ·simp only[cond_true,ak] at h
    obtain⟨vs,rfl,h,h1⟩:=h
    exact⟨vs,rfl,af.merge true l m vs hlen h,h1⟩
 ·rename_i l m
  cases hl:Nat.beq l.length m.length
  ·simp [ak]
  ·simp only[cond_true,ak]
   have hlen:=Nat.eq_of_beq_eq_true hl
   cases g
   ·simp only[cond_false,ak] at h
    obtain⟨vs,rfl,h⟩:=h
    exact⟨vs,rfl,af.merge false l m vs hlen h⟩
   ·simp only[cond_true,ak] at h
    obtain⟨vs,rfl,h⟩:=h
    exact⟨vs,rfl,af.merge true l m vs hlen h⟩
 ·simp only[ak]
termination_by SizeOf.sizeOf a
theorem af.merge {w:World} {av:Nat→Prop} {β:Env} (g:Bool):∀(a b:List SV) (v:List Value),a.length=b.length→af w av β (bif g then a else b) v→af w av β (iQ g a b) v
 | [],[],v,_,h=>by cases g<;>simpa [iQ] using h
 | [],_::_,v,hl,h=>by simp at hl
 | _::_,[],v,hl,h=>by simp at hl
 | a::l,b::m,v,hl,h=>by
  simp only[iQ,af]
  have F0:l.length=m.length:=by simpa using hl
  cases g
  ·simp only[cond_false,af] at h
   obtain⟨x,l',rfl,h1,h2⟩:=h
   exact⟨x,l',rfl,ak.merge false a b x h1,af.merge false l m l' F0 h2⟩
  ·simp only[cond_true,af] at h
   obtain⟨x,l',rfl,h1,h2⟩:=h
   exact⟨x,l',rfl,ak.merge true a b x h1,af.merge true l m l' F0 h2⟩
termination_by a=>SizeOf.sizeOf a
end
end Go.Proofs.YtngbcccnjiaddaaGreat.Vm
namespace Go.Proofs.YtngbcccnjiaddaaGreat.Vm
def bW (w:World) (t size:Nat) (fz:Bool) (v:Value) (n:Nat) (vals:List Value):Prop:=
 vals.length=n*size∧
 ((v= .slice none 0 0∧n=0∧fz=false)∨
  ∃(g cap:Nat) (cur:Array Value),v= .slice (some ⟨g,0,none⟩) n cap∧w.heap[g]? =some (.cells cur t (bif fz then (cur.size,cur.size+1) else (0,0)))∧
   n≤cap∧cap≤maxLen∧cur.size=cap*size∧cur.toList.take (n*size)=vals)
def dC (w:World) (e:List CT) (rows:List (List DC)) (vals:List Value) (az:List (List Nat)):Prop:=
 az.length=rows.length∧∀i r f,rows[i]? =some r→az[i]? =some f→aS w e r (fun j=>vals[i*e.length+j]?) f
def ao (β:Env) (id:Nat):ai→List Nat
 | .box _ _=>[β.di id]
 | .row _ _ _ _ _=>(β.val id).ownBlock.toList
 | .dQ _ _=>[]
 | .deep _ _ _ _ _=>(β.val id).ownBlock.toList++β.nb id
def Jd (w:World) (hv:Option Value) (t:TypeId) (e:List CT) (rows:List (List DC)) (v:Value) (mb:List Nat):Prop:=
 match hv with
 | none=>∃vals az,bW w t e.length false v rows.length vals∧dC w e rows vals az∧mb=v.ownBlock.toList
 | some v0=>v=v0∧v0.oneCell'=true∧mb=[]
def ab (w:World) (hv:Option Value):List CT→List TypeId→List DC→List Value→List Nat→Prop
 | [],ts,ds,us,mb=>ts=[]∧ds=[]∧us=[]∧mb=[]
 | .sl e::cs,ts,ds,us,mb=>∃t dE rows aW v aR m1 gl,ts=t::dE∧ds= .sl rows::aW∧us=v::aR∧al e=true∧Jd w hv t e rows v m1∧ab w hv cs dE aW aR gl∧mb=m1++gl
 | c::cs,ts,ds,us,mb=>∃d aW v aR,ds=d::aW∧us=v::aR∧bQ w c d v []∧ab w hv cs ts aW aR mb
def bB (w:World) (e:List CT) (ts:List TypeId) (rows:List (List DC)) (vals:List Value) (hv:Nat→Option Value) (aN:List (List Nat)):Prop:=
 aN.length=rows.length∧∀i r m,rows[i]? =some r→aN[i]? =some m→ab w (hv i) e ts r ((vals.drop (i*e.length)).take e.length) m
def gK (β:Env):Option (Nat×Nat)→Nat→Option Value
 | none,_=>none
 | some (i,id),j=>if j=i then some (β.val id) else none
def Av (h:Nat→Option ai) (β:Env) (b:Nat):Prop:=(∃id o,h id=some o∧b∈ao β id o)∨β.gr b
def fA (w:World) (av:Nat→Prop) (β:Env) (id:Nat):ai→List Nat→Prop
 | .box t cells,φ=>∃vs:List Value,w.heap[β.di id]? =some (.cells vs.toArray t (0,0))∧af w av β cells vs∧(∀x∈vs,x.oneCell'=true)∧φ=[β.di id]
 | .row t e rows fz u,φ=>∃vals az,bW w t e.length fz (β.val id) rows.length vals∧dC w e rows vals az∧(∀b∈az.flatten,¬av b)∧
   φ=(β.val id).ownBlock.toList++(bif u then az.flatten else [])
 | .dQ e rows,φ=>ak w av β (.sl e rows) (β.val id)∧φ=[]
 | .deep t e ts rows hl,φ=>∃vals aN,bW w t e.length false (β.val id) rows.length vals∧bB w e ts rows vals (gK β hl) aN∧β.nb id=aN.flatten∧φ=(β.val id).ownBlock.toList++aN.flatten
structure Own where
 may:Nat→Prop
 gr:Nat→Prop
 fx:List (Nat×Value)
instance:CoeFun Own (fun _=>Nat→Prop):=⟨Own.may⟩
def Own.none:Own:=⟨fun _=>False,fun _=>False,[]⟩
structure Kept (S:Own) (w0 w:World):Prop where
 os:w.os=w0.os
 tape:w.tape=w0.tape
 output:w.output=w0.output
 size:w0.heap.size≤w.heap.size
 block:∀k,k<w0.heap.size→¬S k→w.heap[k]? =w0.heap[k]?
structure Core (w0:World) (S:Own) (f:Nat→SV) (h:Nat→Option ai) (β:Env) (φ:Nat→List Nat) (tm:Array Value) (w:World):Prop where
 bN:∀i,ak w (Av h β) β (f i) (tm.getD i undef)
 aB:∀id o,h id=some o→fA w (Av h β) β id o (φ id)
 fresh:∀id o,h id=some o→(φ id).Nodup∧∀b∈φ id,(w0.heap.size≤b∨S b)∧b<w.heap.size
 sep:∀i j o p,i≠j→h i=some o→h j=some p→∀b∈φ i,b ∉ φ j
 gr:∀b,β.gr b→b<w0.heap.size∧¬S b
 bars:β.gr=S.gr
theorem dC.lt {w:World} {e:List CT} {rows:List (List DC)} {vals:List Value} {az:List (List Nat)} (h:dC w e rows vals az):∀b∈az.flatten,b<w.heap.size:=by
 intro b hb
 obtain⟨f,hf,hb⟩:=List.mem_flatten.1 hb
 obtain⟨i,hi,rfl⟩:=List.getElem_of_mem hf
 have dD:i<rows.length:=by have:=h.1;omega
 exact aS.lt e _ _ _ (h.2 i rows[i] az[i] (by simp) (by simp)) b hb
theorem dC.mono {w w':World} {e:List CT} {rows:List (List DC)} {vals:List Value} {az:List (List Nat)} (h:dC w e rows vals az) (hs:w.heap.size≤w'.heap.size)
  (hb:∀b∈az.flatten,w'.heap[b]? =w.heap[b]?):dC w' e rows vals az:=
 ⟨h.1,fun i r f hi hf=>aS.mono hs e r _ _ f (h.2 i r f hi hf) (fun _=>rfl) (fun b hx=>hb b (List.mem_flatten.2 ⟨f,List.mem_of_getElem? hf,hx⟩))⟩
theorem bW.mono {w w':World} {t size:Nat} {fz:Bool} {v:Value} {n:Nat} {vals:List Value} (h:bW w t size fz v n vals)
  (hb:∀b∈v.ownBlock.toList,w'.heap[b]? =w.heap[b]?):bW w' t size fz v n vals:=by
 refine⟨h.1, ?_⟩
 rcases h.2 with hn | ⟨g,cap,cur,rfl,hg,rest⟩
 ·exact .inl hn
 ·exact .inr ⟨g,cap,cur,rfl,(hb g (by simp [Value.ownBlock])).trans hg,rest⟩
theorem bW.one {w:World} {t size:Nat} {fz:Bool} {v:Value} {n:Nat} {vals:List Value} (h:bW w t size fz v n vals):v.oneCell'=true:=by
 rcases h.2 with ⟨rfl,_⟩ | ⟨g,cap,cur,rfl,_⟩<;>rfl
theorem bW.lt {w:World} {t size:Nat} {fz:Bool} {v:Value} {n:Nat} {vals:List Value} (h:bW w t size fz v n vals):∀b∈v.ownBlock.toList,b<w.heap.size:=by
 rcases h.2 with ⟨rfl,_⟩ | ⟨g,cap,cur,rfl,hg,_⟩
 ·simp [Value.ownBlock]
 ·intro b hb
  simp [Value.ownBlock] at hb
  subst hb
  exact (Array.getElem?_eq_some_iff.1 hg).1
theorem bW.owns {w:World} {t size:Nat} {v:Value} {n:Nat} {vals:List Value} (h:bW w t size false v n vals):w.ownsRow 0 t size v n vals:=by
 refine⟨h.1, ?_⟩
 rcases h.2 with ⟨hv,hn,_⟩ | ⟨g,cap,cur,hv,hg,rest⟩
 ·exact .inl ⟨hv,hn⟩
 ·exact .inr ⟨g,cap,cur,hv,Nat.zero_le _,by simpa using hg,rest⟩
theorem bW.Hb {w:World} {t size:Nat} {v:Value} {n:Nat} {vals:List Value} {base:Nat} (h:w.ownsRow base t size v n vals):bW w t size false v n vals:=by
 refine⟨h.1, ?_⟩
 rcases h.2 with ⟨hv,hn⟩ | ⟨g,cap,cur,hv,_,hg,rest⟩
 ·exact .inl ⟨hv,hn,rfl⟩
 ·exact .inr ⟨g,cap,cur,hv,by simpa using hg,rest⟩
theorem dC.lG:∀(cs:List CT) (r:List DC) (f:Nat→Option Value) (fp:List Nat) {w:World},al cs=true→aS w cs r f fp→fp=[]
 | [],r,g,fp,w,_,h=>by simp only[aS] at h;exact h.2
 | c::cs,r,g,fp,w,hf,h=>by
  simp only[aS] at h
  obtain⟨d,r',v,f1,f2,rfl,_,h1,h2,rfl⟩:=h
  cases c with
  | sl e=>simp [al] at hf
  | int k=>
   simp only[bQ] at h1
   obtain⟨_,_,_,_,rfl⟩:=h1
   rw[dC.lG cs r' _ f2 (by simpa [al] using hf) h2]
   rfl
  | bool=>
   simp only[bQ] at h1
   obtain⟨_,_,_,rfl⟩:=h1
   rw[dC.lG cs r' _ f2 (by simpa [al] using hf) h2]
   rfl
  | str=>
   simp only[bQ] at h1
   obtain⟨_,_,_,_,rfl⟩:=h1
   rw[dC.lG cs r' _ f2 (by simpa [al] using hf) h2]
   rfl
theorem dC.C2 {w:World} {e:List CT} {rows:List (List DC)} {vals:List Value} {az:List (List Nat)} (hf:al e=true) (h:dC w e rows vals az):az.flatten=[]:=by
 rw[List.flatten_eq_nil_iff]
 intro l hl
 obtain⟨i,hi,rfl⟩:=List.getElem_of_mem hl
 have dD:i<rows.length:=by have:=h.1;omega
 exact dC.lG e _ _ _ hf (h.2 i rows[i] az[i] (by simp) (by simp))
theorem ab.flat {w:World} {hv:Option Value} {c:CT} {cs:List CT} {ts:List TypeId} {ds:List DC} {us:List Value} {mb:List Nat} (hc:al [c]=true):
  ab w hv (c::cs) ts ds us mb=∃d aW v aR,ds=d::aW∧us=v::aR∧bQ w c d v []∧ab w hv cs ts aW aR mb:=by
 cases c with
 | sl e=>simp [al] at hc
 | int k=>simp only[ab]
 | bool=>simp only[ab]
 | str=>simp only[ab]
theorem ab.mono {w w':World} {hv:Option Value} (hs:w.heap.size≤w'.heap.size):∀(cs:List CT) (ts:List TypeId) (ds:List DC) (us:List Value) (mb:List Nat),ab w hv cs ts ds us mb→(∀b∈mb,w'.heap[b]? =w.heap[b]?)→ab w' hv cs ts ds us mb
 | [],_,_,_,_,h,_=>by simpa only[ab] using h
 | .sl e::cs,_,_,_,_,h,hb=>by
  simp only[ab] at h ⊢
  obtain⟨t,dE,rows,aW,v,aR,m1,gl,h1,h2,h3,h4,h5,h6,rfl⟩:=h
  refine⟨t,dE,rows,aW,v,aR,m1,gl,h1,h2,h3,h4, ?_,ab.mono hs cs _ _ _ _ h6 (fun b hx=>hb b (List.mem_append_right _ hx)),rfl⟩
  cases hv with
  | some v0=>exact h5
  | none=>
   obtain⟨vals,az,g1,g2,rfl⟩:=h5
   refine⟨vals,az,g1.mono (fun b hx=>hb b (List.mem_append_left _ hx)),g2.mono hs (fun b hx=> ?_),rfl⟩
   rw[g2.C2 h4] at hx
   simp at hx
 | .int k::cs,_,_,_,_,h,hb=>by
  simp only[ab] at h ⊢
  obtain⟨d,aW,v,aR,h1,h2,h3,h4⟩:=h
  exact⟨d,aW,v,aR,h1,h2,bQ.mono hs _ _ _ _ h3 (by simp),ab.mono hs cs _ _ _ _ h4 hb⟩
 | .bool::cs,_,_,_,_,h,hb=>by
  simp only[ab] at h ⊢
  obtain⟨d,aW,v,aR,h1,h2,h3,h4⟩:=h
  exact⟨d,aW,v,aR,h1,h2,bQ.mono hs _ _ _ _ h3 (by simp),ab.mono hs cs _ _ _ _ h4 hb⟩
 | .str::cs,_,_,_,_,h,hb=>by
  simp only[ab] at h ⊢
  obtain⟨d,aW,v,aR,h1,h2,h3,h4⟩:=h
  exact⟨d,aW,v,aR,h1,h2,bQ.mono hs _ _ _ _ h3 (by simp),ab.mono hs cs _ _ _ _ h4 hb⟩
theorem bB.mono {w w':World} {e:List CT} {ts:List TypeId} {rows:List (List DC)} {vals:List Value} {hv hv':Nat→Option Value} {aN:List (List Nat)} (h:bB w e ts rows vals hv aN) (hs:w.heap.size≤w'.heap.size)
  (hb:∀b∈aN.flatten,w'.heap[b]? =w.heap[b]?) (hh:∀i,hv' i=hv i):bB w' e ts rows vals hv' aN:=
 ⟨h.1,fun i r m hi hm=>by rw[hh];exact ab.mono hs _ _ _ _ _ (h.2 i r m hi hm) (fun b hx=>hb b (List.mem_flatten.2 ⟨m,List.mem_of_getElem? hm,hx⟩))⟩
theorem aj {w:World} {av:Nat→Prop} {β:Env} {id:Nat} {o:ai} {φ:List Nat} (h:fA w av β id o φ):∀b∈ao β id o,b∈φ:=by
 cases o with
 | box t cells=>
  obtain⟨vs,_,_,_,rfl⟩:=h
  simp [ao]
 | row t e rows fz u=>
  obtain⟨vals,az,_,_,_,rfl⟩:=h
  intro b hb
  exact List.mem_append_left _ hb
 | dQ e rows=>simp [ao]
 | deep t e ts rows hl=>
  obtain⟨vals,aN,_,_,hn,rfl⟩:=h
  intro b hb
  simpa only[ao,hn] using hb
theorem fA.mono {w w':World} {av av':Nat→Prop} {β β':Env} {id:Nat} {o:ai} {φ:List Nat} (h:fA w av β id o φ) (hs:w.heap.size≤w'.heap.size)
  (hw:∀b,b<w.heap.size→¬av b→w'.heap[b]? =w.heap[b]?) (ha:∀b,av' b→av b∨w.heap.size≤b)
  (fS:∀i,i=id∨i∈bZ o→β'.val i=β.val i∧β'.di i=β.di i) (ht:∀b∈ao β id o,w'.heap[b]? =w.heap[b]?) (kO:β'.nb id=β.nb id):fA w' av' β' id o φ:=by
 have key:∀x,x<w.heap.size→¬av x→¬av' x:=fun x hx hn BM=>by
  rcases ha x BM with h | h
  ·exact hn h
  ·omega
 have h0:=fS id (.inl rfl)
 cases o with
 | box t cells=>
  obtain⟨vs,h1,h2,h3,rfl⟩:=h
  refine⟨vs, ?_,af.mono hs hw ha _ _ h2 (fun i hi=>fS i (.inr hi)),h3,by rw[h0.2]⟩
  rw[h0.2,ht _ (by simp [ao])]
  exact h1
 | row t e rows fz u=>
  obtain⟨vals,az,h1,h2,h3,rfl⟩:=h
  refine⟨vals,az, ?_,h2.mono hs (fun b hb=>hw b (h2.lt b hb) (h3 b hb)),fun b hb=>key b (h2.lt b hb) (h3 b hb),by rw[h0.1]⟩
  rw[h0.1]
  exact h1.mono ht
 | dQ e rows=>
  obtain⟨h1,rfl⟩:=h
  refine⟨?_,rfl⟩
  rw[h0.1]
  exact ak.mono hs hw ha _ _ h1 (by simp [bH])
 | deep t e ts rows hl=>
  obtain⟨vals,aN,h1,h2,h3,rfl⟩:=h
  refine⟨vals,aN, ?_,h2.mono hs (fun b hb=>ht b ?_) (fun j=> ?_),by rw[kO];exact h3,by rw[h0.1]⟩
  ·rw[h0.1]
   exact h1.mono (fun b hb=>ht b (by simp only[ao];exact List.mem_append_left _ hb))
  ·simp only[ao,h3]
   exact List.mem_append_right _ hb
  ·cases hl with
   | none=>rfl
   | some x=>
    obtain⟨k,nid⟩:=x
    simp only[gK]
    rw[(fS nid (.inr (by simp [bZ]))).1]
theorem Core.mc {w0:World} {S:Own} {f:Nat→SV} {h h':Nat→Option ai} {β β':Env} {φ φ':Nat→List Nat} {tm:Array Value} {w w':World}
  (hc:Core w0 S f h β φ tm w) (X:Nat→Prop)
  (hs:w.heap.size≤w'.heap.size) (hw:∀b,b<w.heap.size→¬Av h β b→w'.heap[b]? =w.heap[b]?) (ha:∀b,Av h' β' b→Av h β b∨w.heap.size≤b)
  (hf:∀i,∀id∈bH (f i),¬X id) (fS:∀id,¬X id→β'.val id=β.val id∧β'.di id=β.di id)
  (hk:∀id o,h' id=some o→
   (¬X id∧h id=some o∧β'.nb id=β.nb id∧φ' id=φ id∧(∀i∈bZ o,¬X i)∧∀b∈ao β id o,w'.heap[b]? =w.heap[b]?)∨
   (fA w' (Av h' β') β' id o (φ' id)∧(φ' id).Nodup∧∀b∈φ' id,(w0.heap.size≤b∨S b)∧b<w'.heap.size))
  (GZ:∀i j o p,i≠j→h' i=some o→h' j=some p→∀b∈φ' i,b ∉ φ' j) (fl:β'.gr=β.gr:=by rfl):Core w0 S f h' β' φ' tm w' where
 bN i:=ak.mono hs hw ha _ _ (hc.bN i) (fun id db=>fS id (hf i id db))
 aB id o ho:=by
  rcases hk id o ho with ⟨hx,h1,hn,h2,h3,h4⟩ | h1
  ·rw[h2]
   exact (hc.aB id o h1).mono hs hw ha (fun i hi=>fS i (hi.elim (fun e=>e ▸ hx) (h3 i))) h4 hn
  ·exact h1.1
 fresh id o ho:=by
  rcases hk id o ho with ⟨hx,h1,hn,h2,h3,h4⟩ | h1
  ·rw[h2]
   refine⟨(hc.fresh id o h1).1,fun b hb=> ?_⟩
   have:=(hc.fresh id o h1).2 b hb
   exact⟨this.1,by omega⟩
  ·exact h1.2
 sep:=GZ
 gr b hb:=hc.gr b (fl ▸ hb)
 bars:=fl.trans hc.bars
theorem Core.step {w0:World} {S:Own} {f:Nat→SV} {h h':Nat→Option ai} {β β':Env} {φ φ':Nat→List Nat} {tm:Array Value} {w w':World}
  (hc:Core w0 S f h β φ tm w) (X:Nat→Prop)
  (hs:w.heap.size≤w'.heap.size) (hw:∀b,b<w.heap.size→¬Av h β b→w'.heap[b]? =w.heap[b]?) (ha:∀b,Av h' β' b→Av h β b∨w.heap.size≤b)
  (hf:∀i,∀id∈bH (f i),¬X id) (fS:∀id,¬X id→β'.val id=β.val id∧β'.di id=β.di id)
  (hk:∀id o,h' id=some o→
   (¬X id∧h id=some o∧φ' id=φ id∧(∀i∈bZ o,¬X i)∧∀b∈ao β id o,w'.heap[b]? =w.heap[b]?)∨
   (fA w' (Av h' β') β' id o (φ' id)∧(φ' id).Nodup∧∀b∈φ' id,(w0.heap.size≤b∨S b)∧b<w'.heap.size))
  (GZ:∀i j o p,i≠j→h' i=some o→h' j=some p→∀b∈φ' i,b ∉ φ' j) (fl:β'.gr=β.gr:=by rfl) (kO:∀id,β'.nb id=β.nb id:=by intro _;rfl):Core w0 S f h' β' φ' tm w':=
 hc.mc X hs hw ha hf fS (fun id o ho=>(hk id o ho).elim (fun h=> .inl ⟨h.1,h.2.1,kO id,h.2.2⟩) .inr) GZ fl
theorem Core.Hv {w0:World} {S:Own} {f:Nat→SV} {h:Nat→Option ai} {β:Env} {φ:Nat→List Nat} {tm:Array Value} {w:World} (hc:Core w0 S f h β φ tm w) (hk:w0.heap.size≤w.heap.size) {b:Nat} (hb:Av h β b):b<w.heap.size:=by
 rcases hb with ⟨j,oj,hj,bn⟩ | hb
 ·exact ((hc.fresh j oj hj).2 b (aj (hc.aB j oj hj) b bn)).2
 ·have:=(hc.gr b hb).1
  omega
theorem Core.C3 {w0:World} {S:Own} {f:Nat→SV} {h:Nat→Option ai} {β:Env} {φ:Nat→List Nat} {tm:Array Value} {w:World} (hc:Core w0 S f h β φ tm w) {j:Nat} {oj:ai} (hj:h j=some oj) {b:Nat} (hb:b∈φ j):¬β.gr b:=by
 intro hx
 have h1:=hc.gr b hx
 rcases ((hc.fresh j oj hj).2 b hb).1 with h2 | h2
 ·omega
 ·exact h1.2 h2
def ay {α:Type} (f:Nat→α) (d:Nat) (x:α):Nat→α:=fun i=>if i=d then x else f i
theorem Core.put {w0:World} {S:Own} {f:Nat→SV} {h:Nat→Option ai} {β:Env} {φ:Nat→List Nat} {tm:Array Value} {w:World}
  (hc:Core w0 S f h β φ tm w) (d:Nat) (s:SV) (v:Value) (hd:d<tm.size) (hv:ak w (Av h β) β s v):Core w0 S (ay f d s) h β φ (tm.setIfInBounds d v) w where
 bN i:=by
  by_cases hi:i=d
  ·subst hi
   simpa [ay,Array.getD,hd] using hv
  ·have:=hc.bN i
   have e:(tm.setIfInBounds d v).getD i undef=tm.getD i undef:=by
    simp only[Array.getD_eq_getD_getElem?,Array.getElem?_setIfInBounds]
    rw[if_neg (fun e=>hi e.symm)]
   rw[e]
   simpa [ay,hi] using this
 aB:=hc.aB
 fresh:=hc.fresh
 sep:=hc.sep
 gr:=hc.gr
 bars:=hc.bars
structure Rel (w0:World) (S:Own) (st:St) (a:Act) (w:World):Prop where
 size:a.tmps.size=st.n % 1099511627776
 fx:∀x∈S.fx,x.1<st.n / 1099511627776∧a.tmps.getD x.1 undef=x.2
 defers:a.defers=[]
 kept:Kept S w0 w
 core:∃β φ,Core w0 S st.get st.obj β φ a.tmps w
def M.val {α:Type} (f:Nat→SV) (h:Nat→Option ai):M α→Option α
 | .pure a=>some a
 | .fail=>none
 | .slot i k=>(k (f i)).val f h
 | .obj i k=>match h i with
  | some x=>(k x).val f h
  | none=>none
theorem M.dP {α:Type} {f:Nat→SV} {h:Nat→Option ai} :∀(m:M α) {a:α} {s o:List Nat},m.run f h=some (a,s,o)→m.val f h=some a
 | .pure a,_,_,_,e=>by simp only[M.run,Option.some.injEq,Prod.mk.injEq] at e;simp [M.val,e.1]
 | .fail,_,_,_,e=>by simp [M.run] at e
 | .slot i k,a,s,o,e=>by
  simp only[M.run] at e
  split at e
  ·rename_i b s' o' hk
   simp only[Option.some.injEq,Prod.mk.injEq] at e
   obtain⟨rfl,_,_⟩:=e
   exact M.dP (k (f i)) hk
  ·cases e
 | .obj i k,a,s,o,e=>by
  simp only[M.run] at e
  split at e
  ·rename_i x hx
   split at e
   ·rename_i b s' o' hk
    simp only[Option.some.injEq,Prod.mk.injEq] at e
    obtain⟨rfl,_,_⟩:=e
    simp only[M.val,hx]
    exact M.dP (k x) hk
   ·cases e
  ·cases e
@[simp] theorem M.ae {α β:Type} {f:Nat→SV} {h:Nat→Option ai} (k:α→M β):∀(m:M α),(m.bind k).val f h=(m.val f h).bind fun a=>(k a).val f h
 | .pure a=>rfl
 | .fail=>rfl
 | .slot i q=>by simp only[M.bind,M.val];exact M.ae k (q (f i))
 | .obj i q=>by
  simp only[M.bind,M.val]
  cases h i with
  | none=>rfl
  | some x=>exact M.ae k (q x)
@[simp] theorem M.aa {α:Type} {f:Nat→SV} {h:Nat→Option ai} (a:α):(M.pure a).val f h=some a:=rfl
@[simp] theorem M.mf {α:Type} {f:Nat→SV} {h:Nat→Option ai} :(M.fail:M α).val f h=none:=rfl
@[simp] theorem M.a7 {α:Type} {f:Nat→SV} {h:Nat→Option ai} (i:Nat) (k:ai→M α):(M.obj i k).val f h=(h i).bind fun x=>(k x).val f h:=by
 simp only[M.val]
 cases h i<;>rfl
@[simp] theorem M.jG {α:Type} {f:Nat→SV} {h:Nat→Option ai} (i:Nat) (k:SV→M α):(M.slot i k).val f h=(k (f i)).val f h:=rfl
def Gq (f:Nat→SV):Operand→SV
 | .tmp t=>f t
 | .const v=>ofConst v
 | _=> .eY
theorem CI {f:Nat→SV} {h:Nat→Option ai} {x:Operand} {s:SV} (e:(bV x).val f h=some s):s=Gq f x:=by
 cases x<;>simp [bV,M.val] at e<;>simp [Gq,e]
theorem iS {w:World} {av:Nat→Prop} {β:Env} (v:Value):ak w av β (ofConst v) v:=by
 unfold ofConst
 split
 ·simp [ak]
 ·rename_i k n
  cases hi:Be k n<;>simp [ak,hi]
 ·rename_i s
  cases hi:Nat.ble s.data.toList.length maxLen
  ·simp [ak]
  ·simp only[cond_true,ak]
   exact⟨by simp,Nat.le_of_ble_eq_true hi⟩
 ·simp [ak]
 ·simp [ak]
theorem Core.ev {w0:World} {S:Own} {f:Nat→SV} {h:Nat→Option ai} {β:Env} {φ:Nat→List Nat} {a:Act} {w:World}
  (hc:Core w0 S f h β φ a.tmps w) {x:Operand} {s:SV} (e:(bV x).val f h=some s):ak w (Av h β) β s (a.eval x):=by
 have:=CI e
 subst this
 cases x with
 | tmp t=>exact hc.bN t
 | const v=>exact iS v
 | global g=>simp [Gq,ak]
 | func g=>simp [Gq,ak]
end Go.Proofs.YtngbcccnjiaddaaGreat.Vm
namespace Go.Proofs.YtngbcccnjiaddaaGreat.Vm
def fo:List (Nat×Option ai)→(Nat→Option ai)→Nat→Option ai
 | [],h=>h
 | (i,x)::l,h=>ay (fo l h) i x
def fc:Option (Nat×Nat×List SV)→(Nat→Option ai)→Nat→Option ai
 | none,h=>h
 | some (i,off,bE),h=>match h i with
  | some (.box t cells)=>ay h i (some (.box t (cr cells off bE)))
  | _=>h
theorem Ap (h:List (Nat×ai)) (i j:Nat):de (FP h i) j=if j=i then none else de h j:=by
 induction h with
 | nil=>simp [FP,de]
 | cons x l ih=>
  obtain⟨k,o⟩:=x
  simp only[FP,de]
  cases hk:Nat.beq k i
  ·simp only[cond_false,de]
   cases hj:Nat.beq k j
   ·simpa using ih
   ·have e1:=Nat.eq_of_beq_eq_true hj
    have e2:=Nat.ne_of_beq_eq_false hk
    subst e1
    simp [e2]
  ·have e1:=Nat.eq_of_beq_eq_true hk
   subst e1
   simp only[cond_true]
   rw[ih]
   by_cases hj:j=k
   ·simp [hj]
   ·have:Nat.beq k j=false:=by
     cases hb:Nat.beq k j
     ·rfl
     ·exact absurd (Nat.eq_of_beq_eq_true hb).symm hj
    simp [hj,this]
theorem Bh (h:List (Nat×ai)) (i j:Nat) (o:ai):de ((i,o)::h) j=if j=i then some o else de h j:=by
 simp only[de]
 cases hk:Nat.beq i j
 ·have e2:=Nat.ne_of_beq_eq_false hk
  rw[if_neg (fun e=>e2 e.symm)]
  rfl
 ·simp [(Nat.eq_of_beq_eq_true hk).symm]
theorem gR (ow:List (Nat×Option ai)) (h:List (Nat×ai)):de (j5 ow h)=fo ow (de h):=by
 induction ow with
 | nil=>rfl
 | cons x l ih=>
  obtain⟨i,o⟩:=x
  funext j
  cases o with
  | none=>simp only[j5,Ap,fo,ay,ih]
  | some o=>
   simp only[j5,Bh,Ap,fo,ay,ih]
   split<;>rfl
theorem Ey (cw:Option (Nat×Nat×List SV)) (h:List (Nat×ai)):de (FH cw h)=fc cw (de h):=by
 cases cw with
 | none=>rfl
 | some x=>
  obtain⟨i,off,bE⟩:=x
  simp only[FH,fc]
  cases hb:de h i with
  | none=>rfl
  | some b=>
   cases b with
   | box t cells=>
    funext j
    simp only[Bh,Ap,ay]
    split<;>rfl
   | row=>rfl
   | dQ=>rfl
   | deep=>rfl
theorem eC (st:St) (d:Option Nat) (e:cB):(st.apply d e).obj=fo e.ow (fc e.cw st.obj):=by
 show de (j5 e.ow (FH e.cw st.hp))=_
 rw[gR,Ey]
 rfl
theorem apply_get (st:St) (d:Nat) (e:cB):(st.apply (some d) e).get=ay st.get d e.sv:=by
 funext i
 show iO ((d,e.sv)::st.sl) i=_
 simp only[iO,ay,St.get]
 cases hk:Nat.beq d i
 ·have e2:=Nat.ne_of_beq_eq_false hk
  rw[if_neg (fun h=>e2 h.symm)]
  rfl
 ·simp [(Nat.eq_of_beq_eq_true hk).symm]
theorem gy (st:St) (e:cB):(st.apply none e).get=st.get:=rfl
def Good (P:Program) (w0:World) (S:Own) (st:St) (o:Oper) (e:cB) (a:Act) (w:World):Prop:=
 ∀Q,o.wp P a w (fun a' w'=>∃v,a'=a.put o.dst v∧Rel w0 S (st.apply o.dst e) a' w') Q
theorem ie {w0:World} {S:Own} {st:St} {o:Oper} {e:cB} {a:Act} {w w':World} {v:Value} (hR:Rel w0 S st a w) (hd:∀d,o.dst=some d→ba st.n d)
  (hk:Kept S w0 w') (hc:∃β φ,Core w0 S st.get (fo e.ow (fc e.cw st.obj)) β φ a.tmps w'∧ak w' (Av (fo e.ow (fc e.cw st.obj)) β) β e.sv v):
  Rel w0 S (st.apply o.dst e) (a.put o.dst v) w':=by
 obtain⟨β,φ,hc,hv⟩:=hc
 cases aJ:o.dst with
 | none=>
  refine⟨hR.size,hR.fx,hR.defers,hk,β,φ, ?_⟩
  rw[eC,gy]
  exact hc
 | some d=>
  refine⟨?_, ?_,hR.defers,hk,β,φ, ?_⟩
  ·simp only[Act.put,Array.size_setIfInBounds]
   exact hR.size
  ·intro x hx
   have h1:=hR.fx x hx
   have h2:=(hd d aJ).2
   refine⟨h1.1, ?_⟩
   simp only[Act.put,Array.getD_eq_getD_getElem?,Array.getElem?_setIfInBounds]
   rw[if_neg (by omega),←Array.getD_eq_getD_getElem?]
   exact h1.2
  ·rw[eC,apply_get]
   exact hc.put d e.sv v (by rw[hR.size];exact (hd d aJ).1) hv
theorem bY {P:Program} {w0:World} {S:Own} {st:St} {o:Oper} {e:cB} {a:Act} {w w':World} {v:Value} (hR:Rel w0 S st a w) (hd:∀d,o.dst=some d→ba st.n d)
  (bj:(execOp a.eval o).run P w= .ok (.value v) w') (hk:Kept S w0 w')
  (hc:∃β φ,Core w0 S st.get (fo e.ow (fc e.cw st.obj)) β φ a.tmps w'∧ak w' (Av (fo e.ow (fc e.cw st.obj)) β) β e.sv v):Good P w0 S st o e a w:=by
 intro Q
 unfold Oper.wp
 rw[bj]
 exact⟨v,rfl,ie hR hd hk hc⟩
theorem hP {P:Program} {w0:World} {S:Own} {st:St} {o:Oper} {e:cB} {a:Act} {w w':World} (hR:Rel w0 S st a w) (hd:∀d,o.dst=some d→ba st.n d)
  (bj:(execOp a.eval o).run P w= .ok .skip w') (hk:Kept S w0 w')
  (hc:∃β φ,Core w0 S st.get (fo e.ow (fc e.cw st.obj)) β φ a.tmps w'∧ak w' (Av (fo e.ow (fc e.cw st.obj)) β) β e.sv undef):Good P w0 S st o e a w:=by
 intro Q
 unfold Oper.wp
 rw[bj]
 exact⟨undef,rfl,ie hR hd hk hc⟩
theorem aq {P:Program} {w0:World} {S:Own} {st:St} {o:Oper} {e:cB} {a:Act} {w:World} (hR:Rel w0 S st a w) (hd:∀d,o.dst=some d→ba st.n d)
  (kn:e.cw=none) (how:e.ow=[])
  (h:∀β φ,Core w0 S st.get st.obj β φ a.tmps w→∃v,(execOp a.eval o).run P w= .ok (.value v) w∧ak w (Av st.obj β) β e.sv v):Good P w0 S st o e a w:=by
 obtain⟨β,φ,hc⟩:=hR.core
 obtain⟨v,bj,hv⟩:=h β φ hc
 refine bY hR hd bj hR.kept ⟨β,φ, ?_, ?_⟩
 ·rw[kn,how];exact hc
 ·rw[kn,how];exact hv
theorem fg {k:IntKind} {n:Int} :Be k n=true↔k.min≤n∧n≤k.max:=by simp [Be]
theorem eJ (k:IntKind) (n:Int):Be k (k.wrap n)=true:=fg.2 (wrap_within k n)
theorem gQ (op:BinOp) (k:IntKind) (x y:Int):Be k (bits op k x y)=true:=fg.2 (bits_within op k x y)
theorem kt (k:IntKind):k.min≤0:=by cases k<;>decide
theorem kG (k:IntKind):0≤k.max:=by cases k<;>decide
theorem AE (x y:Int):(0≤x→0≤x.tmod y∧x.tmod y≤x)∧(x≤0→x≤x.tmod y∧x.tmod y≤0):=by
 have jV:∀z:Int,0≤z→0≤z.tmod y∧z.tmod y≤z:=by
  intro z hz
  refine⟨Int.tmod_nonneg y hz, ?_⟩
  have h:=Int.natAbs_tmod z y
  have h1:z.natAbs % y.natAbs≤z.natAbs:=Nat.mod_le _ _
  have h2:=Int.tmod_nonneg y hz
  omega
 refine⟨jV x,fun hx=> ?_⟩
 have h:=jV (-x) (by omega)
 rw[Int.neg_tmod] at h
 omega
theorem Es {k:IntKind} {x:Int} (y:Int) (h:Be k x=true):Be k (x.tmod y)=true:=by
 rw[fg] at*
 have h0:=kt k
 have h1:=kG k
 have ht:=AE x y
 rcases Int.le_total 0 x with hx | hx
 ·have:=ht.1 hx;omega
 ·have:=ht.2 hx;omega
theorem Ab (x:Int) (n:Nat):(0≤x→0≤x.fdiv (2 ^ n)∧x.fdiv (2 ^ n)≤x)∧(x≤0→x≤x.fdiv (2 ^ n)∧x.fdiv (2 ^ n)≤0):=by
 have hm:(1:Int)≤2 ^ n:=by
  have:0<2 ^ n:=Nat.two_pow_pos n
  have h2:((2 ^ n:Nat):Int)=(2:Int) ^ n:=by simp
  omega
 rw[Int.fdiv_eq_ediv_of_nonneg x (by omega)]
 generalize (2:Int) ^ n=m at hm
 refine⟨fun hx=>⟨Int.ediv_nonneg hx (by omega),Int.ediv_le_self m hx⟩,fun hx=>⟨?_, ?_⟩⟩
 ·rw[Int.le_ediv_iff_mul_le (by omega)]
  have:=Int.mul_le_mul_of_nonpos_left hx hm
  simpa using this
 ·have:=Int.ediv_le_ediv (by omega:(0:Int)<m) hx
  simpa using this
theorem Er {k:IntKind} {x:Int} (n:Nat) (h:Be k x=true):Be k (x.fdiv (2 ^ n))=true:=by
 rw[fg] at*
 have h0:=kt k
 have h1:=kG k
 have ht:=Ab x n
 rcases Int.le_total 0 x with hx | hx
 ·have:=ht.1 hx;omega
 ·have:=ht.2 hx;omega
theorem Dn {P:Program} {w:World} {op:BinOp} {k:IntKind} {x y:Int} {t:TypeId} {s:SV} {c:Bool} (h:Et op k x y=some (s,c)) (hc:c=true) (hx:Be k x=true)
  {av:Nat→Prop} {β:Env} :∃v,(binOp op t (.int k x) (.int k y)).run P w= .ok v w∧ak w av β s v:=by
 unfold Et at h
 split at h<;>simp only[Option.some.injEq,Prod.mk.injEq,reduceCtorEq] at h
 all_goals obtain⟨rfl,Ah⟩:=h
 ·exact⟨_,by simp [binOp,Op.intArith];rfl,by simp [ak,eJ]⟩
 ·exact⟨_,by simp [binOp,Op.intArith];rfl,by simp [ak,eJ]⟩
 ·exact⟨_,by simp [binOp,Op.intArith];rfl,by simp [ak,eJ]⟩
 ·have hy:y≠0:=by rw[←Ah] at hc;simpa using hc
  exact⟨_,by simp [binOp,Op.intDiv,hy];rfl,by simp [ak,eJ]⟩
 ·have hy:y≠0:=by rw[←Ah] at hc;simpa using hc
  exact⟨_,by simp [binOp,Op.intDiv,hy];rfl,by simp [ak,Es y hx]⟩
 ·exact⟨.int k (bits .and k x y),by simp only[binOp,ne_eq,not_true_eq_false,if_false];rfl,by simp [ak,gQ]⟩
 ·exact⟨.int k (bits .or k x y),by simp only[binOp,ne_eq,not_true_eq_false,if_false];rfl,by simp [ak,gQ]⟩
 ·exact⟨.int k (bits .xor k x y),by simp only[binOp,ne_eq,not_true_eq_false,if_false];rfl,by simp [ak,gQ]⟩
 ·exact⟨.int k (bits .andNot k x y),by simp only[binOp,ne_eq,not_true_eq_false,if_false];rfl,by simp [ak,gQ]⟩
 all_goals exact⟨_,by simp [binOp,Op.intCmp];rfl,by simp [ak]⟩
end Go.Proofs.YtngbcccnjiaddaaGreat.Vm
set_option linter.unusedVariables false
set_option linter.unusedSimpArgs false
namespace Go.Proofs.YtngbcccnjiaddaaGreat.Vm
theorem ew {w:World} {av:Nat→Prop} {β:Env} {c:CT} {d:DC} {v:Value} {fp:List Nat} (h:bQ w c d v fp) (ha:∀b∈fp,¬av b):ak w av β (j0 c d) v:=by
 cases c with
 | int k=>
  simp only[bQ] at h
  obtain⟨n,rfl,rfl,hi,_⟩:=h
  simp [j0,DC.asInt,ak,hi]
 | bool=>
  simp only[bQ] at h
  obtain⟨b,rfl,rfl,_⟩:=h
  simp [j0,DC.asBool,ak]
 | str=>
  simp only[bQ] at h
  obtain⟨s,rfl,rfl,hl,_⟩:=h
  simp [j0,DC.FO,ak,hl]
 | sl e=>
  have h':=h
  simp only[bQ] at h
  obtain⟨rows,a,n,cp,rfl,_⟩:=h
  simp only[j0,DC.cX,ak]
  exact⟨fp,h',ha⟩
theorem bQ.one {w:World} {c:CT} {d:DC} {v:Value} {fp:List Nat} (h:bQ w c d v fp):v.oneCell'=true:=by
 cases c with
 | int k=>simp only[bQ] at h;obtain⟨n,_,rfl,_⟩:=h;rfl
 | bool=>simp only[bQ] at h;obtain⟨b,_,rfl,_⟩:=h;rfl
 | str=>simp only[bQ] at h;obtain⟨s,_,rfl,_⟩:=h;rfl
 | sl e=>simp only[bQ] at h;obtain⟨rows,a,n,cp,_,rfl,_⟩:=h;rfl
theorem aS.get {w:World} :∀(cs:List CT) (r:List DC) (f:Nat→Option Value) (fp:List Nat) (i:Nat) (c:CT),aS w cs r f fp→cs[i]? =some c→
  ∃v AY,f i=some v∧bQ w c (r.getD i default) v AY∧∀b∈AY,b∈fp
 | [],_,_,_,_,_,_,hi=>by simp at hi
 | c::cs,_,_,_,i,x,h,hi=>by
  simp only[aS] at h
  obtain⟨d,r',v,f1,f2,rfl,h0,h1,h2,rfl⟩:=h
  cases i with
  | zero=>
   simp at hi
   subst hi
   exact⟨v,f1,h0,by simpa using h1,fun b hb=>by simp [hb]⟩
  | succ i=>
   obtain⟨v',AY,e1,e2,e3⟩:=aS.get cs r' _ f2 i x h2 (by simpa using hi)
   exact⟨v',AY,e1,by simpa using e2,fun b hb=>by simp [e3 b hb]⟩
theorem aS.bE {w:World} {av:Nat→Prop} {β:Env} {cs:List CT} {r:List DC} {f:Nat→Option Value} {fp:List Nat} (h:aS w cs r f fp) (ha:∀b∈fp,¬av b):
  ∀(n k:Nat),k+n≤cs.length→∃vs:List Value,vs.length=n∧(∀j v,vs[j]? =some v→f (k+j)=some v)∧af w av β (bM ((cs.drop k).take n) r k) vs∧∀x∈vs,x.oneCell'=true
 | 0,k,_=>⟨[],rfl,by simp,by simp [bM,af],by simp⟩
 | n+1,k,hk=>by
  have cd:k<cs.length:=by omega
  obtain⟨v,AY,e1,e2,e3⟩:=aS.get cs r f fp k cs[k] h (by simp)
  obtain⟨vs,l1,l2,l3,l4⟩:=aS.bE (β:=β) h ha n (k+1) (by omega)
  refine⟨v::vs,by simp [l1], ?_, ?_, ?_⟩
  ·intro j u hj
   cases j with
   | zero=>simp at hj;subst hj;simpa using e1
   | succ j=>have:=l2 j u (by simpa using hj);rw[←this];congr 1;omega
  ·have:(cs.drop k).take (n+1)=cs[k]::(cs.drop (k+1)).take n:=by
    rw[List.drop_eq_getElem_cons cd,List.take_succ_cons]
   rw[this]
   simp only[bM,af]
   exact⟨v,vs,rfl,ew e2 (fun b hb=>ha b (e3 b hb)),l3⟩
  ·intro x hx
   rcases List.mem_cons.1 hx with rfl | hx
   ·exact e2.one
   ·exact l4 x hx
theorem dj (b o n:Nat):(⟨b,o,none⟩:Addr).add n=⟨b,o+n,none⟩:=by
 unfold Addr.add
 split
 ·rename_i h;subst h;rfl
 ·rfl
theorem ik {P:Program} {w:World} {t:TypeId} {d:TypeDesc} (h:P.underlying t=some d):(isAgg t).run P w= .ok (bh P t) w:=by
 simp only[isAgg,Sem.run_bind,run_underlying h,Result.andThen_ok,bh,h]
 cases d<;>rfl
theorem kq {P:Program} {t:TypeId} (h:bh P t=true):∃d,P.underlying t=some d:=by
 unfold bh at h
 split at h<;>first | exact⟨_,by assumption⟩ | cases h
theorem eR {P:Program} {w:World} {t:TypeId} {i:TypeInfo} {b o:Nat} {vs:List Value} (ha:bh P t=true) (hi:P.info? t=some i)
  (hl:vs.length=i.size) (hc:∀j v,vs[j]? =some v→w.cell? ⟨b,o+j,none⟩=some v):
  (Instr.loadAt t (.pointer (some ⟨b,o,none⟩))).run P w= .ok (.agg vs.toArray) w:=by
 obtain⟨d,hd⟩:=kq ha
 have:=run_loadCells_list (P:=P) (w:=w) ⟨b,o,none⟩ vs (fun j v hj=>by rw[dj];exact hc j v hj)
 rw[hl] at this
 simp only[Instr.loadAt,Instr.sureAddr,loadVar,Sem.run_bind,Sem.run_pure,Result.andThen_ok,ik hd,ha,if_true,sizeOf,typeInfo,run_program,hi,this]
theorem dv {P:Program} {w:World} {t:TypeId} {d:TypeDesc} {b o:Nat} {v:Value} (ha:bh P t=false) (hd:P.underlying t=some d)
  (hc:w.cell? ⟨b,o,none⟩=some v):(Instr.loadAt t (.pointer (some ⟨b,o,none⟩))).run P w= .ok v w:=by
 simp [Instr.loadAt,Instr.sureAddr,loadVar,ik hd,ha,hc]
section
variable {P:Program} {Γ:Ctx} {w0:World} {S:Own} {st:St} {o:Oper} {e:cB} {a:Act} {w:World}
theorem l5 (hR:Rel w0 S st a w) (hd:∀d,o.dst=some d→ba st.n d) {x:Operand} (ho:o.op= .move x∨o.op= .assign x) {s:SV}
  (h1:(bV x).val st.get st.obj=some s) (he:e= {sv:=s}):Good P w0 S st o e a w:=by
 subst he
 refine aq hR hd rfl rfl fun β φ hc=>⟨a.eval x, ?_,hc.ev h1⟩
 rcases ho with ho | ho<;>simp [execOp,ho]
theorem CA (hR:Rel w0 S st a w) (hd:∀d,o.dst=some d→ba st.n d) {c x y:Operand} (ho:o.op= .pick c x y) {sc sx sy:SV}
  (h0:(bV c).val st.get st.obj=some sc) (h1:(bV x).val st.get st.obj=some sx) (h2:(bV y).val st.get st.obj=some sy)
  (he:(match sc with | .kb t=>M.pure ({sv:=bif t then sx else sy} :cB) | .bool g=> .pure {sv:=ep g sx sy} | _=> .fail).val st.get st.obj=some e):Good P w0 S st o e a w:=by
 split at he
 ·rename_i t
  simp only[M.aa,Option.some.injEq] at he
  subst he
  refine aq hR hd rfl rfl fun β φ hc=>⟨if t then a.eval x else a.eval y, ?_, ?_⟩
  ·have hv:=hc.ev h0
   simp only[ak] at hv
   simp [execOp,ho,hv,asBool]
  ·cases t
   ·exact hc.ev h2
   ·exact hc.ev h1
 ·rename_i t
  simp only[M.aa,Option.some.injEq] at he
  subst he
  refine aq hR hd rfl rfl fun β φ hc=>⟨if t then a.eval x else a.eval y, ?_, ?_⟩
  ·have hv:=hc.ev h0
   simp only[ak] at hv
   simp [execOp,ho,hv,asBool]
  ·refine ak.merge _ _ _ _ ?_
   cases t
   ·exact hc.ev h2
   ·exact hc.ev h1
 ·simp at he
theorem ma (hR:Rel w0 S st a w) (hd:∀d,o.dst=some d→ba st.n d) {x:Operand} (ho:o.op= .nilCheck x) {s:SV} (h1:(bV x).val st.get st.obj=some s)
  (he:(match s with | .ptr .. =>M.pure ({sv:=s} :cB) | .gu .. => .pure {sv:=s} | .dL .. => .pure {sv:=s} | _=> .fail).val st.get st.obj=some e):Good P w0 S st o e a w:=by
 split at he
 ·simp only[M.aa,Option.some.injEq] at he
  subst he
  refine aq hR hd rfl rfl fun β φ hc=>⟨a.eval x, ?_,hc.ev h1⟩
  have hv:=hc.ev h1
  simp only[ak] at hv
  simp [execOp,ho,hv]
 ·simp only[M.aa,Option.some.injEq] at he
  subst he
  refine aq hR hd rfl rfl fun β φ hc=>⟨a.eval x, ?_,hc.ev h1⟩
  have hv:=hc.ev h1
  simp only[ak] at hv
  obtain⟨b,o',fp,hv,_⟩:=hv
  simp [execOp,ho,hv]
 ·simp only[M.aa,Option.some.injEq] at he
  subst he
  refine aq hR hd rfl rfl fun β φ hc=>⟨a.eval x, ?_,hc.ev h1⟩
  have hv:=hc.ev h1
  simp only[ak] at hv
  obtain⟨g,_,hv⟩:=hv
  simp [execOp,ho,hv]
 ·simp at he
theorem kT (hR:Rel w0 S st a w) (hd:∀d,o.dst=some d→ba st.n d) {t:TypeId} {x:Operand} {f:Nat} (ho:o.op= .fieldAddr t x f) {fs:Array Field} {fd:Field} {i:TypeInfo}
  (hu:P.underlying t=some (.struct fs)) (hf:fs[f]? =some fd) (hz:aX P fd.type 0=false) (hi:P.info? fd.type=some i) {s:SV} (h1:(bV x).val st.get st.obj=some s)
  (he:(match s with
     | .ptr id off=>M.pure ({sv:= .ptr id (off+fd.offset)} :cB)
     | .gu e r off=> .pure {sv:= .gu e r (off+fd.offset)}
     | .dL id i z off=> .pure {sv:= .dL id i z (off+fd.offset)}
     | _=> .fail).val st.get st.obj=some e):Good P w0 S st o e a w:=by
 have dd:i.size≠0:=by
  simp only[aX,hi] at hz
  exact Nat.ne_of_beq_eq_false hz
 have run:∀b off,a.eval x= .pointer (some ⟨b,off,none⟩)→(execOp a.eval o).run P w= .ok (.value (.pointer (some ⟨b,off+fd.offset,none⟩))) w:=by
  intro b off hv
  simp [execOp,ho,hv,Instr.fieldAt,run_underlying hu,hf,Instr.sureAddr,fieldPlace,sizeOf,typeInfo,hi,dd,dj]
 split at he
 ·simp only[M.aa,Option.some.injEq] at he
  subst he
  refine aq hR hd rfl rfl fun β φ hc=> ?_
  have hv:=hc.ev h1
  simp only[ak] at hv
  exact⟨_,run _ _ hv,by simp [ak]⟩
 ·simp only[M.aa,Option.some.injEq] at he
  subst he
  refine aq hR hd rfl rfl fun β φ hc=> ?_
  have hv:=hc.ev h1
  simp only[ak] at hv
  obtain⟨b,o',fp,hv,cd,cA,hr⟩:=hv
  exact⟨_,run _ _ hv,by simp only[ak];exact⟨b,o',fp,by rw[Nat.add_assoc],cd,cA,hr⟩⟩
 ·simp only[M.aa,Option.some.injEq] at he
  subst he
  refine aq hR hd rfl rfl fun β φ hc=> ?_
  have hv:=hc.ev h1
  simp only[ak] at hv
  obtain⟨g,hg,hv⟩:=hv
  exact⟨_,run _ _ hv,by simp only[ak];exact⟨g,hg,by rw[Nat.add_assoc]⟩⟩
 ·simp at he
theorem mv (hR:Rel w0 S st a w) (hd:∀d,o.dst=some d→ba st.n d) {x:Operand} {i:Nat} (ho:o.op= .extract x i) {vs:List SV} {v:SV}
  (h1:(bV x).val st.get st.obj=some (.C9 vs)) (hv:vs[i]? =some v) (he:e= {sv:=v}):Good P w0 S st o e a w:=by
 subst he
 refine aq hR hd rfl rfl fun β φ hc=> ?_
 have hx:=hc.ev h1
 simp only[ak] at hx
 obtain⟨l,hl,hr⟩:=hx
 obtain⟨u,hu,hs⟩:=af.get _ _ _ _ hr hv
 exact⟨u,by simp [execOp,ho,hl,Instr.extract,hu],hs⟩
theorem gi (s:List UInt8):(⟨s.toArray⟩:ByteArray).toList=s:=by rw[Lib.toList_data]
theorem dz (s:List UInt8):(⟨s.toArray⟩:ByteArray).size=s.length:=by simp [ByteArray.size]
theorem CC (s t:List UInt8):(⟨s.toArray⟩:ByteArray)++(⟨t.toArray⟩:ByteArray)=⟨(s++t).toArray⟩:=by
 apply ByteArray.ext
 simp
theorem jA {t:TypeId} {ty:TypeDesc} {vs:List Value} {off:Nat} {v:Value} (ha:bh P t=false) (hd:P.underlying t=some ty) (hv:vs[off]? =some v):(part t vs.toArray off).run P w= .ok v w:=by
 simp only[part,Sem.run_bind,ik hd,Result.andThen_ok,ha]
 simp [hv]
theorem jz {t:TypeId} {i:TypeInfo} {vs:List Value} {off:Nat} (ha:bh P t=true) (hi:P.info? t=some i):(part t vs.toArray off).run P w= .ok (.agg ((vs.drop off).take i.size).toArray) w:=by
 obtain⟨d,hd⟩:=kq ha
 simp only[part,Sem.run_bind,ik hd,Result.andThen_ok,ha,if_true,sizeOf,typeInfo,run_program,hi,Sem.run_pure]
 simp [List.extract_eq_take_drop]
theorem Db {av:Nat→Prop} {β:Env} {x y:SV} {v u:Value} (hx:ak w av β x v) (hy:ak w av β y u) {t:TypeId} {ty:TypeDesc} (hd:P.underlying t=some ty) (d:Nat) {b:Bool}
  (h:lE ty x y=some b):(Op.equalIn (d+1) t v u).run P w= .ok b w:=by
 unfold lE at h
 split at h
 ·rename_i k0 k a k' c
  by_cases hk:k=k'
  ·subst hk
   simp only[decide_true,cond_true,Option.some.injEq] at h
   simp only[ak] at hx hy
   rw[hx.1,hy.1,run_equalIn_int w d t _ _ _ _ hd,h]
  ·simp [hk] at h
 ·simp only[Option.some.injEq] at h
  simp only[ak] at hx hy
  rw[hx.1,hy.1,run_equalIn_string w d t _ _ hd,gi,gi,h]
 ·simp only[Option.some.injEq] at h
  simp only[ak] at hx hy
  rw[hx,hy,run_equalIn_bool w d t _ _ hd,h]
 ·simp only[Option.some.injEq] at h
  simp only[ak] at hx hy
  rw[hx,hy,run_equalIn_bool w d t _ _ hd,h]
 ·simp only[Option.some.injEq] at h
  simp only[ak] at hx hy
  rw[hx,hy,run_equalIn_bool w d t _ _ hd,h]
 ·cases h
theorem af.jE {av:Nat→Prop} {β:Env} :∀(ss:List SV) (vs:List Value) (k n:Nat),af w av β ss vs→af w av β ((ss.drop k).take n) ((vs.drop k).take n)
 | [],vs,k,n,h=>by
  simp only[af] at h
  subst h
  simp [af]
 | s::ss,vs,k,n,h=>by
  simp only[af] at h
  obtain⟨v,l,rfl,h1,h2⟩:=h
  cases k with
  | succ k=>simpa using af.jE ss l k n h2
  | zero=>
   cases n with
   | zero=>simp [af]
   | succ n=>
    simp only[List.drop_zero,List.take_succ_cons,af]
    exact⟨v,_,rfl,h1,by simpa using af.jE ss l 0 n h2⟩
def Hs (P:Program) (w:World) (av:Nat→Prop) (β:Env) (d:Nat) (eqv:TypeId→List SV→List SV→Option Bool):Prop:=
 ∀(t:TypeId) (xs ys:List SV) (vs us:List Value) (b:Bool),af w av β xs vs→af w av β ys us→eqv t xs ys=some b→
  (bh P t=true→(Op.equalIn d t (.agg vs.toArray) (.agg us.toArray)).run P w= .ok b w)∧
  (bh P t=false→(∃ty,P.underlying t=some ty)∧∀v u,vs=[v]→us=[u]→(Op.equalIn d t v u).run P w= .ok b w)
theorem jc {av:Nat→Prop} {β:Env} {d:Nat} {eqv:TypeId→List SV→List SV→Option Bool} (hq:Hs P w av β d eqv) {xs ys:List SV} {vs us:List Value} (hx:af w av β xs vs) (hy:af w av β ys us):
  ∀(fs:List Field) (b:Bool),fF P eqv xs ys fs=some b→(Op.eqFields d vs.toArray us.toArray fs).run P w= .ok b w
 | [],b,h=>by
  simp only[fF,Option.some.injEq] at h
  subst h
  rfl
 | f::fs,b,h=>by
  unfold fF at h
  cases hn:f.name== "_"
  ·simp only[hn,cond_false] at h
   have H8:f.name≠ "_" :=by simpa using hn
   split at h
   ·rename_i a c h1 h2
    split at h
    ·rename_i e r he hr
     simp only[Option.some.injEq] at h
     have ih:=jc hq hx hy fs r hr
     unfold Op.eqFields
     rw[if_pos H8]
     have key:∃v u:Value,(part f.type vs.toArray f.offset).run P w= .ok v w∧(part f.type us.toArray f.offset).run P w= .ok u w∧(Op.equalIn d f.type v u).run P w= .ok e w:=by
      unfold m8 at h1 h2
      cases ha:bh P f.type
      ·simp only[ha,cond_false] at h1 h2
       split at h1
       ·rename_i s1 g1
        split at h2
        ·rename_i s2 g2
         simp only[Option.some.injEq] at h1 h2
         subst h1
         subst h2
         obtain⟨v1,e1,q1⟩:=af.get _ _ _ _ hx g1
         obtain⟨v2,e2,q2⟩:=af.get _ _ _ _ hy g2
         obtain⟨⟨ty,hu⟩,bj⟩:=(hq f.type [s1] [s2] [v1] [v2] e (by simp [af,q1]) (by simp [af,q2]) he).2 ha
         exact⟨v1,v2,jA ha hu e1,jA ha hu e2,bj _ _ rfl rfl⟩
        ·cases h2
       ·cases h1
      ·simp only[ha,cond_true] at h1 h2
       split at h1
       ·rename_i i hi
        rw[hi] at h2
        simp only[] at h2
        cases Hk:Nat.ble (f.offset+i.size) xs.length
        ·simp [Hk] at h1
        cases iV:Nat.ble (f.offset+i.size) ys.length
        ·simp [iV] at h2
        simp only[Hk,iV,cond_true,Option.some.injEq] at h1 h2
        subst h1
        subst h2
        exact⟨_,_,jz ha hi,jz ha hi,(hq _ _ _ _ _ e (af.jE _ _ _ _ hx) (af.jE _ _ _ _ hy) he).1 ha⟩
       ·cases h1
     obtain⟨v,u,p1,p2,p3⟩:=key
     simp only[Sem.run_bind,p1,p2,p3,Result.andThen_ok]
     subst h
     cases e
     ·simp
     ·simpa using ih
    ·cases h
   ·cases h
  ·simp [hn] at h
theorem AV {av:Nat→Prop} {β:Env} (d:Nat):∀n:Nat,Hs P w av β (d+n) (mF P n)
 | 0=>by
  intro t xs ys vs us b hx hy h
  simp [mF] at h
 | n+1=>by
  intro t xs ys vs us b hx hy h
  have ih:=AV (av:=av) (β:=β) d n
  unfold mF at h
  split at h
  ·rename_i fs hu
   cases hp:P.stoodInHeld t
   ·simp only[hp,cond_false] at h
    have FV:bh P t=true:=by simp [bh,hu]
    have KB:P.fieldsOf t=fs:=by simp [Program.fieldsOf,hu]
    refine⟨fun _=> ?_,fun hf=>by rw[FV] at hf;cases hf⟩
    rw[←Nat.add_assoc,run_equalIn_agg w (d+n) t _ _ (by rw[KB];exact hu) hp,KB]
    exact jc ih hx hy _ _ h
   ·simp [hp] at h
  ·rename_i ty Ma hu
   split at h
   ·rename_i x y
    have BM:=hx
    have Ix:=hy
    simp only[af] at BM Ix
    obtain⟨v,l1,rfl,q1,rfl⟩:=BM
    obtain⟨u,l2,rfl,q2,rfl⟩:=Ix
    refine⟨fun FV=> ?_,fun _=>⟨⟨_,hu⟩, ?_⟩⟩
    ·unfold bh at FV
     rw[hu] at FV
     split at FV
     ·rename_i g _ Cc g2
      simp only[Option.some.injEq] at g2
      subst g2
      simp [lE] at h
     ·rename_i g2
      simp only[Option.some.injEq] at g2
      subst g2
      simp [lE] at h
     ·cases FV
    ·intro v' u' e1 e2
     simp only[List.cons.injEq,and_true] at e1 e2
     subst e1
     subst e2
     rw[←Nat.add_assoc]
     exact Db q1 q2 hu (d+n) h
   ·cases h
  ·cases h
theorem Dq (hR:Rel w0 S st a w) (hd:∀d,o.dst=some d→ba st.n d) {op:BinOp} {t t':TypeId} {x y:Operand} (ho:o.op= .binOp op t x y t') {sx sy:SV}
  (h1:(bV x).val st.get st.obj=some sx) (h2:(bV y).val st.get st.obj=some sy) (he:(Gm P t op sx sy).val st.get st.obj=some e) (aF:e.ok=true):Good P w0 S st o e a w:=by
 have DH:∀b c:Bool,(∀β φ,Core w0 S st.get st.obj β φ a.tmps w→a.eval x= .bool b∧a.eval y= .bool c)→
   ((AQ P t op b c).val st.get st.obj=some e)→Good P w0 S st o e a w:=by
  intro b c Dd he
  unfold AQ at he
  cases ht:Ao P t
  ·simp [ht] at he
  have hu:P.underlying t=some .bool:=by
   unfold Ao at ht
   split at ht
   ·assumption
   ·cases ht
  simp only[ht,cond_true] at he
  split at he
  ·simp only[M.aa,Option.some.injEq] at he
   subst he
   refine aq hR hd rfl rfl fun β φ hc=>⟨_, ?_,by simp [ak];rfl⟩
   have:=Dd β φ hc
   simp [execOp,ho,this.1,this.2,eqGuard,binOp,run_equal_bool w t b c hu]
  ·simp only[M.aa,Option.some.injEq] at he
   subst he
   refine aq hR hd rfl rfl fun β φ hc=>⟨_, ?_,by simp [ak];rfl⟩
   have:=Dd β φ hc
   simp [execOp,ho,this.1,this.2,eqGuard,binOp,run_equal_bool w t b c hu]
  ·simp at he
 unfold Gm at he
 split at he
 ·rename_i k n k' m
  split at he
  ·simp only[M.aa,Option.some.injEq] at he
   subst he
   have hm:0≤m:=by simpa using aF
   refine aq hR hd rfl rfl fun β φ hc=> ?_
   have hx:=hc.ev h1
   have hy:=hc.ev h2
   simp only[ak] at hx hy
   refine⟨_, ?_,by simp only[ak];exact⟨rfl,eJ _ _⟩⟩
   simp [execOp,ho,hx.1,hy.1,eqGuard,binOp,Op.shift,Int.not_lt.2 hm]
  ·simp only[M.aa,Option.some.injEq] at he
   subst he
   have hm:0≤m:=by simpa using aF
   refine aq hR hd rfl rfl fun β φ hc=> ?_
   have hx:=hc.ev h1
   have hy:=hc.ev h2
   simp only[ak] at hx hy
   refine⟨_, ?_,by simp only[ak];exact⟨rfl,Er _ hx.2⟩⟩
   simp [execOp,ho,hx.1,hy.1,eqGuard,binOp,Op.shift,Int.not_lt.2 hm]
  ·by_cases hk:k=k'
   ·subst hk
    simp only[decide_true,cond_true] at he
    split at he
    ·rename_i s c hi
     simp only[M.aa,Option.some.injEq] at he
     subst he
     refine aq hR hd rfl rfl fun β φ hc=> ?_
     have hx:=hc.ev h1
     have hy:=hc.ev h2
     simp only[ak] at hx hy
     obtain⟨v,bj,hs⟩:=Dn (P:=P) (w:=w) (t:=t) (av:=Av st.obj β) (β:=β) hi aF hx.2
     refine⟨v, ?_,hs⟩
     simp [execOp,ho,hx.1,hy.1,eqGuard,bj]
    ·simp at he
   ·simp [hk] at he
 ·rename_i s1 s2
  split at he
  ·simp only[M.aa,Option.some.injEq] at he
   subst he
   have hm:s1.length+s2.length≤9223372036854775807:=by simpa using aF
   refine aq hR hd rfl rfl fun β φ hc=> ?_
   have hx:=hc.ev h1
   have hy:=hc.ev h2
   simp only[ak] at hx hy
   refine⟨.string ⟨(s1++s2).toArray⟩, ?_,by unfold ak;exact⟨rfl,by simp only[List.length_append,maxLen];omega⟩⟩
   have hn:¬(((s1.length+s2.length:Nat):Int)>IntKind.i64.max):=by
    have:IntKind.i64.max=9223372036854775807:=by decide
    omega
   simp only[execOp,ho,hx.1,hy.1,eqGuard,binOp,Op.stringOp,dz,CC]
   rw[if_neg hn]
   rfl
  ·simp only[M.aa,Option.some.injEq] at he
   subst he
   refine aq hR hd rfl rfl fun β φ hc=> ?_
   have hx:=hc.ev h1
   have hy:=hc.ev h2
   simp only[ak] at hx hy
   refine⟨.bool (s1==s2), ?_,by simp [ak]⟩
   simp [execOp,ho,hx.1,hy.1,eqGuard,binOp,Op.stringOp,gi]
  ·simp only[M.aa,Option.some.injEq] at he
   subst he
   refine aq hR hd rfl rfl fun β φ hc=> ?_
   have hx:=hc.ev h1
   have hy:=hc.ev h2
   simp only[ak] at hx hy
   refine⟨.bool (!(s1==s2)), ?_,by simp [ak]⟩
   simp [execOp,ho,hx.1,hy.1,eqGuard,binOp,Op.stringOp,gi]
  ·simp at he
 ·refine DH _ _ (fun β φ hc=> ?_) he
  have hx:=hc.ev h1
  have hy:=hc.ev h2
  simp only[ak] at hx hy
  exact⟨hx,hy⟩
 ·refine DH _ _ (fun β φ hc=> ?_) he
  have hx:=hc.ev h1
  have hy:=hc.ev h2
  simp only[ak] at hx hy
  exact⟨hx,hy⟩
 ·refine DH _ _ (fun β φ hc=> ?_) he
  have hx:=hc.ev h1
  have hy:=hc.ev h2
  simp only[ak] at hx hy
  exact⟨hx,hy⟩
 ·rename_i xs ys
  unfold Hu at he
  split at he
  ·rename_i fs hu
   cases hg:P.eqGuardType P.depth t
   ·simp only[hg,cond_false] at he
    have FV:bh P t=true:=by simp [bh,hu]
    have key:∀b,mF P 8 t xs ys=some b→∀β φ,Core w0 S st.get st.obj β φ a.tmps w→∃vs us:List Value,a.eval x= .agg vs.toArray∧a.eval y= .agg us.toArray∧(Op.equalIn 10000 t (.agg vs.toArray) (.agg us.toArray)).run P w= .ok b w:=by
     intro b hb β φ hc
     have hx:=hc.ev h1
     have hy:=hc.ev h2
     simp only[ak] at hx hy
     obtain⟨vs,e1,s1,_⟩:=hx
     obtain⟨us,e2,s2,_⟩:=hy
     exact⟨vs,us,e1,e2,(AV 9992 8 t xs ys vs us b s1 s2 hb).1 FV⟩
    split at he
    ·rename_i b hb
     simp only[M.aa,Option.some.injEq] at he
     subst he
     refine aq hR hd rfl rfl fun β φ hc=>⟨.bool b, ?_,by simp [ak]⟩
     obtain⟨vs,us,e1,e2,hr⟩:=key b hb β φ hc
     simp only[execOp,ho,e1,e2,Sem.run_bind,run_eqGuard_agg w _ t x y _ _ hg,Result.andThen_ok,run_eql_struct,hr]
     rfl
    ·rename_i b hb
     simp only[M.aa,Option.some.injEq] at he
     subst he
     refine aq hR hd rfl rfl fun β φ hc=>⟨.bool (!b), ?_,by simp [ak]⟩
     obtain⟨vs,us,e1,e2,hr⟩:=key b hb β φ hc
     simp only[execOp,ho,e1,e2,Sem.run_bind,run_eqGuard_agg w _ t x y _ _ hg,Result.andThen_ok,run_neq_struct,hr]
     rfl
    ·simp at he
   ·simp [hg] at he
  ·simp at he
 ·simp at he
theorem EM (hR:Rel w0 S st a w) (hd:∀d,o.dst=some d→ba st.n d) {op:UnOp} {t:TypeId} {x:Operand} (ho:o.op= .unOp op t x) {sx:SV}
  (h1:(bV x).val st.get st.obj=some sx) (he:(Kp op sx).val st.get st.obj=some e):Good P w0 S st o e a w:=by
 unfold Kp at he
 split at he<;>simp only[M.aa,M.mf,Option.some.injEq,reduceCtorEq] at he
 all_goals
  subst he
  refine aq hR hd rfl rfl fun β φ hc=> ?_
  have hx:=hc.ev h1
  simp only[ak] at hx
 ·exact⟨_,by simp [execOp,ho,hx,Op.unary];rfl,by simp [ak]⟩
 ·exact⟨_,by simp [execOp,ho,hx,Op.unary];rfl,by simp [ak]⟩
 ·exact⟨_,by simp [execOp,ho,hx.1,Op.unary,Op.intArith];rfl,by simp only[Int.zero_sub];unfold ak;exact⟨rfl,eJ _ _⟩⟩
 ·refine⟨_,by simp only[execOp,ho,hx.1,Op.unary,intBits_xor];rfl,by unfold ak;exact⟨rfl,gQ _ _ _ _⟩⟩
end
end Go.Proofs.YtngbcccnjiaddaaGreat.Vm
namespace Go.Proofs.YtngbcccnjiaddaaGreat.Vm
theorem ja {w:World} {b o:Nat} {vs:List Value} {t:TypeId} {fz:Nat×Nat} (h:w.heap[b]? =some (.cells vs.toArray t fz)):w.cell? ⟨b,o,none⟩=vs[o]? :=by
 simp [World.cell?,h]
theorem DI {w:World} {b o:Nat} {cur:Array Value} {t:TypeId} {fz:Nat×Nat} (h:w.heap[b]? =some (.cells cur t fz)):w.cell? ⟨b,o,none⟩=cur[o]? :=by
 simp [World.cell?,h]
theorem bW.cell {w:World} {t size:Nat} {fz:Bool} {v:Value} {n:Nat} {vals:List Value} (h:bW w t size fz v n vals) {g j:Nat} {u:Value} (hg:v.ownBlock=some g)
  (hj:vals[j]? =some u):w.cell? ⟨g,j,none⟩=some u:=by
 rcases h.2 with ⟨rfl,_⟩ | ⟨g',cap,cur,rfl,hh,_,_,_,El⟩
 ·simp [Value.ownBlock] at hg
 ·simp [Value.ownBlock] at hg
  subst hg
  rw[DI hh]
  rw[←El,List.getElem?_take] at hj
  split at hj
  ·simpa using hj
  ·cases hj
theorem bW.block {w:World} {t size:Nat} {fz:Bool} {v:Value} {n:Nat} {vals:List Value} (h:bW w t size fz v n vals) (hn:0<n):∃g,v.ownBlock=some g:=by
 rcases h.2 with ⟨rfl,h0,_⟩ | ⟨g',cap,cur,rfl,_⟩
 ·omega
 ·exact⟨g',rfl⟩
theorem cJ {w:World} {e:List CT} {r:List (List DC)} {v:Value} {fp:List Nat} (h:bQ w (.sl e) (.sl r) v fp):
  ∃a n c,v= .slice a n c∧r.length=n∧n≤c∧c≤maxLen∧
   ((n=0∧fp=[])∨(0<n∧∃(b o:Nat) (az:List (List Nat)),a=some ⟨b,o,none⟩∧b<w.heap.size∧az.length=n∧fp=b::az.flatten∧
    ∀i r' f,r[i]? =some r'→az[i]? =some f→aS w e r' (fun j=>w.cell? ⟨b,o+(i*e.length+j),none⟩) f)):=by
 simp only[bQ] at h
 obtain⟨rows,a,n,c,hd,hv,hn,hc,hm,h⟩:=h
 injection hd with hd
 subst hd
 exact⟨a,n,c,hv,hn,hc,hm,h⟩
theorem jB {w:World} {e:List CT} {r:List (List DC)} {fp:List Nat} {a:Option Addr} {n c:Nat} (hn:r.length=n) (hc:n≤c) (hm:c≤maxLen)
  (h:(n=0∧fp=[])∨(0<n∧∃(b o:Nat) (az:List (List Nat)),a=some ⟨b,o,none⟩∧b<w.heap.size∧az.length=n∧fp=b::az.flatten∧
    ∀i r' f,r[i]? =some r'→az[i]? =some f→aS w e r' (fun j=>w.cell? ⟨b,o+(i*e.length+j),none⟩) f)):bQ w (.sl e) (.sl r) (.slice a n c) fp:=by
 unfold bQ
 exact⟨r,a,n,c,rfl,rfl,hn,hc,hm,h⟩
theorem bb {w:World} {av:Nat→Prop} {β:Env} {id t:Nat} {e:List CT} {rows:List (List DC)} {fz u:Bool} {φ:List Nat} (h:fA w av β id (.row t e rows fz u) φ):
  ∃fp,bQ w (.sl e) (.sl rows) (β.val id) fp∧(∀b∈fp,b∈(β.val id).ownBlock.toList∨¬av b)∧(u=true→(∀b∈fp,b∈φ)∧(φ.Nodup→fp.Nodup)):=by
 obtain⟨vals,az,h1,h2,h3,kR⟩:=h
 rcases Nat.eq_zero_or_pos rows.length with h0 | h0
 ·refine⟨[], ?_,by simp,by simp⟩
  rcases h1.2 with ⟨hv,_⟩ | ⟨g,cap,cur,hv,_,hc,hm,_⟩
  ·rw[hv]
   exact jB h0 (Nat.le_refl _) (Nat.zero_le _) (.inl ⟨rfl,rfl⟩)
  ·rw[hv]
   exact jB rfl hc hm (.inl ⟨h0,rfl⟩)
 ·obtain⟨g,hg⟩:=h1.block h0
  have cd:=h1.lt g (by simp [hg])
  have hv:∃cap,β.val id= .slice (some ⟨g,0,none⟩) rows.length cap∧rows.length≤cap∧cap≤maxLen:=by
   rcases h1.2 with ⟨hv,Ld,_⟩ | ⟨g',cap,cur,hv,_,hc,hm,_⟩
   ·omega
   ·have:g'=g:=by simpa [hv,Value.ownBlock] using hg
    subst this
    exact⟨cap,hv,hc,hm⟩
  obtain⟨cap,hv,hc,hm⟩:=hv
  refine⟨g::az.flatten, ?_, ?_, ?_⟩
  ·rw[hv]
   refine jB rfl hc hm (.inr ⟨h0,g,0,az,rfl,cd,h2.1,rfl,fun i r f hi hf=> ?_⟩)
   have hr:=h2.2 i r f hi hf
   refine aS.ju ?_ hr
   intro j u hj
   have:=h1.cell hg hj
   simpa using this
  ·intro b hb
   rcases List.mem_cons.1 hb with rfl | hb
   ·exact .inl (by simp [hg])
   ·exact .inr (h3 b hb)
  ·intro hu
   subst hu
   have:φ=g::az.flatten:=by rw[kR,hg];rfl
   rw[this]
   exact⟨fun b hb=>hb,fun hn=>hn⟩
where
 aS.ju {w:World} {cs:List CT} {r:List DC} {f f':Nat→Option Value} {fp:List Nat} (hf:∀j u,f j=some u→f' j=some u) (h:aS w cs r f fp):aS w cs r f' fp:=by
  induction cs generalizing r f f' fp with
  | nil=>simpa only[aS] using h
  | cons c cs ih=>
   simp only[aS] at h ⊢
   obtain⟨d,r',v,f1,f2,hr,h0,h1,h2,CR⟩:=h
   exact⟨d,r',v,f1,f2,hr,hf 0 v h0,h1,ih (fun j u hj=>hf (j+1) u hj) h2,CR⟩
 aS.iT {w:World} {cs:List CT} {r:List DC} {f f':Nat→Option Value} {fp:List Nat} (hf:∀j u,j<cs.length→f j=some u→f' j=some u) (h:aS w cs r f fp):aS w cs r f' fp:=by
  induction cs generalizing r f f' fp with
  | nil=>simpa only[aS] using h
  | cons c cs ih=>
   simp only[aS] at h ⊢
   obtain⟨d,r',v,f1,f2,hr,h0,h1,h2,CR⟩:=h
   exact⟨d,r',v,f1,f2,hr,hf 0 v (by simp) h0,h1,ih (fun j u hj BL=>hf (j+1) u (by simp;omega) BL) h2,CR⟩
theorem mU {w:World} {t:TypeId} {e:List CT} {rows:List (List DC)} {fz:Bool} {v:Value} {vals:List Value} {az:List (List Nat)} (h1:bW w t e.length fz v rows.length vals) (h2:dC w e rows vals az):
  ∃fp,bQ w (.sl e) (.sl rows) v fp∧fp.Sublist (v.ownBlock.toList++az.flatten):=by
 rcases Nat.eq_zero_or_pos rows.length with h0 | h0
 ·refine⟨[], ?_,List.nil_sublist _⟩
  rcases h1.2 with ⟨hv,_⟩ | ⟨g,cap,cur,hv,_,hc,hm,_⟩
  ·rw[hv]
   exact jB h0 (Nat.le_refl _) (Nat.zero_le _) (.inl ⟨rfl,rfl⟩)
  ·rw[hv]
   exact jB rfl hc hm (.inl ⟨h0,rfl⟩)
 ·obtain⟨g,hg⟩:=h1.block h0
  have cd:=h1.lt g (by simp [hg])
  have hv:∃cap,v= .slice (some ⟨g,0,none⟩) rows.length cap∧rows.length≤cap∧cap≤maxLen:=by
   rcases h1.2 with ⟨hv,Ld,_⟩ | ⟨g',cap,cur,hv,_,hc,hm,_⟩
   ·omega
   ·have:g'=g:=by simpa [hv,Value.ownBlock] using hg
    subst this
    exact⟨cap,hv,hc,hm⟩
  obtain⟨cap,hv,hc,hm⟩:=hv
  refine⟨g::az.flatten, ?_, ?_⟩
  ·rw[hv]
   refine jB rfl hc hm (.inr ⟨h0,g,0,az,rfl,cd,h2.1,rfl,fun i r f hi hf=> ?_⟩)
   refine bb.aS.ju ?_ (h2.2 i r f hi hf)
   intro j u hj
   have:=h1.cell hg hj
   simpa using this
  ·rw[hg]
   exact List.Sublist.refl _
theorem AW (n:Nat) (Q:Nat→List Nat→Prop) (h:∀i,i<n→∃f,Q i f):∃l:List (List Nat),l.length=n∧∀i f,l[i]? =some f→Q i f:=by
 induction n with
 | zero=>exact⟨[],rfl,by simp⟩
 | succ n ih=>
  obtain⟨l,hl,hq⟩:=ih (fun i hi=>h i (by omega))
  obtain⟨f,hf⟩:=h n (by omega)
  refine⟨l++[f],by simp [hl],fun i g hg=> ?_⟩
  rw[List.getElem?_append] at hg
  split at hg
  ·exact hq i g hg
  ·rename_i hi
   have:i - l.length=0:=by
    cases hk:i - l.length with
    | zero=>rfl
    | succ k=>rw[hk] at hg;simp at hg
   rw[this] at hg
   simp only[List.getElem?_cons_zero,Option.some.injEq] at hg
   subst hg
   have:i=n:=by omega
   subst this
   exact hf
theorem kh:∀(l m:List (List Nat)),l.length=m.length→(∀(i:Nat) (f g:List Nat),l[i]? =some f→m[i]? =some g→f.Sublist g)→l.flatten.Sublist m.flatten
 | [],[],_,_=>List.Sublist.refl _
 | [],_::_,h,_=>by simp at h
 | _::_,[],h,_=>by simp at h
 | a::l,b::m,h,hs=>by
  simp only[List.flatten_cons]
  exact (hs 0 a b rfl rfl).append (kh l m (by simpa using h) (fun i f g hf hg=>hs (i+1) f g (by simpa using hf) (by simpa using hg)))
theorem ab.reads {w:World} :∀(cs:List CT) (ts:List TypeId) (ds:List DC) (us:List Value) (mb:List Nat),ab w none cs ts ds us mb→∃fp,aS w cs ds (fun j=>us[j]?) fp∧fp.Sublist mb
 | [],_,_,_,_,h=>by
  simp only[ab] at h
  obtain⟨_,rfl,rfl,rfl⟩:=h
  exact⟨[],by simp [aS],List.Sublist.refl _⟩
 | .sl e::cs,_,_,_,_,h=>by
  simp only[ab] at h
  obtain⟨t,dE,rows,aW,v,aR,m1,gl,rfl,rfl,rfl,hf,⟨vals,az,g1,g2,rfl⟩,h6,rfl⟩:=h
  obtain⟨fp,r1,s1⟩:=mU g1 g2
  rw[g2.C2 hf,List.append_nil] at s1
  obtain⟨iu,r2,s2⟩:=ab.reads cs _ _ _ _ h6
  refine⟨fp++iu, ?_,s1.append s2⟩
  simp only[aS]
  exact⟨_,aW,v,fp,iu,rfl,rfl,r1,by simpa using r2,rfl⟩
 | .int k::cs,_,_,_,_,h=>by
  simp only[ab] at h
  obtain⟨d,aW,v,aR,rfl,rfl,h3,h4⟩:=h
  obtain⟨iu,r2,s2⟩:=ab.reads cs _ _ _ _ h4
  refine⟨iu, ?_,s2⟩
  simp only[aS]
  exact⟨d,aW,v,[],iu,rfl,rfl,h3,by simpa using r2,rfl⟩
 | .bool::cs,_,_,_,_,h=>by
  simp only[ab] at h
  obtain⟨d,aW,v,aR,rfl,rfl,h3,h4⟩:=h
  obtain⟨iu,r2,s2⟩:=ab.reads cs _ _ _ _ h4
  refine⟨iu, ?_,s2⟩
  simp only[aS]
  exact⟨d,aW,v,[],iu,rfl,rfl,h3,by simpa using r2,rfl⟩
 | .str::cs,_,_,_,_,h=>by
  simp only[ab] at h
  obtain⟨d,aW,v,aR,rfl,rfl,h3,h4⟩:=h
  obtain⟨iu,r2,s2⟩:=ab.reads cs _ _ _ _ h4
  refine⟨iu, ?_,s2⟩
  simp only[aS]
  exact⟨d,aW,v,[],iu,rfl,rfl,h3,by simpa using r2,rfl⟩
theorem fy {α:Type} {l:List α} {k n j:Nat} {u:α} (h:((l.drop k).take n)[j]? =some u):l[k+j]? =some u:=by
 rw[List.getElem?_take] at h
 split at h
 ·rwa [List.getElem?_drop] at h
 ·cases h
theorem bB.reads {w:World} {e:List CT} {ts:List TypeId} {rows:List (List DC)} {vals:List Value} {aN:List (List Nat)} (h:bB w e ts rows vals (fun _=>none) aN):
  ∃az,dC w e rows vals az∧az.flatten.Sublist aN.flatten:=by
 obtain⟨az,hl,hf⟩:=AW rows.length (fun i f=>∀r m,rows[i]? =some r→aN[i]? =some m→aS w e r (fun j=>vals[i*e.length+j]?) f∧f.Sublist m) (fun i hi=>by
  have hm:i<aN.length:=by rw[h.1];exact hi
  obtain⟨f,h1,h2⟩:=ab.reads _ _ _ _ _ (h.2 i rows[i] aN[i] (by simp) (by simp))
  refine⟨f,fun r m hr JM=> ?_⟩
  rw[List.getElem?_eq_getElem hi,Option.some.injEq] at hr
  rw[List.getElem?_eq_getElem hm,Option.some.injEq] at JM
  subst hr JM
  exact⟨bb.aS.ju (fun j u hj=>fy hj) h1,h2⟩)
 refine⟨az,⟨hl,fun i r f hr BK=> ?_⟩,kh az aN (by rw[hl,h.1]) (fun i f m BK hm=> ?_)⟩
 ·have hi:i<rows.length:=(List.getElem?_eq_some_iff.1 hr).1
  have hm:i<aN.length:=by rw[h.1];exact hi
  exact (hf i f BK r aN[i] hr (by simp)).1
 ·have hi:i<rows.length:=by rw[←hl];exact (List.getElem?_eq_some_iff.1 BK).1
  exact (hf i f BK rows[i] m (by simp) hm).2
def m5 (o:ai) (e:List CT) (rows:List (List DC)) (u:Bool):Prop:=
 (∃t fz,o= .row t e rows fz u)∨(∃t ts,o= .deep t e ts rows none∧u=true)
theorem mT {w:World} {av:Nat→Prop} {β:Env} {id:Nat} {o:ai} {e:List CT} {rows:List (List DC)} {u:Bool} {φ:List Nat} (h:fA w av β id o φ) (hm:m5 o e rows u):
  ∃fp,bQ w (.sl e) (.sl rows) (β.val id) fp∧(∀b∈fp,b∈ao β id o∨¬av b)∧(u=true→(∀b∈fp,b∈φ)∧(φ.Nodup→fp.Nodup)):=by
 rcases hm with ⟨t,fz,rfl⟩ | ⟨t,ts,rfl,rfl⟩
 ·exact bb h
 ·obtain⟨vals,aN,h1,h2,h3,rfl⟩:=h
  obtain⟨az,h4,h5⟩:=h2.reads
  obtain⟨fp,h6,h7⟩:=mU h1 h4
  have h8:fp.Sublist ((β.val id).ownBlock.toList++aN.flatten):=h7.trans ((List.Sublist.refl _).append h5)
  exact⟨fp,h6,fun b hb=> .inl (by simp only[ao,h3];exact h8.subset hb),fun _=>⟨fun b hb=>h8.subset hb,fun hn=>h8.nodup hn⟩⟩
section
variable {P:Program} {Γ:Ctx} {w0:World} {S:Own} {st:St} {o:Oper} {e:cB} {a:Act} {w:World}
theorem Bt (hR:Rel w0 S st a w) (hd:∀d,o.dst=some d→ba st.n d) {t:TypeId} {x i:Operand} (ho:o.op= .index t x i) {sx si:SV}
  (h1:(bV x).val st.get st.obj=some sx) (h2:(bV i).val st.get st.obj=some si) (he:(Cf P t sx si).val st.get st.obj=some e) (aF:e.ok=true):Good P w0 S st o e a w:=by
 unfold Cf at he
 split at he
 ·rename_i s k n hu
  simp only[M.aa,Option.some.injEq] at he
  subst he
  simp only[Bool.and_eq_true,decide_eq_true_eq] at aF
  obtain⟨GP,I7⟩:=aF
  refine aq hR hd rfl rfl fun β φ hc=> ?_
  have hx:=hc.ev h1
  have hy:=hc.ev h2
  simp only[ak] at hx hy
  have cd:n.toNat<s.length:=by omega
  refine⟨.int .u8 (s.getD n.toNat 0).toNat, ?_, ?_⟩
  ·have mm:(⟨s.toArray⟩:ByteArray)[n.toNat]? =some (s.getD n.toNat 0):=by
    rw[ByteArray.getElem?_lt' _ _ (by rw[dz];exact cd)]
    simp [ByteArray.getElem_eq_getElem_data,List.getD,cd]
   simp [execOp,ho,hx.1,hy.1,Instr.index,asIntOf,run_underlying hu,GP,mm]
  ·unfold ak
   refine⟨rfl, ?_⟩
   have:=(s.getD n.toNat 0).toNat_lt
   rw[fg]
   have h1:IntKind.u8.min=0:=by decide
   have h2:IntKind.u8.max=255:=by decide
   omega
 ·simp at he
theorem jC (hR:Rel w0 S st a w) (hd:∀d,o.dst=some d→ba st.n d) {mx:Bool} {c:Call} {x y:Operand} (ho:o.op= .call c) (hb:c.callee= .builtin (bif mx then .max else .min))
  (hx:c.args= #[x,y]) {sx sy:SV} (h1:(bV x).val st.get st.obj=some sx) (h2:(bV y).val st.get st.obj=some sy) (he:(FD mx sx sy).val st.get st.obj=some e):Good P w0 S st o e a w:=by
 unfold FD at he
 split at he
 ·rename_i k n k' m
  by_cases hk:k=k'
  ·subst hk
   simp only[decide_true,cond_true,M.aa,Option.some.injEq] at he
   subst he
   refine aq hR hd rfl rfl fun β φ hc=> ?_
   have h1:=hc.ev h1
   have h2:=hc.ev h2
   simp only[ak] at h1 h2
   refine⟨.int k (bif mx then (if n<m then m else n) else (if m<n then m else n)), ?_, ?_⟩
   ·cases mx
    ·simp [execOp,ho,resolve,hb,hx,invoke,builtin,h1.1,h2.1,Builtin.min_,Builtin.min2]
    ·simp [execOp,ho,resolve,hb,hx,invoke,builtin,h1.1,h2.1,Builtin.max_,Builtin.max2]
   ·cases mx
    ·unfold ak
     refine⟨rfl, ?_⟩
     simp only[cond_false]
     split
     ·exact h2.2
     ·exact h1.2
    ·unfold ak
     refine⟨rfl, ?_⟩
     simp only[cond_true]
     split
     ·exact h2.2
     ·exact h1.2
  ·simp [hk] at he
 ·simp at he
theorem An {n:Nat} (h:n≤maxLen):Be .i64 (n:Int)=true:=by
 rw[fg]
 have h1:IntKind.i64.min= -9223372036854775808:=by decide
 have h2:IntKind.i64.max=9223372036854775807:=by decide
 simp only[maxLen] at h
 omega
theorem mW (hR:Rel w0 S st a w) (hd:∀d,o.dst=some d→ba st.n d) {c:Call} {x:Operand} {t:TypeId} (ho:o.op= .call c) (hb:c.callee= .builtin .len)
  (hx:c.args= #[x]) (ht:c.argTypes= #[t]) {sx:SV} (h1:(bV x).val st.get st.obj=some sx) (he:(Fy P t sx).val st.get st.obj=some e):Good P w0 S st o e a w:=by
 have Ay:∀(et:TypeId) (n:Nat),P.underlying t=some (.slice et)→n≤maxLen→e= {sv:= .int .i64 n} →
   (∀β φ,Core w0 S st.get st.obj β φ a.tmps w→∃q c,a.eval x= .slice q n c)→Good P w0 S st o e a w:=by
  intro et n hu hn he hv
  subst he
  refine aq hR hd rfl rfl fun β φ hc=> ?_
  obtain⟨q,c',hv⟩:=hv β φ hc
  refine⟨.int .i64 n, ?_,by unfold ak;exact⟨rfl,An hn⟩⟩
  simp [execOp,ho,resolve,hb,hx,ht,invoke,builtin,hv,Builtin.len_,run_underlying hu,goInt]
 unfold Fy at he
 split at he
 ·rename_i s hu
  simp only[M.aa,Option.some.injEq] at he
  subst he
  refine aq hR hd rfl rfl fun β φ hc=> ?_
  have h1:=hc.ev h1
  simp only[ak] at h1
  refine⟨.int .i64 s.length, ?_,by unfold ak;exact⟨rfl,An h1.2⟩⟩
  simp [execOp,ho,resolve,hb,hx,ht,invoke,builtin,h1.1,Builtin.len_,run_underlying hu,goInt,dz]
 ·rename_i et hu
  simp only[M.aa,Option.some.injEq] at he
  refine Ay et 0 hu (Nat.zero_le _) he.symm fun β φ hc=> ?_
  have h1:=hc.ev h1
  simp only[ak] at h1
  exact⟨none,0,h1⟩
 ·rename_i et e' r hu
  simp only[M.aa,Option.some.injEq] at he
  have key:∀β φ,Core w0 S st.get st.obj β φ a.tmps w→∃q c,a.eval x= .slice q r.length c∧r.length≤maxLen:=by
   intro β φ hc
   have h1:=hc.ev h1
   simp only[ak] at h1
   obtain⟨fp,h1,_⟩:=h1
   obtain⟨q,n,c',hv,hn,Ah,hm,_⟩:=cJ h1
   exact⟨q,c',by rw[hn];exact hv,by omega⟩
  obtain⟨β,φ,hc⟩:=hR.core
  obtain⟨_,_,_,hle⟩:=key β φ hc
  exact Ay et r.length hu hle he.symm fun β φ hc=>by
   obtain⟨q,c',hv,_⟩:=key β φ hc
   exact⟨q,c',hv⟩
 ·rename_i et id hu
  simp only[M.a7,Option.bind_eq_some_iff] at he
  obtain⟨ob,aM,he⟩:=he
  split at he
  ·rename_i t' e' r fz u
   simp only[M.aa,Option.some.injEq] at he
   have key:∀β φ,Core w0 S st.get st.obj β φ a.tmps w→∃q c,a.eval x= .slice q r.length c∧r.length≤maxLen:=by
    intro β φ hc
    have h1:=hc.ev h1
    simp only[ak] at h1
    obtain⟨fp,h2,_,_⟩:=bb (hc.aB id _ aM)
    obtain⟨q,n,c',hv,hn,Ah,hm,_⟩:=cJ h2
    exact⟨q,c',by rw[hn,h1.1];exact hv,by omega⟩
   obtain⟨β,φ,hc⟩:=hR.core
   obtain⟨_,_,_,hle⟩:=key β φ hc
   exact Ay et r.length hu hle he.symm fun β φ hc=>by
    obtain⟨q,c',hv,_⟩:=key β φ hc
    exact⟨q,c',hv⟩
  ·rename_i e' r
   simp only[M.aa,Option.some.injEq] at he
   have key:∀β φ,Core w0 S st.get st.obj β φ a.tmps w→∃q c,a.eval x= .slice q r.length c∧r.length≤maxLen:=by
    intro β φ hc
    have h1:=hc.ev h1
    simp only[ak] at h1
    obtain⟨h2,_⟩:=hc.aB id _ aM
    simp only[ak] at h2
    obtain⟨fp,h2,_⟩:=h2
    obtain⟨q,n,c',hv,hn,Ah,hm,_⟩:=cJ h2
    exact⟨q,c',by rw[hn,h1.1];exact hv,by omega⟩
   obtain⟨β,φ,hc⟩:=hR.core
   obtain⟨_,_,_,hle⟩:=key β φ hc
   exact Ay et r.length hu hle he.symm fun β φ hc=>by
    obtain⟨q,c',hv,_⟩:=key β φ hc
    exact⟨q,c',hv⟩
  ·simp at he
 ·simp at he
end
end Go.Proofs.YtngbcccnjiaddaaGreat.Vm
namespace Go.Proofs.YtngbcccnjiaddaaGreat.Vm
section
variable {P:Program} {Γ:Ctx} {w0:World} {S:Own} {st:St} {o:Oper} {e:cB} {a:Act} {w:World}
theorem a9 {t:TypeId} {n:Nat} (h:aX P t n=true):∃i,P.info? t=some i∧i.size=n:=by
 unfold aX at h
 split at h
 ·rename_i i hi
  exact⟨i,hi,Nat.eq_of_beq_eq_true h⟩
 ·cases h
theorem cl {α:Type} {l:List α} {i:Nat} {d:α} (h:i<l.length):l[i]? =some (l.getD i d):=by
 simp [List.getD,h]
theorem gn (hR:Rel w0 S st a w) (hd:∀d,o.dst=some d→ba st.n d) {t:TypeId} {x i:Operand} (ho:o.op= .indexAddr t x i) {sx si:SV}
  (h1:(bV x).val st.get st.obj=some sx) (h2:(bV i).val st.get st.obj=some si) (he:(fZ P t sx si).val st.get st.obj=some e) (aF:e.ok=true):Good P w0 S st o e a w:=by
 unfold fZ at he
 split at he
 ·rename_i et k n hu
  have run:∀(b oo m c:Nat) (i':TypeInfo),P.info? et=some i'→0≤n→n<(m:Int)→a.eval x= .slice (some ⟨b,oo,none⟩) m c→(∃kk,a.eval i= .int kk n)→
    (execOp a.eval o).run P w= .ok (.value (.pointer (some ⟨b,oo+n.toNat*i'.size,none⟩))) w:=by
   rintro b oo m c i' hi h0 hm hx ⟨kk,dD⟩
   simp [execOp,ho,hx,dD,Instr.indexAt,asIntOf,run_underlying hu,h0,hm,sizeOf,typeInfo,hi,dj]
  have dQ:∀(ct:List CT) (r:List (List DC)),aX P et ct.length=true→e= {sv:= .gu ct (r.getD n.toNat []) 0,ok:=decide (0≤n) && decide (n<r.length)} →
    (∀β φ,Core w0 S st.get st.obj β φ a.tmps w→ak w (Av st.obj β) β (.sl ct r) (a.eval x))→Good P w0 S st o e a w:=by
   intro ct r hz he hx
   subst he
   simp only[Bool.and_eq_true,decide_eq_true_eq] at aF
   obtain⟨i',hi,dd⟩:=a9 hz
   refine aq hR hd rfl rfl fun β φ hc=> ?_
   have hx:=hx β φ hc
   have FY:=hc.ev h2
   simp only[ak] at hx FY
   obtain⟨fp,hr,cA⟩:=hx
   obtain⟨q,m,c,hv,hm,_,_,km⟩:=cJ hr
   have jV:0<m:=by omega
   rcases km with ⟨h0,_⟩ | ⟨_,b,oo,az,rfl,cd,hl,rfl,fL⟩
   ·omega
   ·have JL:n.toNat<r.length:=by omega
    refine⟨_,run b oo m c i' hi aF.1 (by omega) hv ⟨k,FY.1⟩, ?_⟩
    have hb:¬Av st.obj β b:=cA b (by simp)
    have hf:az[n.toNat]? =some az[n.toNat]:=by simp
    have:=fL n.toNat (r.getD n.toNat []) az[n.toNat] (cl JL) hf
    simp only[ak]
    refine⟨b,oo+n.toNat*ct.length,az[n.toNat],by rw[dd];rfl,cd,hb, ?_,fun y hy=>cA y ?_⟩
    ·simpa only[Nat.add_assoc] using this
    ·simp only[List.mem_cons,List.mem_flatten]
     exact .inr ⟨_,List.getElem_mem _,hy⟩
  split at he
  ·rename_i ct r
   cases hz:aX P et ct.length
   ·simp [hz] at he
   ·simp only[hz,cond_true,M.aa,Option.some.injEq] at he
    exact dQ ct r hz he.symm fun β φ hc=>hc.ev h1
  ·rename_i id
   simp only[M.a7,Option.bind_eq_some_iff] at he
   obtain⟨ob,aM,he⟩:=he
   split at he
   ·rename_i t' ct r fz u
    cases hz:aX P et ct.length
    ·simp [hz] at he
    ·simp only[hz,cond_true,M.aa,Option.some.injEq] at he
     subst he
     simp only[Bool.and_eq_true,decide_eq_true_eq] at aF
     obtain⟨i',hi,dd⟩:=a9 hz
     refine aq hR hd rfl rfl fun β φ hc=> ?_
     have hx:=hc.ev h1
     have FY:=hc.ev h2
     simp only[ak] at hx FY
     obtain⟨vals,az,a8,_⟩:=hc.aB id _ aM
     rcases a8.2 with ⟨_,h0,_⟩ | ⟨g,cap,cur,hv,_⟩
     ·omega
     ·refine⟨_,run g 0 r.length cap i' hi aF.1 aF.2 (hx.1.trans hv) ⟨k,FY.1⟩, ?_⟩
      simp only[ak]
      exact⟨g,by rw[hv];rfl,by rw[dd];simp⟩
   ·rename_i ct r
    cases hz:aX P et ct.length
    ·simp [hz] at he
    ·simp only[hz,cond_true,M.aa,Option.some.injEq] at he
     refine dQ ct r hz he.symm fun β φ hc=> ?_
     have hx:=hc.ev h1
     simp only[ak] at hx
     rw[hx.1]
     exact (hc.aB id _ aM).1
   ·simp at he
  ·simp at he
 ·simp at he
theorem lZ (hR:Rel w0 S st a w) (hd:∀d,o.dst=some d→ba st.n d) {t:TypeId} {x:Operand} (ho:o.op= .load t x) {sx:SV}
  (h1:(bV x).val st.get st.obj=some sx) (he:(lR P t sx).val st.get st.obj=some e) (aF:e.ok=true):Good P w0 S st o e a w:=by
 unfold lR at he
 split at he
 case h_2=>simp at he
 rename_i td hu
 have agg:∀(b oo:Nat) (vs:List Value) (i:TypeInfo),bh P t=true→P.info? t=some i→vs.length=i.size→(∀j v,vs[j]? =some v→w.cell? ⟨b,oo+j,none⟩=some v)→
   a.eval x= .pointer (some ⟨b,oo,none⟩)→(execOp a.eval o).run P w= .ok (.value (.agg vs.toArray)) w:=by
  intro b oo vs i h2 hi hl hcell hx
  simp [execOp,ho,hx,eR h2 hi hl hcell]
 have one:∀(b oo:Nat) (v:Value),bh P t=false→w.cell? ⟨b,oo,none⟩=some v→a.eval x= .pointer (some ⟨b,oo,none⟩)→(execOp a.eval o).run P w= .ok (.value v) w:=by
  intro b oo v h2 hcell hx
  simp [execOp,ho,hx,dv h2 hu hcell]
 unfold Cg at he
 split at he
 ·rename_i id off
  simp only[M.a7,Option.bind_eq_some_iff] at he
  obtain⟨ob,aM,he⟩:=he
  split at he
  ·rename_i t' cells
   cases ha:bh P t
   ·simp only[ha,cond_false] at he
    split at he
    ·rename_i s hs
     simp only[M.aa,Option.some.injEq] at he
     subst he
     refine aq hR hd rfl rfl fun β φ hc=> ?_
     have hx:=hc.ev h1
     simp only[ak] at hx
     obtain⟨vs,hh,hr,_,_⟩:=hc.aB id _ aM
     obtain⟨v,hv,fY⟩:=af.get _ _ _ _ hr hs
     exact⟨v,one _ _ v ha (by rw[ja hh];exact hv) hx,fY⟩
    ·simp at he
   ·simp only[ha,cond_true] at he
    split at he
    ·rename_i i hi
     cases hz:Nat.ble (off+i.size) cells.length
     ·simp [hz] at he
     ·simp only[hz,cond_true,M.aa,Option.some.injEq] at he
      subst he
      have hle:=Nat.le_of_ble_eq_true hz
      refine aq hR hd rfl rfl fun β φ hc=> ?_
      have hx:=hc.ev h1
      simp only[ak] at hx
      obtain⟨vs,hh,hr,bg,_⟩:=hc.aB id _ aM
      have hlen:=af.length _ _ hr
      refine⟨_,agg _ off ((vs.drop off).take i.size) i ha hi (by simp;omega) (fun j v hj=> ?_) hx, ?_⟩
      ·rw[ja hh]
       rw[List.getElem?_take] at hj
       split at hj
       ·simpa using hj
       ·cases hj
      ·simp only[ak]
       exact⟨_,rfl,af.take _ _ _ (af.drop _ _ _ hr),fun y hy=>bg y (List.mem_of_mem_drop (List.mem_of_mem_take hy))⟩
    ·simp at he
  ·simp at he
 ·rename_i ct row off
  cases ha:bh P t
  ·simp only[ha,cond_false] at he
   split at he
   ·rename_i c Ah
    simp only[M.aa,Option.some.injEq] at he
    subst he
    refine aq hR hd rfl rfl fun β φ hc=> ?_
    have hx:=hc.ev h1
    simp only[ak] at hx
    obtain⟨b,oo,fp,hv,_,_,hr,cA⟩:=hx
    obtain⟨v,AY,e1,e2,e3⟩:=aS.get _ _ _ _ _ _ hr Ah
    exact⟨v,one _ _ v ha e1 hv,ew e2 (fun y hy=>cA y (e3 y hy))⟩
   ·simp at he
  ·simp only[ha,cond_true] at he
   split at he
   ·rename_i i hi
    cases hz:Nat.ble (off+i.size) ct.length
    ·simp [hz] at he
    ·simp only[hz,cond_true,M.aa,Option.some.injEq] at he
     subst he
     have hle:=Nat.le_of_ble_eq_true hz
     refine aq hR hd rfl rfl fun β φ hc=> ?_
     have hx:=hc.ev h1
     simp only[ak] at hx
     obtain⟨b,oo,fp,hv,_,_,hr,cA⟩:=hx
     obtain⟨vs,l1,l2,l3,l4⟩:=aS.bE (β:=β) hr cA i.size off hle
     refine⟨_,agg b (oo+off) vs i ha hi l1 (fun j v hj=> ?_) hv, ?_⟩
     ·have:=l2 j v hj
      rw[←this,Nat.add_assoc]
     ·simp only[ak]
      exact⟨vs,rfl,l3,l4⟩
   ·simp at he
 ·rename_i id i z off
  simp only[M.a7,Option.bind_eq_some_iff] at he
  obtain⟨ob,aM,he⟩:=he
  split at he
  ·rename_i t' ct rows fz u
   cases hz:Nat.beq z ct.length
   ·simp [hz] at he
   have Iy:=Nat.eq_of_beq_eq_true hz
   simp only[hz,Bool.not_true,cond_false] at he
   have reads:∀β φ,Core w0 S st.get st.obj β φ a.tmps w→i<rows.length→∃g fp,a.eval x= .pointer (some ⟨g,i*ct.length+off,none⟩)∧
     aS w ct (rows.getD i []) (fun j=>w.cell? ⟨g,i*ct.length+j,none⟩) fp∧∀y∈fp,¬Av st.obj β y:=by
    intro β φ hc hi
    have hx:=hc.ev h1
    simp only[ak] at hx
    obtain⟨g,hg,hv⟩:=hx
    obtain⟨vals,az,a8,cT,cA,_⟩:=hc.aB id _ aM
    have hf:i<az.length:=by rw[cT.1];exact hi
    have:=cT.2 i (rows.getD i []) az[i] (cl hi) (by simp)
    refine⟨g,az[i],by rw[hv,Iy],bb.aS.ju (fun j v hj=>a8.cell hg hj) this,fun y hy=>cA y ?_⟩
    exact List.mem_flatten.2 ⟨_,List.getElem_mem _,hy⟩
   cases ha:bh P t
   ·simp only[ha,cond_false] at he
    split at he
    ·rename_i c Ah
     simp only[M.aa,Option.some.injEq] at he
     subst he
     have hi:i<rows.length:=by simpa using aF
     refine aq hR hd rfl rfl fun β φ hc=> ?_
     obtain⟨g,fp,hv,hr,cA⟩:=reads β φ hc hi
     obtain⟨v,AY,e1,e2,e3⟩:=aS.get _ _ _ _ _ _ hr Ah
     exact⟨v,one _ _ v ha e1 hv,ew e2 (fun y hy=>cA y (e3 y hy))⟩
    ·simp at he
   ·simp only[ha,cond_true] at he
    split at he
    ·rename_i j hj
     cases hz:Nat.ble (off+j.size) ct.length
     ·simp [hz] at he
     ·simp only[hz,cond_true,M.aa,Option.some.injEq] at he
      subst he
      have hi:i<rows.length:=by simpa using aF
      have hle:=Nat.le_of_ble_eq_true hz
      refine aq hR hd rfl rfl fun β φ hc=> ?_
      obtain⟨g,fp,hv,hr,cA⟩:=reads β φ hc hi
      obtain⟨vs,l1,l2,l3,l4⟩:=aS.bE (β:=β) hr cA j.size off hle
      refine⟨_,agg g (i*ct.length+off) vs j ha hj l1 (fun k v hk=> ?_) hv, ?_⟩
      ·have:=l2 k v hk
       rw[←this,Nat.add_assoc]
      ·simp only[ak]
       exact⟨vs,rfl,l3,l4⟩
    ·simp at he
  ·simp at he
 ·simp at he
end
end Go.Proofs.YtngbcccnjiaddaaGreat.Vm
