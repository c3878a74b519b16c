/- The value machine: definitions, the relation to the model, plain operations. Conditions: as each lemma says. -/
import Derived.WalkKit
import Derived.Maps.AppendAt
import Derived.Orders
import Derived.Lib.Strings
namespace Go.Proofs.YtnlkklmcfafgeaaGreat.Vm
theorem aj {α:Sort _} (a b:α):cond true a b=a:=rfl
theorem aQ {α:Sort _} (a b:α):cond false a b=b:=rfl
theorem aw (a b:Bool):((a && b)=true)=(a=true∧b=true):=Bool.and_eq_true a b
theorem aa {α:Type _} (a b:α):(some a=some b)=(a=b):=Option.some.injEq a b
theorem af {α:Type _} {β:Type _} {b:β} {o:Option α} {f:α→Option β} :o.bind f=some b↔∃a,o=some a∧f a=some b:=Option.bind_eq_some_iff
theorem eX {p:Prop} [Decidable p]:(decide p=true)=p:=decide_eq_true_eq
theorem Lu {p:Prop} [Decidable p] (h:p):decide p=true:=decide_eq_true h
theorem Lt {p:Prop} [Decidable p] (h:¬p):decide p=false:=decide_eq_false h
theorem J6 (n:Nat):(n:Int).toNat=n:=Int.toNat_natCast n
theorem aM {a b:Nat} (h:Nat.beq a b=true):a=b:=Nat.eq_of_beq_eq_true h
theorem aK {α:Type _} {a:α} (as:List α) {bs:List α} (h:a∈bs):a∈as++bs:=List.mem_append_right as h
theorem aT {α:Type _} {a:α} {as:List α} (bs:List α) (h:a∈as):a∈as++bs:=List.mem_append_left bs h
theorem fv {α:Type _} {as bs:List α} :(as++bs).length=as.length+bs.length:=List.length_append
theorem dx {α:Type _} {a:α} {as:List α} :(a::as).length=as.length+1:=rfl
inductive CT where
 | int (k:IntKind)
 | bool
 | str
 | sl (e:List CT)
inductive DC where
 | int (n:Int)
 | bool (b:Bool)
 | str (s:List UInt8)
 | sl (rows:List (List DC))
instance:Inhabited DC:=⟨.int 0⟩
def Ed (x y:Bool):Bool:=bif y then x else false
theorem gy (x y:Bool):(Ed x y=true)=(x=true∧y=true):=by cases x<;>cases y<;>simp [Ed]
def DC.asInt:DC→Int
 | .int n=>n
 | _=>0
def DC.asBool:DC→Bool
 | .bool b=>b
 | _=>false
def DC.Gt:DC→List UInt8
 | .str s=>s
 | _=>[]
def DC.cV:DC→List (List DC)
 | .sl r=>r
 | _=>[]
inductive SV where
 | fG
 | undef
 | kb (b:Bool)
 | int (k:IntKind) (n:Int)
 | bool (b:Bool)
 | str (s:List UInt8)
 | sl (e:List CT) (rows:List (List DC))
 | nil
 | own (id:Nat)
 | agg (cs:List SV)
 | ptr (id off:Nat)
 | gS (e:List CT) (row:List DC) (off:Nat)
 | ey (id i sz off:Nat)
 | DA (vs:List SV)
 | FT (g:Nat) (cs:List SV)
 | FO (id lo z:Nat)
instance:Inhabited SV:=⟨.fG⟩
inductive ao where
 | box (t:TypeId) (cells:List SV)
 | row (t:TypeId) (e:List CT) (rows:List (List DC)) (fz u:Bool)
 | ef (e:List CT) (rows:List (List DC))
 | deep (t:TypeId) (e:List CT) (ts:List TypeId) (rows:List (List DC)) (hl:Option (Nat×Nat))
mutual
def kO:CT→CT→Bool
 | .int k,.int k'=>decide (k=k')
 | .bool,.bool=>true
 | .str,.str=>true
 | .sl e,.sl e'=>aL e e'
 | _,_=>false
def aL:List CT→List CT→Bool
 | [],[]=>true
 | a::l,b::m=>kO a b && aL l m
 | _,_=>false
end
def fM (P:Program):Nat→TypeId→Option (List CT)
 | 0,_=>none
 | n+1,t=>
  match P.underlying t with
  | some .bool=>some [.bool]
  | some (.int k)=>some [.int k]
  | some .string=>some [.str]
  | some (.slice e)=>match fM P n e with | some l=>some [.sl l] | none=>none
  | some (.struct fs)=>fs.toList.foldr (fun f r=>match fM P n f.type,r with | some l,some m=>some (l++m) | _,_=>none) (some [])
  | _=>none
def bB (P:Program) (t:TypeId):Bool:=
 match P.underlying t with
 | some (.struct _)=>true
 | some (.array _ _)=>true
 | _=>false
def BS (k:IntKind) (n:Int):Bool:=decide (k.min≤n) && decide (n≤k.max)
def ofConst:Value→SV
 | .bool b=> .kb b
 | .int k n=>bif BS k n then .int k n else .fG
 | .string s=>bif Nat.ble s.data.toList.length maxLen then .str s.data.toList else .fG
 | .slice none 0 0=> .nil
 | _=> .fG
def iT:CT→DC→SV
 | .int k,d=> .int k d.asInt
 | .bool,d=> .bool d.asBool
 | .str,d=> .str d.Gt
 | .sl e,d=> .sl e d.cV
def cr:List CT→List DC→Nat→List SV
 | [],_,_=>[]
 | c::cs,ds,k=>iT c (ds.getD k default)::cr cs ds (k+1)
inductive M (α:Type) where
 | pure (a:α)
 | fail
 | slot (i:Nat) (k:SV→M α)
 | obj (id:Nat) (k:ao→M α)
def M.bind {α β:Type} :M α→(α→M β)→M β
 | .pure a,f=>f a
 | .fail,_=> .fail
 | .slot i k,f=> .slot i fun s=>(k s).bind f
 | .obj i k,f=> .obj i fun s=>(k s).bind f
instance:Monad M where
 pure:=M.pure
 bind:=M.bind
structure cS where
 sv:SV
 cw:Option (Nat×Nat×List SV):=none
 ow:List (Nat×Option ao):=[]
 ok:Bool:=true
structure AK where
 bI:List CT
 agg:Bool
inductive RC where
 | ef (ct:CT)
 | own (t:TypeId) (e:List CT)
 | deep (t:TypeId) (e:List CT) (ts:List TypeId)
structure RK where
 cells:List RC
 agg:Bool
inductive TT where
 | flat (t:TypeId)
 | deep (t:TypeId) (its:List TypeId)
inductive MK where
 | box (t:TypeId)
 | rows (ts:List TT)
 | jD (ts:List TT)
 | cP (t:TypeId) (ts:List TT)
def eU (t:TT) (e:List CT) (rows:List (List DC)):ao:=
 match t with
 | .flat t=> .row t e rows false true
 | .deep t its=> .deep t e its rows none
def ff:List (Option MK)→Bool
 | []=>true
 | some (.box _)::_=>false
 | _::l=>ff l
structure Sum where
 ps:List AK
 rs:List RK
 fn:List DC→Bool×List DC
 ms:List (Option MK):=[]
 pt:Option (TypeId×List CT):=none
 G6:Bool:=false
abbrev Ctx:=List (Nat×Sum)
def Ge:Ctx→Nat→Option Sum
 | [],_=>none
 | (k,s)::l,i=>bif Nat.beq k i then some s else Ge l i
def cm:Operand→M SV
 | .tmp t=> .slot t .pure
 | .const v=> .pure (ofConst v)
 | _=> .fail
def DG:List Operand→M (List SV)
 | []=> .pure []
 | x::l=>(cm x).bind fun s=>(DG l).bind fun r=> .pure (s::r)
def aG:SV→M (List SV)
 | .agg cs=> .pure cs
 | .fG=> .fail
 | .undef=> .fail
 | .DA _=> .fail
 | .FT _ _=> .fail
 | .FO _ _ _=> .fail
 | s=> .pure [s]
mutual
def eI (g:Bool):SV→SV→SV
 | .undef,.undef=> .undef
 | .kb x,.kb y=>bif x==y then .kb x else .bool (bif x then g else !g)
 | .kb x,.bool y=> .bool (bif g then x else y)
 | .bool x,.kb y=> .bool (bif g then x else y)
 | .bool x,.bool y=> .bool (bif g then x else y)
 | .int k n,.int k' m=>bif decide (k=k') then .int k (bif g then n else m) else .fG
 | .str n,.str m=> .str (bif g then n else m)
 | .sl e r,.sl e' r'=>bif aL e e' then .sl e (bif g then r else r') else .fG
 | .sl e r,.nil=> .sl e (bif g then r else [])
 | .nil,.sl e r=> .sl e (bif g then [] else r)
 | .nil,.nil=> .nil
 | .own i,.own j=>bif Nat.beq i j then .own i else .fG
 | .ptr i o,.ptr j o'=>bif Nat.beq i j && Nat.beq o o' then .ptr i o else .fG
 | .gS e r o,.gS e' r' o'=>bif aL e e' && Nat.beq o o' then .gS e (bif g then r else r') o else .fG
 | .ey i x z o,.ey j y z' o'=>bif Nat.beq i j && Nat.beq z z' && Nat.beq o o' then .ey i (bif g then x else y) z o else .fG
 | .agg l,.agg m=>bif Nat.beq l.length m.length then .agg (jk g l m) else .fG
 | .DA l,.DA m=>bif Nat.beq l.length m.length then .DA (jk g l m) else .fG
 | _,_=> .fG
def jk (g:Bool):List SV→List SV→List SV
 | a::l,b::m=>eI g a b::jk g l m
 | _,_=>[]
end
abbrev fg:=List (Nat×List CT×List (List DC)×Bool)
def eV (ct:CT):SV→M (DC×fg×Bool)
 | .int k n=>match ct with | .int k'=>bif decide (k=k') then .pure (.int n,[],true) else .fail | _=> .fail
 | .kb b=>match ct with | .bool=> .pure (.bool b,[],true) | _=> .fail
 | .bool b=>match ct with | .bool=> .pure (.bool b,[],true) | _=> .fail
 | .str s=>match ct with | .str=> .pure (.str s,[],true) | _=> .fail
 | .sl e r=>match ct with | .sl e'=>bif aL e e' then .pure (.sl r,[],false) else .fail | _=> .fail
 | .nil=>match ct with | .sl _=> .pure (.sl [],[],true) | _=> .fail
 | .own id=>match ct with
  | .sl e'=> .obj id fun
   | .row _ e r _ u=>bif aL e e' then .pure (.sl r,[(id,e,r,u)],u) else .fail
   | .ef e r=>bif aL e e' then .pure (.sl r,[],false) else .fail
   | .deep _ e _ r none=>bif aL e e' then .pure (.sl r,[(id,e,r,true)],true) else .fail
   | _=> .fail
  | _=> .fail
 | _=> .fail
def cq:List CT→List SV→M (List DC×fg×Bool)
 | [],[]=> .pure ([],[],true)
 | c::cs,s::ss=>(eV c s).bind fun d=>(cq cs ss).bind fun r=> .pure (d.1::r.1,d.2.1++r.2.1,d.2.2 && r.2.2)
 | _,_=> .fail
def ax:List CT→Bool
 | []=>true
 | .sl _::_=>false
 | _::l=>ax l
def aJ:List CT→Nat
 | []=>0
 | .sl _::l=>aJ l+1
 | _::l=>aJ l
def fR:List TypeId→List TypeId→Bool
 | [],[]=>true
 | a::l,b::m=>Nat.beq a b && fR l m
 | _,_=>false
theorem gr:∀(a b:List TypeId),fR a b=true→a=b
 | [],[],_=>rfl
 | a::l,b::m,h=>by
  simp only[fR,aw] at h
  rw[aM h.1,gr l m h.2]
 | [],_::_,h=>by simp [fR] at h
 | _::_,[],h=>by simp [fR] at h
def Gr (P:Program):Nat→TypeId→Option (List TypeId)
 | 0,_=>none
 | n+1,t=>
  match P.underlying t with
  | some (.slice e)=>some [e]
  | some (.struct fs)=>fs.toList.foldr (fun f r=>match Gr P n f.type,r with | some l,some m=>some (l++m) | _,_=>none) (some [])
  | some _=>some []
  | none=>none
def bb (P:Program) (t:TypeId) (n:Nat):Bool:=
 match P.info? t with
 | some i=>Nat.beq i.size n
 | none=>false
def fD (P:Program) (t:TypeId) (n:Nat):Bool:=
 match P.info? t with
 | some i=>decide (n*i.bytes≤140737488355328) && decide (n≤9223372036854775807)
 | none=>false
def ai (d k:Nat):Nat:=d*64+k
def G9 (d n:Nat):Bool:=Nat.blt d (n % 1099511627776) && Nat.ble (n / 1099511627776) d
def bn (n d:Nat):Prop:=d<n % 1099511627776∧n / 1099511627776≤d
theorem lG {d n:Nat} (h:G9 d n=true):bn n d:=by
 unfold G9 at h
 rw[aw] at h
 exact⟨Nat.le_of_ble_eq_true h.1,Nat.le_of_ble_eq_true h.2⟩
def Ff (op:BinOp) (k:IntKind) (x y:Int):Option (SV×Bool):=
 match op with
 | .add=>some (.int k (k.wrap (x+y)),true)
 | .sub=>some (.int k (k.wrap (x - y)),true)
 | .mul=>some (.int k (k.wrap (x*y)),true)
 | .quo=>some (.int k (k.wrap (x.tdiv y)), !(y==0))
 | .rem=>some (.int k (x.tmod y), !(y==0))
 | .and=>some (.int k (bits .and k x y),true)
 | .or=>some (.int k (bits .or k x y),true)
 | .xor=>some (.int k (bits .xor k x y),true)
 | .andNot=>some (.int k (bits .andNot k x y),true)
 | .eql=>some (.bool (x==y),true)
 | .neq=>some (.bool (x != y),true)
 | .lss=>some (.bool (decide (x<y)),true)
 | .leq=>some (.bool (decide (x≤y)),true)
 | .gtr=>some (.bool (decide (y<x)),true)
 | .geq=>some (.bool (decide (y≤x)),true)
 | _=>none
end Go.Proofs.YtnlkklmcfafgeaaGreat.Vm
namespace Go.Proofs.YtnlkklmcfafgeaaGreat.Vm
def al:fg→List (Nat×Option ao)
 | []=>[]
 | (id,e,r,_)::l=>(id,some (.ef e r))::al l
def bW (id:Nat):fg→Bool
 | []=>true
 | (i,_)::l=> !(Nat.beq i id) && bW id l
def aU:fg→Bool
 | []=>true
 | (i,_)::l=>bW i l && aU l
def lg (e:List CT):SV→M (List (List DC)×fg×Bool)
 | .nil=> .pure ([],[],true)
 | .sl e' r=>bif aL e e' then .pure (r,[],false) else .fail
 | .own id=> .obj id fun
  | .row _ e' r _ u=>bif aL e e' then .pure (r,[(id,e',r,u)],u) else .fail
  | .ef e' r=>bif aL e e' then .pure (r,[],false) else .fail
  | _=> .fail
 | _=> .fail
def CH (P:Program) (t:TypeId):SV→M cS
 | .ptr id off=> .obj id fun
  | .box _ cells=>
   bif bB P t then
    match P.info? t with
    | some i=>bif Nat.ble (off+i.size) cells.length then .pure {sv:= .agg ((cells.drop off).take i.size)} else .fail
    | none=> .fail
   else match cells[off]? with
    | some s=> .pure {sv:=s}
    | none=> .fail
  | _=> .fail
 | .gS e row off=>
  bif bB P t then
   match P.info? t with
   | some i=>bif Nat.ble (off+i.size) e.length then .pure {sv:= .agg (cr ((e.drop off).take i.size) row off)} else .fail
   | none=> .fail
  else match e[off]? with
   | some c=> .pure {sv:=iT c (row.getD off default)}
   | none=> .fail
 | .ey id i z off=> .obj id fun
  | .row _ e rows _ _=>
   bif !(Nat.beq z e.length) then .fail else
   bif bB P t then
    match P.info? t with
    | some j=>bif Nat.ble (off+j.size) e.length then .pure {sv:= .agg (cr ((e.drop off).take j.size) (rows.getD i []) off),ok:=decide (i<rows.length)} else .fail
    | none=> .fail
   else match e[off]? with
    | some c=> .pure {sv:=iT c ((rows.getD i []).getD off default),ok:=decide (i<rows.length)}
    | none=> .fail
  | _=> .fail
 | _=> .fail
def mA (P:Program) (t:TypeId) (s:SV):M cS:=
 match P.underlying t with
 | some _=>CH P t s
 | none=> .fail
def bX (row:List DC) (off:Nat) (ds:List DC):List DC:=row.take off++(ds++row.drop (off+ds.length))
def Bi (P:Program) (t:TypeId) (addr x:SV):M cS:=
 (aG x).bind fun bT=>
 bif bb P t bT.length then
  match addr with
  | .ptr id off=> .obj id fun
   | .box _ cells=>bif Nat.ble (off+bT.length) cells.length then .pure {sv:= .undef,cw:=some (id,off,bT)} else .fail
   | _=> .fail
  | .ey id i z off=> .obj id fun
   | .row t' e rows fz u=>
    bif Nat.beq z e.length && Nat.ble (off+bT.length) e.length then
     (cq ((e.drop off).take bT.length) bT).bind fun r=>
     bif bW id r.2.1 && aU r.2.1 then
      .pure {sv:= .undef,ow:=(id,some (.row t' e (rows.set i (bX (rows.getD i []) off r.1)) fz (u && r.2.2)))::al r.2.1,ok:=decide (i<rows.length)}
     else .fail
    else .fail
   | _=> .fail
  | _=> .fail
 else .fail
def A6 (P:Program) (t:TypeId):Bool:=
 match P.underlying t with
 | some .bool=>true
 | _=>false
def Bw (P:Program) (t:TypeId) (op:BinOp) (a b:Bool):M cS:=
 bif A6 P t then
  match op with
  | .eql=> .pure {sv:= .bool (a==b)}
  | .neq=> .pure {sv:= .bool (!(a==b))}
  | _=> .fail
 else .fail
def AL (P:Program) (t:TypeId) (xs:List SV) (off:Nat):Option (List SV):=
 bif bB P t then
  match P.info? t with
  | some i=>bif Nat.ble (off+i.size) xs.length then some ((xs.drop off).take i.size) else none
  | none=>none
 else match xs[off]? with
  | some x=>some [x]
  | none=>none
def gf (P:Program) (eqv:TypeId→List SV→List SV→Option Bool) (xs ys:List SV):List Field→Option Bool
 | []=>some true
 | f::fs=>
  bif f.name== "_" then none else
  match AL P f.type xs f.offset,AL P f.type ys f.offset with
  | some a,some b=>match eqv f.type a b,gf P eqv xs ys fs with
   | some c,some r=>some (bif c then r else false)
   | _,_=>none
  | _,_=>none
def l5 (t:TypeDesc) (x y:SV):Option Bool:=
 match t,x,y with
 | .int _,.int k a,.int k' b=>bif decide (k=k') then some (a==b) else none
 | .string,.str a,.str b=>some (a==b)
 | .bool,.bool a,.bool b=>some (a==b)
 | .bool,.kb a,.bool b=>some (a==b)
 | .bool,.bool a,.kb b=>some (a==b)
 | _,_,_=>none
def Ag (P:Program):Nat→TypeId→List SV→List SV→Option Bool
 | 0,_,_,_=>none
 | n+1,t,xs,ys=>
  match P.underlying t with
  | some (.struct fs)=>bif P.stoodInHeld t then none else gf P (Ag P n) xs ys fs.toList
  | some d=>match xs,ys with
   | [x],[y]=>l5 d x y
   | _,_=>none
  | none=>none
def Ib (P:Program) (t:TypeId) (op:BinOp) (xs ys:List SV):M cS:=
 match P.underlying t with
 | some (.struct _)=>
  bif P.eqGuardType P.depth t then .fail else
  match Ag P 8 t xs ys,op with
  | some b,.eql=> .pure {sv:= .bool b}
  | some b,.neq=> .pure {sv:= .bool (!b)}
  | _,_=> .fail
 | _=> .fail
def G7 (P:Program) (t:TypeId) (op:BinOp) (x y:SV):M cS:=
 match x,y with
 | .int k a,.int k' b=>
  match op with
  | .shl=> .pure {sv:= .int k (k.wrap (a*2 ^ (min b.toNat k.bits))),ok:=decide (0≤b)}
  | .shr=> .pure {sv:= .int k (a.fdiv (2 ^ (min b.toNat k.bits))),ok:=decide (0≤b)}
  | _=>bif decide (k=k') then
    match Ff op k a b with
    | some (s,c)=> .pure {sv:=s,ok:=c}
    | none=> .fail
   else .fail
 | .str a,.str b=>
  match op with
  | .add=> .pure {sv:= .str (a++b),ok:=decide (a.length+b.length≤9223372036854775807)}
  | .eql=> .pure {sv:= .bool (a==b)}
  | .neq=> .pure {sv:= .bool (!(a==b))}
  | _=> .fail
 | .bool a,.bool b=>Bw P t op a b
 | .kb a,.bool b=>Bw P t op a b
 | .bool a,.kb b=>Bw P t op a b
 | .agg xs,.agg ys=>Ib P t op xs ys
 | .sl _ r,.nil=>match P.underlying t,op with
  | some (.slice _),.eql=> .pure {sv:= .bool false,ok:=decide (0<r.length)}
  | some (.slice _),.neq=> .pure {sv:= .bool true,ok:=decide (0<r.length)}
  | _,_=> .fail
 | _,_=> .fail
def Lp (op:UnOp) (x:SV):M cS:=
 match op,x with
 | .not,.kb b=> .pure {sv:= .kb (!b)}
 | .not,.bool b=> .pure {sv:= .bool (!b)}
 | .neg,.int k n=> .pure {sv:= .int k (k.wrap (0 - n))}
 | .xor,.int k n=> .pure {sv:= .int k (bits .xor k (if k.signed then -1 else k.max) n)}
 | _,_=> .fail
def byteOf (r:List DC):UInt8:=UInt8.ofNat (r.headD default).asInt.toNat
def cY (b:UInt8):List DC:=[.int b.toNat]
def Eo (P:Program) (d:Option Nat) (src dst:TypeId) (x:SV):M cS:=
 match P.underlying dst,P.underlying src with
 | some (.int k),some _=>match x with
  | .int _ n=> .pure {sv:= .int k (k.wrap n)}
  | _=> .fail
 | some .string,some .string=>match x with
  | .str s=> .pure {sv:= .str s}
  | _=> .fail
 | some .string,some (.slice e)=>match P.underlying e with
  | some (.int .u8)=>(lg [.int .u8] x).bind fun r=> .pure {sv:= .str (r.1.map byteOf)}
  | _=> .fail
 | some (.slice e),some .string=>
  match P.underlying e,x,d with
  | some (.int .u8),.str s,some d=>bif bb P e 1 then .pure {sv:= .own (ai d 0),ow:=[(ai d 0,some (.row e [.int .u8] (s.map cY) true true))]} else .fail
  | _,_,_=> .fail
 | _,_=> .fail
def dR (P:Program) (t:TypeId):M (List SV):=
 match P.info? t with
 | some i=>match i.zero with
  | some z=>bif z.cells.toList.all (·.oneCell') then .pure (z.cells.toList.map ofConst) else .fail
  | none=> .fail
 | none=> .fail
def GY (P:Program) (d:Option Nat) (t:TypeId) (l c:SV):M cS:=
 match P.underlying t,l,c,d with
 | some (.slice et),.int .i64 n,.int .i64 m,some d=>
  match fM P 16 et,P.info? et with
  | some e,some i=>
   bif Nat.beq i.size e.length && Nat.blt 0 e.length then
    (dR P et).bind fun z=>(cq e z).bind fun r=>
     .pure {sv:= .own (ai d 0),ow:=[(ai d 0,some (.row et e (List.replicate n.toNat r.1) false true))],ok:=decide (0≤n) && decide (n≤m) && decide (m.toNat*i.bytes≤140737488355328) && decide (m≤9223372036854775807)}
   else .fail
  | _,_=> .fail
 | _,_,_,_=> .fail
def kg (P:Program) (fs:Array Field):List (Nat×Operand)→List SV→M (List SV)
 | [],cells=> .pure cells
 | (i,x)::rest,cells=>
  match fs[i]? with
  | some f=>(cm x).bind fun s=>(aG s).bind fun cs=>
   bif bb P f.type cs.length && Nat.ble (f.offset+cs.length) cells.length then
    kg P fs rest (cells.take f.offset++(cs++cells.drop (f.offset+cs.length)))
   else .fail
  | none=> .fail
def ew (e:List CT):Nat→List (Nat×Operand)→M (List (List DC)×fg×Bool)
 | _,[]=> .pure ([],[],true)
 | k,(i,x)::rest=>
  bif Nat.beq i k then
   (cm x).bind fun s=>(aG s).bind fun cs=>(cq e cs).bind fun r=>(ew e (k+1) rest).bind fun q=>
    .pure (r.1::q.1,r.2.1++q.2.1,r.2.2 && q.2.2)
  else .fail
def dQ (n:Nat) (lo hi:Option SV):Option (Nat×Nat×Bool):=
 match lo,hi with
 | none,none=>some (0,n,true)
 | some (.int _ l),none=>some (l.toNat,n,decide (0≤l) && decide (l≤n))
 | none,some (.int _ h)=>some (0,h.toNat,decide (0≤h) && decide (h≤n))
 | some (.int _ l),some (.int _ h)=>some (l.toNat,h.toNat,decide (0≤l) && decide (l≤h) && decide (h≤n))
 | _,_=>none
def kl:Option Operand→M (Option SV)
 | none=> .pure none
 | some x=>(cm x).bind fun s=> .pure (some s)
def CX (P:Program) (t:TypeId) (x:SV) (lo hi:Option SV):M cS:=
 match P.underlying t with
 | some .string=>match x with
  | .str s=>match dQ s.length lo hi with
   | some (l,h,c)=> .pure {sv:= .str ((s.take h).drop l),ok:=c}
   | none=> .fail
  | _=> .fail
 | some (.slice et)=>
  match x with
  | .sl e r=>bif bb P et e.length then match dQ r.length lo hi with
   | some (l,h,c)=> .pure {sv:= .sl e ((r.take h).drop l),ok:=c}
   | none=> .fail
   else .fail
  | .own id=> .obj id fun
   | .row t' e r false _=>bif Nat.beq t' et && bb P et e.length then match dQ r.length lo hi with
    | some (l,h,c)=> .pure {sv:= .sl e ((r.take h).drop l),ow:=[(id,some (.ef e r))],ok:=c}
    | none=> .fail
    else .fail
   | .ef e r=>bif bb P et e.length then match dQ r.length lo hi with
    | some (l,h,c)=> .pure {sv:= .sl e ((r.take h).drop l),ok:=c}
    | none=> .fail
    else .fail
   | _=> .fail
  | _=> .fail
 | _=> .fail
def CY (P:Program) (t:TypeId) (x:SV) (lo hi:Option SV):M cS:=
 match P.underlying t,x,lo,hi with
 | some (.slice et),.own id,some (.int _ l),none=> .obj id fun
  | .row t' e r _ _=>bif Nat.beq t' et && bb P et e.length then .pure {sv:= .FO id l.toNat e.length,ok:=decide (0≤l) && decide (l≤r.length) && decide (0<r.length)} else .fail
  | _=> .fail
 | _,_,_,_=> .fail
def lV (Γ:Ctx):Option Nat→Bool
 | some d=>match Ge Γ (1125899906842624+d) with | some s=>s.G6 | none=>false
 | none=>false
def Ep (P:Program) (t:TypeId) (x y:SV):M cS:=
 match P.underlying t,x,y with
 | some (.slice et),.FO id lo z,.str s=> .obj id fun
  | .row t' e r fz u=>
   bif Nat.beq t' et && bb P et 1 && Nat.beq z 1 && aL e [.int .u8] then
    .pure {sv:= .int .i64 (min s.length (r.length - lo):Nat),ow:=[(id,some (.row t' e (r.take lo++(((s.take (r.length - lo)).map cY)++r.drop (lo+min s.length (r.length - lo)))) fz u))],ok:=decide (lo≤r.length)}
   else .fail
  | _=> .fail
 | _,_,_=> .fail
def gE (P:Program) (t:TypeId) (x i:SV):M cS:=
 match P.underlying t,i with
 | some (.slice et),.int _ n=>
  match x with
  | .sl e r=>bif bb P et e.length then .pure {sv:= .gS e (r.getD n.toNat []) 0,ok:=decide (0≤n) && decide (n<r.length)} else .fail
  | .own id=> .obj id fun
   | .row _ e r _ _=>bif bb P et e.length then .pure {sv:= .ey id n.toNat e.length 0,ok:=decide (0≤n) && decide (n<r.length)} else .fail
   | .ef e r=>bif bb P et e.length then .pure {sv:= .gS e (r.getD n.toNat []) 0,ok:=decide (0≤n) && decide (n<r.length)} else .fail
   | _=> .fail
  | _=> .fail
 | _,_=> .fail
def CG (P:Program) (t:TypeId) (x i:SV):M cS:=
 match P.underlying t,x,i with
 | some .string,.str s,.int _ n=> .pure {sv:= .int .u8 (s.getD n.toNat 0).toNat,ok:=decide (0≤n) && decide (n<s.length)}
 | _,_,_=> .fail
def Gd (P:Program) (t:TypeId) (x:SV):M cS:=
 match P.underlying t,x with
 | some .string,.str s=> .pure {sv:= .int .i64 s.length}
 | some (.slice _),.nil=> .pure {sv:= .int .i64 0}
 | some (.slice _),.sl _ r=> .pure {sv:= .int .i64 r.length}
 | some (.slice _),.own id=> .obj id fun
  | .row _ _ r _ _=> .pure {sv:= .int .i64 r.length}
  | .ef _ r=> .pure {sv:= .int .i64 r.length}
  | _=> .fail
 | _,_=> .fail
def C9 (P:Program) (d:Option Nat) (t:TypeId) (s x:SV):M cS:=
 match P.underlying t,d with
 | some (.slice et),some d=>
  match fM P 16 et with
  | some e=>
   bif bb P et e.length && Nat.blt 0 e.length then
    (dR P et).bind fun z=>bif Nat.beq z.length e.length then
     match s with
     | .nil=>(lg e x).bind fun q=>
      .pure {sv:= .own (ai d 0),ow:=(ai d 0,some (.row et e q.1 false (ax e || q.2.2)))::(bif ax e then [] else al q.2.1),ok:=fD P et q.1.length}
     | .own id=> .obj id fun
      | .row t' e' r false u=>
       bif Nat.beq t' et && aL e' e then
        (lg e x).bind fun q=>
        bif bW id q.2.1 then
         .pure {sv:= .own (ai d 0),ow:=(ai d 0,some (.row et e (r++q.1) false (u && (ax e || q.2.2))))::(id,none)::(bif ax e then [] else al q.2.1),ok:=fD P et (r.length+q.1.length)}
        else .fail
       else .fail
      | _=> .fail
     | _=> .fail
    else .fail
   else .fail
  | none=> .fail
 | _,_=> .fail
def AH (P:Program) (d:Option Nat) (t t':TypeId) (s x:SV):M cS:=
 match P.underlying t,P.underlying t',d,s,x with
 | some (.slice et),some .string,some d,.own id,.str b=> .obj id fun
  | .row t1 e r false u=>
   bif Nat.beq t1 et && aL e [.int .u8] && bb P et 1 then
    (dR P et).bind fun z=>bif Nat.beq z.length 1 then
     .pure {sv:= .own (ai d 0),ow:=[(ai d 0,some (.row et [.int .u8] (r++b.map cY) false u)),(id,none)],ok:=fD P et (r.length+b.length)}
    else .fail
   else .fail
  | _=> .fail
 | _,_,_,_,_=> .fail
def jw:List AK→List SV→M (List DC×fg)
 | [],[]=> .pure ([],[])
 | k::ks,s::ss=>
  (match k.agg,s with
   | true,.agg cs=>cq k.bI cs
   | true,_=> .fail
   | false,.agg _=> .fail
   | false,s=>cq k.bI [s]).bind fun r=>(jw ks ss).bind fun q=> .pure (r.1++q.1,r.2.1++q.2)
 | _,_=> .fail
def cu (d:Nat):Nat→List RC→List DC→List SV×List (Nat×Option ao)
 | _,[],_=>([],[])
 | k,.ef c::rs,ds=>let q:=cu d k rs ds.tail;(iT c (ds.headD default)::q.1,q.2)
 | k,.own t e::rs,ds=>
  let q:=cu d (k+1) rs ds.tail
  (.own (ai d k)::q.1,(ai d k,some (.row t e (ds.headD default).cV false true))::q.2)
 | k,.deep t e ts::rs,ds=>
  let q:=cu d (k+1) rs ds.tail
  (.own (ai d k)::q.1,(ai d k,some (.deep t e ts (ds.headD default).cV none))::q.2)
def dC:List RC→Nat
 | []=>0
 | .ef _::l=>dC l
 | .own _ _::l=>dC l+1
 | .deep _ _ _::l=>dC l+1
def bq (d:Nat):Nat→List RK→List DC→List SV×List (Nat×Option ao)
 | _,[],_=>([],[])
 | k,r::rs,ds=>
  let q:=cu d k r.cells (ds.take r.cells.length)
  let p:=bq d (k+dC r.cells) rs (ds.drop r.cells.length)
  ((bif r.agg then .agg q.1 else q.1.headD .fG)::p.1,q.2++p.2)
def ig:List RC→Bool
 | []=>false
 | .ef (.sl _)::_=>true
 | _::l=>ig l
def shares (s:Sum):Bool:=s.rs.any fun r=>ig r.cells
def bj:List RK→Nat
 | []=>0
 | r::rs=>dC r.cells+bj rs
def iv:List SV→SV
 | [x]=>x
 | l=> .DA l
inductive MU where
 | box (id:Nat) (t:TypeId) (cs:List CT)
 | row (id:Nat) (t:TypeId) (e:List CT) (u:Bool)
 | deep (id:Nat) (t:TypeId) (e:List CT) (ts:List TypeId)
 | gone (id:Nat) (dp:Bool)
 | cP (id:Nat) (t:TypeId) (cs:List CT) (ts:List TT)
 | lM
def bw:List MU→List Nat
 | []=>[]
 | .box id _ _::l=>id::bw l
 | .row id _ _ _::l=>id::bw l
 | .deep id _ _ _::l=>id::bw l
 | .gone id _::l=>id::bw l
 | .cP id _ _ _::l=>id::bw l
 | .lM::l=>bw l
def cW:List MU→List MU
 | []=>[]
 | .row id _ _ _::l=> .gone id false::cW l
 | .deep id _ _ _::l=> .gone id true::cW l
 | .box _ _ _::l=>cW l
 | .gone _ _::l=>cW l
 | .cP _ _ _ _::l=>cW l
 | .lM::l=>cW l
def bU:List MU→Bool
 | []=>true
 | .row _ _ _ _::l=>bU l
 | .deep _ _ _ _::l=>bU l
 | .box _ _ _::_=>false
 | .gone _ _::_=>false
 | .cP _ _ _ _::_=>false
 | .lM::l=>bU l
def a9:List CT→List TypeId→List SV→M (List DC×List MU)
 | [],[],[]=> .pure ([],[])
 | .sl e::cs,t::ts,s::ss=>
  (match s with
   | .own id=> .obj id fun
    | .row t' e' r false u=>bif Nat.beq t' t && aL e' e && ax e then .pure (.sl r,.row id t' e' u) else .fail
    | _=> .fail
   | .nil=>bif ax e then .pure (.sl [],.lM) else .fail
   | _=> .fail:M (DC×MU)).bind fun q=>(a9 cs ts ss).bind fun r=> .pure (q.1::r.1,q.2::r.2)
 | .int k::cs,ts,s::ss=>(eV (.int k) s).bind fun q=>(a9 cs ts ss).bind fun r=> .pure (q.1::r.1,r.2)
 | .bool::cs,ts,s::ss=>(eV .bool s).bind fun q=>(a9 cs ts ss).bind fun r=> .pure (q.1::r.1,r.2)
 | .str::cs,ts,s::ss=>(eV .str s).bind fun q=>(a9 cs ts ss).bind fun r=> .pure (q.1::r.1,r.2)
 | _,_,_=> .fail
def aA:List CT→List TT→List SV→M (List DC×List MU)
 | [],[],[]=> .pure ([],[])
 | .sl e::cs,.flat t::ts,s::ss=>
  (match s with
   | .own id=> .obj id fun
    | .row t' e' r false u=>bif Nat.beq t' t && aL e' e && ax e then .pure (.sl r,.row id t' e' u) else .fail
    | _=> .fail
   | .nil=>bif ax e then .pure (.sl [],.lM) else .fail
   | _=> .fail:M (DC×MU)).bind fun q=>(aA cs ts ss).bind fun r=> .pure (q.1::r.1,q.2::r.2)
 | .sl e::cs,.deep t its::ts,s::ss=>
  (match s with
   | .own id=> .obj id fun
    | .deep t' e' ea r none=>bif Nat.beq t' t && aL e' e && fR ea its then .pure (.sl r,.deep id t' e' ea) else .fail
    | _=> .fail
   | .nil=> .pure (.sl [],.lM)
   | _=> .fail:M (DC×MU)).bind fun q=>(aA cs ts ss).bind fun r=> .pure (q.1::r.1,q.2::r.2)
 | .int k::cs,ts,s::ss=>(eV (.int k) s).bind fun q=>(aA cs ts ss).bind fun r=> .pure (q.1::r.1,r.2)
 | .bool::cs,ts,s::ss=>(eV .bool s).bind fun q=>(aA cs ts ss).bind fun r=> .pure (q.1::r.1,r.2)
 | .str::cs,ts,s::ss=>(eV .str s).bind fun q=>(aA cs ts ss).bind fun r=> .pure (q.1::r.1,r.2)
 | _,_,_=> .fail
def ix (k:AK) (ts:List TT) (s:SV):M (List DC×List MU):=
 match k.agg,s with
 | true,.agg cs=>aA k.bI ts cs
 | true,_=> .fail
 | false,.agg _=> .fail
 | false,s=>aA k.bI ts [s]
def bg:List AK→List (Option MK)→List SV→M (List DC×fg×List MU)
 | [],[],[]=> .pure ([],[],[])
 | k::ks,none::ms,s::ss=>
  (match k.agg,s with
   | true,.agg cs=>cq k.bI cs
   | true,_=> .fail
   | false,.agg _=> .fail
   | false,s=>cq k.bI [s]).bind fun r=>(bg ks ms ss).bind fun q=> .pure (r.1++q.1,r.2.1++q.2.1,q.2.2)
 | k::ks,some (.box t)::ms,.ptr id 0::ss=> .obj id fun
  | .box t' cells=>
   bif Nat.beq t' t then
    (cq k.bI cells).bind fun r=>bif r.2.1.isEmpty then (bg ks ms ss).bind fun q=> .pure (r.1++q.1,q.2.1,.box id t' k.bI::q.2.2) else .fail
   else .fail
  | _=> .fail
 | k::ks,some (.rows ts)::ms,s::ss=>(ix k ts s).bind fun r=>(bg ks ms ss).bind fun q=> .pure (r.1++q.1,q.2.1,r.2++q.2.2)
 | k::ks,some (.jD ts)::ms,s::ss=>(ix k ts s).bind fun r=>bif bU r.2 then (bg ks ms ss).bind fun q=> .pure (r.1++q.1,q.2.1,cW r.2++q.2.2) else .fail
 | k::ks,some (.cP t ts)::ms,.ptr id 0::ss=> .obj id fun
  | .box t' cells=>
   bif Nat.beq t' t then (aA k.bI ts cells).bind fun r=>bif bU r.2 then (bg ks ms ss).bind fun q=> .pure (r.1++q.1,q.2.1,.cP id t' k.bI ts::(cW r.2++q.2.2)) else .fail else .fail
  | _=> .fail
 | _,_,_=> .fail
def bp (d:Nat):Nat→List CT→List TT→List DC→List SV×List (Nat×Option ao)
 | _,[],_,_=>([],[])
 | k,.sl e::cs,ts,ds=>
  let q:=bp d (k+1) cs ts.tail ds.tail
  (.own (ai d k)::q.1,(ai d k,some (eU (ts.headD (.flat 0)) e (ds.headD default).cV))::q.2)
 | k,.int x::cs,ts,ds=>let q:=bp d k cs ts ds.tail;(iT (.int x) (ds.headD default)::q.1,q.2)
 | k,.bool::cs,ts,ds=>let q:=bp d k cs ts ds.tail;(iT .bool (ds.headD default)::q.1,q.2)
 | k,.str::cs,ts,ds=>let q:=bp d k cs ts ds.tail;(iT .str (ds.headD default)::q.1,q.2)
def jl (d:Nat):Nat→List MU→List DC→List (Nat×Option ao)
 | _,[],_=>[]
 | k,.box id t cs::l,ds=>(id,some (.box t (cr cs ds 0)))::jl d k l (ds.drop cs.length)
 | k,.row id t e u::l,ds=>(id,some (.row t e (ds.headD default).cV false u))::jl d k l ds.tail
 | k,.deep id t e ts::l,ds=>(id,some (.deep t e ts (ds.headD default).cV none))::jl d k l ds.tail
 | k,.gone _ _::l,ds=>jl d k l ds
 | k,.cP id t cs ts::l,ds=>(id,some (.box t (bp d k cs ts ds).1))::jl d (k+aJ cs) l (ds.drop cs.length)
 | k,.lM::l,ds=>jl d k l ds.tail
def dO (d:Nat):Nat→List MU→List DC→List (Nat×Option ao)
 | _,[],_=>[]
 | k,.box _ _ cs::l,ds=>dO d k l (ds.drop cs.length)
 | k,.row _ _ _ _::l,ds=>dO d k l ds.tail
 | k,.deep _ _ _ _::l,ds=>dO d k l ds.tail
 | k,.gone _ _::l,ds=>dO d k l ds
 | k,.cP _ _ cs ts::l,ds=>(bp d k cs ts ds).2++dO d (k+aJ cs) l (ds.drop cs.length)
 | k,.lM::l,ds=>dO d k l ds.tail
def aY:List MU→Nat
 | []=>0
 | .box _ _ _::l=>aY l
 | .row _ _ _ _::l=>aY l
 | .deep _ _ _ _::l=>aY l
 | .gone _ _::l=>aY l
 | .cP _ _ cs _::l=>aJ cs+aY l
 | .lM::l=>aY l
def cA:List MU→List Nat
 | []=>[]
 | .box _ _ _::l=>cA l
 | .row _ _ _ _::l=>cA l
 | .deep _ _ _ _::l=>cA l
 | .gone id _::l=>id::cA l
 | .cP _ _ _ _::l=>cA l
 | .lM::l=>cA l
def jb (l:List Nat):List (Nat×Option ao):=l.map fun i=>(i,none)
def cv:List RK→Nat
 | []=>0
 | r::rs=>r.cells.length+cv rs
def df:List Nat→Bool
 | []=>true
 | i::l=> !(l.any fun j=>Nat.beq j i) && df l
def AJ (s:Sum) (d:Option Nat) (args:List SV):M cS:=
 bif Nat.blt (bj s.rs) 64 && !(shares s) && (d.isSome || s.rs.isEmpty) then
  (bg s.ps s.ms args).bind fun r=>
   bif aU r.2.1 && df (bw r.2.2) && (bw r.2.2).all (fun i=>bW i r.2.1) && (Nat.blt (bj s.rs+aY r.2.2) 64 && (d.isSome || Nat.beq (aY r.2.2) 0)) then
    .pure {sv:=iv (bq (d.getD 0) 0 s.rs (s.fn r.1).2).1,ow:=(bq (d.getD 0) 0 s.rs (s.fn r.1).2).2++(dO (d.getD 0) (bj s.rs) r.2.2 ((s.fn r.1).2.drop (cv s.rs))++(jl (d.getD 0) (bj s.rs) r.2.2 ((s.fn r.1).2.drop (cv s.rs))++(jb (cA r.2.2)++(bif ff s.ms then [] else al r.2.1)))),ok:=(s.fn r.1).1}
   else .fail
 else .fail
def kN (Γ:Ctx) (d:Option Nat) (g:Nat) (args:List SV):M cS:=
 match Ge Γ g with
 | some s=>
  bif s.G6 then .fail else
  match s.pt with
  | some _=> .fail
  | none=>
  match s.ms,d with
  | [],some d=>
   bif Nat.blt (bj s.rs) 64 then
    (jw s.ps args).bind fun r=>
     bif !(shares s) || aU r.2 then
      .pure {sv:=iv (bq d 0 s.rs (s.fn r.1).2).1,ow:=(bq d 0 s.rs (s.fn r.1).2).2++(bif shares s then al r.2 else []),ok:=(s.fn r.1).1}
     else .fail
   else .fail
  | [],none=> .fail
  | _::_,d=>AJ s d args
 | none=> .fail
def Fp (P:Program) (t:TypeId) (i z off:Nat) (e:List CT) (rows:List (List DC)):M cS:=
 bif !(Nat.beq z e.length) then .fail else
 match P.underlying t with
 | none=> .fail
 | some _=>
  bif bB P t then
   match P.info? t with
   | some j=>bif Nat.ble (off+j.size) e.length && ax ((e.drop off).take j.size) then .pure {sv:= .agg (cr ((e.drop off).take j.size) (rows.getD i []) off),ok:=decide (i<rows.length)} else .fail
   | none=> .fail
  else match e[off]? with
   | some c=>bif ax [c] then .pure {sv:=iT c ((rows.getD i []).getD off default),ok:=decide (i<rows.length)} else .fail
   | none=> .fail
def G2 (P:Program) (d:Option Nat) (t:TypeId) (id i z off:Nat) (t':TypeId) (e:List CT) (ts:List TypeId) (rows:List (List DC)) (hl:Option (Nat×Nat)):M cS:=
 match hl,e[off]?,ts,d with
 | none,some (.sl e'),[t1],some d=>
  bif Nat.beq z e.length && Nat.beq (aJ e) 1 && !(bB P t) && (P.underlying t).isSome then
   .pure {sv:= .own (ai d 0),ow:=[(ai d 0,some (.row t1 e' ((rows.getD i []).getD off default).cV false true)),(id,some (.deep t' e ts rows (some (i,ai d 0))))],ok:=decide (i<rows.length)}
  else .fail
 | _,_,_,_=> .fail
def GW (P:Program) (Γ:Ctx) (d:Option Nat) (t:TypeId) (s:SV):M cS:=
 match s with
 | .ey id i z off=> .obj id fun
  | .deep t' e ts rows hl=>bif lV Γ d then G2 P d t id i z off t' e ts rows hl else Fp P t i z off e rows
  | _=>mA P t s
 | _=>mA P t s
def eB:List MU→List (Nat×Option ao)
 | []=>[]
 | .box id _ _::l=>(id,none)::eB l
 | .row id _ _ _::l=>(id,none)::eB l
 | .deep id _ _ _::l=>(id,none)::eB l
 | .gone id _::l=>(id,none)::eB l
 | .cP id _ _ _::l=>(id,none)::eB l
 | .lM::l=>eB l
def CD:Option (Nat×Nat)→Nat→Bool
 | none,_=>true
 | some (j,_),i=>Nat.beq j i
def FC (P:Program) (t:TypeId) (id i z off:Nat) (t':TypeId) (e:List CT) (ts:List TypeId) (rows:List (List DC)) (hl:Option (Nat×Nat)) (x:SV):M cS:=
 (aG x).bind fun bT=>
 bif bb P t bT.length && Nat.beq z e.length && Nat.ble (off+bT.length) e.length then
  bif ax ((e.drop off).take bT.length) then
   (cq ((e.drop off).take bT.length) bT).bind fun r=>
    bif r.2.1.isEmpty then .pure {sv:= .undef,ow:=[(id,some (.deep t' e ts (rows.set i (bX (rows.getD i []) off r.1)) hl))],ok:=decide (i<rows.length)} else .fail
  else bif Nat.beq (aJ ((e.drop off).take bT.length)) (aJ e) then
   (a9 ((e.drop off).take bT.length) ts bT).bind fun r=>
    bif df (id::bw r.2) then
     .pure {sv:= .undef,ow:=(id,some (.deep t' e ts (rows.set i (bX (rows.getD i []) off r.1)) none))::eB r.2,ok:=decide (i<rows.length) && CD hl i}
    else .fail
  else .fail
 else .fail
def FD (P:Program) (t:TypeId) (addr x:SV):M cS:=
 match addr with
 | .ey id i z off=> .obj id fun
  | .deep t' e ts rows hl=>FC P t id i z off t' e ts rows hl x
  | _=>Bi P t addr x
 | _=>Bi P t addr x
def jg (P:Program) (t:TypeId) (x i:SV):M cS:=
 match x with
 | .own id=> .obj id fun
  | .deep _ e _ rows _=>
   match P.underlying t,i with
   | some (.slice et),.int _ n=>bif bb P et e.length then .pure {sv:= .ey id n.toNat e.length 0,ok:=decide (0≤n) && decide (n<rows.length)} else .fail
   | _,_=> .fail
  | _=>gE P t x i
 | _=>gE P t x i
def HR (P:Program) (t:TypeId) (x:SV):M cS:=
 match x with
 | .own id=> .obj id fun
  | .deep _ _ _ rows _=>
   match P.underlying t with
   | some (.slice _)=> .pure {sv:= .int .i64 rows.length}
   | _=> .fail
  | _=>Gd P t x
 | _=>Gd P t x
def GX (P:Program) (d:Option Nat) (t:TypeId) (l c:SV):M cS:=
 match P.underlying t,l,c,d with
 | some (.slice et),.int .i64 n,.int .i64 m,some d=>
  match fM P 16 et,Gr P 16 et,P.info? et with
  | some e,some ts,some i=>
   bif Nat.beq i.size e.length && Nat.blt 0 e.length then
    (dR P et).bind fun z=>(a9 e ts z).bind fun r=>
     bif (bw r.2).isEmpty then
      .pure {sv:= .own (ai d 0),ow:=[(ai d 0,some (.deep et e ts (List.replicate n.toNat r.1) none))],ok:=decide (0≤n) && decide (n≤m) && decide (m.toNat*i.bytes≤140737488355328) && decide (m≤9223372036854775807)}
     else .fail
   else .fail
  | _,_,_=> .fail
 | _,_,_,_=> .fail
def eu (e:List CT) (ts:List TypeId):Nat→List (Nat×Operand)→M (List (List DC)×List MU)
 | _,[]=> .pure ([],[])
 | k,(i,x)::rest=>
  bif Nat.beq i k then
   (cm x).bind fun s=>(aG s).bind fun cs=>(a9 e ts cs).bind fun r=>(eu e ts (k+1) rest).bind fun q=> .pure (r.1::q.1,r.2++q.2)
  else .fail
def Ev (P:Program) (d:Option Nat) (t:TypeId) (len:Nat) (parts:List (Nat×Operand)):M cS:=
 match P.underlying t,d with
 | some (.slice et),some d=>
  match fM P 16 et,Gr P 16 et with
  | some e,some ts=>
   bif bb P et e.length && Nat.blt 0 e.length && Nat.beq len parts.length && Nat.ble (len*e.length) 16777216 then
    (dR P et).bind fun _=>(eu e ts 0 parts).bind fun q=>
     bif df (bw q.2) then
      .pure {sv:= .own (ai d 0),ow:=(ai d 0,some (.deep et e ts q.1 none))::eB q.2}
     else .fail
   else .fail
  | _,_=> .fail
 | _,_=> .fail
def Ae (et:TypeId) (e:List CT) (ts:List TypeId):SV→M (List (List DC)×List Nat)
 | .nil=> .pure ([],[])
 | .own id=> .obj id fun
  | .deep t' e' ea r none=>bif Nat.beq t' et && aL e' e && fR ea ts then .pure (r,[id]) else .fail
  | _=> .fail
 | _=> .fail
def gone (ids:List Nat):List (Nat×Option ao):=ids.map fun i=>(i,none)
def C8 (P:Program) (d:Option Nat) (t:TypeId) (s x:SV):M cS:=
 match P.underlying t,d with
 | some (.slice et),some d=>
  match fM P 16 et,Gr P 16 et with
  | some e,some ts=>
   bif bb P et e.length && Nat.blt 0 e.length then
    (dR P et).bind fun z=>bif Nat.beq z.length e.length then
     (Ae et e ts s).bind fun p=>(Ae et e ts x).bind fun q=>
      bif df (p.2++q.2) then
       .pure {sv:= .own (ai d 0),ow:=(ai d 0,some (.deep et e ts (p.1++q.1) none))::gone (p.2++q.2),ok:=fD P et (p.1.length+q.1.length)}
      else .fail
    else .fail
   else .fail
  | _,_=> .fail
 | _,_=> .fail
def Gi (mx:Bool) (x y:SV):M cS:=
 match x,y with
 | .int k a,.int k' b=>bif decide (k=k') then .pure {sv:= .int k (bif mx then (if a<b then b else a) else (if b<a then b else a))} else .fail
 | _,_=> .fail
def evalOp (P:Program) (Γ:Ctx) (o:Oper):M cS:=
 match o.op with
 | .move x=>(cm x).bind fun s=> .pure {sv:=s}
 | .assign x=>(cm x).bind fun s=> .pure {sv:=s}
 | .pick c a b=>(cm c).bind fun c=>(cm a).bind fun a=>(cm b).bind fun b=>
  match c with
  | .kb t=> .pure {sv:=bif t then a else b}
  | .bool g=> .pure {sv:=eI g a b}
  | _=> .fail
 | .alloc t=>match o.dst with
  | some d=>(dR P t).bind fun z=> .pure {sv:= .ptr (ai d 0) 0,ow:=[(ai d 0,some (.box t z))]}
  | none=> .fail
 | .box t x=>match o.dst with
  | some d=>(cm x).bind fun s=>(aG s).bind fun cs=> .pure {sv:= .ptr (ai d 0) 0,ow:=[(ai d 0,some (.box t cs))]}
  | none=> .fail
 | .build t parts=>match P.underlying t with
  | some (.struct fs)=>match fs.toList.mapM (fun f=>(P.info? f.type).map fun i=>(f.offset,i.size)) with
   | some _=>(dR P t).bind fun z=>(kg P fs parts.toList z).bind fun cs=> .pure {sv:= .agg cs}
   | none=> .fail
  | _=> .fail
 | .buildSlice t len parts=>bif lV Γ o.dst then Ev P o.dst t len parts.toList else match P.underlying t,o.dst with
  | some (.slice et),some d=>match fM P 16 et with
   | some e=>bif bb P et e.length && Nat.blt 0 e.length && Nat.beq len parts.toList.length && Nat.ble (len*e.length) 16777216 then
     (dR P et).bind fun _=>(ew e 0 parts.toList).bind fun q=>
      bif aU q.2.1 then
       .pure {sv:= .own (ai d 0),ow:=(ai d 0,some (.row et e q.1 false q.2.2))::al q.2.1}
      else .fail
    else .fail
   | none=> .fail
  | _,_=> .fail
 | .load t x=>(cm x).bind fun s=>GW P Γ o.dst t s
 | .store t x y=>(cm x).bind fun a=>(cm y).bind fun v=>FD P t a v
 | .nilCheck x=>(cm x).bind fun s=>match s with
  | .ptr .. => .pure {sv:=s}
  | .gS .. => .pure {sv:=s}
  | .ey .. => .pure {sv:=s}
  | _=> .fail
 | .binOp op t x y _=>(cm x).bind fun a=>(cm y).bind fun b=>G7 P t op a b
 | .unOp op _ x=>(cm x).bind fun a=>Lp op a
 | .convert s t x=>(cm x).bind fun a=>Eo P o.dst s t a
 | .makeSlice t l c=>(cm l).bind fun l=>(cm c).bind fun c=>bif lV Γ o.dst then GX P o.dst t l c else GY P o.dst t l c
 | .slice t x lo hi mx=>match mx with
  | none=>(cm x).bind fun s=>(kl lo).bind fun l=>(kl hi).bind fun h=>bif lV Γ o.dst then CY P t s l h else CX P t s l h
  | some _=> .fail
 | .fieldAddr t x f=>match P.underlying t with
  | some (.struct fs)=>match fs[f]? with
   | some fd=>bif bb P fd.type 0 then .fail else match P.info? fd.type with
    | none=> .fail
    | some _=>(cm x).bind fun s=>match s with
     | .ptr id off=> .pure {sv:= .ptr id (off+fd.offset)}
     | .gS e r off=> .pure {sv:= .gS e r (off+fd.offset)}
     | .ey id i z off=> .pure {sv:= .ey id i z (off+fd.offset)}
     | _=> .fail
   | none=> .fail
  | _=> .fail
 | .indexAddr t x i=>(cm x).bind fun s=>(cm i).bind fun n=>jg P t s n
 | .index t x i=>(cm x).bind fun s=>(cm i).bind fun n=>CG P t s n
 | .extract x i=>(cm x).bind fun s=>match s with
  | .DA vs=>match vs[i]? with
   | some v=> .pure {sv:=v}
   | none=> .fail
  | _=> .fail
 | .call c=>match c.callee with
  | .value (.func g)=>(DG c.args.toList).bind fun l=>kN Γ o.dst g l
  | .builtin .len=>match c.args.toList,c.argTypes.toList with
   | [x],[t]=>(cm x).bind fun s=>HR P t s
   | _,_=> .fail
  | .builtin .min=>match c.args.toList with
   | [x,y]=>(cm x).bind fun a=>(cm y).bind fun b=>Gi false a b
   | _=> .fail
  | .builtin .max=>match c.args.toList with
   | [x,y]=>(cm x).bind fun a=>(cm y).bind fun b=>Gi true a b
   | _=> .fail
  | .builtin .append=>match c.args.toList,c.argTypes.toList with
   | [s,x],[t,t']=>bif Nat.beq t t' then (cm s).bind fun a=>(cm x).bind fun b=>bif lV Γ o.dst then C8 P o.dst t a b else C9 P o.dst t a b else (cm s).bind fun a=>(cm x).bind fun b=>AH P o.dst t t' a b
   | _,_=> .fail
  | .builtin .copy=>match c.args.toList,c.argTypes.toList with
   | [s,x],[t,_]=>(cm s).bind fun a=>(cm x).bind fun b=>Ep P t a b
   | _,_=> .fail
  | _=> .fail
 | _=> .fail
structure St where
 n:Nat
 sl:List (Nat×SV)
 hp:List (Nat×ao)
 ok:Bool
 ls:List Nat
 lm:List Nat
def ji:List (Nat×SV)→Nat→SV
 | [],_=> .fG
 | (k,s)::l,i=>bif Nat.beq k i then s else ji l i
def dN:List (Nat×ao)→Nat→Option ao
 | [],_=>none
 | (k,s)::l,i=>bif Nat.beq k i then some s else dN l i
def Gv:List (Nat×ao)→Nat→List (Nat×ao)
 | [],_=>[]
 | (k,s)::l,i=>bif Nat.beq k i then Gv l i else (k,s)::Gv l i
def St.get (st:St) (i:Nat):SV:=ji st.sl i
def St.obj (st:St) (i:Nat):Option ao:=dN st.hp i
def M.run {α:Type} (f:Nat→SV) (h:Nat→Option ao):M α→Option (α×List Nat×List Nat)
 | .pure a=>some (a,[],[])
 | .fail=>none
 | .slot i k=>match (k (f i)).run f h with
  | some (a,s,o)=>some (a,i::s,o)
  | none=>none
 | .obj i k=>match h i with
  | some x=>match (k x).run f h with
   | some (a,s,o)=>some (a,s,i::o)
   | none=>none
  | none=>none
def St.fail (st:St):St:= {st with ok:=false,sl:=[],hp:=[]}
def cN:List SV→Nat→List SV→List SV
 | cells,off,bT=>cells.take off++(bT++cells.drop (off+bT.length))
def kD:List (Nat×Option ao)→List (Nat×ao)→List (Nat×ao)
 | [],h=>h
 | (i,some o)::l,h=>(i,o)::Gv (kD l h) i
 | (i,none)::l,h=>Gv (kD l h) i
def Gm:Option (Nat×Nat×List SV)→List (Nat×ao)→List (Nat×ao)
 | none,h=>h
 | some (i,off,bT),h=>match dN h i with
  | some (.box t cells)=>(i,.box t (cN cells off bT))::Gv h i
  | _=>h
def St.apply (st:St) (d:Option Nat) (e:cS):St:=
 {n:=st.n
  sl:=match d with | some d=>(d,e.sv)::st.sl | none=>st.sl
  hp:=kD e.ow (Gm e.cw st.hp)
  ok:=Ed (Ed st.ok e.ok) (match d with | some d=>G9 d st.n | none=>true)
  ls:=match d with | some d=>d::st.ls | none=>st.ls
  lm:=(match e.cw with | some (i,_)=>[i] | none=>[])++(e.ow.map (·.1)++st.lm)}
def St.skip (st:St) (d:Option Nat):St:=st.apply d {sv:= .undef}
def iq (i:Nat):List Nat→Bool
 | []=>false
 | k::l=>Nat.beq k i || iq i l
def gG (g:Bool) (f h:Nat→SV):List Nat→List (Nat×SV)→List (Nat×SV)
 | [],l=>l
 | i::r,l=>(i,eI g (f i) (h i))::gG g f h r l
def dedup:List Nat→List Nat
 | []=>[]
 | i::l=>bif iq i l then dedup l else i::dedup l
def kK (hp:List (Nat×ao)):List Nat→Bool
 | []=>true
 | i::l=>(match dN hp i with | some _=>false | none=>true) && kK hp l
def St.reset (st:St):St:= {st with ls:=[],lm:=[]}
def L0 (g x y:Bool):Bool:=bif x && y then true else bif g then x else y
theorem Fv (g x y:Bool):L0 g x y=bif g then x else y:=by cases g<;>cases x<;>cases y<;>rfl
def mC (g:Bool):Option ao→Option ao→Option ao
 | some (.box t cs),some (.box t' Bx)=>bif Nat.beq t t' && Nat.beq cs.length Bx.length then some (.box t (jk g cs Bx)) else none
 | some (.row t e r fz u),some (.row t' e' r' JE u')=>bif Nat.beq t t' && aL e e' && (fz==JE) && (u==u') then some (.row t e (bif g then r else r') fz u) else none
 | _,_=>none
def cM (hp:List (Nat×ao)):List Nat→List Nat
 | []=>[]
 | i::l=>match dN hp i with | some _=>i::cM hp l | none=>cM hp l
def jR (g:Bool) (f h:Nat→Option ao):List Nat→List (Nat×Option ao)
 | []=>[]
 | i::l=>(i,mC g (f i) (h i))::jR g f h l
def merge (pre:St) (g:Bool) (a b:St):St:=
 {n:=pre.n
  sl:=gG g a.get b.get (dedup (a.ls++b.ls)) pre.sl
  hp:=kD (jR g a.obj b.obj (cM pre.hp (dedup (a.lm++b.lm)))) pre.hp
  ok:=L0 g a.ok b.ok
  ls:=dedup (a.ls++b.ls)++pre.ls
  lm:=cM pre.hp (dedup (a.lm++b.lm))++pre.lm}
def Dn:SV→Bool
 | .fG=>true
 | .undef=>true
 | _=>false
def BV (g:Bool) (f h:Nat→SV):List Nat→Bool
 | []=>true
 | i::r=>(Dn (f i) || Dn (h i) || !(Dn (eI g (f i) (h i)))) && BV g f h r
def GV (Γ:Ctx) (g:Bool) (f h:Nat→SV):List Nat→Bool
 | []=>true
 | i::r=>(!(Dn (eI g (f i) (h i))) || !(lV Γ (some i))) && GV Γ g f h r
def kB (Γ:Ctx) (pre:St) (g:Bool) (a b:St):Bool:=
 kK pre.hp a.lm && kK pre.hp b.lm && BV g a.get b.get (dedup (a.ls++b.ls)) && GV Γ g a.get b.get (dedup (a.ls++b.ls))
def St.fV (st:St) (s:Nat) (b:Bool):St:= {st with sl:=(s,.kb b)::st.sl,ls:=s::st.ls}
mutual
def cb:SV→List Nat
 | .own i=>[i]
 | .ptr i _=>[i]
 | .ey i _ _ _=>[i]
 | .agg l=>bY l
 | .DA l=>bY l
 | .FT _ l=>bY l
 | .FO i _ _=>[i]
 | _=>[]
def bY:List SV→List Nat
 | []=>[]
 | a::l=>cb a++bY l
end
def cK:ao→List Nat
 | .box _ cells=>bY cells
 | .deep _ _ _ _ (some (_,i))=>[i]
 | _=>[]
def Cr (e:cS):List Nat:=
 cb e.sv++((match e.cw with | some (_,_,bT)=>bY bT | none=>[])++e.ow.flatMap fun x=>x.1::(match x.2 with | some o=>cK o | none=>[]))
structure cC where
 i:Nat
 d:Option Nat
 rs:List Nat
 ro:List Nat
 wo:List Nat
 m:List Nat
def lu:List Oper→List Nat
 | []=>[]
 | o::l=>match o.dst with | some d=>d::lu l | none=>lu l
def mD (ds:List Nat):List Nat→Bool
 | []=>true
 | i::l=> !(iq (i / 64) ds) && mD ds l
def eM (ds:List Nat) (st:St):Bool:=
 (st.sl.all fun x=>mD ds (cb x.2)) && (st.hp.all fun x=>mD ds (x.1::cK x.2))
def jC (d:Option Nat) (e:cS) (st:St):Bool:=
 match e.ow,d with
 | _::_,some d=>eM [d] st
 | _,_=>true
def St.cH (P:Program) (Γ:Ctx) (st:St) (o:Oper):St:=
 match (evalOp P Γ o).run st.get st.obj with
 | some (e,_)=>bif jC o.dst e st then st.apply o.dst e else st.fail
 | none=>st.fail
def iB:List Nat→List Nat→List Nat
 | [],m=>m
 | i::l,m=>bif iq i m then iB l m else i::iB l m
def Cn:List Oper→List (List Nat)→List (List Nat)
 | [],acc=>acc
 | o::l,acc=>Cn l (acc++[o.after.toList.foldr (fun e r=>bif Region.binds .any e then iB (iB [e.on] (acc.getD e.on [])) r else r) []])
def gz:List Oper→Nat→Bool
 | [],_=>true
 | o::l,i=>(o.after.toList.all fun e=> !(Region.binds .any e) || Nat.blt e.on i) && gz l (i+1)
def f_ (l:List Nat):List Nat→Bool
 | []=>false
 | i::m=>iq i l || f_ l m
def jX:Option Nat→List Nat
 | some d=>[d]
 | none=>[]
def dL (a b:cC):Bool:=
 f_ (jX a.d) (b.rs++jX b.d) || f_ a.rs (jX b.d) || f_ a.wo (b.ro++b.wo) || f_ a.ro b.wo ||
 (match a.d with | some d=>b.m.any fun i=>Nat.beq (i / 64) d | none=>false)
def kj (b a:cC):Bool:=match b.d with | some d=>a.m.any fun i=>Nat.beq (i / 64) d | none=>false
def lP (an:List (List Nat)) (a:cC):List cC→Bool
 | []=>true
 | b::l=>(!(dL a b) || iq a.i (an.getD b.i [])) && !(kj b a) && lP an a l
def lS (an:List (List Nat)):List cC→Bool
 | []=>true
 | a::l=>lP an a l && lS an l
def gh (ops:Array Oper) (o:Oper):List Nat:=
 match o.guard with
 | some (j,_)=>jX ((ops[j]?).bind (·.dst))
 | none=>[]
def bP (P:Program) (Γ:Ctx) (ops:Array Oper) (i:Nat) (st:St) (o:Oper):cC:=
 match (evalOp P Γ o).run st.get st.obj with
 | some (e,s,r)=>⟨i,o.dst,gh ops o++s,(match e.cw with | some (i,_)=>[i] | none=>[])++r,(match e.cw with | some (i,_)=>[i] | none=>[])++e.ow.map (·.1),Cr e⟩
 | none=>⟨i,o.dst,[],[],[],[]⟩
def iQ (ops:Array Oper) (i:Nat) (o:Oper):cC:=⟨i,o.dst,gh ops o,[],[],[]⟩
def fH (ops:Array Oper) (st:St) (o:Oper):Option Bool:=
 match o.guard with
 | none=>some true
 | some (j,want)=>
  match (ops[j]?).bind (·.dst) with
  | none=>none
  | some s=>
   match st.get s with
   | .kb b=>some (b==want)
   | .undef=>some false
   | _=>none
def bh (P:Program) (Γ:Ctx) (ops:Array Oper) (gs:List Nat) (ki:List cC→Bool):List Oper→Nat→List cC→St→St
 | [],_,acc,st=> {st with ok:=Ed st.ok (ki acc)}
 | o::rest,i,acc,st=>
  match fH ops st o with
  | none=>st.fail
  | some false=>bh P Γ ops gs ki rest (i+1) (acc++[iQ ops i o]) (st.skip o.dst)
  | some true=>
   match o.dst with
   | none=>bh P Γ ops gs ki rest (i+1) (acc++[bP P Γ ops i st o]) (st.cH P Γ o)
   | some s=>
    bif iq s gs then
     match (st.cH P Γ o).get s with
     | .bool g=>merge (st.cH P Γ o) g (bh P Γ ops gs ki rest (i+1) (acc++[bP P Γ ops i st o]) ((st.cH P Γ o).reset.fV s true))
       (bh P Γ ops gs ki rest (i+1) (acc++[bP P Γ ops i st o]) ((st.cH P Γ o).reset.fV s false))
     | _=>bh P Γ ops gs ki rest (i+1) (acc++[bP P Γ ops i st o]) (st.cH P Γ o)
    else bh P Γ ops gs ki rest (i+1) (acc++[bP P Γ ops i st o]) (st.cH P Γ o)
def jd (ops:Array Oper):List Oper→List Nat
 | []=>[]
 | o::l=>gh ops o++jd ops l
def cf (P:Program) (Γ:Ctx) (ops:Array Oper) (draw:Bool) (st:St):St:=
 bif draw then
  bif eM (lu ops.toList) st && gz ops.toList 0 && P.follows .mixedOrders then bh P Γ ops (jd ops ops.toList) (lS (Cn ops.toList [])) ops.toList 0 [] st else st.fail
 else bh P Γ ops (jd ops ops.toList) (fun _=>true) ops.toList 0 [] st
def simple:Code→Bool
 | .skip=>true
 | .region _ _ _=>true
 | .seq a b=>simple a && simple b
 | .cond _ a b=>simple a && simple b
 | _=>false
def ev (st:St):Operand→SV
 | .tmp t=>st.get t
 | .const v=>ofConst v
 | _=> .fG
def St.dq (st:St) (c:Operand) (b:Bool):St:=
 match c with
 | .tmp t=>st.fV t b
 | _=>st
def exec (P:Program) (Γ:Ctx):Code→St→St
 | .skip,st=>st
 | .region _ ops draw,st=>cf P Γ ops draw st
 | .seq a b,st=>exec P Γ b (exec P Γ a st)
 | .cond c a b,st=>
  match ev st c with
  | .kb t=>bif t then exec P Γ a st else exec P Γ b st
  | .bool g=>merge st g (exec P Γ a (st.reset.dq c true)) (exec P Γ b (st.reset.dq c false))
  | _=>st.fail
 | _,st=>st.fail
abbrev kM:=Bool×List DC
def kf:kM:=(false,[])
inductive CK where
 | mP
 | own (t:TypeId)
 | ef (t:TypeId)
 | deep (t:TypeId) (ts:List TypeId)
structure lE where
 cl:List (Nat×CK)
 boxes:List (Nat×List (Nat×CK))
def Jr:List (Nat×lE)→Nat→Option lE
 | [],_=>none
 | (k,s)::l,i=>bif Nat.beq k i then some s else Jr l i
def Ll:List (Nat×CK)→Nat→CK
 | [],_=> .mP
 | (k,s)::l,i=>bif Nat.beq k i then s else Ll l i
def ke:List SV→Bool
 | []=>true
 | .ptr _ _::l=>ke l
 | _=>false
def az (P:Program) (hp:List (Nat×ao)) (ck:CK) (nid:Nat) (s:SV):SV×List (Nat×ao×Option Nat):=
 match s with
 | .own id=>match dN hp id with
  | some (.row t e r fz u)=>match ck with
   | .ef _=>(.fG,[])
   | _=>(.own nid,[(nid,.row t e r fz u,some id)])
  | some (.ef e r)=>(.sl e r,[])
  | some (.deep t e ts r none)=>match ck with
   | .ef _=>(.fG,[])
   | _=>(.own nid,[(nid,.deep t e ts r none,some id)])
  | _=>(.fG,[])
 | .nil=>match ck with
  | .own t=>match fM P 16 t with
   | some e=>(.own nid,[(nid,.row t e [] false true,none)])
   | none=>(.fG,[])
  | .deep t ts=>match fM P 16 t with
   | some e=>(.own nid,[(nid,.deep t e ts [] none,none)])
   | none=>(.fG,[])
  | .ef t=>match fM P 16 t with
   | some e=>(.sl e [],[])
   | none=>(.fG,[])
  | .mP=>(.nil,[])
 | .kb b=>(.bool b,[])
 | .agg _=>(.fG,[])
 | .DA _=>(.fG,[])
 | .ey .. =>(.fG,[])
 | .FO .. =>(.fG,[])
 | .FT g cs=>bif ke cs then (.FT g cs,[]) else (.fG,[])
 | s=>(s,[])
def a_ (P:Program) (st:St):List (Nat×CK)→List (Nat×SV)×List (Nat×ao×Option Nat)
 | []=>([],[])
 | (i,ck)::l=>
  let c:=az P st.hp ck (ai (10000+i) 0) (st.get i)
  let q:=a_ P st l
  ((i,c.1)::q.1,c.2++q.2)
def bK (P:Program) (hp:List (Nat×ao)) (lY:List (Nat×CK)) (b:Nat):Nat→List SV→List SV×List (Nat×ao×Option Nat)
 | _,[]=>([],[])
 | k,s::l=>
  let c:=az P hp (Ll lY k) (ai (20000+b*4) k) s
  let q:=bK P hp lY b (k+1) l
  (c.1::q.1,c.2++q.2)
def aV (P:Program) (hp:List (Nat×ao)):List (Nat×List (Nat×CK))→List (Nat×ao)×List (Nat×ao×Option Nat)
 | []=>([],[])
 | (b,lY)::l=>
  let q:=aV P hp l
  match dN hp b with
  | some (.box t cells)=>
   let c:=bK P hp lY b 0 cells
   ((b,.box t c.1)::q.1,c.2++q.2)
  | _=>q
def fb:List Nat→Bool
 | []=>true
 | i::l=> !(iq i l) && fb l
def eD:List (Nat×ao×Option Nat)→List Nat
 | []=>[]
 | (_,_,some i)::l=>i::eD l
 | (_,_,none)::l=>eD l
def BC:List (Nat×ao)→Option Nat
 | []=>none
 | (i,.deep _ _ _ _ (some _))::_=>some i
 | _::l=>BC l
def ek:List CT→Nat
 | []=>0
 | .sl _::_=>0
 | _::l=>ek l+1
def HX (e e2:List CT):Bool:=
 match e[ek e]? with
 | some (.sl e')=>aL e' e2
 | _=>false
def St.DR (st:St):St:=
 match BC st.hp with
 | some id=>match st.obj id with
  | some (.deep t e [t1] rows (some (i,nid)))=>match st.obj nid with
   | some (.row t2 e2 r false _)=>
    bif Nat.beq t2 t1 && HX e e2 && Nat.beq (aJ e) 1 && !(Nat.beq nid id) && ax e2 then
     {st with hp:=kD [(id,some (.deep t e [t1] (rows.set i (bX (rows.getD i []) (ek e) [.sl r])) none)),(nid,none)] st.hp}
    else st
   | _=>st
  | _=>st
 | none=>st
def kh (P:Program) (an:lE) (st:St):St:=
 let s:=a_ P st an.cl
 let b:=aV P st.hp an.boxes
 let rows:=s.2++b.2
 bif fb (eD rows) && fb (b.1.map (·.1)++rows.map (·.1)) then
  {n:=st.n,sl:=s.1,hp:=b.1++rows.map (fun x=>(x.1,x.2.1)),ok:=st.ok,ls:=[],lm:=[]}
 else st.fail
def dt (st:St):List (Nat×CK)→fg
 | []=>[]
 | (i,.ef _)::l=>match st.get i with
  | .own id=>match st.obj id with
   | some (.row _ e r _ u)=>bif bW id (dt st l) then (id,e,r,u)::dt st l else dt st l
   | _=>dt st l
  | _=>dt st l
 | (_,.mP)::l=>dt st l
 | (_,.own _)::l=>dt st l
 | (_,.deep _ _)::l=>dt st l
def St.J_ (st:St) (an:lE):St:= {st with hp:=kD (al (dt st an.cl)) st.hp}
def canon (P:Program) (an:lE) (st:St):St:=kh P an (st.DR.J_ an)
def St.gd (st:St) (k:St→kM):kM:=bif st.ok then k {st with ok:=true} else kf
theorem Df {st:St} {k:St→kM} {r:List DC} (h:st.gd k=(true,r)):k st=(true,r):=by
 unfold St.gd at h
 cases hk:st.ok with
 | true=>
  rw[hk] at h
  obtain⟨_,_,_,_,_,_⟩:=st
  subst hk
  exact h
 | false=>
  rw[hk] at h
  exact absurd (congrArg Prod.fst h) (by simp [kf])
structure AF where
 eW:St→kM
 ext:Nat→St→kM
 ret:St→kM
def dz:Code→Option Nat
 | .region id _ _=>some id
 | .seq a b=>match dz a with | some i=>some i | none=>dz b
 | .cond _ a b=>match dz a with | some i=>some i | none=>dz b
 | .block _ a=>dz a
 | .loop a=>dz a
 | _=>none
def run (P:Program) (Γ:Ctx) (A:List (Nat×lE)) (N:Nat):Code→St→AF→kM
 | .skip,st,K=>K.eW st
 | .region _ ops draw,st,K=>(cf P Γ ops draw st).gd K.eW
 | .seq a b,st,K=>run P Γ A N a st {eW:=fun s=>run P Γ A N b s K,ext:=K.ext,ret:=K.ret}
 | .cond c a b,st,K=>
  match ev st c with
  | .kb t=>bif t then run P Γ A N a st K else run P Γ A N b st K
  | .bool g=>
   bif simple a && simple b && kB Γ st g (exec P Γ a (st.reset.dq c true)) (exec P Γ b (st.reset.dq c false)) then
    (merge st g (exec P Γ a (st.reset.dq c true)) (exec P Γ b (st.reset.dq c false))).gd K.eW
   else bif g then run P Γ A N a (st.dq c true) K else run P Γ A N b (st.dq c false) K
  | _=>kf
 | .block id a,st,K=>run P Γ A N a st {eW:=K.eW,ext:=fun i s=>bif Nat.beq i id then K.eW s else K.ext i s,ret:=K.ret}
 | .loop a,st,K=>
  match (dz a).bind (Jr A) with
  | some an=>(Nat.rec (motive:=fun _=>St→kM) (fun _=>kf) (fun _ ih s=>run P Γ A N a s {eW:=fun s'=>ih (canon P an s'),ext:=K.ext,ret:=K.ret}) N) (canon P an st)
  | none=>kf
 | .exit id,st,K=>K.ext id st
 | .ret,st,K=>K.ret st
 | _,_,_=>kf
def gL (P:Program):List ResultVar→M (List SV)
 | []=> .pure []
 | .tmp t::l=> .slot t fun s=>(gL P l).bind fun r=> .pure (s::r)
 | .cell a t::l=> .slot a fun s=>(match s with | .ptr id off=>mA P t (.ptr id off) | _=> .fail).bind fun e=>(gL P l).bind fun r=> .pure (e.sv::r)
def fN:RC→SV→M (DC×List Nat×List Nat)
 | .ef ct,s=>(eV ct s).bind fun q=> .pure (q.1,[],q.2.1.map (·.1))
 | .own _ _,.nil=> .pure (.sl [],[],[])
 | .own t e,.own id=> .obj id fun
  | .row t' e' r false u=>bif Nat.beq t t' && aL e e' && u then .pure (.sl r,[id],[]) else .fail
  | _=> .fail
 | .own _ _,_=> .fail
 | .deep _ _ _,.nil=> .pure (.sl [],[],[])
 | .deep t e ts,.own id=> .obj id fun
  | .deep t' e' ea r none=>bif Nat.beq t t' && aL e e' && fR ts ea then .pure (.sl r,[id],[]) else .fail
  | _=> .fail
 | .deep _ _ _,_=> .fail
def dV:List RC→List SV→M (List DC×List Nat×List Nat)
 | [],[]=> .pure ([],[],[])
 | c::cs,s::ss=>(fN c s).bind fun q=>(dV cs ss).bind fun r=> .pure (q.1::r.1,q.2.1++r.2.1,q.2.2++r.2.2)
 | _,_=> .fail
def fO:List RK→List SV→M (List DC×List Nat×List Nat)
 | [],[]=> .pure ([],[],[])
 | k::ks,s::ss=>
  (match k.agg,s with
   | true,.agg cs=>dV k.cells cs
   | true,_=> .fail
   | false,.agg _=> .fail
   | false,s=>dV k.cells [s]).bind fun q=>(fO ks ss).bind fun r=> .pure (q.1++r.1,q.2.1++r.2.1,q.2.2++r.2.2)
 | _,_=> .fail
def Hb (t:TypeId) (bI:List CT):List SV→M (List DC)
 | [.ptr id 0]=> .obj id fun
  | .box t' cells=>bif Nat.beq t' t then (cq bI cells).bind fun q=>bif q.2.1.isEmpty then .pure q.1 else .fail else .fail
  | _=> .fail
 | _=> .fail
def fin (P:Program) (fn:Func) (s:Sum) (st:St):kM:=
 match s.pt with
 | some (t,bI)=>
  match ((gL P fn.results.toList).bind fun l=>Hb t bI l).run st.get st.obj with
  | some (ds,_)=>(st.ok,ds)
  | none=>kf
 | none=>
 match ((gL P fn.results.toList).bind fun l=>fO s.rs l).run st.get st.obj with
 | some ((ds,own,im),_)=>(st.ok && fb own && im.all (fun i=> !(iq i own)),ds)
 | none=>kf
def jh:Nat→List AK→List DC→List (Nat×SV)
 | _,[],_=>[]
 | i,k::ks,ds=>(i,bif k.agg then .agg (cr k.bI ds 0) else (cr k.bI ds 0).headD .fG)::jh (i+1) ks (ds.drop k.bI.length)
def HW (P:Program) (Γ:Ctx) (A:List (Nat×lE)) (N:Nat) (fn:Func) (s:Sum) (ds:List DC):kM:=
 match fn.body with
 | some c=>run P Γ A N c {n:=fn.ntmps,sl:=jh 0 s.ps ds,hp:=[],ok:=true,ls:=[],lm:=[]} {eW:=fin P fn s,ext:=fun _ _=>kf,ret:=fin P fn s}
 | none=>kf
end Go.Proofs.YtnlkklmcfafgeaaGreat.Vm
namespace Go.Proofs.YtnlkklmcfafgeaaGreat.Vm
mutual
def cd (w:World):CT→DC→Value→List Nat→Prop
 | .int k,d,v,fp=>∃n,d= .int n∧v= .int k n∧BS k n=true∧fp=[]
 | .bool,d,v,fp=>∃b,d= .bool b∧v= .bool b∧fp=[]
 | .str,d,v,fp=>∃s:List UInt8,d= .str s∧v= .string ⟨s.toArray⟩∧s.length≤maxLen∧fp=[]
 | .sl e,d,v,fp=>∃rows a n c,d= .sl rows∧v= .slice a n c∧rows.length=n∧n≤c∧c≤maxLen∧
   ((n=0∧fp=[])∨(0<n∧∃(b o:Nat) (aE:List (List Nat)),a=some ⟨b,o,none⟩∧b<w.heap.size∧aE.length=n∧fp=b::aE.flatten∧
    ∀i r f,rows[i]? =some r→aE[i]? =some f→bf w e r (fun j=>w.cell? ⟨b,o+(i*e.length+j),none⟩) f))
def bf (w:World):List CT→List DC→(Nat→Option Value)→List Nat→Prop
 | [],r,_,fp=>r=[]∧fp=[]
 | c::cs,r,f,fp=>∃d r' v f1 f2,r=d::r'∧f 0=some v∧cd w c d v f1∧bf w cs r' (fun j=>f (j+1)) f2∧fp=f1++f2
end
theorem C_ {w w':World} {b o:Nat} (h:w'.heap[b]? =w.heap[b]?):w'.cell? ⟨b,o,none⟩=w.cell? ⟨b,o,none⟩:=by
 simp [World.cell?,h]
mutual
theorem cd.lt {w:World} :∀(c:CT) (d:DC) (v:Value) (fp:List Nat),cd w c d v fp→∀b∈fp,b<w.heap.size
 | .int _,_,_,_,h=>by
  obtain⟨_,_,_,_,rfl⟩:=(by simpa only[cd] using h)
  simp
 | .bool,_,_,_,h=>by
  obtain⟨_,_,_,rfl⟩:=(by simpa only[cd] using h)
  simp
 | .str,_,_,_,h=>by
  obtain⟨_,_,_,_,rfl⟩:=(by simpa only[cd] using h)
  simp
 | .sl e,_,_,_,h=>by
  simp only[cd] at h
  obtain⟨rows,a,n,c,_,_,hn,_,_,⟨_,rfl⟩ | ⟨_,b,o,aE,_,hb,hl,rfl,hr⟩⟩:=h
  ·simp
  ·intro x hx
   simp only[List.mem_cons,List.mem_flatten] at hx
   rcases hx with rfl | ⟨f,hf,hx⟩
   ·exact hb
   ·obtain⟨i,hi,rfl⟩:=List.getElem_of_mem hf
    have dY:i<rows.length:=by omega
    exact bf.lt e _ _ _ (hr i rows[i] aE[i] (by simp) (by simp)) x hx
theorem bf.lt {w:World} :∀(cs:List CT) (r:List DC) (f:Nat→Option Value) (fp:List Nat),bf w cs r f fp→∀b∈fp,b<w.heap.size
 | [],_,_,_,h=>by
  simp only[bf] at h
  simp [h.2]
 | c::cs,_,_,_,h=>by
  simp only[bf] at h
  obtain⟨d,r',v,f1,f2,_,_,h1,h2,rfl⟩:=h
  intro b hb
  simp only[List.mem_append] at hb
  rcases hb with hb | hb
  ·exact cd.lt c _ _ _ h1 b hb
  ·exact bf.lt cs _ _ _ h2 b hb
end
mutual
theorem cd.mono {w w':World} (hs:w.heap.size≤w'.heap.size):∀(c:CT) (d:DC) (v:Value) (fp:List Nat),cd w c d v fp→(∀b∈fp,w'.heap[b]? =w.heap[b]?)→cd w' c d v fp
 | .int _,_,_,_,h,_=>by simpa only[cd] using h
 | .bool,_,_,_,h,_=>by simpa only[cd] using h
 | .str,_,_,_,h,_=>by simpa only[cd] using h
 | .sl e,_,_,_,h,hb=>by
  simp only[cd] at h ⊢
  obtain⟨rows,a,n,c,hd,hv,hn,hc,hm,⟨h0,rfl⟩ | ⟨hp,b,o,aE,ha,cz,hl,rfl,hr⟩⟩:=h
  ·exact⟨rows,a,n,c,hd,hv,hn,hc,hm,.inl ⟨h0,rfl⟩⟩
  ·refine⟨rows,a,n,c,hd,hv,hn,hc,hm,.inr ⟨hp,b,o,aE,ha,by omega,hl,rfl,fun i r f hi hf=> ?_⟩⟩
   refine bf.mono hs e r _ _ f (hr i r f hi hf) (fun j=> ?_) (fun x hx=>hb x ?_)
   ·exact (C_ (hb b (by simp))).symm ▸ rfl
   ·simp only[List.mem_cons,List.mem_flatten]
    exact .inr ⟨f,List.mem_of_getElem? hf,hx⟩
theorem bf.mono {w w':World} (hs:w.heap.size≤w'.heap.size):∀(cs:List CT) (r:List DC) (f f':Nat→Option Value) (fp:List Nat),bf w cs r f fp→(∀j,f' j=f j)→(∀b∈fp,w'.heap[b]? =w.heap[b]?)→bf w' cs r f' fp
 | [],_,_,_,_,h,_,_=>by simpa only[bf] using h
 | c::cs,_,_,_,_,h,hf,hb=>by
  simp only[bf] at h ⊢
  obtain⟨d,r',v,f1,f2,hr,h0,h1,h2,rfl⟩:=h
  exact⟨d,r',v,f1,f2,hr,(hf 0).trans h0,cd.mono hs c _ _ _ h1 (fun b hx=>hb b (by simp [hx])),bf.mono hs cs _ _ _ _ h2 (fun j=>hf (j+1)) (fun b hx=>hb b (by simp [hx])),rfl⟩
end
theorem bf.length {w:World} :∀(cs:List CT) (r:List DC) (f:Nat→Option Value) (fp:List Nat),bf w cs r f fp→r.length=cs.length
 | [],_,_,_,h=>by
  simp only[bf] at h
  simp [h.1]
 | c::cs,_,_,_,h=>by
  simp only[bf] at h
  obtain⟨d,r',v,f1,f2,rfl,_,_,h2,_⟩:=h
  simp [bf.length cs _ _ _ h2]
structure Env where
 da:Nat→Nat
 val:Nat→Value
 gN:Nat→Prop
 nb:Nat→List Nat
mutual
def aq (w:World) (av:Nat→Prop) (β:Env):SV→Value→Prop
 | .fG,_=>True
 | .undef,v=>v=undef
 | .kb b,v=>v= .bool b
 | .int k n,v=>v= .int k n∧BS k n=true
 | .bool b,v=>v= .bool b
 | .str s,v=>v= .string ⟨s.toArray⟩∧s.length≤maxLen
 | .sl e r,v=>∃fp,cd w (.sl e) (.sl r) v fp∧∀b∈fp,¬av b
 | .nil,v=>v= .slice none 0 0
 | .own id,v=>v=β.val id∧v.oneCell'=true
 | .agg cs,v=>∃vs:List Value,v= .agg vs.toArray∧ah w av β cs vs∧∀x∈vs,x.oneCell'=true
 | .ptr id off,v=>v= .pointer (some ⟨β.da id,off,none⟩)
 | .gS e r off,v=>∃b o fp,v= .pointer (some ⟨b,o+off,none⟩)∧b<w.heap.size∧¬av b∧bf w e r (fun j=>w.cell? ⟨b,o+j,none⟩) fp∧∀x∈fp,¬av x
 | .ey id i z off,v=>∃g,(β.val id).ownBlock=some g∧v= .pointer (some ⟨g,i*z+off,none⟩)
 | .DA vs,v=>∃l:List Value,v= .tuple l.toArray∧ah w av β vs l
 | .FT g cs,v=>∃l:List Value,v= .func (.func g) #[] l.toArray∧ah w av β cs l
 | .FO id lo z,v=>∃g n c,β.val id= .slice (some ⟨g,0,none⟩) n c∧lo≤n∧v= .slice (some ⟨g,if lo<c then lo*z else 0,none⟩) (n - lo) (c - lo)
def ah (w:World) (av:Nat→Prop) (β:Env):List SV→List Value→Prop
 | [],l=>l=[]
 | s::ss,l=>∃v l',l=v::l'∧aq w av β s v∧ah w av β ss l'
end
mutual
theorem aq.mono {w w':World} {av av':Nat→Prop} {β β':Env} (hs:w.heap.size≤w'.heap.size)
  (hw:∀b,b<w.heap.size→¬av b→w'.heap[b]? =w.heap[b]?) (ha:∀b,av' b→av b∨w.heap.size≤b):
  ∀(s:SV) (v:Value),aq w av β s v→(∀i∈cb s,β'.val i=β.val i∧β'.da i=β.da i)→aq w' av' β' s v
 | .fG,_,_,_=>by simp only[aq]
 | .undef,_,h,_=>by simpa only[aq] using h
 | .kb _,_,h,_=>by simpa only[aq] using h
 | .int _ _,_,h,_=>by simpa only[aq] using h
 | .bool _,_,h,_=>by simpa only[aq] using h
 | .str _,_,h,_=>by simpa only[aq] using h
 | .nil,_,h,_=>by simpa only[aq] using h
 | .sl e r,v,h,_=>by
  simp only[aq] at h ⊢
  obtain⟨fp,h1,h2⟩:=h
  have cz:=cd.lt _ _ _ _ h1
  refine⟨fp,cd.mono hs _ _ _ _ h1 (fun b hb=>hw b (cz b hb) (h2 b hb)),fun b hb hx=> ?_⟩
  rcases ha b hx with h | h
  ·exact h2 b hb h
  ·have:=cz b hb;omega
 | .own id,_,h,hi=>by
  simp only[aq] at h ⊢
  rw[(hi id (by simp [cb])).1]
  exact h
 | .ptr id _,_,h,hi=>by
  simp only[aq] at h ⊢
  rw[h,(hi id (by simp [cb])).2]
 | .ey id i z off,_,h,hi=>by
  simp only[aq] at h ⊢
  rw[(hi id (by simp [cb])).1]
  exact h
 | .gS e r off,v,h,_=>by
  simp only[aq] at h ⊢
  obtain⟨b,o,fp,rfl,hb,cX,h1,h2⟩:=h
  have cz:=bf.lt _ _ _ _ h1
  have key:∀x,x<w.heap.size→¬av x→¬av' x:=fun x hx hn Ck=>by
   rcases ha x Ck with h | h
   ·exact hn h
   ·omega
  refine⟨b,o,fp,rfl,by omega,key b hb cX,bf.mono hs _ _ _ _ _ h1 (fun j=>C_ (hw b hb cX)) (fun x hx=>hw x (cz x hx) (h2 x hx)),fun x hx=>key x (cz x hx) (h2 x hx)⟩
 | .agg cs,v,h,hi=>by
  simp only[aq] at h ⊢
  obtain⟨vs,rfl,h,h1⟩:=h
  exact⟨vs,rfl,ah.mono hs hw ha cs vs h (by simpa [cb] using hi),h1⟩
 | .DA cs,v,h,hi=>by
  simp only[aq] at h ⊢
  obtain⟨vs,rfl,h⟩:=h
  exact⟨vs,rfl,ah.mono hs hw ha cs vs h (by simpa [cb] using hi)⟩
 | .FT _ cs,v,h,hi=>by
  simp only[aq] at h ⊢
  obtain⟨vs,rfl,h⟩:=h
  exact⟨vs,rfl,ah.mono hs hw ha cs vs h (by simpa [cb] using hi)⟩
 | .FO id _ _,_,h,hi=>by
  simp only[aq] at h ⊢
  rw[(hi id (by simp [cb])).1]
  exact h
theorem ah.mono {w w':World} {av av':Nat→Prop} {β β':Env} (hs:w.heap.size≤w'.heap.size)
  (hw:∀b,b<w.heap.size→¬av b→w'.heap[b]? =w.heap[b]?) (ha:∀b,av' b→av b∨w.heap.size≤b):
  ∀(s:List SV) (v:List Value),ah w av β s v→(∀i∈bY s,β'.val i=β.val i∧β'.da i=β.da i)→ah w' av' β' s v
 | [],_,h,_=>by simpa only[ah] using h
 | s::ss,_,h,hi=>by
  simp only[ah] at h ⊢
  obtain⟨v,l',rfl,h1,h2⟩:=h
  exact⟨v,l',rfl,aq.mono hs hw ha s v h1 (fun i hx=>hi i (by simp [bY,hx])),ah.mono hs hw ha ss l' h2 (fun i hx=>hi i (by simp [bY,hx]))⟩
end
theorem ah.length {w:World} {av:Nat→Prop} {β:Env} :∀(s:List SV) (v:List Value),ah w av β s v→v.length=s.length
 | [],_,h=>by simp only[ah] at h;simp [h]
 | s::ss,_,h=>by
  simp only[ah] at h
  obtain⟨v,l',rfl,_,h2⟩:=h
  simp [ah.length ss l' h2]
theorem ah.get {w:World} {av:Nat→Prop} {β:Env} :∀(ss:List SV) (vs:List Value) (i:Nat) (s:SV),ah w av β ss vs→ss[i]? =some s→∃v,vs[i]? =some v∧aq w av β s v
 | [],_,_,_,_,hi=>by simp at hi
 | s::ss,_,i,x,h,hi=>by
  simp only[ah] at h
  obtain⟨v,l',rfl,h1,h2⟩:=h
  cases i with
  | zero=>simp at hi;subst hi;exact⟨v,by simp,h1⟩
  | succ i=>simpa using ah.get ss l' i x h2 (by simpa using hi)
theorem ah.append {w:World} {av:Nat→Prop} {β:Env} :∀(a:List SV) (x:List Value) (b:List SV) (y:List Value),ah w av β a x→ah w av β b y→ah w av β (a++b) (x++y)
 | [],_,_,_,h,h'=>by simp only[ah] at h;simpa [h] using h'
 | s::ss,_,_,_,h,h'=>by
  simp only[ah] at h
  obtain⟨v,l',rfl,h1,h2⟩:=h
  simp only[List.cons_append,ah]
  exact⟨v,_,rfl,h1,ah.append ss l' _ _ h2 h'⟩
theorem ah.take {w:World} {av:Nat→Prop} {β:Env} :∀(a:List SV) (x:List Value) (n:Nat),ah w av β a x→ah w av β (a.take n) (x.take n)
 | [],_,n,h=>by simp only[ah] at h;simp [h,ah]
 | s::ss,_,n,h=>by
  simp only[ah] at h
  obtain⟨v,l',rfl,h1,h2⟩:=h
  cases n with
  | zero=>simp [ah]
  | succ n=>simp only[List.take_succ_cons,ah];exact⟨v,_,rfl,h1,ah.take ss l' n h2⟩
theorem ah.drop {w:World} {av:Nat→Prop} {β:Env} :∀(a:List SV) (x:List Value) (n:Nat),ah w av β a x→ah w av β (a.drop n) (x.drop n)
 | [],_,n,h=>by simp only[ah] at h;simp [h,ah]
 | s::ss,_,n,h=>by
  simp only[ah] at h
  obtain⟨v,l',rfl,h1,h2⟩:=h
  cases n with
  | zero=>simp only[List.drop_zero,ah];exact⟨v,l',rfl,h1,h2⟩
  | succ n=>simpa using ah.drop ss l' n h2
mutual
theorem Er:∀(a b:CT),kO a b=true→a=b
 | .int k,.int k',h=>by simp [kO] at h;rw[h]
 | .bool,.bool,_=>rfl
 | .str,.str,_=>rfl
 | .sl e,.sl e',h=>by simp only[kO] at h;rw[aR e e' h]
 | .int _,.bool,h | .int _,.str,h | .int _,.sl _,h | .bool,.int _,h | .bool,.str,h | .bool,.sl _,h | .str,.int _,h | .str,.bool,h | .str,.sl _,h | .sl _,.int _,h | .sl _,.bool,h | .sl _,.str,h=>by simp [kO] at h
theorem aR:∀(a b:List CT),aL a b=true→a=b
 | [],[],_=>rfl
 | a::l,b::m,h=>by
  simp only[aL,aw] at h
  rw[Er a b h.1,aR l m h.2]
 | [],_::_,h | _::_,[],h=>by simp [aL] at h
end
theorem aq.Da {w:World} {av:Nat→Prop} {β:Env} (e:List CT) (v:Value) (h:v= .slice none 0 0):aq w av β (.sl e []) v:=by
 unfold aq
 refine⟨[], ?_,by simp⟩
 unfold cd
 exact⟨[],none,0,0,rfl,h,rfl,Nat.le_refl _,Nat.zero_le _,.inl ⟨rfl,rfl⟩⟩
mutual
theorem aq.merge {w:World} {av:Nat→Prop} {β:Env} (g:Bool) (a b:SV) (v:Value) (h:aq w av β (bif g then a else b) v):aq w av β (eI g a b) v:=by
 rw[eI.eq_def]
 split
 ·cases g<;>simpa using h
 ·rename_i x y
  cases g<;>cases x<;>cases y<;>simp_all [aq]
 ·cases g<;>simp_all [aq]
 ·cases g<;>simp_all [aq]
 ·cases g<;>simp_all [aq]
 ·rename_i k n k' m
  by_cases hk:k=k'
  ·subst hk;cases g<;>simp_all [aq]
  ·simp [hk,aq]
 ·cases g<;>simp_all [aq]
 ·rename_i e r e' r'
  cases hl:aL e e'
  ·simp [aq]
  ·have:=aR _ _ hl
   subst this
   cases g<;>simpa using h
 ·cases g
  ·exact aq.Da _ _ (by simpa [aq] using h)
  ·simpa using h
 ·cases g
  ·simpa using h
  ·exact aq.Da _ _ (by simpa [aq] using h)
 ·cases g<;>simpa using h
 ·rename_i i j
  cases hl:Nat.beq i j
  ·simp [aq]
  ·have:=aM hl
   subst this
   simpa using h
 ·rename_i i o j o'
  cases hl:Nat.beq i j && Nat.beq o o'
  ·simp [aq]
  ·simp only[aw] at hl
   have h1:=aM hl.1
   have h2:=aM hl.2
   subst h1 h2
   simpa using h
 ·rename_i e r o e' r' o'
  cases hl:aL e e' && Nat.beq o o'
  ·simp [aq]
  ·simp only[aw] at hl
   have h1:=aR _ _ hl.1
   have h2:=aM hl.2
   subst h1 h2
   cases g<;>simpa using h
 ·rename_i i x z o j y z' o'
  cases hl:Nat.beq i j && Nat.beq z z' && Nat.beq o o'
  ·simp [aq]
  ·simp only[aw] at hl
   have h1:=aM hl.1.1
   have h2:=aM hl.1.2
   have h3:=aM hl.2
   subst h1 h2 h3
   cases g<;>simpa using h
 ·rename_i l m
  cases hl:Nat.beq l.length m.length
  ·simp [aq]
  ·simp only[aj,aq]
   have hlen:=aM hl
   cases g
   ·simp only[aQ,aq] at h
    obtain⟨vs,rfl,h,h1⟩:=h
    exact⟨vs,rfl,ah.merge false l m vs hlen h,h1⟩
   ·simp only[aj,aq] at h
    obtain⟨vs,rfl,h,h1⟩:=h
    exact⟨vs,rfl,ah.merge true l m vs hlen h,h1⟩
 ·rename_i l m
  cases hl:Nat.beq l.length m.length
  ·simp [aq]
  ·simp only[aj,aq]
   have hlen:=aM hl
   cases g
   ·simp only[aQ,aq] at h
    obtain⟨vs,rfl,h⟩:=h
    exact⟨vs,rfl,ah.merge false l m vs hlen h⟩
   ·simp only[aj,aq] at h
    obtain⟨vs,rfl,h⟩:=h
    exact⟨vs,rfl,ah.merge true l m vs hlen h⟩
 ·simp only[aq]
termination_by SizeOf.sizeOf a
theorem ah.merge {w:World} {av:Nat→Prop} {β:Env} (g:Bool):∀(a b:List SV) (v:List Value),a.length=b.length→ah w av β (bif g then a else b) v→ah w av β (jk g a b) v
 | [],[],v,_,h=>by cases g<;>simpa [jk] using h
 | [],_::_,v,hl,h=>by simp at hl
 | _::_,[],v,hl,h=>by simp at hl
 | a::l,b::m,v,hl,h=>by
  simp only[jk,ah]
  have D5:l.length=m.length:=by simpa using hl
  cases g
  ·simp only[aQ,ah] at h
   obtain⟨x,l',rfl,h1,h2⟩:=h
   exact⟨x,l',rfl,aq.merge false a b x h1,ah.merge false l m l' D5 h2⟩
  ·simp only[aj,ah] at h
   obtain⟨x,l',rfl,h1,h2⟩:=h
   exact⟨x,l',rfl,aq.merge true a b x h1,ah.merge true l m l' D5 h2⟩
termination_by a=>SizeOf.sizeOf a
end
end Go.Proofs.YtnlkklmcfafgeaaGreat.Vm
namespace Go.Proofs.YtnlkklmcfafgeaaGreat.Vm
def cx (w:World) (t size:Nat) (fz:Bool) (v:Value) (n:Nat) (vals:List Value):Prop:=
 vals.length=n*size∧
 ((v= .slice none 0 0∧n=0∧fz=false)∨
  ∃(g cap:Nat) (cur:Array Value),v= .slice (some ⟨g,0,none⟩) n cap∧w.heap[g]? =some (.cells cur t (bif fz then (cur.size,cur.size+1) else (0,0)))∧
   n≤cap∧cap≤maxLen∧cur.size=cap*size∧cur.toList.take (n*size)=vals)
def dS (w:World) (e:List CT) (rows:List (List DC)) (vals:List Value) (aE:List (List Nat)):Prop:=
 aE.length=rows.length∧∀i r f,rows[i]? =some r→aE[i]? =some f→bf w e r (fun j=>vals[i*e.length+j]?) f
def ar (β:Env) (id:Nat):ao→List Nat
 | .box _ _=>[β.da id]
 | .row _ _ _ _ _=>(β.val id).ownBlock.toList
 | .ef _ _=>[]
 | .deep _ _ _ _ _=>(β.val id).ownBlock.toList++β.nb id
def J2 (w:World) (hv:Option Value) (t:TypeId) (e:List CT) (rows:List (List DC)) (v:Value) (mb:List Nat):Prop:=
 match hv with
 | none=>∃vals aE,cx w t e.length false v rows.length vals∧dS w e rows vals aE∧mb=v.ownBlock.toList
 | some v0=>v=v0∧v0.oneCell'=true∧mb=[]
def ae (w:World) (hv:Option Value):List CT→List TypeId→List DC→List Value→List Nat→Prop
 | [],ts,ds,us,mb=>ts=[]∧ds=[]∧us=[]∧mb=[]
 | .sl e::cs,ts,ds,us,mb=>∃t ea rows bc v aW m1 gw,ts=t::ea∧ds= .sl rows::bc∧us=v::aW∧ax e=true∧J2 w hv t e rows v m1∧ae w hv cs ea bc aW gw∧mb=m1++gw
 | c::cs,ts,ds,us,mb=>∃d bc v aW,ds=d::bc∧us=v::aW∧cd w c d v []∧ae w hv cs ts bc aW mb
def bQ (w:World) (e:List CT) (ts:List TypeId) (rows:List (List DC)) (vals:List Value) (hv:Nat→Option Value) (a7:List (List Nat)):Prop:=
 a7.length=rows.length∧∀i r m,rows[i]? =some r→a7[i]? =some m→ae w (hv i) e ts r ((vals.drop (i*e.length)).take e.length) m
def hZ (β:Env):Option (Nat×Nat)→Nat→Option Value
 | none,_=>none
 | some (i,id),j=>if j=i then some (β.val id) else none
def Av (h:Nat→Option ao) (β:Env) (b:Nat):Prop:=(∃id o,h id=some o∧b∈ar β id o)∨β.gN b
def f9 (w:World) (av:Nat→Prop) (β:Env) (id:Nat):ao→List Nat→Prop
 | .box t cells,φ=>∃vs:List Value,w.heap[β.da id]? =some (.cells vs.toArray t (0,0))∧ah w av β cells vs∧(∀x∈vs,x.oneCell'=true)∧φ=[β.da id]
 | .row t e rows fz u,φ=>∃vals aE,cx w t e.length fz (β.val id) rows.length vals∧dS w e rows vals aE∧(∀b∈aE.flatten,¬av b)∧
   φ=(β.val id).ownBlock.toList++(bif u then aE.flatten else [])
 | .ef e rows,φ=>aq w av β (.sl e rows) (β.val id)∧φ=[]
 | .deep t e ts rows hl,φ=>∃vals a7,cx w t e.length false (β.val id) rows.length vals∧bQ w e ts rows vals (hZ β hl) a7∧β.nb id=a7.flatten∧φ=(β.val id).ownBlock.toList++a7.flatten
structure Own where
 may:Nat→Prop
 gN:Nat→Prop
 fx:List (Nat×Value)
instance:CoeFun Own (fun _=>Nat→Prop):=⟨Own.may⟩
def Own.none:Own:=⟨fun _=>False,fun _=>False,[]⟩
structure Kept (S:Own) (w0 w:World):Prop where
 os:w.os=w0.os
 tape:w.tape=w0.tape
 output:w.output=w0.output
 size:w0.heap.size≤w.heap.size
 block:∀k,k<w0.heap.size→¬S k→w.heap[k]? =w0.heap[k]?
structure Core (w0:World) (S:Own) (f:Nat→SV) (h:Nat→Option ao) (β:Env) (φ:Nat→List Nat) (tm:Array Value) (w:World):Prop where
 cl:∀i,aq w (Av h β) β (f i) (tm.getD i undef)
 aC:∀id o,h id=some o→f9 w (Av h β) β id o (φ id)
 fresh:∀id o,h id=some o→(φ id).Nodup∧∀b∈φ id,(w0.heap.size≤b∨S b)∧b<w.heap.size
 sep:∀i j o p,i≠j→h i=some o→h j=some p→∀b∈φ i,b ∉ φ j
 gN:∀b,β.gN b→b<w0.heap.size∧¬S b
 bars:β.gN=S.gN
theorem dS.lt {w:World} {e:List CT} {rows:List (List DC)} {vals:List Value} {aE:List (List Nat)} (h:dS w e rows vals aE):∀b∈aE.flatten,b<w.heap.size:=by
 intro b hb
 obtain⟨f,hf,hb⟩:=List.mem_flatten.1 hb
 obtain⟨i,hi,rfl⟩:=List.getElem_of_mem hf
 have dY:i<rows.length:=by have:=h.1;omega
 exact bf.lt e _ _ _ (h.2 i rows[i] aE[i] (by simp) (by simp)) b hb
theorem dS.mono {w w':World} {e:List CT} {rows:List (List DC)} {vals:List Value} {aE:List (List Nat)} (h:dS w e rows vals aE) (hs:w.heap.size≤w'.heap.size)
  (hb:∀b∈aE.flatten,w'.heap[b]? =w.heap[b]?):dS w' e rows vals aE:=
 ⟨h.1,fun i r f hi hf=>bf.mono hs e r _ _ f (h.2 i r f hi hf) (fun _=>rfl) (fun b hx=>hb b (List.mem_flatten.2 ⟨f,List.mem_of_getElem? hf,hx⟩))⟩
theorem cx.mono {w w':World} {t size:Nat} {fz:Bool} {v:Value} {n:Nat} {vals:List Value} (h:cx w t size fz v n vals)
  (hb:∀b∈v.ownBlock.toList,w'.heap[b]? =w.heap[b]?):cx w' t size fz v n vals:=by
 refine⟨h.1, ?_⟩
 rcases h.2 with hn | ⟨g,cap,cur,rfl,hg,rest⟩
 ·exact .inl hn
 ·exact .inr ⟨g,cap,cur,rfl,(hb g (by simp [Value.ownBlock])).trans hg,rest⟩
theorem cx.one {w:World} {t size:Nat} {fz:Bool} {v:Value} {n:Nat} {vals:List Value} (h:cx w t size fz v n vals):v.oneCell'=true:=by
 rcases h.2 with ⟨rfl,_⟩ | ⟨g,cap,cur,rfl,_⟩<;>rfl
theorem cx.lt {w:World} {t size:Nat} {fz:Bool} {v:Value} {n:Nat} {vals:List Value} (h:cx w t size fz v n vals):∀b∈v.ownBlock.toList,b<w.heap.size:=by
 rcases h.2 with ⟨rfl,_⟩ | ⟨g,cap,cur,rfl,hg,_⟩
 ·simp [Value.ownBlock]
 ·intro b hb
  simp [Value.ownBlock] at hb
  subst hb
  exact (Array.getElem?_eq_some_iff.1 hg).1
theorem cx.owns {w:World} {t size:Nat} {v:Value} {n:Nat} {vals:List Value} (h:cx w t size false v n vals):w.ownsRow 0 t size v n vals:=by
 refine⟨h.1, ?_⟩
 rcases h.2 with ⟨hv,hn,_⟩ | ⟨g,cap,cur,hv,hg,rest⟩
 ·exact .inl ⟨hv,hn⟩
 ·exact .inr ⟨g,cap,cur,hv,Nat.zero_le _,by simpa using hg,rest⟩
theorem cx.HV {w:World} {t size:Nat} {v:Value} {n:Nat} {vals:List Value} {base:Nat} (h:w.ownsRow base t size v n vals):cx w t size false v n vals:=by
 refine⟨h.1, ?_⟩
 rcases h.2 with ⟨hv,hn⟩ | ⟨g,cap,cur,hv,_,hg,rest⟩
 ·exact .inl ⟨hv,hn,rfl⟩
 ·exact .inr ⟨g,cap,cur,hv,by simpa using hg,rest⟩
theorem dS.ma:∀(cs:List CT) (r:List DC) (f:Nat→Option Value) (fp:List Nat) {w:World},ax cs=true→bf w cs r f fp→fp=[]
 | [],r,g,fp,w,_,h=>by simp only[bf] at h;exact h.2
 | c::cs,r,g,fp,w,hf,h=>by
  simp only[bf] at h
  obtain⟨d,r',v,f1,f2,rfl,_,h1,h2,rfl⟩:=h
  cases c with
  | sl e=>simp [ax] at hf
  | int k=>
   simp only[cd] at h1
   obtain⟨_,_,_,_,rfl⟩:=h1
   rw[dS.ma cs r' _ f2 (by simpa [ax] using hf) h2]
   rfl
  | bool=>
   simp only[cd] at h1
   obtain⟨_,_,_,rfl⟩:=h1
   rw[dS.ma cs r' _ f2 (by simpa [ax] using hf) h2]
   rfl
  | str=>
   simp only[cd] at h1
   obtain⟨_,_,_,_,rfl⟩:=h1
   rw[dS.ma cs r' _ f2 (by simpa [ax] using hf) h2]
   rfl
theorem dS.Du {w:World} {e:List CT} {rows:List (List DC)} {vals:List Value} {aE:List (List Nat)} (hf:ax e=true) (h:dS w e rows vals aE):aE.flatten=[]:=by
 rw[List.flatten_eq_nil_iff]
 intro l hl
 obtain⟨i,hi,rfl⟩:=List.getElem_of_mem hl
 have dY:i<rows.length:=by have:=h.1;omega
 exact dS.ma e _ _ _ hf (h.2 i rows[i] aE[i] (by simp) (by simp))
theorem ae.flat {w:World} {hv:Option Value} {c:CT} {cs:List CT} {ts:List TypeId} {ds:List DC} {us:List Value} {mb:List Nat} (hc:ax [c]=true):
  ae w hv (c::cs) ts ds us mb=∃d bc v aW,ds=d::bc∧us=v::aW∧cd w c d v []∧ae w hv cs ts bc aW mb:=by
 cases c with
 | sl e=>simp [ax] at hc
 | int k=>simp only[ae]
 | bool=>simp only[ae]
 | str=>simp only[ae]
theorem ae.mono {w w':World} {hv:Option Value} (hs:w.heap.size≤w'.heap.size):∀(cs:List CT) (ts:List TypeId) (ds:List DC) (us:List Value) (mb:List Nat),ae w hv cs ts ds us mb→(∀b∈mb,w'.heap[b]? =w.heap[b]?)→ae w' hv cs ts ds us mb
 | [],_,_,_,_,h,_=>by simpa only[ae] using h
 | .sl e::cs,_,_,_,_,h,hb=>by
  simp only[ae] at h ⊢
  obtain⟨t,ea,rows,bc,v,aW,m1,gw,h1,h2,h3,h4,h5,h6,rfl⟩:=h
  refine⟨t,ea,rows,bc,v,aW,m1,gw,h1,h2,h3,h4, ?_,ae.mono hs cs _ _ _ _ h6 (fun b hx=>hb b (aK _ hx)),rfl⟩
  cases hv with
  | some v0=>exact h5
  | none=>
   obtain⟨vals,aE,g1,g2,rfl⟩:=h5
   refine⟨vals,aE,g1.mono (fun b hx=>hb b (aT _ hx)),g2.mono hs (fun b hx=> ?_),rfl⟩
   rw[g2.Du h4] at hx
   simp at hx
 | .int k::cs,_,_,_,_,h,hb=>by
  simp only[ae] at h ⊢
  obtain⟨d,bc,v,aW,h1,h2,h3,h4⟩:=h
  exact⟨d,bc,v,aW,h1,h2,cd.mono hs _ _ _ _ h3 (by simp),ae.mono hs cs _ _ _ _ h4 hb⟩
 | .bool::cs,_,_,_,_,h,hb=>by
  simp only[ae] at h ⊢
  obtain⟨d,bc,v,aW,h1,h2,h3,h4⟩:=h
  exact⟨d,bc,v,aW,h1,h2,cd.mono hs _ _ _ _ h3 (by simp),ae.mono hs cs _ _ _ _ h4 hb⟩
 | .str::cs,_,_,_,_,h,hb=>by
  simp only[ae] at h ⊢
  obtain⟨d,bc,v,aW,h1,h2,h3,h4⟩:=h
  exact⟨d,bc,v,aW,h1,h2,cd.mono hs _ _ _ _ h3 (by simp),ae.mono hs cs _ _ _ _ h4 hb⟩
theorem bQ.mono {w w':World} {e:List CT} {ts:List TypeId} {rows:List (List DC)} {vals:List Value} {hv hv':Nat→Option Value} {a7:List (List Nat)} (h:bQ w e ts rows vals hv a7) (hs:w.heap.size≤w'.heap.size)
  (hb:∀b∈a7.flatten,w'.heap[b]? =w.heap[b]?) (hh:∀i,hv' i=hv i):bQ w' e ts rows vals hv' a7:=
 ⟨h.1,fun i r m hi hm=>by rw[hh];exact ae.mono hs _ _ _ _ _ (h.2 i r m hi hm) (fun b hx=>hb b (List.mem_flatten.2 ⟨m,List.mem_of_getElem? hm,hx⟩))⟩
theorem ak {w:World} {av:Nat→Prop} {β:Env} {id:Nat} {o:ao} {φ:List Nat} (h:f9 w av β id o φ):∀b∈ar β id o,b∈φ:=by
 cases o with
 | box t cells=>
  obtain⟨vs,_,_,_,rfl⟩:=h
  simp [ar]
 | row t e rows fz u=>
  obtain⟨vals,aE,_,_,_,rfl⟩:=h
  intro b hb
  exact aT _ hb
 | ef e rows=>simp [ar]
 | deep t e ts rows hl=>
  obtain⟨vals,a7,_,_,hn,rfl⟩:=h
  intro b hb
  simpa only[ar,hn] using hb
theorem f9.mono {w w':World} {av av':Nat→Prop} {β β':Env} {id:Nat} {o:ao} {φ:List Nat} (h:f9 w av β id o φ) (hs:w.heap.size≤w'.heap.size)
  (hw:∀b,b<w.heap.size→¬av b→w'.heap[b]? =w.heap[b]?) (ha:∀b,av' b→av b∨w.heap.size≤b)
  (gv:∀i,i=id∨i∈cK o→β'.val i=β.val i∧β'.da i=β.da i) (ht:∀b∈ar β id o,w'.heap[b]? =w.heap[b]?) (js:β'.nb id=β.nb id):f9 w' av' β' id o φ:=by
 have key:∀x,x<w.heap.size→¬av x→¬av' x:=fun x hx hn Ck=>by
  rcases ha x Ck with h | h
  ·exact hn h
  ·omega
 have h0:=gv id (.inl rfl)
 cases o with
 | box t cells=>
  obtain⟨vs,h1,h2,h3,rfl⟩:=h
  refine⟨vs, ?_,ah.mono hs hw ha _ _ h2 (fun i hi=>gv i (.inr hi)),h3,by rw[h0.2]⟩
  rw[h0.2,ht _ (by simp [ar])]
  exact h1
 | row t e rows fz u=>
  obtain⟨vals,aE,h1,h2,h3,rfl⟩:=h
  refine⟨vals,aE, ?_,h2.mono hs (fun b hb=>hw b (h2.lt b hb) (h3 b hb)),fun b hb=>key b (h2.lt b hb) (h3 b hb),by rw[h0.1]⟩
  rw[h0.1]
  exact h1.mono ht
 | ef e rows=>
  obtain⟨h1,rfl⟩:=h
  refine⟨?_,rfl⟩
  rw[h0.1]
  exact aq.mono hs hw ha _ _ h1 (by simp [cb])
 | deep t e ts rows hl=>
  obtain⟨vals,a7,h1,h2,h3,rfl⟩:=h
  refine⟨vals,a7, ?_,h2.mono hs (fun b hb=>ht b ?_) (fun j=> ?_),by rw[js];exact h3,by rw[h0.1]⟩
  ·rw[h0.1]
   exact h1.mono (fun b hb=>ht b (by simp only[ar];exact aT _ hb))
  ·simp only[ar,h3]
   exact aK _ hb
  ·cases hl with
   | none=>rfl
   | some x=>
    obtain⟨k,nid⟩:=x
    simp only[hZ]
    rw[(gv nid (.inr (by simp [cK]))).1]
theorem Core.mK {w0:World} {S:Own} {f:Nat→SV} {h h':Nat→Option ao} {β β':Env} {φ φ':Nat→List Nat} {tm:Array Value} {w w':World}
  (hc:Core w0 S f h β φ tm w) (X:Nat→Prop)
  (hs:w.heap.size≤w'.heap.size) (hw:∀b,b<w.heap.size→¬Av h β b→w'.heap[b]? =w.heap[b]?) (ha:∀b,Av h' β' b→Av h β b∨w.heap.size≤b)
  (hf:∀i,∀id∈cb (f i),¬X id) (gv:∀id,¬X id→β'.val id=β.val id∧β'.da id=β.da id)
  (hk:∀id o,h' id=some o→
   (¬X id∧h id=some o∧β'.nb id=β.nb id∧φ' id=φ id∧(∀i∈cK o,¬X i)∧∀b∈ar β id o,w'.heap[b]? =w.heap[b]?)∨
   (f9 w' (Av h' β') β' id o (φ' id)∧(φ' id).Nodup∧∀b∈φ' id,(w0.heap.size≤b∨S b)∧b<w'.heap.size))
  (HH:∀i j o p,i≠j→h' i=some o→h' j=some p→∀b∈φ' i,b ∉ φ' j) (fi:β'.gN=β.gN:=by rfl):Core w0 S f h' β' φ' tm w' where
 cl i:=aq.mono hs hw ha _ _ (hc.cl i) (fun id dZ=>gv id (hf i id dZ))
 aC id o ho:=by
  rcases hk id o ho with ⟨hx,h1,hn,h2,h3,h4⟩ | h1
  ·rw[h2]
   exact (hc.aC id o h1).mono hs hw ha (fun i hi=>gv i (hi.elim (fun e=>e ▸ hx) (h3 i))) h4 hn
  ·exact h1.1
 fresh id o ho:=by
  rcases hk id o ho with ⟨hx,h1,hn,h2,h3,h4⟩ | h1
  ·rw[h2]
   refine⟨(hc.fresh id o h1).1,fun b hb=> ?_⟩
   have:=(hc.fresh id o h1).2 b hb
   exact⟨this.1,by omega⟩
  ·exact h1.2
 sep:=HH
 gN b hb:=hc.gN b (fi ▸ hb)
 bars:=fi.trans hc.bars
theorem Core.step {w0:World} {S:Own} {f:Nat→SV} {h h':Nat→Option ao} {β β':Env} {φ φ':Nat→List Nat} {tm:Array Value} {w w':World}
  (hc:Core w0 S f h β φ tm w) (X:Nat→Prop)
  (hs:w.heap.size≤w'.heap.size) (hw:∀b,b<w.heap.size→¬Av h β b→w'.heap[b]? =w.heap[b]?) (ha:∀b,Av h' β' b→Av h β b∨w.heap.size≤b)
  (hf:∀i,∀id∈cb (f i),¬X id) (gv:∀id,¬X id→β'.val id=β.val id∧β'.da id=β.da id)
  (hk:∀id o,h' id=some o→
   (¬X id∧h id=some o∧φ' id=φ id∧(∀i∈cK o,¬X i)∧∀b∈ar β id o,w'.heap[b]? =w.heap[b]?)∨
   (f9 w' (Av h' β') β' id o (φ' id)∧(φ' id).Nodup∧∀b∈φ' id,(w0.heap.size≤b∨S b)∧b<w'.heap.size))
  (HH:∀i j o p,i≠j→h' i=some o→h' j=some p→∀b∈φ' i,b ∉ φ' j) (fi:β'.gN=β.gN:=by rfl) (js:∀id,β'.nb id=β.nb id:=by intro _;rfl):Core w0 S f h' β' φ' tm w':=
 hc.mK X hs hw ha hf gv (fun id o ho=>(hk id o ho).elim (fun h=> .inl ⟨h.1,h.2.1,js id,h.2.2⟩) .inr) HH fi
theorem Core.Ic {w0:World} {S:Own} {f:Nat→SV} {h:Nat→Option ao} {β:Env} {φ:Nat→List Nat} {tm:Array Value} {w:World} (hc:Core w0 S f h β φ tm w) (hk:w0.heap.size≤w.heap.size) {b:Nat} (hb:Av h β b):b<w.heap.size:=by
 rcases hb with ⟨j,oj,hj,bz⟩ | hb
 ·exact ((hc.fresh j oj hj).2 b (ak (hc.aC j oj hj) b bz)).2
 ·have:=(hc.gN b hb).1
  omega
theorem Core.Ba {w0:World} {S:Own} {f:Nat→SV} {h:Nat→Option ao} {β:Env} {φ:Nat→List Nat} {tm:Array Value} {w:World} (hc:Core w0 S f h β φ tm w) {j:Nat} {oj:ao} (hj:h j=some oj) {b:Nat} (hb:b∈φ j):¬β.gN b:=by
 intro hx
 have h1:=hc.gN b hx
 rcases ((hc.fresh j oj hj).2 b hb).1 with h2 | h2
 ·omega
 ·exact h1.2 h2
def aD {α:Type} (f:Nat→α) (d:Nat) (x:α):Nat→α:=fun i=>if i=d then x else f i
theorem Core.put {w0:World} {S:Own} {f:Nat→SV} {h:Nat→Option ao} {β:Env} {φ:Nat→List Nat} {tm:Array Value} {w:World}
  (hc:Core w0 S f h β φ tm w) (d:Nat) (s:SV) (v:Value) (hd:d<tm.size) (hv:aq w (Av h β) β s v):Core w0 S (aD f d s) h β φ (tm.setIfInBounds d v) w where
 cl i:=by
  by_cases hi:i=d
  ·subst hi
   simpa [aD,Array.getD,hd] using hv
  ·have:=hc.cl i
   have e:(tm.setIfInBounds d v).getD i undef=tm.getD i undef:=by
    simp only[Array.getD_eq_getD_getElem?,Array.getElem?_setIfInBounds]
    rw[if_neg (fun e=>hi e.symm)]
   rw[e]
   simpa [aD,hi] using this
 aC:=hc.aC
 fresh:=hc.fresh
 sep:=hc.sep
 gN:=hc.gN
 bars:=hc.bars
structure Rel (w0:World) (S:Own) (st:St) (a:Act) (w:World):Prop where
 size:a.tmps.size=st.n % 1099511627776
 fx:∀x∈S.fx,x.1<st.n / 1099511627776∧a.tmps.getD x.1 undef=x.2
 defers:a.defers=[]
 kept:Kept S w0 w
 core:∃β φ,Core w0 S st.get st.obj β φ a.tmps w
def M.val {α:Type} (f:Nat→SV) (h:Nat→Option ao):M α→Option α
 | .pure a=>some a
 | .fail=>none
 | .slot i k=>(k (f i)).val f h
 | .obj i k=>match h i with
  | some x=>(k x).val f h
  | none=>none
theorem M.eE {α:Type} {f:Nat→SV} {h:Nat→Option ao} :∀(m:M α) {a:α} {s o:List Nat},m.run f h=some (a,s,o)→m.val f h=some a
 | .pure a,_,_,_,e=>by simp only[M.run,aa,Prod.mk.injEq] at e;simp [M.val,e.1]
 | .fail,_,_,_,e=>by simp [M.run] at e
 | .slot i k,a,s,o,e=>by
  simp only[M.run] at e
  split at e
  ·rename_i b s' o' hk
   simp only[aa,Prod.mk.injEq] at e
   obtain⟨rfl,_,_⟩:=e
   exact M.eE (k (f i)) hk
  ·cases e
 | .obj i k,a,s,o,e=>by
  simp only[M.run] at e
  split at e
  ·rename_i x hx
   split at e
   ·rename_i b s' o' hk
    simp only[aa,Prod.mk.injEq] at e
    obtain⟨rfl,_,_⟩:=e
    simp only[M.val,hx]
    exact M.eE (k x) hk
   ·cases e
  ·cases e
@[simp] theorem M.ag {α β:Type} {f:Nat→SV} {h:Nat→Option ao} (k:α→M β):∀(m:M α),(m.bind k).val f h=(m.val f h).bind fun a=>(k a).val f h
 | .pure a=>rfl
 | .fail=>rfl
 | .slot i q=>by simp only[M.bind,M.val];exact M.ag k (q (f i))
 | .obj i q=>by
  simp only[M.bind,M.val]
  cases h i with
  | none=>rfl
  | some x=>exact M.ag k (q x)
@[simp] theorem M.ab {α:Type} {f:Nat→SV} {h:Nat→Option ao} (a:α):(M.pure a).val f h=some a:=rfl
@[simp] theorem M.mM {α:Type} {f:Nat→SV} {h:Nat→Option ao} :(M.fail:M α).val f h=none:=rfl
@[simp] theorem M.a8 {α:Type} {f:Nat→SV} {h:Nat→Option ao} (i:Nat) (k:ao→M α):(M.obj i k).val f h=(h i).bind fun x=>(k x).val f h:=by
 simp only[M.val]
 cases h i<;>rfl
@[simp] theorem M.iC {α:Type} {f:Nat→SV} {h:Nat→Option ao} (i:Nat) (k:SV→M α):(M.slot i k).val f h=(k (f i)).val f h:=rfl
def G_ (f:Nat→SV):Operand→SV
 | .tmp t=>f t
 | .const v=>ofConst v
 | _=> .fG
theorem Db {f:Nat→SV} {h:Nat→Option ao} {x:Operand} {s:SV} (e:(cm x).val f h=some s):s=G_ f x:=by
 cases x<;>simp [cm,M.val] at e<;>simp [G_,e]
theorem jn {w:World} {av:Nat→Prop} {β:Env} (v:Value):aq w av β (ofConst v) v:=by
 unfold ofConst
 split
 ·simp [aq]
 ·rename_i k n
  cases hi:BS k n<;>simp [aq,hi]
 ·rename_i s
  cases hi:Nat.ble s.data.toList.length maxLen
  ·simp [aq]
  ·simp only[aj,aq]
   exact⟨by simp,Nat.le_of_ble_eq_true hi⟩
 ·simp [aq]
 ·simp [aq]
theorem Core.ev {w0:World} {S:Own} {f:Nat→SV} {h:Nat→Option ao} {β:Env} {φ:Nat→List Nat} {a:Act} {w:World}
  (hc:Core w0 S f h β φ a.tmps w) {x:Operand} {s:SV} (e:(cm x).val f h=some s):aq w (Av h β) β s (a.eval x):=by
 have:=Db e
 subst this
 cases x with
 | tmp t=>exact hc.cl t
 | const v=>exact jn v
 | global g=>simp [G_,aq]
 | func g=>simp [G_,aq]
end Go.Proofs.YtnlkklmcfafgeaaGreat.Vm
namespace Go.Proofs.YtnlkklmcfafgeaaGreat.Vm
def fo:List (Nat×Option ao)→(Nat→Option ao)→Nat→Option ao
 | [],h=>h
 | (i,x)::l,h=>aD (fo l h) i x
def fc:Option (Nat×Nat×List SV)→(Nat→Option ao)→Nat→Option ao
 | none,h=>h
 | some (i,off,bT),h=>match h i with
  | some (.box t cells)=>aD h i (some (.box t (cN cells off bT)))
  | _=>h
theorem A7 (h:List (Nat×ao)) (i j:Nat):dN (Gv h i) j=if j=i then none else dN h j:=by
 induction h with
 | nil=>simp [Gv,dN]
 | cons x l ih=>
  obtain⟨k,o⟩:=x
  simp only[Gv,dN]
  cases hk:Nat.beq k i
  ·simp only[aQ,dN]
   cases hj:Nat.beq k j
   ·simpa using ih
   ·have e1:=aM hj
    have e2:=Nat.ne_of_beq_eq_false hk
    subst e1
    simp [e2]
  ·have e1:=aM hk
   subst e1
   simp only[aj]
   rw[ih]
   by_cases hj:j=k
   ·simp [hj]
   ·have:Nat.beq k j=false:=by
     cases hb:Nat.beq k j
     ·rfl
     ·exact absurd (aM hb).symm hj
    simp [hj,this]
theorem BU (h:List (Nat×ao)) (i j:Nat) (o:ao):dN ((i,o)::h) j=if j=i then some o else dN h j:=by
 simp only[dN]
 cases hk:Nat.beq i j
 ·have e2:=Nat.ne_of_beq_eq_false hk
  rw[if_neg (fun e=>e2 e.symm)]
  rfl
 ·simp [(aM hk).symm]
theorem ik (ow:List (Nat×Option ao)) (h:List (Nat×ao)):dN (kD ow h)=fo ow (dN h):=by
 induction ow with
 | nil=>rfl
 | cons x l ih=>
  obtain⟨i,o⟩:=x
  funext j
  cases o with
  | none=>simp only[kD,A7,fo,aD,ih]
  | some o=>
   simp only[kD,BU,A7,fo,aD,ih]
   split<;>rfl
theorem Fj (cw:Option (Nat×Nat×List SV)) (h:List (Nat×ao)):dN (Gm cw h)=fc cw (dN h):=by
 cases cw with
 | none=>rfl
 | some x=>
  obtain⟨i,off,bT⟩:=x
  simp only[Gm,fc]
  cases hb:dN h i with
  | none=>rfl
  | some b=>
   cases b with
   | box t cells=>
    funext j
    simp only[BU,A7,aD]
    split<;>rfl
   | row=>rfl
   | ef=>rfl
   | deep=>rfl
theorem fl (st:St) (d:Option Nat) (e:cS):(st.apply d e).obj=fo e.ow (fc e.cw st.obj):=by
 show dN (kD e.ow (Gm e.cw st.hp))=_
 rw[ik,Fj]
 rfl
theorem apply_get (st:St) (d:Nat) (e:cS):(st.apply (some d) e).get=aD st.get d e.sv:=by
 funext i
 show ji ((d,e.sv)::st.sl) i=_
 simp only[ji,aD,St.get]
 cases hk:Nat.beq d i
 ·have e2:=Nat.ne_of_beq_eq_false hk
  rw[if_neg (fun h=>e2 h.symm)]
  rfl
 ·simp [(aM hk).symm]
theorem gX (st:St) (e:cS):(st.apply none e).get=st.get:=rfl
def Good (P:Program) (w0:World) (S:Own) (st:St) (o:Oper) (e:cS) (a:Act) (w:World):Prop:=
 ∀Q,o.wp P a w (fun a' w'=>∃v,a'=a.put o.dst v∧Rel w0 S (st.apply o.dst e) a' w') Q
theorem iM {w0:World} {S:Own} {st:St} {o:Oper} {e:cS} {a:Act} {w w':World} {v:Value} (hR:Rel w0 S st a w) (hd:∀d,o.dst=some d→bn st.n d)
  (hk:Kept S w0 w') (hc:∃β φ,Core w0 S st.get (fo e.ow (fc e.cw st.obj)) β φ a.tmps w'∧aq w' (Av (fo e.ow (fc e.cw st.obj)) β) β e.sv v):
  Rel w0 S (st.apply o.dst e) (a.put o.dst v) w':=by
 obtain⟨β,φ,hc,hv⟩:=hc
 cases aX:o.dst with
 | none=>
  refine⟨hR.size,hR.fx,hR.defers,hk,β,φ, ?_⟩
  rw[fl,gX]
  exact hc
 | some d=>
  refine⟨?_, ?_,hR.defers,hk,β,φ, ?_⟩
  ·simp only[Act.put,Array.size_setIfInBounds]
   exact hR.size
  ·intro x hx
   have h1:=hR.fx x hx
   have h2:=(hd d aX).2
   refine⟨h1.1, ?_⟩
   simp only[Act.put,Array.getD_eq_getD_getElem?,Array.getElem?_setIfInBounds]
   rw[if_neg (by omega),←Array.getD_eq_getD_getElem?]
   exact h1.2
  ·rw[fl,apply_get]
   exact hc.put d e.sv v (by rw[hR.size];exact (hd d aX).1) hv
theorem cg {P:Program} {w0:World} {S:Own} {st:St} {o:Oper} {e:cS} {a:Act} {w w':World} {v:Value} (hR:Rel w0 S st a w) (hd:∀d,o.dst=some d→bn st.n d)
  (bA:(execOp a.eval o).run P w= .ok (.value v) w') (hk:Kept S w0 w')
  (hc:∃β φ,Core w0 S st.get (fo e.ow (fc e.cw st.obj)) β φ a.tmps w'∧aq w' (Av (fo e.ow (fc e.cw st.obj)) β) β e.sv v):Good P w0 S st o e a w:=by
 intro Q
 unfold Oper.wp
 rw[bA]
 exact⟨v,rfl,iM hR hd hk hc⟩
theorem iF {P:Program} {w0:World} {S:Own} {st:St} {o:Oper} {e:cS} {a:Act} {w w':World} (hR:Rel w0 S st a w) (hd:∀d,o.dst=some d→bn st.n d)
  (bA:(execOp a.eval o).run P w= .ok .skip w') (hk:Kept S w0 w')
  (hc:∃β φ,Core w0 S st.get (fo e.ow (fc e.cw st.obj)) β φ a.tmps w'∧aq w' (Av (fo e.ow (fc e.cw st.obj)) β) β e.sv undef):Good P w0 S st o e a w:=by
 intro Q
 unfold Oper.wp
 rw[bA]
 exact⟨undef,rfl,iM hR hd hk hc⟩
theorem au {P:Program} {w0:World} {S:Own} {st:St} {o:Oper} {e:cS} {a:Act} {w:World} (hR:Rel w0 S st a w) (hd:∀d,o.dst=some d→bn st.n d)
  (kT:e.cw=none) (how:e.ow=[])
  (h:∀β φ,Core w0 S st.get st.obj β φ a.tmps w→∃v,(execOp a.eval o).run P w= .ok (.value v) w∧aq w (Av st.obj β) β e.sv v):Good P w0 S st o e a w:=by
 obtain⟨β,φ,hc⟩:=hR.core
 obtain⟨v,bA,hv⟩:=h β φ hc
 refine cg hR hd bA hR.kept ⟨β,φ, ?_, ?_⟩
 ·rw[kT,how];exact hc
 ·rw[kT,how];exact hv
theorem eG {k:IntKind} {n:Int} :BS k n=true↔k.min≤n∧n≤k.max:=by simp [BS]
theorem fA (k:IntKind) (n:Int):BS k (k.wrap n)=true:=eG.2 (wrap_within k n)
theorem ij (op:BinOp) (k:IntKind) (x y:Int):BS k (bits op k x y)=true:=eG.2 (bits_within op k x y)
theorem kZ (k:IntKind):k.min≤0:=by cases k<;>decide
theorem ll (k:IntKind):0≤k.max:=by cases k<;>decide
theorem Bj (x y:Int):(0≤x→0≤x.tmod y∧x.tmod y≤x)∧(x≤0→x≤x.tmod y∧x.tmod y≤0):=by
 have jM:∀z:Int,0≤z→0≤z.tmod y∧z.tmod y≤z:=by
  intro z hz
  refine⟨Int.tmod_nonneg y hz, ?_⟩
  have h:=Int.natAbs_tmod z y
  have h1:z.natAbs % y.natAbs≤z.natAbs:=Nat.mod_le _ _
  have h2:=Int.tmod_nonneg y hz
  omega
 refine⟨jM x,fun hx=> ?_⟩
 have h:=jM (-x) (by omega)
 rw[Int.neg_tmod] at h
 omega
theorem Fe {k:IntKind} {x:Int} (y:Int) (h:BS k x=true):BS k (x.tmod y)=true:=by
 rw[eG] at*
 have h0:=kZ k
 have h1:=ll k
 have ht:=Bj x y
 rcases Int.le_total 0 x with hx | hx
 ·have:=ht.1 hx;omega
 ·have:=ht.2 hx;omega
theorem AP (x:Int) (n:Nat):(0≤x→0≤x.fdiv (2 ^ n)∧x.fdiv (2 ^ n)≤x)∧(x≤0→x≤x.fdiv (2 ^ n)∧x.fdiv (2 ^ n)≤0):=by
 have hm:(1:Int)≤2 ^ n:=by
  have:0<2 ^ n:=Nat.two_pow_pos n
  have h2:((2 ^ n:Nat):Int)=(2:Int) ^ n:=by simp
  omega
 rw[Int.fdiv_eq_ediv_of_nonneg x (by omega)]
 generalize (2:Int) ^ n=m at hm
 refine⟨fun hx=>⟨Int.ediv_nonneg hx (by omega),Int.ediv_le_self m hx⟩,fun hx=>⟨?_, ?_⟩⟩
 ·rw[Int.le_ediv_iff_mul_le (by omega)]
  have:=Int.mul_le_mul_of_nonpos_left hx hm
  simpa using this
 ·have:=Int.ediv_le_ediv (by omega:(0:Int)<m) hx
  simpa using this
theorem Fc {k:IntKind} {x:Int} (n:Nat) (h:BS k x=true):BS k (x.fdiv (2 ^ n))=true:=by
 rw[eG] at*
 have h0:=kZ k
 have h1:=ll k
 have ht:=AP x n
 rcases Int.le_total 0 x with hx | hx
 ·have:=ht.1 hx;omega
 ·have:=ht.2 hx;omega
theorem DU {P:Program} {w:World} {op:BinOp} {k:IntKind} {x y:Int} {t:TypeId} {s:SV} {c:Bool} (h:Ff op k x y=some (s,c)) (hc:c=true) (hx:BS k x=true)
  {av:Nat→Prop} {β:Env} :∃v,(binOp op t (.int k x) (.int k y)).run P w= .ok v w∧aq w av β s v:=by
 unfold Ff at h
 split at h<;>simp only[aa,Prod.mk.injEq,reduceCtorEq] at h
 all_goals obtain⟨rfl,AX⟩:=h
 ·exact⟨_,by simp [binOp,Op.intArith];rfl,by simp [aq,fA]⟩
 ·exact⟨_,by simp [binOp,Op.intArith];rfl,by simp [aq,fA]⟩
 ·exact⟨_,by simp [binOp,Op.intArith];rfl,by simp [aq,fA]⟩
 ·have hy:y≠0:=by rw[←AX] at hc;simpa using hc
  exact⟨_,by simp [binOp,Op.intDiv,hy];rfl,by simp [aq,fA]⟩
 ·have hy:y≠0:=by rw[←AX] at hc;simpa using hc
  exact⟨_,by simp [binOp,Op.intDiv,hy];rfl,by simp [aq,Fe y hx]⟩
 ·exact⟨.int k (bits .and k x y),by simp only[binOp,ne_eq,not_true_eq_false,if_false];rfl,by simp [aq,ij]⟩
 ·exact⟨.int k (bits .or k x y),by simp only[binOp,ne_eq,not_true_eq_false,if_false];rfl,by simp [aq,ij]⟩
 ·exact⟨.int k (bits .xor k x y),by simp only[binOp,ne_eq,not_true_eq_false,if_false];rfl,by simp [aq,ij]⟩
 ·exact⟨.int k (bits .andNot k x y),by simp only[binOp,ne_eq,not_true_eq_false,if_false];rfl,by simp [aq,ij]⟩
 all_goals exact⟨_,by simp [binOp,Op.intCmp];rfl,by simp [aq]⟩
end Go.Proofs.YtnlkklmcfafgeaaGreat.Vm
set_option linter.unusedVariables false
set_option linter.unusedSimpArgs false
namespace Go.Proofs.YtnlkklmcfafgeaaGreat.Vm
theorem dG {w:World} {av:Nat→Prop} {β:Env} {c:CT} {d:DC} {v:Value} {fp:List Nat} (h:cd w c d v fp) (ha:∀b∈fp,¬av b):aq w av β (iT c d) v:=by
 cases c with
 | int k=>
  simp only[cd] at h
  obtain⟨n,rfl,rfl,hi,_⟩:=h
  simp [iT,DC.asInt,aq,hi]
 | bool=>
  simp only[cd] at h
  obtain⟨b,rfl,rfl,_⟩:=h
  simp [iT,DC.asBool,aq]
 | str=>
  simp only[cd] at h
  obtain⟨s,rfl,rfl,hl,_⟩:=h
  simp [iT,DC.Gt,aq,hl]
 | sl e=>
  have h':=h
  simp only[cd] at h
  obtain⟨rows,a,n,cp,rfl,_⟩:=h
  simp only[iT,DC.cV,aq]
  exact⟨fp,h',ha⟩
theorem cd.one {w:World} {c:CT} {d:DC} {v:Value} {fp:List Nat} (h:cd w c d v fp):v.oneCell'=true:=by
 cases c with
 | int k=>simp only[cd] at h;obtain⟨n,_,rfl,_⟩:=h;rfl
 | bool=>simp only[cd] at h;obtain⟨b,_,rfl,_⟩:=h;rfl
 | str=>simp only[cd] at h;obtain⟨s,_,rfl,_⟩:=h;rfl
 | sl e=>simp only[cd] at h;obtain⟨rows,a,n,cp,_,rfl,_⟩:=h;rfl
theorem bf.get {w:World} :∀(cs:List CT) (r:List DC) (f:Nat→Option Value) (fp:List Nat) (i:Nat) (c:CT),bf w cs r f fp→cs[i]? =some c→
  ∃v BD,f i=some v∧cd w c (r.getD i default) v BD∧∀b∈BD,b∈fp
 | [],_,_,_,_,_,_,hi=>by simp at hi
 | c::cs,_,_,_,i,x,h,hi=>by
  simp only[bf] at h
  obtain⟨d,r',v,f1,f2,rfl,h0,h1,h2,rfl⟩:=h
  cases i with
  | zero=>
   simp at hi
   subst hi
   exact⟨v,f1,h0,by simpa using h1,fun b hb=>by simp [hb]⟩
  | succ i=>
   obtain⟨v',BD,e1,e2,e3⟩:=bf.get cs r' _ f2 i x h2 (by simpa using hi)
   exact⟨v',BD,e1,by simpa using e2,fun b hb=>by simp [e3 b hb]⟩
theorem bf.bT {w:World} {av:Nat→Prop} {β:Env} {cs:List CT} {r:List DC} {f:Nat→Option Value} {fp:List Nat} (h:bf w cs r f fp) (ha:∀b∈fp,¬av b):
  ∀(n k:Nat),k+n≤cs.length→∃vs:List Value,vs.length=n∧(∀j v,vs[j]? =some v→f (k+j)=some v)∧ah w av β (cr ((cs.drop k).take n) r k) vs∧∀x∈vs,x.oneCell'=true
 | 0,k,_=>⟨[],rfl,by simp,by simp [cr,ah],by simp⟩
 | n+1,k,hk=>by
  have cz:k<cs.length:=by omega
  obtain⟨v,BD,e1,e2,e3⟩:=bf.get cs r f fp k cs[k] h (by simp)
  obtain⟨vs,l1,l2,l3,l4⟩:=bf.bT (β:=β) h ha n (k+1) (by omega)
  refine⟨v::vs,by simp [l1], ?_, ?_, ?_⟩
  ·intro j u hj
   cases j with
   | zero=>simp at hj;subst hj;simpa using e1
   | succ j=>have:=l2 j u (by simpa using hj);rw[←this];congr 1;omega
  ·have:(cs.drop k).take (n+1)=cs[k]::(cs.drop (k+1)).take n:=by
    rw[List.drop_eq_getElem_cons cz,List.take_succ_cons]
   rw[this]
   simp only[cr,ah]
   exact⟨v,vs,rfl,dG e2 (fun b hb=>ha b (e3 b hb)),l3⟩
  ·intro x hx
   rcases List.mem_cons.1 hx with rfl | hx
   ·exact e2.one
   ·exact l4 x hx
theorem dw (b o n:Nat):(⟨b,o,none⟩:Addr).add n=⟨b,o+n,none⟩:=by
 unfold Addr.add
 split
 ·rename_i h;subst h;rfl
 ·rfl
theorem iP {P:Program} {w:World} {t:TypeId} {d:TypeDesc} (h:P.underlying t=some d):(isAgg t).run P w= .ok (bB P t) w:=by
 simp only[isAgg,Sem.run_bind,run_underlying h,Result.andThen_ok,bB,h]
 cases d<;>rfl
theorem kX {P:Program} {t:TypeId} (h:bB P t=true):∃d,P.underlying t=some d:=by
 unfold bB at h
 split at h<;>first | exact⟨_,by assumption⟩ | cases h
theorem fE {P:Program} {w:World} {t:TypeId} {i:TypeInfo} {b o:Nat} {vs:List Value} (ha:bB P t=true) (hi:P.info? t=some i)
  (hl:vs.length=i.size) (hc:∀j v,vs[j]? =some v→w.cell? ⟨b,o+j,none⟩=some v):
  (Instr.loadAt t (.pointer (some ⟨b,o,none⟩))).run P w= .ok (.agg vs.toArray) w:=by
 obtain⟨d,hd⟩:=kX ha
 have:=run_loadCells_list (P:=P) (w:=w) ⟨b,o,none⟩ vs (fun j v hj=>by rw[dw];exact hc j v hj)
 rw[hl] at this
 simp only[Instr.loadAt,Instr.sureAddr,loadVar,Sem.run_bind,Sem.run_pure,Result.andThen_ok,iP hd,ha,if_true,sizeOf,typeInfo,run_program,hi,this]
theorem d5 {P:Program} {w:World} {t:TypeId} {d:TypeDesc} {b o:Nat} {v:Value} (ha:bB P t=false) (hd:P.underlying t=some d)
  (hc:w.cell? ⟨b,o,none⟩=some v):(Instr.loadAt t (.pointer (some ⟨b,o,none⟩))).run P w= .ok v w:=by
 simp [Instr.loadAt,Instr.sureAddr,loadVar,iP hd,ha,hc]
section
variable {P:Program} {Γ:Ctx} {w0:World} {S:Own} {st:St} {o:Oper} {e:cS} {a:Act} {w:World}
theorem mI (hR:Rel w0 S st a w) (hd:∀d,o.dst=some d→bn st.n d) {x:Operand} (ho:o.op= .move x∨o.op= .assign x) {s:SV}
  (h1:(cm x).val st.get st.obj=some s) (he:e= {sv:=s}):Good P w0 S st o e a w:=by
 subst he
 refine au hR hd rfl rfl fun β φ hc=>⟨a.eval x, ?_,hc.ev h1⟩
 rcases ho with ho | ho<;>simp [execOp,ho]
theorem C4 (hR:Rel w0 S st a w) (hd:∀d,o.dst=some d→bn st.n d) {c x y:Operand} (ho:o.op= .pick c x y) {sc sx sy:SV}
  (h0:(cm c).val st.get st.obj=some sc) (h1:(cm x).val st.get st.obj=some sx) (h2:(cm y).val st.get st.obj=some sy)
  (he:(match sc with | .kb t=>M.pure ({sv:=bif t then sx else sy} :cS) | .bool g=> .pure {sv:=eI g sx sy} | _=> .fail).val st.get st.obj=some e):Good P w0 S st o e a w:=by
 split at he
 ·rename_i t
  simp only[M.ab,aa] at he
  subst he
  refine au hR hd rfl rfl fun β φ hc=>⟨if t then a.eval x else a.eval y, ?_, ?_⟩
  ·have hv:=hc.ev h0
   simp only[aq] at hv
   simp [execOp,ho,hv,asBool]
  ·cases t
   ·exact hc.ev h2
   ·exact hc.ev h1
 ·rename_i t
  simp only[M.ab,aa] at he
  subst he
  refine au hR hd rfl rfl fun β φ hc=>⟨if t then a.eval x else a.eval y, ?_, ?_⟩
  ·have hv:=hc.ev h0
   simp only[aq] at hv
   simp [execOp,ho,hv,asBool]
  ·refine aq.merge _ _ _ _ ?_
   cases t
   ·exact hc.ev h2
   ·exact hc.ev h1
 ·simp at he
theorem mJ (hR:Rel w0 S st a w) (hd:∀d,o.dst=some d→bn st.n d) {x:Operand} (ho:o.op= .nilCheck x) {s:SV} (h1:(cm x).val st.get st.obj=some s)
  (he:(match s with | .ptr .. =>M.pure ({sv:=s} :cS) | .gS .. => .pure {sv:=s} | .ey .. => .pure {sv:=s} | _=> .fail).val st.get st.obj=some e):Good P w0 S st o e a w:=by
 split at he
 ·simp only[M.ab,aa] at he
  subst he
  refine au hR hd rfl rfl fun β φ hc=>⟨a.eval x, ?_,hc.ev h1⟩
  have hv:=hc.ev h1
  simp only[aq] at hv
  simp [execOp,ho,hv]
 ·simp only[M.ab,aa] at he
  subst he
  refine au hR hd rfl rfl fun β φ hc=>⟨a.eval x, ?_,hc.ev h1⟩
  have hv:=hc.ev h1
  simp only[aq] at hv
  obtain⟨b,o',fp,hv,_⟩:=hv
  simp [execOp,ho,hv]
 ·simp only[M.ab,aa] at he
  subst he
  refine au hR hd rfl rfl fun β φ hc=>⟨a.eval x, ?_,hc.ev h1⟩
  have hv:=hc.ev h1
  simp only[aq] at hv
  obtain⟨g,_,hv⟩:=hv
  simp [execOp,ho,hv]
 ·simp at he
theorem lB (hR:Rel w0 S st a w) (hd:∀d,o.dst=some d→bn st.n d) {t:TypeId} {x:Operand} {f:Nat} (ho:o.op= .fieldAddr t x f) {fs:Array Field} {fd:Field} {i:TypeInfo}
  (hu:P.underlying t=some (.struct fs)) (hf:fs[f]? =some fd) (hz:bb P fd.type 0=false) (hi:P.info? fd.type=some i) {s:SV} (h1:(cm x).val st.get st.obj=some s)
  (he:(match s with
     | .ptr id off=>M.pure ({sv:= .ptr id (off+fd.offset)} :cS)
     | .gS e r off=> .pure {sv:= .gS e r (off+fd.offset)}
     | .ey id i z off=> .pure {sv:= .ey id i z (off+fd.offset)}
     | _=> .fail).val st.get st.obj=some e):Good P w0 S st o e a w:=by
 have dF:i.size≠0:=by
  simp only[bb,hi] at hz
  exact Nat.ne_of_beq_eq_false hz
 have run:∀b off,a.eval x= .pointer (some ⟨b,off,none⟩)→(execOp a.eval o).run P w= .ok (.value (.pointer (some ⟨b,off+fd.offset,none⟩))) w:=by
  intro b off hv
  simp [execOp,ho,hv,Instr.fieldAt,run_underlying hu,hf,Instr.sureAddr,fieldPlace,sizeOf,typeInfo,hi,dF,dw]
 split at he
 ·simp only[M.ab,aa] at he
  subst he
  refine au hR hd rfl rfl fun β φ hc=> ?_
  have hv:=hc.ev h1
  simp only[aq] at hv
  exact⟨_,run _ _ hv,by simp [aq]⟩
 ·simp only[M.ab,aa] at he
  subst he
  refine au hR hd rfl rfl fun β φ hc=> ?_
  have hv:=hc.ev h1
  simp only[aq] at hv
  obtain⟨b,o',fp,hv,cz,cX,hr⟩:=hv
  exact⟨_,run _ _ hv,by simp only[aq];exact⟨b,o',fp,by rw[Nat.add_assoc],cz,cX,hr⟩⟩
 ·simp only[M.ab,aa] at he
  subst he
  refine au hR hd rfl rfl fun β φ hc=> ?_
  have hv:=hc.ev h1
  simp only[aq] at hv
  obtain⟨g,hg,hv⟩:=hv
  exact⟨_,run _ _ hv,by simp only[aq];exact⟨g,hg,by rw[Nat.add_assoc]⟩⟩
 ·simp at he
theorem m7 (hR:Rel w0 S st a w) (hd:∀d,o.dst=some d→bn st.n d) {x:Operand} {i:Nat} (ho:o.op= .extract x i) {vs:List SV} {v:SV}
  (h1:(cm x).val st.get st.obj=some (.DA vs)) (hv:vs[i]? =some v) (he:e= {sv:=v}):Good P w0 S st o e a w:=by
 subst he
 refine au hR hd rfl rfl fun β φ hc=> ?_
 have hx:=hc.ev h1
 simp only[aq] at hx
 obtain⟨l,hl,hr⟩:=hx
 obtain⟨u,hu,hs⟩:=ah.get _ _ _ _ hr hv
 exact⟨u,by simp [execOp,ho,hl,Instr.extract,hu],hs⟩
theorem gM (s:List UInt8):(⟨s.toArray⟩:ByteArray).toList=s:=by rw[Lib.toList_data]
theorem dD (s:List UInt8):(⟨s.toArray⟩:ByteArray).size=s.length:=by simp [ByteArray.size]
theorem C6 (s t:List UInt8):(⟨s.toArray⟩:ByteArray)++(⟨t.toArray⟩:ByteArray)=⟨(s++t).toArray⟩:=by
 apply ByteArray.ext
 simp
theorem j5 {t:TypeId} {ty:TypeDesc} {vs:List Value} {off:Nat} {v:Value} (ha:bB P t=false) (hd:P.underlying t=some ty) (hv:vs[off]? =some v):(part t vs.toArray off).run P w= .ok v w:=by
 simp only[part,Sem.run_bind,iP hd,Result.andThen_ok,ha]
 simp [hv]
theorem j4 {t:TypeId} {i:TypeInfo} {vs:List Value} {off:Nat} (ha:bB P t=true) (hi:P.info? t=some i):(part t vs.toArray off).run P w= .ok (.agg ((vs.drop off).take i.size).toArray) w:=by
 obtain⟨d,hd⟩:=kX ha
 simp only[part,Sem.run_bind,iP hd,Result.andThen_ok,ha,if_true,sizeOf,typeInfo,run_program,hi,Sem.run_pure]
 simp [List.extract_eq_take_drop]
theorem DF {av:Nat→Prop} {β:Env} {x y:SV} {v u:Value} (hx:aq w av β x v) (hy:aq w av β y u) {t:TypeId} {ty:TypeDesc} (hd:P.underlying t=some ty) (d:Nat) {b:Bool}
  (h:l5 ty x y=some b):(Op.equalIn (d+1) t v u).run P w= .ok b w:=by
 unfold l5 at h
 split at h
 ·rename_i k0 k a k' c
  by_cases hk:k=k'
  ·subst hk
   simp only[decide_true,aj,aa] at h
   simp only[aq] at hx hy
   rw[hx.1,hy.1,run_equalIn_int w d t _ _ _ _ hd,h]
  ·simp [hk] at h
 ·simp only[aa] at h
  simp only[aq] at hx hy
  rw[hx.1,hy.1,run_equalIn_string w d t _ _ hd,gM,gM,h]
 ·simp only[aa] at h
  simp only[aq] at hx hy
  rw[hx,hy,run_equalIn_bool w d t _ _ hd,h]
 ·simp only[aa] at h
  simp only[aq] at hx hy
  rw[hx,hy,run_equalIn_bool w d t _ _ hd,h]
 ·simp only[aa] at h
  simp only[aq] at hx hy
  rw[hx,hy,run_equalIn_bool w d t _ _ hd,h]
 ·cases h
theorem ah.j9 {av:Nat→Prop} {β:Env} :∀(ss:List SV) (vs:List Value) (k n:Nat),ah w av β ss vs→ah w av β ((ss.drop k).take n) ((vs.drop k).take n)
 | [],vs,k,n,h=>by
  simp only[ah] at h
  subst h
  simp [ah]
 | s::ss,vs,k,n,h=>by
  simp only[ah] at h
  obtain⟨v,l,rfl,h1,h2⟩:=h
  cases k with
  | succ k=>simpa using ah.j9 ss l k n h2
  | zero=>
   cases n with
   | zero=>simp [ah]
   | succ n=>
    simp only[List.drop_zero,List.take_succ_cons,ah]
    exact⟨v,_,rfl,h1,by simpa using ah.j9 ss l 0 n h2⟩
def H_ (P:Program) (w:World) (av:Nat→Prop) (β:Env) (d:Nat) (eqv:TypeId→List SV→List SV→Option Bool):Prop:=
 ∀(t:TypeId) (xs ys:List SV) (vs us:List Value) (b:Bool),ah w av β xs vs→ah w av β ys us→eqv t xs ys=some b→
  (bB P t=true→(Op.equalIn d t (.agg vs.toArray) (.agg us.toArray)).run P w= .ok b w)∧
  (bB P t=false→(∃ty,P.underlying t=some ty)∧∀v u,vs=[v]→us=[u]→(Op.equalIn d t v u).run P w= .ok b w)
theorem jB {av:Nat→Prop} {β:Env} {d:Nat} {eqv:TypeId→List SV→List SV→Option Bool} (hq:H_ P w av β d eqv) {xs ys:List SV} {vs us:List Value} (hx:ah w av β xs vs) (hy:ah w av β ys us):
  ∀(fs:List Field) (b:Bool),gf P eqv xs ys fs=some b→(Op.eqFields d vs.toArray us.toArray fs).run P w= .ok b w
 | [],b,h=>by
  simp only[gf,aa] at h
  subst h
  rfl
 | f::fs,b,h=>by
  unfold gf at h
  cases hn:f.name== "_"
  ·simp only[hn,aQ] at h
   have IW:f.name≠ "_" :=by simpa using hn
   split at h
   ·rename_i a c h1 h2
    split at h
    ·rename_i e r he hr
     simp only[aa] at h
     have ih:=jB hq hx hy fs r hr
     unfold Op.eqFields
     rw[if_pos IW]
     have key:∃v u:Value,(part f.type vs.toArray f.offset).run P w= .ok v w∧(part f.type us.toArray f.offset).run P w= .ok u w∧(Op.equalIn d f.type v u).run P w= .ok e w:=by
      unfold AL at h1 h2
      cases ha:bB P f.type
      ·simp only[ha,aQ] at h1 h2
       split at h1
       ·rename_i s1 g1
        split at h2
        ·rename_i s2 g2
         simp only[aa] at h1 h2
         subst h1
         subst h2
         obtain⟨v1,e1,q1⟩:=ah.get _ _ _ _ hx g1
         obtain⟨v2,e2,q2⟩:=ah.get _ _ _ _ hy g2
         obtain⟨⟨ty,hu⟩,bA⟩:=(hq f.type [s1] [s2] [v1] [v2] e (by simp [ah,q1]) (by simp [ah,q2]) he).2 ha
         exact⟨v1,v2,j5 ha hu e1,j5 ha hu e2,bA _ _ rfl rfl⟩
        ·cases h2
       ·cases h1
      ·simp only[ha,aj] at h1 h2
       split at h1
       ·rename_i i hi
        rw[hi] at h2
        simp only[] at h2
        cases GC:Nat.ble (f.offset+i.size) xs.length
        ·simp [GC] at h1
        cases iG:Nat.ble (f.offset+i.size) ys.length
        ·simp [iG] at h2
        simp only[GC,iG,aj,aa] at h1 h2
        subst h1
        subst h2
        exact⟨_,_,j4 ha hi,j4 ha hi,(hq _ _ _ _ _ e (ah.j9 _ _ _ _ hx) (ah.j9 _ _ _ _ hy) he).1 ha⟩
       ·cases h1
     obtain⟨v,u,p1,p2,p3⟩:=key
     simp only[Sem.run_bind,p1,p2,p3,Result.andThen_ok]
     subst h
     cases e
     ·simp
     ·simpa using ih
    ·cases h
   ·cases h
  ·simp [hn] at h
theorem BA {av:Nat→Prop} {β:Env} (d:Nat):∀n:Nat,H_ P w av β (d+n) (Ag P n)
 | 0=>by
  intro t xs ys vs us b hx hy h
  simp [Ag] at h
 | n+1=>by
  intro t xs ys vs us b hx hy h
  have ih:=BA (av:=av) (β:=β) d n
  unfold Ag at h
  split at h
  ·rename_i fs hu
   cases hp:P.stoodInHeld t
   ·simp only[hp,aQ] at h
    have GA:bB P t=true:=by simp [bB,hu]
    have LC:P.fieldsOf t=fs:=by simp [Program.fieldsOf,hu]
    refine⟨fun _=> ?_,fun hf=>by rw[GA] at hf;cases hf⟩
    rw[←Nat.add_assoc,run_equalIn_agg w (d+n) t _ _ (by rw[LC];exact hu) hp,LC]
    exact jB ih hx hy _ _ h
   ·simp [hp] at h
  ·rename_i ty M5 hu
   split at h
   ·rename_i x y
    have Ck:=hx
    have Jk:=hy
    simp only[ah] at Ck Jk
    obtain⟨v,l1,rfl,q1,rfl⟩:=Ck
    obtain⟨u,l2,rfl,q2,rfl⟩:=Jk
    refine⟨fun GA=> ?_,fun _=>⟨⟨_,hu⟩, ?_⟩⟩
    ·unfold bB at GA
     rw[hu] at GA
     split at GA
     ·rename_i g _ CE g2
      simp only[aa] at g2
      subst g2
      simp [l5] at h
     ·rename_i g2
      simp only[aa] at g2
      subst g2
      simp [l5] at h
     ·cases GA
    ·intro v' u' e1 e2
     simp only[List.cons.injEq,and_true] at e1 e2
     subst e1
     subst e2
     rw[←Nat.add_assoc]
     exact DF q1 q2 hu (d+n) h
   ·cases h
  ·cases h
theorem Ew (w:World) (d:Nat) (t e:TypeId) (a:Addr) (l c:Nat) (h:P.underlying t=some (.slice e)):(Op.equalIn (d+1) t (.slice (some a) l c) (.slice none 0 0)).run P w= .ok false w:=by
 simp [Op.equalIn,run_underlying h]
theorem Gu (w:World) (t e:TypeId) (a:Addr) (l c:Nat) (h:P.underlying t=some (.slice e)):(Op.equal t (.slice (some a) l c) (.slice none 0 0)).run P w= .ok false w:=Ew w 9999 t e a l c h
theorem DY (hR:Rel w0 S st a w) (hd:∀d,o.dst=some d→bn st.n d) {op:BinOp} {t t':TypeId} {x y:Operand} (ho:o.op= .binOp op t x y t') {sx sy:SV}
  (h1:(cm x).val st.get st.obj=some sx) (h2:(cm y).val st.get st.obj=some sy) (he:(G7 P t op sx sy).val st.get st.obj=some e) (aP:e.ok=true):Good P w0 S st o e a w:=by
 have Ef:∀b c:Bool,(∀β φ,Core w0 S st.get st.obj β φ a.tmps w→a.eval x= .bool b∧a.eval y= .bool c)→
   ((Bw P t op b c).val st.get st.obj=some e)→Good P w0 S st o e a w:=by
  intro b c DI he
  unfold Bw at he
  cases ht:A6 P t
  ·simp [ht] at he
  have hu:P.underlying t=some .bool:=by
   unfold A6 at ht
   split at ht
   ·assumption
   ·cases ht
  simp only[ht,aj] at he
  split at he
  ·simp only[M.ab,aa] at he
   subst he
   refine au hR hd rfl rfl fun β φ hc=>⟨_, ?_,by simp [aq];rfl⟩
   have:=DI β φ hc
   simp [execOp,ho,this.1,this.2,eqGuard,binOp,run_equal_bool w t b c hu]
  ·simp only[M.ab,aa] at he
   subst he
   refine au hR hd rfl rfl fun β φ hc=>⟨_, ?_,by simp [aq];rfl⟩
   have:=DI β φ hc
   simp [execOp,ho,this.1,this.2,eqGuard,binOp,run_equal_bool w t b c hu]
  ·simp at he
 unfold G7 at he
 split at he
 ·rename_i k n k' m
  split at he
  ·simp only[M.ab,aa] at he
   subst he
   have hm:0≤m:=by simpa using aP
   refine au hR hd rfl rfl fun β φ hc=> ?_
   have hx:=hc.ev h1
   have hy:=hc.ev h2
   simp only[aq] at hx hy
   refine⟨_, ?_,by simp only[aq];exact⟨rfl,fA _ _⟩⟩
   simp [execOp,ho,hx.1,hy.1,eqGuard,binOp,Op.shift,Int.not_lt.2 hm]
  ·simp only[M.ab,aa] at he
   subst he
   have hm:0≤m:=by simpa using aP
   refine au hR hd rfl rfl fun β φ hc=> ?_
   have hx:=hc.ev h1
   have hy:=hc.ev h2
   simp only[aq] at hx hy
   refine⟨_, ?_,by simp only[aq];exact⟨rfl,Fc _ hx.2⟩⟩
   simp [execOp,ho,hx.1,hy.1,eqGuard,binOp,Op.shift,Int.not_lt.2 hm]
  ·by_cases hk:k=k'
   ·subst hk
    simp only[decide_true,aj] at he
    split at he
    ·rename_i s c hi
     simp only[M.ab,aa] at he
     subst he
     refine au hR hd rfl rfl fun β φ hc=> ?_
     have hx:=hc.ev h1
     have hy:=hc.ev h2
     simp only[aq] at hx hy
     obtain⟨v,bA,hs⟩:=DU (P:=P) (w:=w) (t:=t) (av:=Av st.obj β) (β:=β) hi aP hx.2
     refine⟨v, ?_,hs⟩
     simp [execOp,ho,hx.1,hy.1,eqGuard,bA]
    ·simp at he
   ·simp [hk] at he
 ·rename_i s1 s2
  split at he
  ·simp only[M.ab,aa] at he
   subst he
   have hm:s1.length+s2.length≤9223372036854775807:=by simpa using aP
   refine au hR hd rfl rfl fun β φ hc=> ?_
   have hx:=hc.ev h1
   have hy:=hc.ev h2
   simp only[aq] at hx hy
   refine⟨.string ⟨(s1++s2).toArray⟩, ?_,by unfold aq;exact⟨rfl,by simp only[fv,maxLen];omega⟩⟩
   have hn:¬(((s1.length+s2.length:Nat):Int)>IntKind.i64.max):=by
    have:IntKind.i64.max=9223372036854775807:=by decide
    omega
   simp only[execOp,ho,hx.1,hy.1,eqGuard,binOp,Op.stringOp,dD,C6]
   rw[if_neg hn]
   rfl
  ·simp only[M.ab,aa] at he
   subst he
   refine au hR hd rfl rfl fun β φ hc=> ?_
   have hx:=hc.ev h1
   have hy:=hc.ev h2
   simp only[aq] at hx hy
   refine⟨.bool (s1==s2), ?_,by simp [aq]⟩
   simp [execOp,ho,hx.1,hy.1,eqGuard,binOp,Op.stringOp,gM]
  ·simp only[M.ab,aa] at he
   subst he
   refine au hR hd rfl rfl fun β φ hc=> ?_
   have hx:=hc.ev h1
   have hy:=hc.ev h2
   simp only[aq] at hx hy
   refine⟨.bool (!(s1==s2)), ?_,by simp [aq]⟩
   simp [execOp,ho,hx.1,hy.1,eqGuard,binOp,Op.stringOp,gM]
  ·simp at he
 ·refine Ef _ _ (fun β φ hc=> ?_) he
  have hx:=hc.ev h1
  have hy:=hc.ev h2
  simp only[aq] at hx hy
  exact⟨hx,hy⟩
 ·refine Ef _ _ (fun β φ hc=> ?_) he
  have hx:=hc.ev h1
  have hy:=hc.ev h2
  simp only[aq] at hx hy
  exact⟨hx,hy⟩
 ·refine Ef _ _ (fun β φ hc=> ?_) he
  have hx:=hc.ev h1
  have hy:=hc.ev h2
  simp only[aq] at hx hy
  exact⟨hx,hy⟩
 ·rename_i xs ys
  unfold Ib at he
  split at he
  ·rename_i fs hu
   cases hg:P.eqGuardType P.depth t
   ·simp only[hg,aQ] at he
    have GA:bB P t=true:=by simp [bB,hu]
    have key:∀b,Ag P 8 t xs ys=some b→∀β φ,Core w0 S st.get st.obj β φ a.tmps w→∃vs us:List Value,a.eval x= .agg vs.toArray∧a.eval y= .agg us.toArray∧(Op.equalIn 10000 t (.agg vs.toArray) (.agg us.toArray)).run P w= .ok b w:=by
     intro b hb β φ hc
     have hx:=hc.ev h1
     have hy:=hc.ev h2
     simp only[aq] at hx hy
     obtain⟨vs,e1,s1,_⟩:=hx
     obtain⟨us,e2,s2,_⟩:=hy
     exact⟨vs,us,e1,e2,(BA 9992 8 t xs ys vs us b s1 s2 hb).1 GA⟩
    split at he
    ·rename_i b hb
     simp only[M.ab,aa] at he
     subst he
     refine au hR hd rfl rfl fun β φ hc=>⟨.bool b, ?_,by simp [aq]⟩
     obtain⟨vs,us,e1,e2,hr⟩:=key b hb β φ hc
     simp only[execOp,ho,e1,e2,Sem.run_bind,run_eqGuard_agg w _ t x y _ _ hg,Result.andThen_ok,run_eql_struct,hr]
     rfl
    ·rename_i b hb
     simp only[M.ab,aa] at he
     subst he
     refine au hR hd rfl rfl fun β φ hc=>⟨.bool (!b), ?_,by simp [aq]⟩
     obtain⟨vs,us,e1,e2,hr⟩:=key b hb β φ hc
     simp only[execOp,ho,e1,e2,Sem.run_bind,run_eqGuard_agg w _ t x y _ _ hg,Result.andThen_ok,run_neq_struct,hr]
     rfl
    ·simp at he
   ·simp [hg] at he
  ·simp at he
 ·rename_i ct r
  have key:∀β φ,0<r.length→Core w0 S st.get st.obj β φ a.tmps w→∃ad n c,a.eval x= .slice (some ad) n c∧a.eval y= .slice none 0 0:=by
   intro β φ jM hc
   have hx:=hc.ev h1
   have hy:=hc.ev h2
   simp only[aq] at hx hy
   obtain⟨fp,kc,_⟩:=hx
   simp only[cd] at kc
   obtain⟨rows,q,n,c,e0,hv,hn,_,_,iY⟩:=kc
   injection e0 with e0
   subst e0
   rcases iY with ⟨h0,_⟩ | ⟨_,b,off,aE,rfl,_⟩
   ·omega
   ·exact⟨_,n,c,hv,hy⟩
  split at he
  ·rename_i et hu
   simp only[M.ab,aa] at he
   subst he
   refine au hR hd rfl rfl fun β φ hc=>⟨.bool false, ?_,by simp [aq]⟩
   obtain⟨ad,n,c,e1,e2⟩:=key β φ (by simpa using aP) hc
   simp [execOp,ho,e1,e2,eqGuard,binOp,Gu w t et ad n c hu]
  ·rename_i et hu
   simp only[M.ab,aa] at he
   subst he
   refine au hR hd rfl rfl fun β φ hc=>⟨.bool true, ?_,by simp [aq]⟩
   obtain⟨ad,n,c,e1,e2⟩:=key β φ (by simpa using aP) hc
   simp [execOp,ho,e1,e2,eqGuard,binOp,Gu w t et ad n c hu]
  ·simp at he
 ·simp at he
theorem FB (hR:Rel w0 S st a w) (hd:∀d,o.dst=some d→bn st.n d) {op:UnOp} {t:TypeId} {x:Operand} (ho:o.op= .unOp op t x) {sx:SV}
  (h1:(cm x).val st.get st.obj=some sx) (he:(Lp op sx).val st.get st.obj=some e):Good P w0 S st o e a w:=by
 unfold Lp at he
 split at he<;>simp only[M.ab,M.mM,aa,reduceCtorEq] at he
 all_goals
  subst he
  refine au hR hd rfl rfl fun β φ hc=> ?_
  have hx:=hc.ev h1
  simp only[aq] at hx
 ·exact⟨_,by simp [execOp,ho,hx,Op.unary];rfl,by simp [aq]⟩
 ·exact⟨_,by simp [execOp,ho,hx,Op.unary];rfl,by simp [aq]⟩
 ·exact⟨_,by simp [execOp,ho,hx.1,Op.unary,Op.intArith];rfl,by simp only[Int.zero_sub];unfold aq;exact⟨rfl,fA _ _⟩⟩
 ·refine⟨_,by simp only[execOp,ho,hx.1,Op.unary,intBits_xor];rfl,by unfold aq;exact⟨rfl,ij _ _ _ _⟩⟩
end
end Go.Proofs.YtnlkklmcfafgeaaGreat.Vm
namespace Go.Proofs.YtnlkklmcfafgeaaGreat.Vm
theorem jz {w:World} {b o:Nat} {vs:List Value} {t:TypeId} {fz:Nat×Nat} (h:w.heap[b]? =some (.cells vs.toArray t fz)):w.cell? ⟨b,o,none⟩=vs[o]? :=by
 simp [World.cell?,h]
theorem Eg {w:World} {b o:Nat} {cur:Array Value} {t:TypeId} {fz:Nat×Nat} (h:w.heap[b]? =some (.cells cur t fz)):w.cell? ⟨b,o,none⟩=cur[o]? :=by
 simp [World.cell?,h]
theorem cx.cell {w:World} {t size:Nat} {fz:Bool} {v:Value} {n:Nat} {vals:List Value} (h:cx w t size fz v n vals) {g j:Nat} {u:Value} (hg:v.ownBlock=some g)
  (hj:vals[j]? =some u):w.cell? ⟨g,j,none⟩=some u:=by
 rcases h.2 with ⟨rfl,_⟩ | ⟨g',cap,cur,rfl,hh,_,_,_,E7⟩
 ·simp [Value.ownBlock] at hg
 ·simp [Value.ownBlock] at hg
  subst hg
  rw[Eg hh]
  rw[←E7,List.getElem?_take] at hj
  split at hj
  ·simpa using hj
  ·cases hj
theorem cx.block {w:World} {t size:Nat} {fz:Bool} {v:Value} {n:Nat} {vals:List Value} (h:cx w t size fz v n vals) (hn:0<n):∃g,v.ownBlock=some g:=by
 rcases h.2 with ⟨rfl,h0,_⟩ | ⟨g',cap,cur,rfl,_⟩
 ·omega
 ·exact⟨g',rfl⟩
theorem dk {w:World} {e:List CT} {r:List (List DC)} {v:Value} {fp:List Nat} (h:cd w (.sl e) (.sl r) v fp):
  ∃a n c,v= .slice a n c∧r.length=n∧n≤c∧c≤maxLen∧
   ((n=0∧fp=[])∨(0<n∧∃(b o:Nat) (aE:List (List Nat)),a=some ⟨b,o,none⟩∧b<w.heap.size∧aE.length=n∧fp=b::aE.flatten∧
    ∀i r' f,r[i]? =some r'→aE[i]? =some f→bf w e r' (fun j=>w.cell? ⟨b,o+(i*e.length+j),none⟩) f)):=by
 simp only[cd] at h
 obtain⟨rows,a,n,c,hd,hv,hn,hc,hm,h⟩:=h
 injection hd with hd
 subst hd
 exact⟨a,n,c,hv,hn,hc,hm,h⟩
theorem j6 {w:World} {e:List CT} {r:List (List DC)} {fp:List Nat} {a:Option Addr} {n c:Nat} (hn:r.length=n) (hc:n≤c) (hm:c≤maxLen)
  (h:(n=0∧fp=[])∨(0<n∧∃(b o:Nat) (aE:List (List Nat)),a=some ⟨b,o,none⟩∧b<w.heap.size∧aE.length=n∧fp=b::aE.flatten∧
    ∀i r' f,r[i]? =some r'→aE[i]? =some f→bf w e r' (fun j=>w.cell? ⟨b,o+(i*e.length+j),none⟩) f)):cd w (.sl e) (.sl r) (.slice a n c) fp:=by
 unfold cd
 exact⟨r,a,n,c,rfl,rfl,hn,hc,hm,h⟩
theorem bt {w:World} {av:Nat→Prop} {β:Env} {id t:Nat} {e:List CT} {rows:List (List DC)} {fz u:Bool} {φ:List Nat} (h:f9 w av β id (.row t e rows fz u) φ):
  ∃fp,cd w (.sl e) (.sl rows) (β.val id) fp∧(∀b∈fp,b∈(β.val id).ownBlock.toList∨¬av b)∧(u=true→(∀b∈fp,b∈φ)∧(φ.Nodup→fp.Nodup)):=by
 obtain⟨vals,aE,h1,h2,h3,kA⟩:=h
 rcases Nat.eq_zero_or_pos rows.length with h0 | h0
 ·refine⟨[], ?_,by simp,by simp⟩
  rcases h1.2 with ⟨hv,_⟩ | ⟨g,cap,cur,hv,_,hc,hm,_⟩
  ·rw[hv]
   exact j6 h0 (Nat.le_refl _) (Nat.zero_le _) (.inl ⟨rfl,rfl⟩)
  ·rw[hv]
   exact j6 rfl hc hm (.inl ⟨h0,rfl⟩)
 ·obtain⟨g,hg⟩:=h1.block h0
  have cz:=h1.lt g (by simp [hg])
  have hv:∃cap,β.val id= .slice (some ⟨g,0,none⟩) rows.length cap∧rows.length≤cap∧cap≤maxLen:=by
   rcases h1.2 with ⟨hv,L7,_⟩ | ⟨g',cap,cur,hv,_,hc,hm,_⟩
   ·omega
   ·have:g'=g:=by simpa [hv,Value.ownBlock] using hg
    subst this
    exact⟨cap,hv,hc,hm⟩
  obtain⟨cap,hv,hc,hm⟩:=hv
  refine⟨g::aE.flatten, ?_, ?_, ?_⟩
  ·rw[hv]
   refine j6 rfl hc hm (.inr ⟨h0,g,0,aE,rfl,cz,h2.1,rfl,fun i r f hi hf=> ?_⟩)
   have hr:=h2.2 i r f hi hf
   refine bf.jW ?_ hr
   intro j u hj
   have:=h1.cell hg hj
   simpa using this
  ·intro b hb
   rcases List.mem_cons.1 hb with rfl | hb
   ·exact .inl (by simp [hg])
   ·exact .inr (h3 b hb)
  ·intro hu
   subst hu
   have:φ=g::aE.flatten:=by rw[kA,hg];rfl
   rw[this]
   exact⟨fun b hb=>hb,fun hn=>hn⟩
where
 bf.jW {w:World} {cs:List CT} {r:List DC} {f f':Nat→Option Value} {fp:List Nat} (hf:∀j u,f j=some u→f' j=some u) (h:bf w cs r f fp):bf w cs r f' fp:=by
  induction cs generalizing r f f' fp with
  | nil=>simpa only[bf] using h
  | cons c cs ih=>
   simp only[bf] at h ⊢
   obtain⟨d,r',v,f1,f2,hr,h0,h1,h2,Bp⟩:=h
   exact⟨d,r',v,f1,f2,hr,hf 0 v h0,h1,ih (fun j u hj=>hf (j+1) u hj) h2,Bp⟩
 bf.jo {w:World} {cs:List CT} {r:List DC} {f f':Nat→Option Value} {fp:List Nat} (hf:∀j u,j<cs.length→f j=some u→f' j=some u) (h:bf w cs r f fp):bf w cs r f' fp:=by
  induction cs generalizing r f f' fp with
  | nil=>simpa only[bf] using h
  | cons c cs ih=>
   simp only[bf] at h ⊢
   obtain⟨d,r',v,f1,f2,hr,h0,h1,h2,Bp⟩:=h
   exact⟨d,r',v,f1,f2,hr,hf 0 v (by simp) h0,h1,ih (fun j u hj Bq=>hf (j+1) u (by simp;omega) Bq) h2,Bp⟩
theorem Ay {w:World} {t:TypeId} {e:List CT} {rows:List (List DC)} {fz:Bool} {v:Value} {vals:List Value} {aE:List (List Nat)} (h1:cx w t e.length fz v rows.length vals) (h2:dS w e rows vals aE):
  ∃fp,cd w (.sl e) (.sl rows) v fp∧fp.Sublist (v.ownBlock.toList++aE.flatten):=by
 rcases Nat.eq_zero_or_pos rows.length with h0 | h0
 ·refine⟨[], ?_,List.nil_sublist _⟩
  rcases h1.2 with ⟨hv,_⟩ | ⟨g,cap,cur,hv,_,hc,hm,_⟩
  ·rw[hv]
   exact j6 h0 (Nat.le_refl _) (Nat.zero_le _) (.inl ⟨rfl,rfl⟩)
  ·rw[hv]
   exact j6 rfl hc hm (.inl ⟨h0,rfl⟩)
 ·obtain⟨g,hg⟩:=h1.block h0
  have cz:=h1.lt g (by simp [hg])
  have hv:∃cap,v= .slice (some ⟨g,0,none⟩) rows.length cap∧rows.length≤cap∧cap≤maxLen:=by
   rcases h1.2 with ⟨hv,L7,_⟩ | ⟨g',cap,cur,hv,_,hc,hm,_⟩
   ·omega
   ·have:g'=g:=by simpa [hv,Value.ownBlock] using hg
    subst this
    exact⟨cap,hv,hc,hm⟩
  obtain⟨cap,hv,hc,hm⟩:=hv
  refine⟨g::aE.flatten, ?_, ?_⟩
  ·rw[hv]
   refine j6 rfl hc hm (.inr ⟨h0,g,0,aE,rfl,cz,h2.1,rfl,fun i r f hi hf=> ?_⟩)
   refine bt.bf.jW ?_ (h2.2 i r f hi hf)
   intro j u hj
   have:=h1.cell hg hj
   simpa using this
  ·rw[hg]
   exact List.Sublist.refl _
theorem BB (n:Nat) (Q:Nat→List Nat→Prop) (h:∀i,i<n→∃f,Q i f):∃l:List (List Nat),l.length=n∧∀i f,l[i]? =some f→Q i f:=by
 induction n with
 | zero=>exact⟨[],rfl,by simp⟩
 | succ n ih=>
  obtain⟨l,hl,hq⟩:=ih (fun i hi=>h i (by omega))
  obtain⟨f,hf⟩:=h n (by omega)
  refine⟨l++[f],by simp [hl],fun i g hg=> ?_⟩
  rw[List.getElem?_append] at hg
  split at hg
  ·exact hq i g hg
  ·rename_i hi
   have:i - l.length=0:=by
    cases hk:i - l.length with
    | zero=>rfl
    | succ k=>rw[hk] at hg;simp at hg
   rw[this] at hg
   simp only[List.getElem?_cons_zero,aa] at hg
   subst hg
   have:i=n:=by omega
   subst this
   exact hf
theorem kP:∀(l m:List (List Nat)),l.length=m.length→(∀(i:Nat) (f g:List Nat),l[i]? =some f→m[i]? =some g→f.Sublist g)→l.flatten.Sublist m.flatten
 | [],[],_,_=>List.Sublist.refl _
 | [],_::_,h,_=>by simp at h
 | _::_,[],h,_=>by simp at h
 | a::l,b::m,h,hs=>by
  simp only[List.flatten_cons]
  exact (hs 0 a b rfl rfl).append (kP l m (by simpa using h) (fun i f g hf hg=>hs (i+1) f g (by simpa using hf) (by simpa using hg)))
theorem ae.reads {w:World} :∀(cs:List CT) (ts:List TypeId) (ds:List DC) (us:List Value) (mb:List Nat),ae w none cs ts ds us mb→∃fp,bf w cs ds (fun j=>us[j]?) fp∧fp.Sublist mb
 | [],_,_,_,_,h=>by
  simp only[ae] at h
  obtain⟨_,rfl,rfl,rfl⟩:=h
  exact⟨[],by simp [bf],List.Sublist.refl _⟩
 | .sl e::cs,_,_,_,_,h=>by
  simp only[ae] at h
  obtain⟨t,ea,rows,bc,v,aW,m1,gw,rfl,rfl,rfl,hf,⟨vals,aE,g1,g2,rfl⟩,h6,rfl⟩:=h
  obtain⟨fp,r1,s1⟩:=Ay g1 g2
  rw[g2.Du hf,List.append_nil] at s1
  obtain⟨gB,r2,s2⟩:=ae.reads cs _ _ _ _ h6
  refine⟨fp++gB, ?_,s1.append s2⟩
  simp only[bf]
  exact⟨_,bc,v,fp,gB,rfl,rfl,r1,by simpa using r2,rfl⟩
 | .int k::cs,_,_,_,_,h=>by
  simp only[ae] at h
  obtain⟨d,bc,v,aW,rfl,rfl,h3,h4⟩:=h
  obtain⟨gB,r2,s2⟩:=ae.reads cs _ _ _ _ h4
  refine⟨gB, ?_,s2⟩
  simp only[bf]
  exact⟨d,bc,v,[],gB,rfl,rfl,h3,by simpa using r2,rfl⟩
 | .bool::cs,_,_,_,_,h=>by
  simp only[ae] at h
  obtain⟨d,bc,v,aW,rfl,rfl,h3,h4⟩:=h
  obtain⟨gB,r2,s2⟩:=ae.reads cs _ _ _ _ h4
  refine⟨gB, ?_,s2⟩
  simp only[bf]
  exact⟨d,bc,v,[],gB,rfl,rfl,h3,by simpa using r2,rfl⟩
 | .str::cs,_,_,_,_,h=>by
  simp only[ae] at h
  obtain⟨d,bc,v,aW,rfl,rfl,h3,h4⟩:=h
  obtain⟨gB,r2,s2⟩:=ae.reads cs _ _ _ _ h4
  refine⟨gB, ?_,s2⟩
  simp only[bf]
  exact⟨d,bc,v,[],gB,rfl,rfl,h3,by simpa using r2,rfl⟩
theorem f0 {α:Type} {l:List α} {k n j:Nat} {u:α} (h:((l.drop k).take n)[j]? =some u):l[k+j]? =some u:=by
 rw[List.getElem?_take] at h
 split at h
 ·rwa [List.getElem?_drop] at h
 ·cases h
theorem bQ.reads {w:World} {e:List CT} {ts:List TypeId} {rows:List (List DC)} {vals:List Value} {a7:List (List Nat)} (h:bQ w e ts rows vals (fun _=>none) a7):
  ∃aE,dS w e rows vals aE∧aE.flatten.Sublist a7.flatten:=by
 obtain⟨aE,hl,hf⟩:=BB rows.length (fun i f=>∀r m,rows[i]? =some r→a7[i]? =some m→bf w e r (fun j=>vals[i*e.length+j]?) f∧f.Sublist m) (fun i hi=>by
  have hm:i<a7.length:=by rw[h.1];exact hi
  obtain⟨f,h1,h2⟩:=ae.reads _ _ _ _ _ (h.2 i rows[i] a7[i] (by simp) (by simp))
  refine⟨f,fun r m hr KD=> ?_⟩
  rw[List.getElem?_eq_getElem hi,aa] at hr
  rw[List.getElem?_eq_getElem hm,aa] at KD
  subst hr KD
  exact⟨bt.bf.jW (fun j u hj=>f0 hj) h1,h2⟩)
 refine⟨aE,⟨hl,fun i r f hr Bo=> ?_⟩,kP aE a7 (by rw[hl,h.1]) (fun i f m Bo hm=> ?_)⟩
 ·have hi:i<rows.length:=(List.getElem?_eq_some_iff.1 hr).1
  have hm:i<a7.length:=by rw[h.1];exact hi
  exact (hf i f Bo r a7[i] hr (by simp)).1
 ·have hi:i<rows.length:=by rw[←hl];exact (List.getElem?_eq_some_iff.1 Bo).1
  exact (hf i f Bo rows[i] m (by simp) hm).2
def AG (o:ao) (e:List CT) (rows:List (List DC)) (u:Bool):Prop:=
 (∃t fz,o= .row t e rows fz u)∨(∃t ts,o= .deep t e ts rows none∧u=true)
theorem Ax {w:World} {av:Nat→Prop} {β:Env} {id:Nat} {o:ao} {e:List CT} {rows:List (List DC)} {u:Bool} {φ:List Nat} (h:f9 w av β id o φ) (hm:AG o e rows u):
  ∃fp,cd w (.sl e) (.sl rows) (β.val id) fp∧(∀b∈fp,b∈ar β id o∨¬av b)∧(u=true→(∀b∈fp,b∈φ)∧(φ.Nodup→fp.Nodup)):=by
 rcases hm with ⟨t,fz,rfl⟩ | ⟨t,ts,rfl,rfl⟩
 ·exact bt h
 ·obtain⟨vals,a7,h1,h2,h3,rfl⟩:=h
  obtain⟨aE,h4,h5⟩:=h2.reads
  obtain⟨fp,h6,h7⟩:=Ay h1 h4
  have h8:fp.Sublist ((β.val id).ownBlock.toList++a7.flatten):=h7.trans ((List.Sublist.refl _).append h5)
  exact⟨fp,h6,fun b hb=> .inl (by simp only[ar,h3];exact h8.subset hb),fun _=>⟨fun b hb=>h8.subset hb,fun hn=>h8.nodup hn⟩⟩
section
variable {P:Program} {Γ:Ctx} {w0:World} {S:Own} {st:St} {o:Oper} {e:cS} {a:Act} {w:World}
theorem B5 (hR:Rel w0 S st a w) (hd:∀d,o.dst=some d→bn st.n d) {t:TypeId} {x i:Operand} (ho:o.op= .index t x i) {sx si:SV}
  (h1:(cm x).val st.get st.obj=some sx) (h2:(cm i).val st.get st.obj=some si) (he:(CG P t sx si).val st.get st.obj=some e) (aP:e.ok=true):Good P w0 S st o e a w:=by
 unfold CG at he
 split at he
 ·rename_i s k n hu
  simp only[M.ab,aa] at he
  subst he
  simp only[aw,eX] at aP
  obtain⟨Hx,JS⟩:=aP
  refine au hR hd rfl rfl fun β φ hc=> ?_
  have hx:=hc.ev h1
  have hy:=hc.ev h2
  simp only[aq] at hx hy
  have cz:n.toNat<s.length:=by omega
  refine⟨.int .u8 (s.getD n.toNat 0).toNat, ?_, ?_⟩
  ·have mW:(⟨s.toArray⟩:ByteArray)[n.toNat]? =some (s.getD n.toNat 0):=by
    rw[ByteArray.getElem?_lt' _ _ (by rw[dD];exact cz)]
    simp [ByteArray.getElem_eq_getElem_data,List.getD,cz]
   simp [execOp,ho,hx.1,hy.1,Instr.index,asIntOf,run_underlying hu,Hx,mW]
  ·unfold aq
   refine⟨rfl, ?_⟩
   have:=(s.getD n.toNat 0).toNat_lt
   rw[eG]
   have h1:IntKind.u8.min=0:=by decide
   have h2:IntKind.u8.max=255:=by decide
   omega
 ·simp at he
theorem j7 (hR:Rel w0 S st a w) (hd:∀d,o.dst=some d→bn st.n d) {mx:Bool} {c:Call} {x y:Operand} (ho:o.op= .call c) (hb:c.callee= .builtin (bif mx then .max else .min))
  (hx:c.args= #[x,y]) {sx sy:SV} (h1:(cm x).val st.get st.obj=some sx) (h2:(cm y).val st.get st.obj=some sy) (he:(Gi mx sx sy).val st.get st.obj=some e):Good P w0 S st o e a w:=by
 unfold Gi at he
 split at he
 ·rename_i k n k' m
  by_cases hk:k=k'
  ·subst hk
   simp only[decide_true,aj,M.ab,aa] at he
   subst he
   refine au hR hd rfl rfl fun β φ hc=> ?_
   have h1:=hc.ev h1
   have h2:=hc.ev h2
   simp only[aq] at h1 h2
   refine⟨.int k (bif mx then (if n<m then m else n) else (if m<n then m else n)), ?_, ?_⟩
   ·cases mx
    ·simp [execOp,ho,resolve,hb,hx,invoke,builtin,h1.1,h2.1,Builtin.min_,Builtin.min2]
    ·simp [execOp,ho,resolve,hb,hx,invoke,builtin,h1.1,h2.1,Builtin.max_,Builtin.max2]
   ·cases mx
    ·unfold aq
     refine⟨rfl, ?_⟩
     simp only[aQ]
     split
     ·exact h2.2
     ·exact h1.2
    ·unfold aq
     refine⟨rfl, ?_⟩
     simp only[aj]
     split
     ·exact h2.2
     ·exact h1.2
  ·simp [hk] at he
 ·simp at he
theorem A5 {n:Nat} (h:n≤maxLen):BS .i64 (n:Int)=true:=by
 rw[eG]
 have h1:IntKind.i64.min= -9223372036854775808:=by decide
 have h2:IntKind.i64.max=9223372036854775807:=by decide
 simp only[maxLen] at h
 omega
theorem AA (hR:Rel w0 S st a w) (hd:∀d,o.dst=some d→bn st.n d) {c:Call} {x:Operand} {t:TypeId} (ho:o.op= .call c) (hb:c.callee= .builtin .len)
  (hx:c.args= #[x]) (ht:c.argTypes= #[t]) {sx:SV} (h1:(cm x).val st.get st.obj=some sx) (he:(Gd P t sx).val st.get st.obj=some e):Good P w0 S st o e a w:=by
 have Bd:∀(et:TypeId) (n:Nat),P.underlying t=some (.slice et)→n≤maxLen→e= {sv:= .int .i64 n} →
   (∀β φ,Core w0 S st.get st.obj β φ a.tmps w→∃q c,a.eval x= .slice q n c)→Good P w0 S st o e a w:=by
  intro et n hu hn he hv
  subst he
  refine au hR hd rfl rfl fun β φ hc=> ?_
  obtain⟨q,c',hv⟩:=hv β φ hc
  refine⟨.int .i64 n, ?_,by unfold aq;exact⟨rfl,A5 hn⟩⟩
  simp [execOp,ho,resolve,hb,hx,ht,invoke,builtin,hv,Builtin.len_,run_underlying hu,goInt]
 unfold Gd at he
 split at he
 ·rename_i s hu
  simp only[M.ab,aa] at he
  subst he
  refine au hR hd rfl rfl fun β φ hc=> ?_
  have h1:=hc.ev h1
  simp only[aq] at h1
  refine⟨.int .i64 s.length, ?_,by unfold aq;exact⟨rfl,A5 h1.2⟩⟩
  simp [execOp,ho,resolve,hb,hx,ht,invoke,builtin,h1.1,Builtin.len_,run_underlying hu,goInt,dD]
 ·rename_i et hu
  simp only[M.ab,aa] at he
  refine Bd et 0 hu (Nat.zero_le _) he.symm fun β φ hc=> ?_
  have h1:=hc.ev h1
  simp only[aq] at h1
  exact⟨none,0,h1⟩
 ·rename_i et e' r hu
  simp only[M.ab,aa] at he
  have key:∀β φ,Core w0 S st.get st.obj β φ a.tmps w→∃q c,a.eval x= .slice q r.length c∧r.length≤maxLen:=by
   intro β φ hc
   have h1:=hc.ev h1
   simp only[aq] at h1
   obtain⟨fp,h1,_⟩:=h1
   obtain⟨q,n,c',hv,hn,AX,hm,_⟩:=dk h1
   exact⟨q,c',by rw[hn];exact hv,by omega⟩
  obtain⟨β,φ,hc⟩:=hR.core
  obtain⟨_,_,_,hle⟩:=key β φ hc
  exact Bd et r.length hu hle he.symm fun β φ hc=>by
   obtain⟨q,c',hv,_⟩:=key β φ hc
   exact⟨q,c',hv⟩
 ·rename_i et id hu
  simp only[M.a8,af] at he
  obtain⟨ob,aS,he⟩:=he
  split at he
  ·rename_i t' e' r fz u
   simp only[M.ab,aa] at he
   have key:∀β φ,Core w0 S st.get st.obj β φ a.tmps w→∃q c,a.eval x= .slice q r.length c∧r.length≤maxLen:=by
    intro β φ hc
    have h1:=hc.ev h1
    simp only[aq] at h1
    obtain⟨fp,h2,_,_⟩:=bt (hc.aC id _ aS)
    obtain⟨q,n,c',hv,hn,AX,hm,_⟩:=dk h2
    exact⟨q,c',by rw[hn,h1.1];exact hv,by omega⟩
   obtain⟨β,φ,hc⟩:=hR.core
   obtain⟨_,_,_,hle⟩:=key β φ hc
   exact Bd et r.length hu hle he.symm fun β φ hc=>by
    obtain⟨q,c',hv,_⟩:=key β φ hc
    exact⟨q,c',hv⟩
  ·rename_i e' r
   simp only[M.ab,aa] at he
   have key:∀β φ,Core w0 S st.get st.obj β φ a.tmps w→∃q c,a.eval x= .slice q r.length c∧r.length≤maxLen:=by
    intro β φ hc
    have h1:=hc.ev h1
    simp only[aq] at h1
    obtain⟨h2,_⟩:=hc.aC id _ aS
    simp only[aq] at h2
    obtain⟨fp,h2,_⟩:=h2
    obtain⟨q,n,c',hv,hn,AX,hm,_⟩:=dk h2
    exact⟨q,c',by rw[hn,h1.1];exact hv,by omega⟩
   obtain⟨β,φ,hc⟩:=hR.core
   obtain⟨_,_,_,hle⟩:=key β φ hc
   exact Bd et r.length hu hle he.symm fun β φ hc=>by
    obtain⟨q,c',hv,_⟩:=key β φ hc
    exact⟨q,c',hv⟩
  ·simp at he
 ·simp at he
end
end Go.Proofs.YtnlkklmcfafgeaaGreat.Vm
namespace Go.Proofs.YtnlkklmcfafgeaaGreat.Vm
section
variable {P:Program} {Γ:Ctx} {w0:World} {S:Own} {st:St} {o:Oper} {e:cS} {a:Act} {w:World}
theorem ba {t:TypeId} {n:Nat} (h:bb P t n=true):∃i,P.info? t=some i∧i.size=n:=by
 unfold bb at h
 split at h
 ·rename_i i hi
  exact⟨i,hi,aM h⟩
 ·cases h
theorem cI {α:Type} {l:List α} {i:Nat} {d:α} (h:i<l.length):l[i]? =some (l.getD i d):=by
 simp [List.getD,h]
theorem gR (hR:Rel w0 S st a w) (hd:∀d,o.dst=some d→bn st.n d) {t:TypeId} {x i:Operand} (ho:o.op= .indexAddr t x i) {sx si:SV}
  (h1:(cm x).val st.get st.obj=some sx) (h2:(cm i).val st.get st.obj=some si) (he:(gE P t sx si).val st.get st.obj=some e) (aP:e.ok=true):Good P w0 S st o e a w:=by
 unfold gE at he
 split at he
 ·rename_i et k n hu
  have run:∀(b oo m c:Nat) (i':TypeInfo),P.info? et=some i'→0≤n→n<(m:Int)→a.eval x= .slice (some ⟨b,oo,none⟩) m c→(∃kk,a.eval i= .int kk n)→
    (execOp a.eval o).run P w= .ok (.value (.pointer (some ⟨b,oo+n.toNat*i'.size,none⟩))) w:=by
   rintro b oo m c i' hi h0 hm hx ⟨kk,dY⟩
   simp [execOp,ho,hx,dY,Instr.indexAt,asIntOf,run_underlying hu,h0,hm,sizeOf,typeInfo,hi,dw]
  have ef:∀(ct:List CT) (r:List (List DC)),bb P et ct.length=true→e= {sv:= .gS ct (r.getD n.toNat []) 0,ok:=decide (0≤n) && decide (n<r.length)} →
    (∀β φ,Core w0 S st.get st.obj β φ a.tmps w→aq w (Av st.obj β) β (.sl ct r) (a.eval x))→Good P w0 S st o e a w:=by
   intro ct r hz he hx
   subst he
   simp only[aw,eX] at aP
   obtain⟨i',hi,dF⟩:=ba hz
   refine au hR hd rfl rfl fun β φ hc=> ?_
   have hx:=hx β φ hc
   have GG:=hc.ev h2
   simp only[aq] at hx GG
   obtain⟨fp,hr,cX⟩:=hx
   obtain⟨q,m,c,hv,hm,_,_,iY⟩:=dk hr
   have jM:0<m:=by omega
   rcases iY with ⟨h0,_⟩ | ⟨_,b,oo,aE,rfl,cz,hl,rfl,eP⟩
   ·omega
   ·have KC:n.toNat<r.length:=by omega
    refine⟨_,run b oo m c i' hi aP.1 (by omega) hv ⟨k,GG.1⟩, ?_⟩
    have hb:¬Av st.obj β b:=cX b (by simp)
    have hf:aE[n.toNat]? =some aE[n.toNat]:=by simp
    have:=eP n.toNat (r.getD n.toNat []) aE[n.toNat] (cI KC) hf
    simp only[aq]
    refine⟨b,oo+n.toNat*ct.length,aE[n.toNat],by rw[dF];rfl,cz,hb, ?_,fun y hy=>cX y ?_⟩
    ·simpa only[Nat.add_assoc] using this
    ·simp only[List.mem_cons,List.mem_flatten]
     exact .inr ⟨_,List.getElem_mem _,hy⟩
  split at he
  ·rename_i ct r
   cases hz:bb P et ct.length
   ·simp [hz] at he
   ·simp only[hz,aj,M.ab,aa] at he
    exact ef ct r hz he.symm fun β φ hc=>hc.ev h1
  ·rename_i id
   simp only[M.a8,af] at he
   obtain⟨ob,aS,he⟩:=he
   split at he
   ·rename_i t' ct r fz u
    cases hz:bb P et ct.length
    ·simp [hz] at he
    ·simp only[hz,aj,M.ab,aa] at he
     subst he
     simp only[aw,eX] at aP
     obtain⟨i',hi,dF⟩:=ba hz
     refine au hR hd rfl rfl fun β φ hc=> ?_
     have hx:=hc.ev h1
     have GG:=hc.ev h2
     simp only[aq] at hx GG
     obtain⟨vals,aE,bd,_⟩:=hc.aC id _ aS
     rcases bd.2 with ⟨_,h0,_⟩ | ⟨g,cap,cur,hv,_⟩
     ·omega
     ·refine⟨_,run g 0 r.length cap i' hi aP.1 aP.2 (hx.1.trans hv) ⟨k,GG.1⟩, ?_⟩
      simp only[aq]
      exact⟨g,by rw[hv];rfl,by rw[dF];simp⟩
   ·rename_i ct r
    cases hz:bb P et ct.length
    ·simp [hz] at he
    ·simp only[hz,aj,M.ab,aa] at he
     refine ef ct r hz he.symm fun β φ hc=> ?_
     have hx:=hc.ev h1
     simp only[aq] at hx
     rw[hx.1]
     exact (hc.aC id _ aS).1
   ·simp at he
  ·simp at he
 ·simp at he
theorem mH (hR:Rel w0 S st a w) (hd:∀d,o.dst=some d→bn st.n d) {t:TypeId} {x:Operand} (ho:o.op= .load t x) {sx:SV}
  (h1:(cm x).val st.get st.obj=some sx) (he:(mA P t sx).val st.get st.obj=some e) (aP:e.ok=true):Good P w0 S st o e a w:=by
 unfold mA at he
 split at he
 case h_2=>simp at he
 rename_i td hu
 have agg:∀(b oo:Nat) (vs:List Value) (i:TypeInfo),bB P t=true→P.info? t=some i→vs.length=i.size→(∀j v,vs[j]? =some v→w.cell? ⟨b,oo+j,none⟩=some v)→
   a.eval x= .pointer (some ⟨b,oo,none⟩)→(execOp a.eval o).run P w= .ok (.value (.agg vs.toArray)) w:=by
  intro b oo vs i h2 hi hl hcell hx
  simp [execOp,ho,hx,fE h2 hi hl hcell]
 have one:∀(b oo:Nat) (v:Value),bB P t=false→w.cell? ⟨b,oo,none⟩=some v→a.eval x= .pointer (some ⟨b,oo,none⟩)→(execOp a.eval o).run P w= .ok (.value v) w:=by
  intro b oo v h2 hcell hx
  simp [execOp,ho,hx,d5 h2 hu hcell]
 unfold CH at he
 split at he
 ·rename_i id off
  simp only[M.a8,af] at he
  obtain⟨ob,aS,he⟩:=he
  split at he
  ·rename_i t' cells
   cases ha:bB P t
   ·simp only[ha,aQ] at he
    split at he
    ·rename_i s hs
     simp only[M.ab,aa] at he
     subst he
     refine au hR hd rfl rfl fun β φ hc=> ?_
     have hx:=hc.ev h1
     simp only[aq] at hx
     obtain⟨vs,hh,hr,_,_⟩:=hc.aC id _ aS
     obtain⟨v,hv,f8⟩:=ah.get _ _ _ _ hr hs
     exact⟨v,one _ _ v ha (by rw[jz hh];exact hv) hx,f8⟩
    ·simp at he
   ·simp only[ha,aj] at he
    split at he
    ·rename_i i hi
     cases hz:Nat.ble (off+i.size) cells.length
     ·simp [hz] at he
     ·simp only[hz,aj,M.ab,aa] at he
      subst he
      have hle:=Nat.le_of_ble_eq_true hz
      refine au hR hd rfl rfl fun β φ hc=> ?_
      have hx:=hc.ev h1
      simp only[aq] at hx
      obtain⟨vs,hh,hr,bk,_⟩:=hc.aC id _ aS
      have hlen:=ah.length _ _ hr
      refine⟨_,agg _ off ((vs.drop off).take i.size) i ha hi (by simp;omega) (fun j v hj=> ?_) hx, ?_⟩
      ·rw[jz hh]
       rw[List.getElem?_take] at hj
       split at hj
       ·simpa using hj
       ·cases hj
      ·simp only[aq]
       exact⟨_,rfl,ah.take _ _ _ (ah.drop _ _ _ hr),fun y hy=>bk y (List.mem_of_mem_drop (List.mem_of_mem_take hy))⟩
    ·simp at he
  ·simp at he
 ·rename_i ct row off
  cases ha:bB P t
  ·simp only[ha,aQ] at he
   split at he
   ·rename_i c AX
    simp only[M.ab,aa] at he
    subst he
    refine au hR hd rfl rfl fun β φ hc=> ?_
    have hx:=hc.ev h1
    simp only[aq] at hx
    obtain⟨b,oo,fp,hv,_,_,hr,cX⟩:=hx
    obtain⟨v,BD,e1,e2,e3⟩:=bf.get _ _ _ _ _ _ hr AX
    exact⟨v,one _ _ v ha e1 hv,dG e2 (fun y hy=>cX y (e3 y hy))⟩
   ·simp at he
  ·simp only[ha,aj] at he
   split at he
   ·rename_i i hi
    cases hz:Nat.ble (off+i.size) ct.length
    ·simp [hz] at he
    ·simp only[hz,aj,M.ab,aa] at he
     subst he
     have hle:=Nat.le_of_ble_eq_true hz
     refine au hR hd rfl rfl fun β φ hc=> ?_
     have hx:=hc.ev h1
     simp only[aq] at hx
     obtain⟨b,oo,fp,hv,_,_,hr,cX⟩:=hx
     obtain⟨vs,l1,l2,l3,l4⟩:=bf.bT (β:=β) hr cX i.size off hle
     refine⟨_,agg b (oo+off) vs i ha hi l1 (fun j v hj=> ?_) hv, ?_⟩
     ·have:=l2 j v hj
      rw[←this,Nat.add_assoc]
     ·simp only[aq]
      exact⟨vs,rfl,l3,l4⟩
   ·simp at he
 ·rename_i id i z off
  simp only[M.a8,af] at he
  obtain⟨ob,aS,he⟩:=he
  split at he
  ·rename_i t' ct rows fz u
   cases hz:Nat.beq z ct.length
   ·simp [hz] at he
   have Jl:=aM hz
   simp only[hz,Bool.not_true,aQ] at he
   have reads:∀β φ,Core w0 S st.get st.obj β φ a.tmps w→i<rows.length→∃g fp,a.eval x= .pointer (some ⟨g,i*ct.length+off,none⟩)∧
     bf w ct (rows.getD i []) (fun j=>w.cell? ⟨g,i*ct.length+j,none⟩) fp∧∀y∈fp,¬Av st.obj β y:=by
    intro β φ hc hi
    have hx:=hc.ev h1
    simp only[aq] at hx
    obtain⟨g,hg,hv⟩:=hx
    obtain⟨vals,aE,bd,di,cX,_⟩:=hc.aC id _ aS
    have hf:i<aE.length:=by rw[di.1];exact hi
    have:=di.2 i (rows.getD i []) aE[i] (cI hi) (by simp)
    refine⟨g,aE[i],by rw[hv,Jl],bt.bf.jW (fun j v hj=>bd.cell hg hj) this,fun y hy=>cX y ?_⟩
    exact List.mem_flatten.2 ⟨_,List.getElem_mem _,hy⟩
   cases ha:bB P t
   ·simp only[ha,aQ] at he
    split at he
    ·rename_i c AX
     simp only[M.ab,aa] at he
     subst he
     have hi:i<rows.length:=by simpa using aP
     refine au hR hd rfl rfl fun β φ hc=> ?_
     obtain⟨g,fp,hv,hr,cX⟩:=reads β φ hc hi
     obtain⟨v,BD,e1,e2,e3⟩:=bf.get _ _ _ _ _ _ hr AX
     exact⟨v,one _ _ v ha e1 hv,dG e2 (fun y hy=>cX y (e3 y hy))⟩
    ·simp at he
   ·simp only[ha,aj] at he
    split at he
    ·rename_i j hj
     cases hz:Nat.ble (off+j.size) ct.length
     ·simp [hz] at he
     ·simp only[hz,aj,M.ab,aa] at he
      subst he
      have hi:i<rows.length:=by simpa using aP
      have hle:=Nat.le_of_ble_eq_true hz
      refine au hR hd rfl rfl fun β φ hc=> ?_
      obtain⟨g,fp,hv,hr,cX⟩:=reads β φ hc hi
      obtain⟨vs,l1,l2,l3,l4⟩:=bf.bT (β:=β) hr cX j.size off hle
      refine⟨_,agg g (i*ct.length+off) vs j ha hj l1 (fun k v hk=> ?_) hv, ?_⟩
      ·have:=l2 k v hk
       rw[←this,Nat.add_assoc]
      ·simp only[aq]
       exact⟨vs,rfl,l3,l4⟩
    ·simp at he
  ·simp at he
 ·simp at he
end
end Go.Proofs.YtnlkklmcfafgeaaGreat.Vm
