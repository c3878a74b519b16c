/- The value machine: definitions, the relation to the model, plain operations. Conditions: as each lemma says. -/
import Derived.WalkKit
import Derived.Maps.AppendAt
import Derived.Orders
import Derived.Lib.Strings
open Nat renaming beq→AN,ble→AS,blt→AT,add_assoc→Ba,le_of_ble_eq_true→Bt,zero_le→BE,ne_of_beq_eq_false→BU,le_refl→Cx,eq_zero_or_pos→Du
open List renaming mem_flatten→A4,mem_cons→By,getElem_of_mem→BY,mem_of_getElem?→Cr,take_succ_cons→Cw,getElem?_take→Df,getElem?_eq_getElem→Dv,getElem?_eq_some_iff→DA
open Go.Value renaming ownBlock→A6
open Array renaming getD_eq_getD_getElem?→CE,getElem?_setIfInBounds→Dr
open Go renaming IntKind→aay,TypeId→aaz,Program→aaA,Value→aaB,Operand→aaC,World→aaD
namespace Go.Proofs.YteffpikahopfoaaGreat.Vm
theorem O4(n:Nat)(h:0<n:=by omega):∃q,n=q+1:=⟨n-1,by omega⟩
noncomputable def WS{β:Type}(z:β)(f:β→β)(n:Nat):β:=Nat.rec z (λ_=>f) n
theorem HI{α:Sort _}(a b:α):cond true a b=a:=rfl
theorem rl{α:Sort _}(a b:α):cond false a b=b:=rfl
theorem gF(a b:Bool):((a && b)=true)=(a=true∧b=true):=Bool.and_eq_true a b
theorem VR{α:Type _}(a b:α):(some a=some b)=(a=b):=Option.some.injEq a b
theorem sC{α:Type _}{β:Type _}{b:β}{o:Option α}{f:α→Option β} :o.bind f=some b↔∃a,o=some a∧f a=some b:=Option.bind_eq_some_iff
theorem kQ{p:Prop} [Decidable p]:(decide p=true)=p:=decide_eq_true_eq
theorem Tl{p:Prop} [Decidable p] (h:p):decide p=true:=decide_eq_true h
theorem yF{p:Prop} [Decidable p] (h:¬p):decide p=false:=decide_eq_false h
theorem lN(n:Nat):(n:Int).toNat=n:=Int.toNat_natCast n
theorem cL{a b:Nat}(h:AN a b=true):a=b:=Nat.eq_of_beq_eq_true h
theorem mi{α:Type _}{a:α}(b:List α){c:List α}(h:a∈c):a∈b++c:=List.mem_append_right b h
theorem U8{α:Type _}{a:α}{b:List α}(c:List α)(h:a∈b):a∈b++c:=List.mem_append_left c h
theorem Qe{α:Type _}{a b:List α} :(a++b).length=a.length+b.length:=List.length_append
theorem di{α:Type _}{a:α}{b:List α} :(a::b).length=b.length+1:=rfl
inductive CT where
 | int (k:aay)
 | bool
 | str
 | sl (e:List CT)
inductive DC where
 | int (n:Int)
 | bool (b:Bool)
 | str (s:List UInt8)
 | sl (rows:List (List DC))
instance:Inhabited DC:=⟨.int 0⟩
def Bk(x y:Bool):Bool:=bif y then x else false
theorem DT(x y:Bool):(Bk x y=true)=(x=true∧y=true):=by cases x<;>cases y<;>simp[Bk]
def DC.asInt:DC→Int
 | .int n=>n
 | _=>0
def DC.asBool:DC→Bool
 | .bool b=>b
 | _=>false
def DC.He:DC→List UInt8
 | .str s=>s
 | _=>[]
def DC.cG:DC→List (List DC)
 | .sl r=>r
 | _=>[]
inductive bg where
 | fV
 | undef
 | kb (b:Bool)
 | int (k:aay) (n:Int)
 | bool (b:Bool)
 | str (s:List UInt8)
 | sl (e:List CT) (rows:List (List DC))
 | nil
 | own (id:Nat)
 | agg (cs:List bg)
 | ptr (id off:Nat)
 | iv (e:List CT) (row:List DC) (off:Nat)
 | eK (id i sz off:Nat)
 | Ej (vs:List bg)
 | GC (g:Nat) (cs:List bg)
 | Gx (id lo z:Nat)
instance:Inhabited bg:=⟨.fV⟩
inductive yP where
 | box (t:aaz) (cells:List bg)
 | row (t:aaz) (e:List CT) (rows:List (List DC)) (fz u:Bool)
 | eN (e:List CT) (rows:List (List DC))
 | deep (t:aaz) (e:List CT) (ts:List aaz) (rows:List (List DC)) (hl:Option (Nat×Nat))
mutual
def OY:CT→CT→Bool
 | .int k,.int k'=>decide (k=k')
 | .bool,.bool=>true
 | .str,.str=>true
 | .sl e,.sl e'=>pc e e'
 | _,_=>false
def pc:List CT→List CT→Bool
 | [],[]=>true
 | a::l,b::m=>OY a b && pc l m
 | _,_=>false
end
def Ol(P:aaA):Nat→aaz→Option (List CT)
 | 0,_=>none
 | n+1,t=>
  match P.underlying t with
  | some .bool=>some [.bool]
  | some (.int k)=>some [.int k]
  | some .string=>some [.str]
  | some (.slice e)=>match Ol P n e with | some l=>some [.sl l] | none=>none
  | some (.struct fs)=>fs.toList.foldr (λf r=>match Ol P n f.type,r with | some l,some m=>some (l++m) | _,_=>none) (some [])
  | _=>none
def Oz(P:aaA)(t:aaz):Bool:=
 match P.underlying t with
 | some (.struct _)=>true
 | some (.array _ _)=>true
 | _=>false
def bp(k:aay)(n:Int):Bool:=decide (k.min≤n) && decide (n≤k.max)
def ofConst:aaB→bg
 | .bool b=> .kb b
 | .int k n=>bif bp k n then .int k n else .fV
 | .string s=>bif AS s.data.toList.length maxLen then .str s.data.toList else .fV
 | .slice none 0 0=> .nil
 | _=> .fV
def RL:CT→DC→bg
 | .int k,d=> .int k d.asInt
 | .bool,d=> .bool d.asBool
 | .str,d=> .str d.He
 | .sl e,d=> .sl e d.cG
def BT:List CT→List DC→Nat→List bg
 | [],_,_=>[]
 | c::cs,ds,k=>RL c (ds.getD k default)::BT cs ds (k+1)
inductive M (α:Type) where
 | pure (a:α)
 | fail
 | slot (i:Nat) (k:bg→M α)
 | obj (id:Nat) (k:yP→M α)
def M.bind{α β:Type} :M α→(α→M β)→M β
 | .pure a,f=>f a
 | .fail,_=> .fail
 | .slot i k,f=> .slot i λs=>(k s).bind f
 | .obj i k,f=> .obj i λs=>(k s).bind f
instance:Monad M where
 pure:=M.pure
 bind:=M.bind
structure R_ where
 sv:bg
 cw:Option (Nat×Nat×List bg):=none
 ow:List (Nat×Option yP):=[]
 ok:Bool:=true
structure de where
 bF:List CT
 agg:Bool
inductive DB where
 | eN (ct:CT)
 | own (t:aaz) (e:List CT)
 | deep (t:aaz) (e:List CT) (ts:List aaz)
structure VC where
 cells:List DB
 agg:Bool
inductive YY where
 | flat (t:aaz)
 | deep (t:aaz) (its:List aaz)
inductive lz where
 | box (t:aaz)
 | rows (ts:List YY)
 | km (ts:List YY)
 | cZ (t:aaz) (ts:List YY)
def vb(t:YY)(e:List CT)(a:List (List DC)):yP:=
 match t with
 | .flat t=> .row t e a false true
 | .deep t its=> .deep t e its a none
def Av:List (Option lz)→Bool
 | []=>true
 | some (.box _)::_=>false
 | _::l=>Av l
structure Sum where
 ps:List de
 rs:List VC
 fn:List DC→Bool×List DC
 ms:List (Option lz):=[]
 pt:Option (aaz×List CT):=none
 Hd:Bool:=false
abbrev Ctx:=List (Nat×Sum)
def OT:Ctx→Nat→Option Sum
 | [],_=>none
 | (k,s)::l,i=>bif AN k i then some s else OT l i
def hF:aaC→M bg
 | .tmp t=> .slot t .pure
 | .const v=> .pure (ofConst v)
 | _=> .fail
def xm:List aaC→M (List bg)
 | []=> .pure []
 | x::l=>(hF x).bind λs=>(xm l).bind λr=> .pure (s::r)
def R8:bg→M (List bg)
 | .agg cs=> .pure cs
 | .fV=> .fail
 | .undef=> .fail
 | .Ej _=> .fail
 | .GC _ _=> .fail
 | .Gx _ _ _=> .fail
 | s=> .pure [s]
mutual
def CG(g:Bool):bg→bg→bg
 | .undef,.undef=> .undef
 | .kb x,.kb y=>bif x==y then .kb x else .bool (bif x then g else !g)
 | .kb x,.bool y=> .bool (bif g then x else y)
 | .bool x,.kb y=> .bool (bif g then x else y)
 | .bool x,.bool y=> .bool (bif g then x else y)
 | .int k n,.int k' m=>bif decide (k=k') then .int k (bif g then n else m) else .fV
 | .str n,.str m=> .str (bif g then n else m)
 | .sl e r,.sl e' r'=>bif pc e e' then .sl e (bif g then r else r') else .fV
 | .sl e r,.nil=> .sl e (bif g then r else [])
 | .nil,.sl e r=> .sl e (bif g then [] else r)
 | .nil,.nil=> .nil
 | .own i,.own j=>bif AN i j then .own i else .fV
 | .ptr i o,.ptr j o'=>bif AN i j && AN o o' then .ptr i o else .fV
 | .iv e r o,.iv e' r' o'=>bif pc e e' && AN o o' then .iv e (bif g then r else r') o else .fV
 | .eK i x z o,.eK j y z' o'=>bif AN i j && AN z z' && AN o o' then .eK i (bif g then x else y) z o else .fV
 | .agg l,.agg m=>bif AN l.length m.length then .agg (sG g l m) else .fV
 | .Ej l,.Ej m=>bif AN l.length m.length then .Ej (sG g l m) else .fV
 | _,_=> .fV
def sG(g:Bool):List bg→List bg→List bg
 | a::l,b::m=>CG g a b::sG g l m
 | _,_=>[]
end
abbrev Wk:=List (Nat×List CT×List (List DC)×Bool)
def W9(a:CT):bg→M (DC×Wk×Bool)
 | .int k n=>match a with | .int k'=>bif decide (k=k') then .pure (.int n,[],true) else .fail | _=> .fail
 | .kb b=>match a with | .bool=> .pure (.bool b,[],true) | _=> .fail
 | .bool b=>match a with | .bool=> .pure (.bool b,[],true) | _=> .fail
 | .str s=>match a with | .str=> .pure (.str s,[],true) | _=> .fail
 | .sl e r=>match a with | .sl e'=>bif pc e e' then .pure (.sl r,[],false) else .fail | _=> .fail
 | .nil=>match a with | .sl _=> .pure (.sl [],[],true) | _=> .fail
 | .own id=>match a with
  | .sl e'=> .obj id fun
   | .row _ e r _ u=>bif pc e e' then .pure (.sl r,[(id,e,r,u)],u) else .fail
   | .eN e r=>bif pc e e' then .pure (.sl r,[],false) else .fail
   | .deep _ e _ r none=>bif pc e e' then .pure (.sl r,[(id,e,r,true)],true) else .fail
   | _=> .fail
  | _=> .fail
 | _=> .fail
def jk:List CT→List bg→M (List DC×Wk×Bool)
 | [],[]=> .pure ([],[],true)
 | c::cs,s::AK=>(W9 c s).bind λd=>(jk cs AK).bind λr=> .pure (d.1::r.1,d.2.1++r.2.1,d.2.2 && r.2.2)
 | _,_=> .fail
def zP:List CT→Bool
 | []=>true
 | .sl _::_=>false
 | _::l=>zP l
def Zv:List CT→Nat
 | []=>0
 | .sl _::l=>Zv l+1
 | _::l=>Zv l
def EN:List aaz→List aaz→Bool
 | [],[]=>true
 | a::l,b::m=>AN a b && EN l m
 | _,_=>false
theorem xX:∀(a b:List aaz),EN a b=true→a=b
 | [],[],_=>rfl
 | a::l,b::m,h=>by simp only[EN,gF] at h;rw[cL h.1,xX l m h.2]
 | [],_::_,h=>by simp[EN] at h
 | _::_,[],h=>by simp[EN] at h
def Qr(P:aaA):Nat→aaz→Option (List aaz)
 | 0,_=>none
 | n+1,t=>
  match P.underlying t with
  | some (.slice e)=>some [e]
  | some (.struct fs)=>fs.toList.foldr (λf r=>match Qr P n f.type,r with | some l,some m=>some (l++m) | _,_=>none) (some [])
  | some _=>some []
  | none=>none
def fF(P:aaA)(t:aaz)(n:Nat):Bool:=
 match P.info? t with
 | some i=>AN i.size n
 | none=>false
def Qi(P:aaA)(t:aaz)(n:Nat):Bool:=
 match P.info? t with
 | some i=>decide (n*i.bytes≤140737488355328) && decide (n≤9223372036854775807)
 | none=>false
def G8(d k:Nat):Nat:=d*64+k
def B1(d n:Nat):Bool:=AT d (n % 1099511627776) && AS (n / 1099511627776) d
def IW(n d:Nat):Prop:=d<n % 1099511627776∧n / 1099511627776≤d
theorem Ea{d n:Nat}(h:B1 d n=true):IW n d:=by unfold B1 at h;rw[gF] at h;exact⟨Bt h.1,Bt h.2⟩
def bc(a:BinOp)(k:aay)(x y:Int):Option (bg×Bool):=
 match a with
 | .add=>some (.int k (k.wrap (x+y)),true)
 | .sub=>some (.int k (k.wrap (x - y)),true)
 | .mul=>some (.int k (k.wrap (x*y)),true)
 | .quo=>some (.int k (k.wrap (x.tdiv y)), !(y==0))
 | .rem=>some (.int k (x.tmod y), !(y==0))
 | .and=>some (.int k (bits .and k x y),true)
 | .or=>some (.int k (bits .or k x y),true)
 | .xor=>some (.int k (bits .xor k x y),true)
 | .andNot=>some (.int k (bits .andNot k x y),true)
 | .eql=>some (.bool (x==y),true)
 | .neq=>some (.bool (x != y),true)
 | .lss=>some (.bool (decide (x<y)),true)
 | .leq=>some (.bool (decide (x≤y)),true)
 | .gtr=>some (.bool (decide (y<x)),true)
 | .geq=>some (.bool (decide (y≤x)),true)
 | _=>none
def qv:Wk→List (Nat×Option yP)
 | []=>[]
 | (id,e,r,_)::l=>(id,some (.eN e r))::qv l
def Nh(id:Nat):Wk→Bool
 | []=>true
 | (i,_)::l=> !(AN i id) && Nh id l
def gf:Wk→Bool
 | []=>true
 | (i,_)::l=>Nh i l && gf l
def vc(e:List CT):bg→M (List (List DC)×Wk×Bool)
 | .nil=> .pure ([],[],true)
 | .sl e' r=>bif pc e e' then .pure (r,[],false) else .fail
 | .own id=> .obj id fun
  | .row _ e' r _ u=>bif pc e e' then .pure (r,[(id,e',r,u)],u) else .fail
  | .eN e' r=>bif pc e e' then .pure (r,[],false) else .fail
  | _=> .fail
 | _=> .fail
def lW(P:aaA)(t:aaz):bg→M R_
 | .ptr id off=> .obj id fun
  | .box _ cells=>
   bif Oz P t then
    match P.info? t with
    | some i=>bif AS (off+i.size) cells.length then .pure {sv:= .agg ((cells.drop off).take i.size)} else .fail
    | none=> .fail
   else match cells[off]? with
    | some s=> .pure {sv:=s}
    | none=> .fail
  | _=> .fail
 | .iv e row off=>
  bif Oz P t then
   match P.info? t with
   | some i=>bif AS (off+i.size) e.length then .pure {sv:= .agg (BT ((e.drop off).take i.size) row off)} else .fail
   | none=> .fail
  else match e[off]? with
   | some c=> .pure {sv:=RL c (row.getD off default)}
   | none=> .fail
 | .eK id i z off=> .obj id fun
  | .row _ e rows _ _=>
   bif !(AN z e.length) then .fail else
   bif Oz P t then
    match P.info? t with
    | some j=>bif AS (off+j.size) e.length then .pure {sv:= .agg (BT ((e.drop off).take j.size) (rows.getD i []) off),ok:=decide (i<rows.length)} else .fail
    | none=> .fail
   else match e[off]? with
    | some c=> .pure {sv:=RL c ((rows.getD i []).getD off default),ok:=decide (i<rows.length)}
    | none=> .fail
  | _=> .fail
 | _=> .fail
def oK(P:aaA)(t:aaz)(s:bg):M R_:=
 match P.underlying t with
 | some _=>lW P t s
 | none=> .fail
def CI(a:List DC)(off:Nat)(b:List DC):List DC:=a.take off++(b++a.drop (off+b.length))
def xq(P:aaA)(t:aaz)(b x:bg):M R_:=
 (R8 x).bind λa=>
 bif fF P t a.length then
  match b with
  | .ptr id off=> .obj id fun
   | .box _ cells=>bif AS (off+a.length) cells.length then .pure {sv:= .undef,cw:=some (id,off,a)} else .fail
   | _=> .fail
  | .eK id i z off=> .obj id fun
   | .row t' e rows fz u=>
    bif AN z e.length && AS (off+a.length) e.length then
     (jk ((e.drop off).take a.length) a).bind λr=>
     bif Nh id r.2.1 && gf r.2.1 then
      .pure {sv:= .undef,ow:=(id,some (.row t' e (rows.set i (CI (rows.getD i []) off r.1)) fz (u && r.2.2)))::qv r.2.1,ok:=decide (i<rows.length)}
     else .fail
    else .fail
   | _=> .fail
  | _=> .fail
 else .fail
def VW(P:aaA)(t:aaz):Bool:=
 match P.underlying t with
 | some .bool=>true
 | _=>false
def b9(P:aaA)(t:aaz)(c:BinOp)(a b:Bool):M R_:=
 bif VW P t then
  match c with
  | .eql=> .pure {sv:= .bool (a==b)}
  | .neq=> .pure {sv:= .bool (!(a==b))}
  | _=> .fail
 else .fail
def OL(P:aaA)(t:aaz)(a:List bg)(off:Nat):Option (List bg):=
 bif Oz P t then
  match P.info? t with
  | some i=>bif AS (off+i.size) a.length then some ((a.drop off).take i.size) else none
  | none=>none
 else match a[off]? with
  | some x=>some [x]
  | none=>none
def RD(P:aaA)(d:aaz→List bg→List bg→Option Bool)(e g:List bg):List Field→Option Bool
 | []=>some true
 | f::fs=>
  bif f.name== "_" then none else
  match OL P f.type e f.offset,OL P f.type g f.offset with
  | some a,some b=>match d f.type a b,RD P d e g fs with
   | some c,some r=>some (bif c then r else false)
   | _,_=>none
  | _,_=>none
def yI(t:TypeDesc)(x y:bg):Option Bool:=
 match t,x,y with
 | .int _,.int k a,.int k' b=>bif decide (k=k') then some (a==b) else none
 | .string,.str a,.str b=>some (a==b)
 | .bool,.bool a,.bool b=>some (a==b)
 | .bool,.kb a,.bool b=>some (a==b)
 | .bool,.bool a,.kb b=>some (a==b)
 | _,_,_=>none
def wG(P:aaA):Nat→aaz→List bg→List bg→Option Bool
 | 0,_,_,_=>none
 | n+1,t,xs,ys=>
  match P.underlying t with
  | some (.struct fs)=>bif P.stoodInHeld t then none else RD P (wG P n) xs ys fs.toList
  | some d=>match xs,ys with
   | [x],[y]=>yI d x y
   | _,_=>none
  | none=>none
def neW(P:aaA)(t:aaz)(a:BinOp)(c d:List bg):M R_:=
 match P.underlying t with
 | some (.struct _)=>
  bif P.eqGuardType P.depth t then .fail else
  match wG P 8 t c d,a with
  | some b,.eql=> .pure {sv:= .bool b}
  | some b,.neq=> .pure {sv:= .bool (!b)}
  | _,_=> .fail
 | _=> .fail
def aX(P:aaA)(t:aaz)(d:BinOp)(x y:bg):M R_:=
 match x,y with
 | .int k a,.int k' b=>
  match d with
  | .shl=> .pure {sv:= .int k (k.wrap (a*2 ^ (min b.toNat k.bits))),ok:=decide (0≤b)}
  | .shr=> .pure {sv:= .int k (a.fdiv (2 ^ (min b.toNat k.bits))),ok:=decide (0≤b)}
  | _=>bif decide (k=k') then
    match bc d k a b with
    | some (s,c)=> .pure {sv:=s,ok:=c}
    | none=> .fail
   else .fail
 | .str a,.str b=>
  match d with
  | .add=> .pure {sv:= .str (a++b),ok:=decide (a.length+b.length≤9223372036854775807)}
  | .eql=> .pure {sv:= .bool (a==b)}
  | .neq=> .pure {sv:= .bool (!(a==b))}
  | _=> .fail
 | .bool a,.bool b=>b9 P t d a b
 | .kb a,.bool b=>b9 P t d a b
 | .bool a,.kb b=>b9 P t d a b
 | .agg xs,.agg ys=>neW P t d xs ys
 | .sl _ r,.nil=>match P.underlying t,d with
  | some (.slice _),.eql=> .pure {sv:= .bool false,ok:=decide (0<r.length)}
  | some (.slice _),.neq=> .pure {sv:= .bool true,ok:=decide (0<r.length)}
  | _,_=> .fail
 | _,_=> .fail
def Wy(a:UnOp)(x:bg):M R_:=
 match a,x with
 | .not,.kb b=> .pure {sv:= .kb (!b)}
 | .not,.bool b=> .pure {sv:= .bool (!b)}
 | .neg,.int k n=> .pure {sv:= .int k (k.wrap (0 - n))}
 | .xor,.int k n=> .pure {sv:= .int k (bits .xor k (if k.signed then -1 else k.max) n)}
 | _,_=> .fail
def byteOf(r:List DC):UInt8:=UInt8.ofNat (r.headD default).asInt.toNat
def db(b:UInt8):List DC:=[.int b.toNat]
def CD(P:aaA)(d:Option Nat)(a b:aaz)(x:bg):M R_:=
 match P.underlying b,P.underlying a with
 | some (.int k),some _=>match x with
  | .int _ n=> .pure {sv:= .int k (k.wrap n)}
  | _=> .fail
 | some .string,some .string=>match x with
  | .str s=> .pure {sv:= .str s}
  | _=> .fail
 | some .string,some (.slice e)=>match P.underlying e with
  | some (.int .u8)=>(vc [.int .u8] x).bind λr=> .pure {sv:= .str (r.1.map byteOf)}
  | _=> .fail
 | some (.slice e),some .string=>
  match P.underlying e,x,d with
  | some (.int .u8),.str s,some d=>bif fF P e 1 then .pure {sv:= .own (G8 d 0),ow:=[(G8 d 0,some (.row e [.int .u8] (s.map db) true true))]} else .fail
  | _,_,_=> .fail
 | _,_=> .fail
def tO(P:aaA)(t:aaz):M (List bg):=
 match P.info? t with
 | some i=>match i.zero with
  | some z=>bif z.cells.toList.all (·.oneCell') then .pure (z.cells.toList.map ofConst) else .fail
  | none=> .fail
 | none=> .fail
def nyr(P:aaA)(d:Option Nat)(t:aaz)(l c:bg):M R_:=
 match P.underlying t,l,c,d with
 | some (.slice et),.int .i64 n,.int .i64 m,some d=>
  match Ol P 16 et,P.info? et with
  | some e,some i=>
   bif AN i.size e.length && AT 0 e.length then
    (tO P et).bind λz=>(jk e z).bind λr=>
     .pure {sv:= .own (G8 d 0),ow:=[(G8 d 0,some (.row et e (List.replicate n.toNat r.1) false true))],ok:=decide (0≤n) && decide (n≤m) && decide (m.toNat*i.bytes≤140737488355328) && decide (m≤9223372036854775807)}
   else .fail
  | _,_=> .fail
 | _,_,_,_=> .fail
def Be(P:aaA)(b:Array Field):List (Nat×aaC)→List bg→M (List bg)
 | [],cells=> .pure cells
 | (i,x)::rest,cells=>
  match b[i]? with
  | some f=>(hF x).bind λs=>(R8 s).bind λa=>
   bif fF P f.type a.length && AS (f.offset+a.length) cells.length then
    Be P b rest (cells.take f.offset++(a++cells.drop (f.offset+a.length)))
   else .fail
  | none=> .fail
def tn(e:List CT):Nat→List (Nat×aaC)→M (List (List DC)×Wk×Bool)
 | _,[]=> .pure ([],[],true)
 | k,(i,x)::rest=>
  bif AN i k then
   (hF x).bind λs=>(R8 s).bind λa=>(jk e a).bind λr=>(tn e (k+1) rest).bind λq=>
    .pure (r.1::q.1,r.2.1++q.2.1,r.2.2 && q.2.2)
  else .fail
def wz(n:Nat)(a b:Option bg):Option (Nat×Nat×Bool):=
 match a,b with
 | none,none=>some (0,n,true)
 | some (.int _ l),none=>some (l.toNat,n,decide (0≤l) && decide (l≤n))
 | none,some (.int _ h)=>some (0,h.toNat,decide (0≤h) && decide (h≤n))
 | some (.int _ l),some (.int _ h)=>some (l.toNat,h.toNat,decide (0≤l) && decide (l≤h) && decide (h≤n))
 | _,_=>none
def Ee:Option aaC→M (Option bg)
 | none=> .pure none
 | some x=>(hF x).bind λs=> .pure (some s)
def Yg(P:aaA)(t:aaz)(x:bg)(a b:Option bg):M R_:=
 match P.underlying t with
 | some .string=>match x with
  | .str s=>match wz s.length a b with
   | some (l,h,c)=> .pure {sv:= .str ((s.take h).drop l),ok:=c}
   | none=> .fail
  | _=> .fail
 | some (.slice et)=>
  match x with
  | .sl e r=>bif fF P et e.length then match wz r.length a b with
   | some (l,h,c)=> .pure {sv:= .sl e ((r.take h).drop l),ok:=c}
   | none=> .fail
   else .fail
  | .own id=> .obj id fun
   | .row t' e r false _=>bif AN t' et && fF P et e.length then match wz r.length a b with
    | some (l,h,c)=> .pure {sv:= .sl e ((r.take h).drop l),ow:=[(id,some (.eN e r))],ok:=c}
    | none=> .fail
    else .fail
   | .eN e r=>bif fF P et e.length then match wz r.length a b with
    | some (l,h,c)=> .pure {sv:= .sl e ((r.take h).drop l),ok:=c}
    | none=> .fail
    else .fail
   | _=> .fail
  | _=> .fail
 | _=> .fail
def TP(P:aaA)(t:aaz)(x:bg)(a b:Option bg):M R_:=
 match P.underlying t,x,a,b with
 | some (.slice et),.own id,some (.int _ l),none=> .obj id fun
  | .row t' e r _ _=>bif AN t' et && fF P et e.length then .pure {sv:= .Gx id l.toNat e.length,ok:=decide (0≤l) && decide (l≤r.length) && decide (0<r.length)} else .fail
  | _=> .fail
 | _,_,_,_=> .fail
def BX(Γ:Ctx):Option Nat→Bool
 | some d=>match OT Γ (1125899906842624+d) with | some s=>s.Hd | none=>false
 | none=>false
def ZB(P:aaA)(t:aaz)(x y:bg):M R_:=
 match P.underlying t,x,y with
 | some (.slice et),.Gx id lo z,.str s=> .obj id fun
  | .row t' e r fz u=>
   bif AN t' et && fF P et 1 && AN z 1 && pc e [.int .u8] then
    .pure {sv:= .int .i64 (min s.length (r.length - lo):Nat),ow:=[(id,some (.row t' e (r.take lo++(((s.take (r.length - lo)).map db)++r.drop (lo+min s.length (r.length - lo)))) fz u))],ok:=decide (lo≤r.length)}
   else .fail
  | _=> .fail
 | _,_,_=> .fail
def vd(P:aaA)(t:aaz)(x i:bg):M R_:=
 match P.underlying t,i with
 | some (.slice et),.int _ n=>
  match x with
  | .sl e r=>bif fF P et e.length then .pure {sv:= .iv e (r.getD n.toNat []) 0,ok:=decide (0≤n) && decide (n<r.length)} else .fail
  | .own id=> .obj id fun
   | .row _ e r _ _=>bif fF P et e.length then .pure {sv:= .eK id n.toNat e.length 0,ok:=decide (0≤n) && decide (n<r.length)} else .fail
   | .eN e r=>bif fF P et e.length then .pure {sv:= .iv e (r.getD n.toNat []) 0,ok:=decide (0≤n) && decide (n<r.length)} else .fail
   | _=> .fail
  | _=> .fail
 | _,_=> .fail
def To(P:aaA)(t:aaz)(x i:bg):M R_:=
 match P.underlying t,x,i with
 | some .string,.str s,.int _ n=> .pure {sv:= .int .u8 (s.getD n.toNat 0).toNat,ok:=decide (0≤n) && decide (n<s.length)}
 | _,_,_=> .fail
def Pu(P:aaA)(t:aaz)(x:bg):M R_:=
 match P.underlying t,x with
 | some .string,.str s=> .pure {sv:= .int .i64 s.length}
 | some (.slice _),.nil=> .pure {sv:= .int .i64 0}
 | some (.slice _),.sl _ r=> .pure {sv:= .int .i64 r.length}
 | some (.slice _),.own id=> .obj id fun
  | .row _ _ r _ _=> .pure {sv:= .int .i64 r.length}
  | .eN _ r=> .pure {sv:= .int .i64 r.length}
  | _=> .fail
 | _,_=> .fail
def hsI(P:aaA)(d:Option Nat)(t:aaz)(s x:bg):M R_:=
 match P.underlying t,d with
 | some (.slice et),some d=>
  match Ol P 16 et with
  | some e=>
   bif fF P et e.length && AT 0 e.length then
    (tO P et).bind λz=>bif AN z.length e.length then
     match s with
     | .nil=>(vc e x).bind λq=>
      .pure {sv:= .own (G8 d 0),ow:=(G8 d 0,some (.row et e q.1 false (zP e || q.2.2)))::(bif zP e then [] else qv q.2.1),ok:=Qi P et q.1.length}
     | .own id=> .obj id fun
      | .row t' e' r false u=>
       bif AN t' et && pc e' e then
        (vc e x).bind λq=>
        bif Nh id q.2.1 then
         .pure {sv:= .own (G8 d 0),ow:=(G8 d 0,some (.row et e (r++q.1) false (u && (zP e || q.2.2))))::(id,none)::(bif zP e then [] else qv q.2.1),ok:=Qi P et (r.length+q.1.length)}
        else .fail
       else .fail
      | _=> .fail
     | _=> .fail
    else .fail
   else .fail
  | none=> .fail
 | _,_=> .fail
def Nf(P:aaA)(d:Option Nat)(t a:aaz)(s x:bg):M R_:=
 match P.underlying t,P.underlying a,d,s,x with
 | some (.slice et),some .string,some d,.own id,.str b=> .obj id fun
  | .row t1 e r false u=>
   bif AN t1 et && pc e [.int .u8] && fF P et 1 then
    (tO P et).bind λz=>bif AN z.length 1 then
     .pure {sv:= .own (G8 d 0),ow:=[(G8 d 0,some (.row et [.int .u8] (r++b.map db) false u)),(id,none)],ok:=Qi P et (r.length+b.length)}
    else .fail
   else .fail
  | _=> .fail
 | _,_,_,_,_=> .fail
def yY:List de→List bg→M (List DC×Wk)
 | [],[]=> .pure ([],[])
 | k::ks,s::AK=>
  (match k.agg,s with
   | true,.agg cs=>jk k.bF cs
   | true,_=> .fail
   | false,.agg _=> .fail
   | false,s=>jk k.bF [s]).bind λr=>(yY ks AK).bind λq=> .pure (r.1++q.1,r.2.1++q.2)
 | _,_=> .fail
def dH(d:Nat):Nat→List DB→List DC→List bg×List (Nat×Option yP)
 | _,[],_=>([],[])
 | k,.eN c::rs,ds=>let q:=dH d k rs ds.tail;(RL c (ds.headD default)::q.1,q.2)
 | k,.own t e::rs,ds=>
  let q:=dH d (k+1) rs ds.tail
  (.own (G8 d k)::q.1,(G8 d k,some (.row t e (ds.headD default).cG false true))::q.2)
 | k,.deep t e ts::rs,ds=>
  let q:=dH d (k+1) rs ds.tail
  (.own (G8 d k)::q.1,(G8 d k,some (.deep t e ts (ds.headD default).cG none))::q.2)
def dc:List DB→Nat
 | []=>0
 | .eN _::l=>dc l
 | .own _ _::l=>dc l+1
 | .deep _ _ _::l=>dc l+1
def fo(d:Nat):Nat→List VC→List DC→List bg×List (Nat×Option yP)
 | _,[],_=>([],[])
 | k,r::rs,ds=>
  let q:=dH d k r.cells (ds.take r.cells.length)
  let p:=fo d (k+dc r.cells) rs (ds.drop r.cells.length)
  ((bif r.agg then .agg q.1 else q.1.headD .fV)::p.1,q.2++p.2)
def Cd:List DB→Bool
 | []=>false
 | .eN (.sl _)::_=>true
 | _::l=>Cd l
def shares(s:Sum):Bool:=s.rs.any λr=>Cd r.cells
def dC:List VC→Nat
 | []=>0
 | r::rs=>dc r.cells+dC rs
def OJ:List bg→bg
 | [x]=>x
 | l=> .Ej l
inductive Zq where
 | box (id:Nat) (t:aaz) (cs:List CT)
 | row (id:Nat) (t:aaz) (e:List CT) (u:Bool)
 | deep (id:Nat) (t:aaz) (e:List CT) (ts:List aaz)
 | gone (id:Nat) (dp:Bool)
 | cZ (id:Nat) (t:aaz) (cs:List CT) (ts:List YY)
 | mB
def RI:List Zq→List Nat
 | []=>[]
 | .box id _ _::l=>id::RI l
 | .row id _ _ _::l=>id::RI l
 | .deep id _ _ _::l=>id::RI l
 | .gone id _::l=>id::RI l
 | .cZ id _ _ _::l=>id::RI l
 | .mB::l=>RI l
def rB:List Zq→List Zq
 | []=>[]
 | .row id _ _ _::l=> .gone id false::rB l
 | .deep id _ _ _::l=> .gone id true::rB l
 | .box _ _ _::l=>rB l
 | .gone _ _::l=>rB l
 | .cZ _ _ _ _::l=>rB l
 | .mB::l=>rB l
def VA:List Zq→Bool
 | []=>true
 | .row _ _ _ _::l=>VA l
 | .deep _ _ _ _::l=>VA l
 | .box _ _ _::_=>false
 | .gone _ _::_=>false
 | .cZ _ _ _ _::_=>false
 | .mB::l=>VA l
def zM:List CT→List aaz→List bg→M (List DC×List Zq)
 | [],[],[]=> .pure ([],[])
 | .sl e::cs,t::ts,s::AK=>
  (match s with
   | .own id=> .obj id fun
    | .row t' e' r false u=>bif AN t' t && pc e' e && zP e then .pure (.sl r,.row id t' e' u) else .fail
    | _=> .fail
   | .nil=>bif zP e then .pure (.sl [],.mB) else .fail
   | _=> .fail:M (DC×Zq)).bind λq=>(zM cs ts AK).bind λr=> .pure (q.1::r.1,q.2::r.2)
 | .int k::cs,ts,s::AK=>(W9 (.int k) s).bind λq=>(zM cs ts AK).bind λr=> .pure (q.1::r.1,r.2)
 | .bool::cs,ts,s::AK=>(W9 .bool s).bind λq=>(zM cs ts AK).bind λr=> .pure (q.1::r.1,r.2)
 | .str::cs,ts,s::AK=>(W9 .str s).bind λq=>(zM cs ts AK).bind λr=> .pure (q.1::r.1,r.2)
 | _,_,_=> .fail
def fL:List CT→List YY→List bg→M (List DC×List Zq)
 | [],[],[]=> .pure ([],[])
 | .sl e::cs,.flat t::ts,s::AK=>
  (match s with
   | .own id=> .obj id fun
    | .row t' e' r false u=>bif AN t' t && pc e' e && zP e then .pure (.sl r,.row id t' e' u) else .fail
    | _=> .fail
   | .nil=>bif zP e then .pure (.sl [],.mB) else .fail
   | _=> .fail:M (DC×Zq)).bind λq=>(fL cs ts AK).bind λr=> .pure (q.1::r.1,q.2::r.2)
 | .sl e::cs,.deep t its::ts,s::AK=>
  (match s with
   | .own id=> .obj id fun
    | .deep t' e' d7 r none=>bif AN t' t && pc e' e && EN d7 its then .pure (.sl r,.deep id t' e' d7) else .fail
    | _=> .fail
   | .nil=> .pure (.sl [],.mB)
   | _=> .fail:M (DC×Zq)).bind λq=>(fL cs ts AK).bind λr=> .pure (q.1::r.1,q.2::r.2)
 | .int k::cs,ts,s::AK=>(W9 (.int k) s).bind λq=>(fL cs ts AK).bind λr=> .pure (q.1::r.1,r.2)
 | .bool::cs,ts,s::AK=>(W9 .bool s).bind λq=>(fL cs ts AK).bind λr=> .pure (q.1::r.1,r.2)
 | .str::cs,ts,s::AK=>(W9 .str s).bind λq=>(fL cs ts AK).bind λr=> .pure (q.1::r.1,r.2)
 | _,_,_=> .fail
def R1(k:de)(a:List YY)(s:bg):M (List DC×List Zq):=
 match k.agg,s with
 | true,.agg cs=>fL k.bF a cs
 | true,_=> .fail
 | false,.agg _=> .fail
 | false,s=>fL k.bF a [s]
def DL:List de→List (Option lz)→List bg→M (List DC×Wk×List Zq)
 | [],[],[]=> .pure ([],[],[])
 | k::ks,none::ms,s::AK=>
  (match k.agg,s with
   | true,.agg cs=>jk k.bF cs
   | true,_=> .fail
   | false,.agg _=> .fail
   | false,s=>jk k.bF [s]).bind λr=>(DL ks ms AK).bind λq=> .pure (r.1++q.1,r.2.1++q.2.1,q.2.2)
 | k::ks,some (.box t)::ms,.ptr id 0::AK=> .obj id fun
  | .box t' cells=>
   bif AN t' t then
    (jk k.bF cells).bind λr=>bif r.2.1.isEmpty then (DL ks ms AK).bind λq=> .pure (r.1++q.1,q.2.1,.box id t' k.bF::q.2.2) else .fail
   else .fail
  | _=> .fail
 | k::ks,some (.rows ts)::ms,s::AK=>(R1 k ts s).bind λr=>(DL ks ms AK).bind λq=> .pure (r.1++q.1,q.2.1,r.2++q.2.2)
 | k::ks,some (.km ts)::ms,s::AK=>(R1 k ts s).bind λr=>bif VA r.2 then (DL ks ms AK).bind λq=> .pure (r.1++q.1,q.2.1,rB r.2++q.2.2) else .fail
 | k::ks,some (.cZ t ts)::ms,.ptr id 0::AK=> .obj id fun
  | .box t' cells=>
   bif AN t' t then (fL k.bF ts cells).bind λr=>bif VA r.2 then (DL ks ms AK).bind λq=> .pure (r.1++q.1,q.2.1,.cZ id t' k.bF ts::(rB r.2++q.2.2)) else .fail else .fail
  | _=> .fail
 | _,_,_=> .fail
def bU(d:Nat):Nat→List CT→List YY→List DC→List bg×List (Nat×Option yP)
 | _,[],_,_=>([],[])
 | k,.sl e::cs,ts,ds=>
  let q:=bU d (k+1) cs ts.tail ds.tail
  (.own (G8 d k)::q.1,(G8 d k,some (vb (ts.headD (.flat 0)) e (ds.headD default).cG))::q.2)
 | k,.int x::cs,ts,ds=>let q:=bU d k cs ts ds.tail;(RL (.int x) (ds.headD default)::q.1,q.2)
 | k,.bool::cs,ts,ds=>let q:=bU d k cs ts ds.tail;(RL .bool (ds.headD default)::q.1,q.2)
 | k,.str::cs,ts,ds=>let q:=bU d k cs ts ds.tail;(RL .str (ds.headD default)::q.1,q.2)
def RY(d:Nat):Nat→List Zq→List DC→List (Nat×Option yP)
 | _,[],_=>[]
 | k,.box id t cs::l,ds=>(id,some (.box t (BT cs ds 0)))::RY d k l (ds.drop cs.length)
 | k,.row id t e u::l,ds=>(id,some (.row t e (ds.headD default).cG false u))::RY d k l ds.tail
 | k,.deep id t e ts::l,ds=>(id,some (.deep t e ts (ds.headD default).cG none))::RY d k l ds.tail
 | k,.gone _ _::l,ds=>RY d k l ds
 | k,.cZ id t cs ts::l,ds=>(id,some (.box t (bU d k cs ts ds).1))::RY d (k+Zv cs) l (ds.drop cs.length)
 | k,.mB::l,ds=>RY d k l ds.tail
def pe(d:Nat):Nat→List Zq→List DC→List (Nat×Option yP)
 | _,[],_=>[]
 | k,.box _ _ cs::l,ds=>pe d k l (ds.drop cs.length)
 | k,.row _ _ _ _::l,ds=>pe d k l ds.tail
 | k,.deep _ _ _ _::l,ds=>pe d k l ds.tail
 | k,.gone _ _::l,ds=>pe d k l ds
 | k,.cZ _ _ cs ts::l,ds=>(bU d k cs ts ds).2++pe d (k+Zv cs) l (ds.drop cs.length)
 | k,.mB::l,ds=>pe d k l ds.tail
def kg:List Zq→Nat
 | []=>0
 | .box _ _ _::l=>kg l
 | .row _ _ _ _::l=>kg l
 | .deep _ _ _ _::l=>kg l
 | .gone _ _::l=>kg l
 | .cZ _ _ cs _::l=>Zv cs+kg l
 | .mB::l=>kg l
def CJ:List Zq→List Nat
 | []=>[]
 | .box _ _ _::l=>CJ l
 | .row _ _ _ _::l=>CJ l
 | .deep _ _ _ _::l=>CJ l
 | .gone id _::l=>id::CJ l
 | .cZ _ _ _ _::l=>CJ l
 | .mB::l=>CJ l
def kH(l:List Nat):List (Nat×Option yP):=l.map λi=>(i,none)
def gW:List VC→Nat
 | []=>0
 | r::rs=>r.cells.length+gW rs
def lC:List Nat→Bool
 | []=>true
 | i::l=> !(l.any λj=>AN j i) && lC l
def Hg(s:Sum)(d:Option Nat)(a:List bg):M R_:=bif AT (dC s.rs) 64 && !(shares s) && (d.isSome || s.rs.isEmpty) then (DL s.ps s.ms a).bind λr=>bif gf r.2.1 && lC (RI r.2.2) && (RI r.2.2).all (λi=>Nh i r.2.1) && (AT (dC s.rs+kg r.2.2) 64 && (d.isSome || AN (kg r.2.2) 0)) then .pure {sv:=OJ (fo (d.getD 0) 0 s.rs (s.fn r.1).2).1,ow:=(fo (d.getD 0) 0 s.rs (s.fn r.1).2).2++(pe (d.getD 0) (dC s.rs) r.2.2 ((s.fn r.1).2.drop (gW s.rs))++(RY (d.getD 0) (dC s.rs) r.2.2 ((s.fn r.1).2.drop (gW s.rs))++(kH (CJ r.2.2)++(bif Av s.ms then [] else qv r.2.1)))),ok:=(s.fn r.1).1} else .fail else .fail
def gz(Γ:Ctx)(d:Option Nat)(g:Nat)(a:List bg):M R_:=
 match OT Γ g with
 | some s=>
  bif s.Hd then .fail else
  match s.pt with
  | some (t,bF)=>
   match d with
   | some d=>
    (yY s.ps a).bind λr=>
     bif gf r.2 then
      .pure {sv:= .ptr (G8 d 0) 0,ow:=(G8 d 0,some (.box t (BT bF (s.fn r.1).2 0)))::qv r.2,ok:=(s.fn r.1).1}
     else .fail
   | none=> .fail
  | none=>
  match s.ms,d with
  | [],some d=>
   bif AT (dC s.rs) 64 then
    (yY s.ps a).bind λr=>
     bif !(shares s) || gf r.2 then
      .pure {sv:=OJ (fo d 0 s.rs (s.fn r.1).2).1,ow:=(fo d 0 s.rs (s.fn r.1).2).2++(bif shares s then qv r.2 else []),ok:=(s.fn r.1).1}
     else .fail
   else .fail
  | [],none=> .fail
  | _::_,d=>Hg s d a
 | none=> .fail
def ao(P:aaA)(t:aaz)(i z off:Nat)(e:List CT)(a:List (List DC)):M R_:=
 bif !(AN z e.length) then .fail else
 match P.underlying t with
 | none=> .fail
 | some _=>
  bif Oz P t then
   match P.info? t with
   | some j=>bif AS (off+j.size) e.length && zP ((e.drop off).take j.size) then .pure {sv:= .agg (BT ((e.drop off).take j.size) (a.getD i []) off),ok:=decide (i<a.length)} else .fail
   | none=> .fail
  else match e[off]? with
   | some c=>bif zP [c] then .pure {sv:=RL c ((a.getD i []).getD off default),ok:=decide (i<a.length)} else .fail
   | none=> .fail
def niP(P:aaA)(d:Option Nat)(t:aaz)(id i z off:Nat)(c:aaz)(e:List CT)(b:List aaz)(a:List (List DC))(f:Option (Nat×Nat)):M R_:=
 match f,e[off]?,b,d with
 | none,some (.sl e'),[t1],some d=>
  bif AN z e.length && AN (Zv e) 1 && !(Oz P t) && (P.underlying t).isSome then
   .pure {sv:= .own (G8 d 0),ow:=[(G8 d 0,some (.row t1 e' ((a.getD i []).getD off default).cG false true)),(id,some (.deep c e b a (some (i,G8 d 0))))],ok:=decide (i<a.length)}
  else .fail
 | _,_,_,_=> .fail
def Oq(a:Nat):List CT→List DC→Nat→List bg
 | [],_,_=>[]
 | .sl _::cs,ds,k=> .own a::Oq a cs ds (k+1)
 | .int x::cs,ds,k=>RL (.int x) (ds.getD k default)::Oq a cs ds (k+1)
 | .bool::cs,ds,k=>RL .bool (ds.getD k default)::Oq a cs ds (k+1)
 | .str::cs,ds,k=>RL .str (ds.getD k default)::Oq a cs ds (k+1)
def xW:List CT→Nat
 | []=>0
 | .sl _::_=>0
 | _::l=>xW l+1
def nqq(P:aaA)(d:Option Nat)(t:aaz)(id i z off:Nat)(c:aaz)(e:List CT)(b:List aaz)(a:List (List DC))(f:Option (Nat×Nat)):M R_:=
 match f,e[xW e]?,b,d,P.info? t with
 | none,some (.sl e'),[t1],some d,some j=>
  bif AN z e.length && AN (Zv e) 1 && AS (off+j.size) e.length then
   .pure {sv:= .agg (Oq (G8 d 0) ((e.drop off).take j.size) (a.getD i []) off),ow:=[(G8 d 0,some (.row t1 e' ((a.getD i []).getD (xW e) default).cG false true)),(id,some (.deep c e b a (some (i,G8 d 0))))],ok:=decide (i<a.length)}
  else .fail
 | _,_,_,_,_=> .fail
def nkt(P:aaA)(Γ:Ctx)(d:Option Nat)(t:aaz)(s:bg):M R_:=
 match s with
 | .eK id i z off=> .obj id fun
  | .deep t' e ts rows hl=>bif BX Γ d then (bif Oz P t then nqq P d t id i z off t' e ts rows hl else niP P d t id i z off t' e ts rows hl) else ao P t i z off e rows
  | _=>oK P t s
 | _=>oK P t s
def AO:List Zq→List (Nat×Option yP)
 | []=>[]
 | .box id _ _::l=>(id,none)::AO l
 | .row id _ _ _::l=>(id,none)::AO l
 | .deep id _ _ _::l=>(id,none)::AO l
 | .gone id _::l=>(id,none)::AO l
 | .cZ id _ _ _::l=>(id,none)::AO l
 | .mB::l=>AO l
def pB:Option (Nat×Nat)→Nat→Bool
 | none,_=>true
 | some (j,_),i=>AN j i
def ngb(P:aaA)(t:aaz)(id i z off:Nat)(d:aaz)(e:List CT)(c:List aaz)(a:List (List DC))(f:Option (Nat×Nat))(x:bg):M R_:=(R8 x).bind λb=>bif fF P t b.length && AN z e.length && AS (off+b.length) e.length then bif zP ((e.drop off).take b.length) then (jk ((e.drop off).take b.length) b).bind λr=>bif r.2.1.isEmpty then .pure {sv:= .undef,ow:=[(id,some (.deep d e c (a.set i (CI (a.getD i []) off r.1)) f))],ok:=decide (i<a.length)} else .fail else bif AN (Zv ((e.drop off).take b.length)) (Zv e) then (zM ((e.drop off).take b.length) c b).bind λr=>bif lC (id::RI r.2) then .pure {sv:= .undef,ow:=(id,some (.deep d e c (a.set i (CI (a.getD i []) off r.1)) none))::AO r.2,ok:=decide (i<a.length) && pB f i} else .fail else .fail else .fail
def nkJ(P:aaA)(t:aaz)(a x:bg):M R_:=
 match a with
 | .eK id i z off=> .obj id fun
  | .deep t' e ts rows hl=>ngb P t id i z off t' e ts rows hl x
  | _=>xq P t a x
 | _=>xq P t a x
def nt(P:aaA)(t:aaz)(x i:bg):M R_:=
 match x with
 | .own id=> .obj id fun
  | .deep _ e _ rows _=>
   match P.underlying t,i with
   | some (.slice et),.int _ n=>bif fF P et e.length then .pure {sv:= .eK id n.toNat e.length 0,ok:=decide (0≤n) && decide (n<rows.length)} else .fail
   | _,_=> .fail
  | _=>vd P t x i
 | _=>vd P t x i
def u0(P:aaA)(t:aaz)(x:bg):M R_:=
 match x with
 | .own id=> .obj id fun
  | .deep _ _ _ rows _=>
   match P.underlying t with
   | some (.slice _)=> .pure {sv:= .int .i64 rows.length}
   | _=> .fail
  | _=>Pu P t x
 | _=>Pu P t x
def nhT(P:aaA)(d:Option Nat)(t:aaz)(l c:bg):M R_:=
 match P.underlying t,l,c,d with
 | some (.slice et),.int .i64 n,.int .i64 m,some d=>
  match Ol P 16 et,Qr P 16 et,P.info? et with
  | some e,some ts,some i=>
   bif AN i.size e.length && AT 0 e.length then
    (tO P et).bind λz=>(zM e ts z).bind λr=>
     bif (RI r.2).isEmpty then
      .pure {sv:= .own (G8 d 0),ow:=[(G8 d 0,some (.deep et e ts (List.replicate n.toNat r.1) none))],ok:=decide (0≤n) && decide (n≤m) && decide (m.toNat*i.bytes≤140737488355328) && decide (m≤9223372036854775807)}
     else .fail
   else .fail
  | _,_,_=> .fail
 | _,_,_,_=> .fail
def iE(e:List CT)(a:List aaz):Nat→List (Nat×aaC)→M (List (List DC)×List Zq)
 | _,[]=> .pure ([],[])
 | k,(i,x)::rest=>
  bif AN i k then
   (hF x).bind λs=>(R8 s).bind λb=>(zM e a b).bind λr=>(iE e a (k+1) rest).bind λq=> .pure (r.1::q.1,r.2++q.2)
  else .fail
def nfe(P:aaA)(d:Option Nat)(t:aaz)(len:Nat)(a:List (Nat×aaC)):M R_:=
 match P.underlying t,d with
 | some (.slice et),some d=>
  match Ol P 16 et,Qr P 16 et with
  | some e,some ts=>
   bif fF P et e.length && AT 0 e.length && AN len a.length && AS (len*e.length) 16777216 then
    (tO P et).bind λ_=>(iE e ts 0 a).bind λq=>
     bif lC (RI q.2) then
      .pure {sv:= .own (G8 d 0),ow:=(G8 d 0,some (.deep et e ts q.1 none))::AO q.2}
     else .fail
   else .fail
  | _,_=> .fail
 | _,_=> .fail
def lX(a:aaz)(e:List CT)(b:List aaz):bg→M (List (List DC)×List Nat)
 | .nil=> .pure ([],[])
 | .own id=> .obj id fun
  | .deep t' e' d7 r none=>bif AN t' a && pc e' e && EN d7 b then .pure (r,[id]) else .fail
  | _=> .fail
 | _=> .fail
def gone(a:List Nat):List (Nat×Option yP):=a.map λi=>(i,none)
def nbp(P:aaA)(d:Option Nat)(t:aaz)(s x:bg):M R_:=
 match P.underlying t,d with
 | some (.slice et),some d=>
  match Ol P 16 et,Qr P 16 et with
  | some e,some ts=>
   bif fF P et e.length && AT 0 e.length then
    (tO P et).bind λz=>bif AN z.length e.length then
     (lX et e ts s).bind λp=>(lX et e ts x).bind λq=>
      bif lC (p.2++q.2) then
       .pure {sv:= .own (G8 d 0),ow:=(G8 d 0,some (.deep et e ts (p.1++q.1) none))::gone (p.2++q.2),ok:=Qi P et (p.1.length+q.1.length)}
      else .fail
    else .fail
   else .fail
  | _,_=> .fail
 | _,_=> .fail
def Bb(mx:Bool)(x y:bg):M R_:=
 match x,y with
 | .int k a,.int k' b=>bif decide (k=k') then .pure {sv:= .int k (bif mx then (if a<b then b else a) else (if b<a then b else a))} else .fail
 | _,_=> .fail
def evalOp(P:aaA)(Γ:Ctx)(o:Oper):M R_:=
 match o.op with
 | .move x=>(hF x).bind λs=> .pure {sv:=s}
 | .assign x=>(hF x).bind λs=> .pure {sv:=s}
 | .pick c a b=>(hF c).bind λc=>(hF a).bind λa=>(hF b).bind λb=>
  match c with
  | .kb t=> .pure {sv:=bif t then a else b}
  | .bool g=> .pure {sv:=CG g a b}
  | _=> .fail
 | .alloc t=>match o.dst with
  | some d=>(tO P t).bind λz=> .pure {sv:= .ptr (G8 d 0) 0,ow:=[(G8 d 0,some (.box t z))]}
  | none=> .fail
 | .box t x=>match o.dst with
  | some d=>(hF x).bind λs=>(R8 s).bind λj=> .pure {sv:= .ptr (G8 d 0) 0,ow:=[(G8 d 0,some (.box t j))]}
  | none=> .fail
 | .build t parts=>match P.underlying t with
  | some (.struct fs)=>match fs.toList.mapM (λf=>(P.info? f.type).map λi=>(f.offset,i.size)) with
   | some _=>(tO P t).bind λz=>(Be P fs parts.toList z).bind λj=> .pure {sv:= .agg j}
   | none=> .fail
  | _=> .fail
 | .buildSlice t len parts=>bif BX Γ o.dst then nfe P o.dst t len parts.toList else match P.underlying t,o.dst with
  | some (.slice et),some d=>match Ol P 16 et with
   | some e=>bif fF P et e.length && AT 0 e.length && AN len parts.toList.length && AS (len*e.length) 16777216 then
     (tO P et).bind λ_=>(tn e 0 parts.toList).bind λq=>
      bif gf q.2.1 then
       .pure {sv:= .own (G8 d 0),ow:=(G8 d 0,some (.row et e q.1 false q.2.2))::qv q.2.1}
      else .fail
    else .fail
   | none=> .fail
  | _,_=> .fail
 | .load t x=>(hF x).bind λs=>nkt P Γ o.dst t s
 | .store t x y=>(hF x).bind λa=>(hF y).bind λv=>nkJ P t a v
 | .nilCheck x=>(hF x).bind λs=>match s with
  | .ptr .. => .pure {sv:=s}
  | .iv .. => .pure {sv:=s}
  | .eK .. => .pure {sv:=s}
  | _=> .fail
 | .binOp op t x y _=>(hF x).bind λa=>(hF y).bind λb=>aX P t op a b
 | .unOp op _ x=>(hF x).bind λa=>Wy op a
 | .convert s t x=>(hF x).bind λa=>CD P o.dst s t a
 | .makeSlice t l c=>(hF l).bind λl=>(hF c).bind λc=>bif BX Γ o.dst then nhT P o.dst t l c else nyr P o.dst t l c
 | .slice t x lo hi mx=>match mx with
  | none=>(hF x).bind λs=>(Ee lo).bind λl=>(Ee hi).bind λh=>bif BX Γ o.dst then TP P t s l h else Yg P t s l h
  | some _=> .fail
 | .fieldAddr t x f=>match P.underlying t with
  | some (.struct fs)=>match fs[f]? with
   | some fd=>bif fF P fd.type 0 then .fail else match P.info? fd.type with
    | none=> .fail
    | some _=>(hF x).bind λs=>match s with
     | .ptr id off=> .pure {sv:= .ptr id (off+fd.offset)}
     | .iv e r off=> .pure {sv:= .iv e r (off+fd.offset)}
     | .eK id i z off=> .pure {sv:= .eK id i z (off+fd.offset)}
     | _=> .fail
   | none=> .fail
  | _=> .fail
 | .indexAddr t x i=>(hF x).bind λs=>(hF i).bind λn=>nt P t s n
 | .index t x i=>(hF x).bind λs=>(hF i).bind λn=>To P t s n
 | .extract x i=>(hF x).bind λs=>match s with
  | .Ej vs=>match vs[i]? with
   | some v=> .pure {sv:=v}
   | none=> .fail
  | _=> .fail
 | .call c=>match c.callee with
  | .value (.func g)=>(xm c.args.toList).bind λl=>gz Γ o.dst g l
  | .builtin .len=>match c.args.toList,c.argTypes.toList with
   | [x],[t]=>(hF x).bind λs=>u0 P t s
   | _,_=> .fail
  | .builtin .min=>match c.args.toList with
   | [x,y]=>(hF x).bind λa=>(hF y).bind λb=>Bb false a b
   | _=> .fail
  | .builtin .max=>match c.args.toList with
   | [x,y]=>(hF x).bind λa=>(hF y).bind λb=>Bb true a b
   | _=> .fail
  | .builtin .append=>match c.args.toList,c.argTypes.toList with
   | [s,x],[t,t']=>bif AN t t' then (hF s).bind λa=>(hF x).bind λb=>bif BX Γ o.dst then nbp P o.dst t a b else hsI P o.dst t a b else (hF s).bind λa=>(hF x).bind λb=>Nf P o.dst t t' a b
   | _,_=> .fail
  | .builtin .copy=>match c.args.toList,c.argTypes.toList with
   | [s,x],[t,_]=>(hF s).bind λa=>(hF x).bind λb=>ZB P t a b
   | _,_=> .fail
  | _=> .fail
 | _=> .fail
structure CO where
 n:Nat
 sl:List (Nat×bg)
 hp:List (Nat×yP)
 ok:Bool:=true
 ls:List Nat:=[]
 lm:List Nat:=[]
abbrev D7(n:Int):bg:=.int .i64 n
def PM:List (Nat×bg)→Nat→bg
 | [],_=> .fV
 | (k,s)::l,i=>bif AN k i then s else PM l i
def CH:List (Nat×yP)→Nat→Option yP
 | [],_=>none
 | (k,s)::l,i=>bif AN k i then some s else CH l i
def Qq:List (Nat×yP)→Nat→List (Nat×yP)
 | [],_=>[]
 | (k,s)::l,i=>bif AN k i then Qq l i else (k,s)::Qq l i
def CO.get(st:CO)(i:Nat):bg:=PM st.sl i
def CO.obj(st:CO)(i:Nat):Option yP:=CH st.hp i
def M.run{α:Type}(f:Nat→bg)(h:Nat→Option yP):M α→Option (α×List Nat×List Nat)
 | .pure a=>some (a,[],[])
 | .fail=>none
 | .slot i k=>match (k (f i)).run f h with
  | some (a,s,o)=>some (a,i::s,o)
  | none=>none
 | .obj i k=>match h i with
  | some x=>match (k x).run f h with
   | some (a,s,o)=>some (a,s,i::o)
   | none=>none
  | none=>none
def CO.fail(st:CO):CO:= {st with ok:=false,sl:=[],hp:=[]}
def Ge:List bg→Nat→List bg→List bg
 | cells,off,b7=>cells.take off++(b7++cells.drop (off+b7.length))
def Vs:List (Nat×Option yP)→List (Nat×yP)→List (Nat×yP)
 | [],h=>h
 | (i,some o)::l,h=>(i,o)::Qq (Vs l h) i
 | (i,none)::l,h=>Qq (Vs l h) i
def HD:Option (Nat×Nat×List bg)→List (Nat×yP)→List (Nat×yP)
 | none,h=>h
 | some (i,off,b7),h=>match CH h i with
  | some (.box t cells)=>(i,.box t (Ge cells off b7))::Qq h i
  | _=>h
def CO.apply(st:CO)(d:Option Nat)(e:R_):CO:=
 {n:=st.n
  sl:=match d with | some d=>(d,e.sv)::st.sl | none=>st.sl
  hp:=Vs e.ow (HD e.cw st.hp)
  ok:=Bk (Bk st.ok e.ok) (match d with | some d=>B1 d st.n | none=>true)
  ls:=match d with | some d=>d::st.ls | none=>st.ls
  lm:=(match e.cw with | some (i,_)=>[i] | none=>[])++(e.ow.map (·.1)++st.lm)}
def CO.skip(st:CO)(d:Option Nat):CO:=st.apply d {sv:= .undef}
def Uz(i:Nat):List Nat→Bool
 | []=>false
 | k::l=>AN k i || Uz i l
def N6(g:Bool)(f h:Nat→bg):List Nat→List (Nat×bg)→List (Nat×bg)
 | [],l=>l
 | i::r,l=>(i,CG g (f i) (h i))::N6 g f h r l
def dedup:List Nat→List Nat
 | []=>[]
 | i::l=>bif Uz i l then dedup l else i::dedup l
def jo(a:List (Nat×yP)):List Nat→Bool
 | []=>true
 | i::l=>(match CH a i with | some _=>false | none=>true) && jo a l
def CO.reset(st:CO):CO:= {st with ls:=[],lm:=[]}
def lV(g x y:Bool):Bool:=bif x && y then true else bif g then x else y
theorem Np(g x y:Bool):lV g x y=bif g then x else y:=by cases g<;>cases x<;>cases y<;>rfl
def Oi(g:Bool):Option yP→Option yP→Option yP
 | some (.box t cs),some (.box t' Cc)=>bif AN t t' && AN cs.length Cc.length then some (.box t (sG g cs Cc)) else none
 | some (.row t e r fz u),some (.row t' e' r' Kf u')=>bif AN t t' && pc e e' && (fz==Kf) && (u==u') then some (.row t e (bif g then r else r') fz u) else none
 | _,_=>none
def Ix(a:List (Nat×yP)):List Nat→List Nat
 | []=>[]
 | i::l=>match CH a i with | some _=>i::Ix a l | none=>Ix a l
def YP(g:Bool)(f h:Nat→Option yP):List Nat→List (Nat×Option yP)
 | []=>[]
 | i::l=>(i,Oi g (f i) (h i))::YP g f h l
def merge(pre:CO)(g:Bool)(a b:CO):CO:=
 {n:=pre.n
  sl:=N6 g a.get b.get (dedup (a.ls++b.ls)) pre.sl
  hp:=Vs (YP g a.obj b.obj (Ix pre.hp (dedup (a.lm++b.lm)))) pre.hp
  ok:=lV g a.ok b.ok
  ls:=dedup (a.ls++b.ls)++pre.ls
  lm:=Ix pre.hp (dedup (a.lm++b.lm))++pre.lm}
def t7:bg→Bool
 | .fV=>true
 | .undef=>true
 | _=>false
def fsA(g:Bool)(f h:Nat→bg):List Nat→Bool
 | []=>true
 | i::r=>(t7 (f i) || t7 (h i) || !(t7 (CG g (f i) (h i)))) && fsA g f h r
def nCj(Γ:Ctx)(g:Bool)(f h:Nat→bg):List Nat→Bool
 | []=>true
 | i::r=>(!(t7 (CG g (f i) (h i))) || !(BX Γ (some i))) && nCj Γ g f h r
def WK(Γ:Ctx)(pre:CO)(g:Bool)(a b:CO):Bool:=jo pre.hp a.lm && jo pre.hp b.lm && fsA g a.get b.get (dedup (a.ls++b.ls)) && nCj Γ g a.get b.get (dedup (a.ls++b.ls))
def CO.gr(st:CO)(s:Nat)(b:Bool):CO:= {st with sl:=(s,.kb b)::st.sl,ls:=s::st.ls}
mutual
def jH:bg→List Nat
 | .own i=>[i]
 | .ptr i _=>[i]
 | .eK i _ _ _=>[i]
 | .agg l=>iG l
 | .Ej l=>iG l
 | .GC _ l=>iG l
 | .Gx i _ _=>[i]
 | _=>[]
def iG:List bg→List Nat
 | []=>[]
 | a::l=>jH a++iG l
end
def tg:yP→List Nat
 | .box _ cells=>iG cells
 | .deep _ _ _ _ (some (_,i))=>[i]
 | _=>[]
def xQ(e:R_):List Nat:=
 jH e.sv++((match e.cw with | some (_,_,b7)=>iG b7 | none=>[])++e.ow.flatMap λx=>x.1::(match x.2 with | some o=>tg o | none=>[]))
structure Yv where
 i:Nat
 d:Option Nat
 rs:List Nat
 ro:List Nat
 wo:List Nat
 m:List Nat
def cK:List Oper→List Nat
 | []=>[]
 | o::l=>match o.dst with | some d=>d::cK l | none=>cK l
def sL(a:List Nat):List Nat→Bool
 | []=>true
 | i::l=> !(Uz (i / 64) a) && sL a l
def gT(a:List Nat)(st:CO):Bool:=(st.sl.all λx=>sL a (jH x.2)) && (st.hp.all λx=>sL a (x.1::tg x.2))
def ou(d:Option Nat)(e:R_)(st:CO):Bool:=
 match e.ow,d with
 | _::_,some d=>gT [d] st
 | _,_=>true
def CO.cP(P:aaA)(Γ:Ctx)(st:CO)(o:Oper):CO:=
 match (evalOp P Γ o).run st.get st.obj with
 | some (e,_)=>bif ou o.dst e st then st.apply o.dst e else st.fail
 | none=>st.fail
def Rw:List Nat→List Nat→List Nat
 | [],m=>m
 | i::l,m=>bif Uz i m then Rw l m else i::Rw l m
def jG:List Oper→List (List Nat)→List (List Nat)
 | [],acc=>acc
 | o::l,acc=>jG l (acc++[o.after.toList.foldr (λe r=>bif Region.binds .any e then Rw (Rw [e.on] (acc.getD e.on [])) r else r) []])
def Tq:List Oper→Nat→Bool
 | [],_=>true
 | o::l,i=>(o.after.toList.all λe=> !(Region.binds .any e) || AT e.on i) && Tq l (i+1)
def SB(l:List Nat):List Nat→Bool
 | []=>false
 | i::m=>Uz i l || SB l m
def YZ:Option Nat→List Nat
 | some d=>[d]
 | none=>[]
def uA(a b:Yv):Bool:=
 SB (YZ a.d) (b.rs++YZ b.d) || SB a.rs (YZ b.d) || SB a.wo (b.ro++b.wo) || SB a.ro b.wo ||
 (match a.d with | some d=>b.m.any λi=>AN (i / 64) d | none=>false)
def Yr(b a:Yv):Bool:=match b.d with | some d=>a.m.any λi=>AN (i / 64) d | none=>false
def bY(an:List (List Nat))(a:Yv):List Yv→Bool
 | []=>true
 | b::l=>(!(uA a b) || Uz a.i (an.getD b.i [])) && !(Yr b a) && bY an a l
def dD(an:List (List Nat)):List Yv→Bool
 | []=>true
 | a::l=>bY an a l && dD an l
def Sa(ops:Array Oper)(o:Oper):List Nat:=
 match o.guard with
 | some (j,_)=>YZ ((ops[j]?).bind (·.dst))
 | none=>[]
def SC(P:aaA)(Γ:Ctx)(ops:Array Oper)(i:Nat)(st:CO)(o:Oper):Yv:=
 match (evalOp P Γ o).run st.get st.obj with
 | some (e,s,r)=>⟨i,o.dst,Sa ops o++s,(match e.cw with | some (i,_)=>[i] | none=>[])++r,(match e.cw with | some (i,_)=>[i] | none=>[])++e.ow.map (·.1),xQ e⟩
 | none=>⟨i,o.dst,[],[],[],[]⟩
def w4(ops:Array Oper)(i:Nat)(o:Oper):Yv:=⟨i,o.dst,Sa ops o,[],[],[]⟩
def PS(ops:Array Oper)(st:CO)(o:Oper):Option Bool:=
 match o.guard with
 | none=>some true
 | some (j,want)=>
  match (ops[j]?).bind (·.dst) with
  | none=>none
  | some s=>
   match st.get s with
   | .kb b=>some (b==want)
   | .undef=>some false
   | _=>none
def Zk(P:aaA)(Γ:Ctx)(ops:Array Oper)(gs:List Nat)(a:List Yv→Bool):List Oper→Nat→List Yv→CO→CO
 | [],_,acc,st=> {st with ok:=Bk st.ok (a acc)}
 | o::rest,i,acc,st=>
  match PS ops st o with
  | none=>st.fail
  | some false=>Zk P Γ ops gs a rest (i+1) (acc++[w4 ops i o]) (st.skip o.dst)
  | some true=>
   match o.dst with
   | none=>Zk P Γ ops gs a rest (i+1) (acc++[SC P Γ ops i st o]) (st.cP P Γ o)
   | some s=>
    bif Uz s gs then
     match (st.cP P Γ o).get s with
     | .bool g=>merge (st.cP P Γ o) g (Zk P Γ ops gs a rest (i+1) (acc++[SC P Γ ops i st o]) ((st.cP P Γ o).reset.gr s true))
       (Zk P Γ ops gs a rest (i+1) (acc++[SC P Γ ops i st o]) ((st.cP P Γ o).reset.gr s false))
     | _=>Zk P Γ ops gs a rest (i+1) (acc++[SC P Γ ops i st o]) (st.cP P Γ o)
    else Zk P Γ ops gs a rest (i+1) (acc++[SC P Γ ops i st o]) (st.cP P Γ o)
def RW(ops:Array Oper):List Oper→List Nat
 | []=>[]
 | o::l=>Sa ops o++RW ops l
def O5(P:aaA)(Γ:Ctx)(ops:Array Oper)(a:Bool)(st:CO):CO:=bif a then bif gT (cK ops.toList) st && Tq ops.toList 0 && P.follows .mixedOrders then Zk P Γ ops (RW ops ops.toList) (dD (jG ops.toList [])) ops.toList 0 [] st else st.fail else Zk P Γ ops (RW ops ops.toList) (λ_=>true) ops.toList 0 [] st
def simple:Code→Bool
 | .skip=>true
 | .region _ _ _=>true
 | .seq a b=>simple a && simple b
 | .cond _ a b=>simple a && simple b
 | _=>false
def ev(st:CO):aaC→bg
 | .tmp t=>st.get t
 | .const v=>ofConst v
 | _=> .fV
def CO.dz(st:CO)(c:aaC)(b:Bool):CO:=
 match c with
 | .tmp t=>st.gr t b
 | _=>st
def exec(P:aaA)(Γ:Ctx):Code→CO→CO
 | .skip,st=>st
 | .region _ ops draw,st=>O5 P Γ ops draw st
 | .seq a b,st=>exec P Γ b (exec P Γ a st)
 | .cond c a b,st=>
  match ev st c with
  | .kb t=>bif t then exec P Γ a st else exec P Γ b st
  | .bool g=>merge st g (exec P Γ a (st.reset.dz c true)) (exec P Γ b (st.reset.dz c false))
  | _=>st.fail
 | _,st=>st.fail
abbrev zW:=Bool×List DC
def kW:zW:=(false,[])
inductive gR where
 | Ay
 | own (t:aaz)
 | eN (t:aaz)
 | deep (t:aaz) (ts:List aaz)
structure iT where
 cx:List (Nat×gR)
 boxes:List (Nat×List (Nat×gR))
def w_:List (Nat×iT)→Nat→Option iT
 | [],_=>none
 | (k,s)::l,i=>bif AN k i then some s else w_ l i
def Wg:List (Nat×gR)→Nat→gR
 | [],_=> .Ay
 | (k,s)::l,i=>bif AN k i then s else Wg l i
def jy:List bg→Bool
 | []=>true
 | .ptr _ _::l=>jy l
 | _=>false
def Cb(P:aaA)(c:List (Nat×yP))(ck:gR)(a:Nat)(s:bg):bg×List (Nat×yP×Option Nat):=
 match s with
 | .own id=>match CH c id with
  | some (.row t e r fz u)=>match ck with
   | .eN _=>(.fV,[])
   | _=>(.own a,[(a,.row t e r fz u,some id)])
  | some (.eN e r)=>(.sl e r,[])
  | some (.deep t e ts r none)=>match ck with
   | .eN _=>(.fV,[])
   | _=>(.own a,[(a,.deep t e ts r none,some id)])
  | _=>(.fV,[])
 | .nil=>match ck with
  | .own t=>match Ol P 16 t with
   | some e=>(.own a,[(a,.row t e [] false true,none)])
   | none=>(.fV,[])
  | .deep t ts=>match Ol P 16 t with
   | some e=>(.own a,[(a,.deep t e ts [] none,none)])
   | none=>(.fV,[])
  | .eN t=>match Ol P 16 t with
   | some e=>(.sl e [],[])
   | none=>(.fV,[])
  | .Ay=>(.nil,[])
 | .kb b=>(.bool b,[])
 | .agg _=>(.fV,[])
 | .Ej _=>(.fV,[])
 | .eK .. =>(.fV,[])
 | .Gx .. =>(.fV,[])
 | .GC g cs=>bif jy cs then (.GC g cs,[]) else (.fV,[])
 | s=>(s,[])
def Vw(P:aaA)(st:CO):List (Nat×gR)→List (Nat×bg)×List (Nat×yP×Option Nat)
 | []=>([],[])
 | (i,ck)::l=>
  let c:=Cb P st.hp ck (G8 (10000+i) 0) (st.get i)
  let q:=Vw P st l
  ((i,c.1)::q.1,c.2++q.2)
def tq(P:aaA)(a:List (Nat×yP))(d:List (Nat×gR))(b:Nat):Nat→List bg→List bg×List (Nat×yP×Option Nat)
 | _,[]=>([],[])
 | k,s::l=>
  let c:=Cb P a (Wg d k) (G8 (20000+b*4) k) s
  let q:=tq P a d b (k+1) l
  (c.1::q.1,c.2++q.2)
def BV(P:aaA)(a:List (Nat×yP)):List (Nat×List (Nat×gR))→List (Nat×yP)×List (Nat×yP×Option Nat)
 | []=>([],[])
 | (b,mM)::l=>
  let q:=BV P a l
  match CH a b with
  | some (.box t cells)=>
   let c:=tq P a mM b 0 cells
   ((b,.box t c.1)::q.1,c.2++q.2)
  | _=>q
def zS:List Nat→Bool
 | []=>true
 | i::l=> !(Uz i l) && zS l
def lB:List (Nat×yP×Option Nat)→List Nat
 | []=>[]
 | (_,_,some i)::l=>i::lB l
 | (_,_,none)::l=>lB l
def ni1:List (Nat×yP)→Option Nat
 | []=>none
 | (i,.deep _ _ _ _ (some _))::_=>some i
 | _::l=>ni1 l
def Xf:List CT→Nat
 | []=>0
 | .sl _::_=>0
 | _::l=>Xf l+1
def ak(e a:List CT):Bool:=
 match e[Xf e]? with
 | some (.sl e')=>pc e' a
 | _=>false
def CO.Ez(st:CO):CO:=
 match ni1 st.hp with
 | some id=>match st.obj id with
  | some (.deep t e [t1] rows (some (i,nid)))=>match st.obj nid with
   | some (.row t2 e2 r false _)=>
    bif AN t2 t1 && ak e e2 && AN (Zv e) 1 && !(AN nid id) && zP e2 then
     {st with hp:=Vs [(id,some (.deep t e [t1] (rows.set i (CI (rows.getD i []) (Xf e) [.sl r])) none)),(nid,none)] st.hp}
    else st
   | _=>st
  | _=>st
 | none=>st
def OI(P:aaA)(an:iT)(st:CO):CO:=let s:=Vw P st an.cx;let b:=BV P st.hp an.boxes;let a:=s.2++b.2;bif zS (lB a) && zS (b.1.map (·.1)++a.map (·.1)) then {n:=st.n,sl:=s.1,hp:=b.1++a.map (λx=>(x.1,x.2.1)),ok:=st.ok,ls:=[],lm:=[]} else st.fail
def CV(st:CO):List (Nat×gR)→Wk
 | []=>[]
 | (i,.eN _)::l=>match st.get i with
  | .own id=>match st.obj id with
   | some (.row _ e r _ u)=>bif Nh id (CV st l) then (id,e,r,u)::CV st l else CV st l
   | _=>CV st l
  | _=>CV st l
 | (_,.Ay)::l=>CV st l
 | (_,.own _)::l=>CV st l
 | (_,.deep _ _)::l=>CV st l
def CO.KL(st:CO)(an:iT):CO:= {st with hp:=Vs (qv (CV st an.cx)) st.hp}
def canon(P:aaA)(an:iT)(st:CO):CO:=OI P an (st.Ez.KL an)
def CO.gd(st:CO)(k:CO→zW):zW:=bif st.ok then k {st with ok:=true} else kW
theorem UM{st:CO}{k:CO→zW}{r:List DC}(h:st.gd k=(true,r)):k st=(true,r):=by
 unfold CO.gd at h;cases a:st.ok with
 | true=>
  rw[a] at h;obtain⟨_,_,_,_,_,_⟩:=st;subst a;exact h
 | false=>
  rw[a] at h;exact absurd (congrArg Prod.fst h) (by simp[kW])
structure Zx where
 fq:CO→zW
 ext:Nat→CO→zW
 ret:CO→zW
def QW:Code→Option Nat
 | .region id _ _=>some id
 | .seq a b=>match QW a with | some i=>some i | none=>QW b
 | .cond _ a b=>match QW a with | some i=>some i | none=>QW b
 | .block _ a=>QW a
 | .loop a=>QW a
 | _=>none
def run(P:aaA)(Γ:Ctx)(A:List (Nat×iT))(N:Nat):Code→CO→Zx→zW
 | .skip,st,K=>K.fq st
 | .region _ ops draw,st,K=>(O5 P Γ ops draw st).gd K.fq
 | .seq a b,st,K=>run P Γ A N a st {fq:=λs=>run P Γ A N b s K,ext:=K.ext,ret:=K.ret}
 | .cond c a b,st,K=>
  match ev st c with
  | .kb t=>bif t then run P Γ A N a st K else run P Γ A N b st K
  | .bool g=>
   bif simple a && simple b && WK Γ st g (exec P Γ a (st.reset.dz c true)) (exec P Γ b (st.reset.dz c false)) then
    (merge st g (exec P Γ a (st.reset.dz c true)) (exec P Γ b (st.reset.dz c false))).gd K.fq
   else bif g then run P Γ A N a (st.dz c true) K else run P Γ A N b (st.dz c false) K
  | _=>kW
 | .block id a,st,K=>run P Γ A N a st {fq:=K.fq,ext:=λi s=>bif AN i id then K.fq s else K.ext i s,ret:=K.ret}
 | .loop a,st,K=>
  match (QW a).bind (w_ A) with
  | some an=>(Nat.rec (motive:=λ_=>CO→zW) (λ_=>kW) (λ_ d s=>run P Γ A N a s {fq:=λe=>d (canon P an e),ext:=K.ext,ret:=K.ret}) N) (canon P an st)
  | none=>kW
 | .exit id,st,K=>K.ext id st
 | .ret,st,K=>K.ret st
 | _,_,_=>kW
def jj(P:aaA):List ResultVar→M (List bg)
 | []=> .pure []
 | .tmp t::l=> .slot t λs=>(jj P l).bind λr=> .pure (s::r)
 | .cell a t::l=> .slot a λs=>(match s with | .ptr id off=>oK P t (.ptr id off) | _=> .fail).bind λe=>(jj P l).bind λr=> .pure (e.sv::r)
def tE:DB→bg→M (DC×List Nat×List Nat)
 | .eN ct,s=>(W9 ct s).bind λq=> .pure (q.1,[],q.2.1.map (·.1))
 | .own _ _,.nil=> .pure (.sl [],[],[])
 | .own t e,.own id=> .obj id fun
  | .row t' e' r false u=>bif AN t t' && pc e e' && u then .pure (.sl r,[id],[]) else .fail
  | _=> .fail
 | .own _ _,_=> .fail
 | .deep _ _ _,.nil=> .pure (.sl [],[],[])
 | .deep t e ts,.own id=> .obj id fun
  | .deep t' e' d7 r none=>bif AN t t' && pc e e' && EN ts d7 then .pure (.sl r,[id],[]) else .fail
  | _=> .fail
 | .deep _ _ _,_=> .fail
def yG:List DB→List bg→M (List DC×List Nat×List Nat)
 | [],[]=> .pure ([],[],[])
 | c::cs,s::AK=>(tE c s).bind λq=>(yG cs AK).bind λr=> .pure (q.1::r.1,q.2.1++r.2.1,q.2.2++r.2.2)
 | _,_=> .fail
def Fb:List VC→List bg→M (List DC×List Nat×List Nat)
 | [],[]=> .pure ([],[],[])
 | k::ks,s::AK=>
  (match k.agg,s with
   | true,.agg cs=>yG k.cells cs
   | true,_=> .fail
   | false,.agg _=> .fail
   | false,s=>yG k.cells [s]).bind λq=>(Fb ks AK).bind λr=> .pure (q.1++r.1,q.2.1++r.2.1,q.2.2++r.2.2)
 | _,_=> .fail
def nxr(t:aaz)(bF:List CT):List bg→M (List DC)
 | [.ptr id 0]=> .obj id fun
  | .box t' cells=>bif AN t' t then (jk bF cells).bind λq=>bif q.2.1.isEmpty then .pure q.1 else .fail else .fail
  | _=> .fail
 | _=> .fail
def fin(P:aaA)(fn:Func)(s:Sum)(st:CO):zW:=
 match s.pt with
 | some (t,bF)=>
  match ((jj P fn.results.toList).bind λl=>nxr t bF l).run st.get st.obj with
  | some (ds,_)=>(st.ok,ds)
  | none=>kW
 | none=>
 match ((jj P fn.results.toList).bind λl=>Fb s.rs l).run st.get st.obj with
 | some ((ds,own,im),_)=>(st.ok && zS own && im.all (λi=> !(Uz i own)),ds)
 | none=>kW
def PU:Nat→List de→List DC→List (Nat×bg)
 | _,[],_=>[]
 | i,k::ks,ds=>(i,bif k.agg then .agg (BT k.bF ds 0) else (BT k.bF ds 0).headD .fV)::PU (i+1) ks (ds.drop k.bF.length)
def Xe(P:aaA)(Γ:Ctx)(A:List (Nat×iT))(N:Nat)(fn:Func)(s:Sum)(a:List DC):zW:=
 match fn.body with
 | some c=>run P Γ A N c {n:=fn.ntmps,sl:=PU 0 s.ps a,hp:=[],ok:=true,ls:=[],lm:=[]} {fq:=fin P fn s,ext:=λ_ _=>kW,ret:=fin P fn s}
 | none=>kW
mutual
def kL(w:aaD):CT→DC→aaB→List Nat→Prop
 | .int k,d,v,fp=>∃n,d= .int n∧v= .int k n∧bp k n=true∧fp=[]
 | .bool,d,v,fp=>∃b,d= .bool b∧v= .bool b∧fp=[]
 | .str,d,v,fp=>∃s:List UInt8,d= .str s∧v= .string ⟨s.toArray⟩∧s.length≤maxLen∧fp=[]
 | .sl e,d,v,fp=>∃g a n c,d= .sl g∧v= .slice a n c∧g.length=n∧n≤c∧c≤maxLen∧
   ((n=0∧fp=[])∨(0<n∧∃(b o:Nat) (h:List (List Nat)),a=some ⟨b,o,none⟩∧b<w.heap.size∧h.length=n∧fp=b::h.flatten∧
    ∀i r f,g[i]? =some r→h[i]? =some f→bj w e r (λj=>w.cell? ⟨b,o+(i*e.length+j),none⟩) f))
def bj(w:aaD):List CT→List DC→(Nat→Option aaB)→List Nat→Prop
 | [],r,_,fp=>r=[]∧fp=[]
 | c::cs,r,f,fp=>∃d a v b e,r=d::a∧f 0=some v∧kL w c d v b∧bj w cs a (λj=>f (j+1)) e∧fp=b++e
end
theorem ntf{w w':aaD}{b o:Nat}(h:w'.heap[b]? =w.heap[b]?):w'.cell? ⟨b,o,none⟩=w.cell? ⟨b,o,none⟩:=by simp[World.cell?,h]
mutual
theorem kL.lt{w:aaD} :∀(c:CT) (d:DC) (v:aaB) (k:List Nat),kL w c d v k→∀b∈k,b<w.heap.size
 | .int _,_,_,_,h=>by obtain⟨_,_,_,_,rfl⟩:=(by simpa only[kL] using h);simp
 | .bool,_,_,_,h=>by obtain⟨_,_,_,rfl⟩:=(by simpa only[kL] using h);simp
 | .str,_,_,_,h=>by obtain⟨_,_,_,_,rfl⟩:=(by simpa only[kL] using h);simp
 | .sl e,_,_,_,h=>by
  simp only[kL] at h;obtain⟨g,a,n,c,_,_,r,_,_,⟨_,rfl⟩ | ⟨_,b,o,l,_,m,s,rfl,p⟩⟩:=h
  ·simp
  ·intro x j;simp only[By,A4] at j;rcases j with rfl | ⟨f,q,j⟩
   ·exact m
   ·obtain⟨i,t,rfl⟩:=BY q;have u:i<g.length:=by omega
    exact bj.lt e _ _ _ (p i g[i] l[i] (by simp) (by simp)) x j
theorem bj.lt{w:aaD} :∀(e:List CT) (r:List DC) (f:Nat→Option aaB) (g:List Nat),bj w e r f g→∀b∈g,b<w.heap.size
 | [],_,_,_,h=>by simp only[bj] at h;simp[h.2]
 | c::e,_,_,_,h=>by
  simp only[bj] at h;obtain⟨d,k,v,l,m,_,_,i,j,rfl⟩:=h;intro b a;simp only[List.mem_append] at a;rcases a with a | a
  ·exact kL.lt c _ _ _ i b a
  ·exact bj.lt e _ _ _ j b a
end
mutual
theorem kL.mono{w w':aaD}(u:w.heap.size≤w'.heap.size):∀(c:CT) (d:DC) (v:aaB) (k:List Nat),kL w c d v k→(∀b∈k,w'.heap[b]? =w.heap[b]?)→kL w' c d v k
 | .int _,_,_,_,h,_=>by simpa only[kL] using h
 | .bool,_,_,_,h,_=>by simpa only[kL] using h
 | .str,_,_,_,h,_=>by simpa only[kL] using h
 | .sl e,_,_,_,h,hb=>by
  simp only[kL] at h ⊢;obtain⟨g,a,n,c,l,m,p,q,s,⟨y,rfl⟩ | ⟨z,b,o,A,B,G,C,rfl,D⟩⟩:=h
  ·exact⟨g,a,n,c,l,m,p,q,s,.inl ⟨y,rfl⟩⟩
  ·refine⟨g,a,n,c,l,m,p,q,s,.inr ⟨z,b,o,A,B,by omega,C,rfl,λi r f E t=>?_⟩⟩;refine bj.mono u e r _ _ f (D i r f E t) (λj=>?_) (λx F=>hb x ?_)
   ·exact (ntf (hb b (by simp))).symm ▸ rfl
   ·simp only[By,A4];exact .inr ⟨f,Cr t,F⟩
theorem bj.mono{w w':aaD}(i:w.heap.size≤w'.heap.size):∀(a:List CT) (r:List DC) (f k:Nat→Option aaB) (e:List Nat),bj w a r f e→(∀j,k j=f j)→(∀b∈e,w'.heap[b]? =w.heap[b]?)→bj w' a r k e
 | [],_,_,_,_,h,_,_=>by simpa only[bj] using h
 | c::a,_,_,_,_,h,hf,hb=>by simp only[bj] at h ⊢;obtain⟨d,l,v,m,n,o,p,q,s,rfl⟩:=h;exact⟨d,l,v,m,n,o,(hf 0).trans p,kL.mono i c _ _ _ q (λb g=>hb b (by simp[g])),bj.mono i a _ _ _ _ s (λj=>hf (j+1)) (λb g=>hb b (by simp[g])),rfl⟩
end
theorem bj.length{w:aaD} :∀(a:List CT) (r:List DC) (f:Nat→Option aaB) (b:List Nat),bj w a r f b→r.length=a.length
 | [],_,_,_,h=>by simp only[bj] at h;simp[h.1]
 | c::a,_,_,_,h=>by simp only[bj] at h;obtain⟨d,g,v,i,j,rfl,_,_,e,_⟩:=h;simp[bj.length a _ _ _ e]
structure Env where
 cY:Nat→Nat
 val:Nat→aaB
 gV:Nat→Prop
 nb:Nat→List Nat
mutual
def dg(w:aaD)(a:Nat→Prop)(β:Env):bg→aaB→Prop
 | .fV,_=>True
 | .undef,v=>v=undef
 | .kb b,v=>v= .bool b
 | .int k n,v=>v= .int k n∧bp k n=true
 | .bool b,v=>v= .bool b
 | .str s,v=>v= .string ⟨s.toArray⟩∧s.length≤maxLen
 | .sl e r,v=>∃d,kL w (.sl e) (.sl r) v d∧∀b∈d,¬a b
 | .nil,v=>v= .slice none 0 0
 | .own id,v=>v=β.val id∧v.oneCell'=true
 | .agg cs,v=>∃f:List aaB,v= .agg f.toArray∧qV w a β cs f∧∀x∈f,x.oneCell'=true
 | .ptr id off,v=>v= .pointer (some ⟨β.cY id,off,none⟩)
 | .iv e r off,v=>∃b o d,v= .pointer (some ⟨b,o+off,none⟩)∧b<w.heap.size∧¬a b∧bj w e r (λj=>w.cell? ⟨b,o+j,none⟩) d∧∀x∈d,¬a x
 | .eK id i z off,v=>∃g,(β.val id).ownBlock=some g∧v= .pointer (some ⟨g,i*z+off,none⟩)
 | .Ej f,v=>∃l:List aaB,v= .tuple l.toArray∧qV w a β f l
 | .GC g cs,v=>∃l:List aaB,v= .func (.func g) #[] l.toArray∧qV w a β cs l
 | .Gx id lo z,v=>∃g n c,β.val id= .slice (some ⟨g,0,none⟩) n c∧lo≤n∧v= .slice (some ⟨g,if lo<c then lo*z else 0,none⟩) (n - lo) (c - lo)
def qV(w:aaD)(a:Nat→Prop)(β:Env):List bg→List aaB→Prop
 | [],l=>l=[]
 | s::AK,l=>∃v b,l=v::b∧dg w a β s v∧qV w a β AK b
end
mutual
theorem dg.mono{w w':aaD}{p av':Nat→Prop}{β β':Env}(k:w.heap.size≤w'.heap.size)
  (g:∀b,b<w.heap.size→¬p b→w'.heap[b]? =w.heap[b]?) (l:∀b,av' b→p b∨w.heap.size≤b):
  ∀(s:bg) (v:aaB),dg w p β s v→(∀i∈jH s,β'.val i=β.val i∧β'.cY i=β.cY i)→dg w' av' β' s v
 | .fV,_,_,_=>by simp only[dg]
 | .undef,_,h,_=>by simpa only[dg] using h
 | .kb _,_,h,_=>by simpa only[dg] using h
 | .int _ _,_,h,_=>by simpa only[dg] using h
 | .bool _,_,h,_=>by simpa only[dg] using h
 | .str _,_,h,_=>by simpa only[dg] using h
 | .nil,_,h,_=>by simpa only[dg] using h
 | .sl e r,v,h,_=>by
  simp only[dg] at h ⊢;obtain⟨q,f,m⟩:=h;have n:=kL.lt _ _ _ _ f;refine⟨q,kL.mono k _ _ _ _ f (λb a=>g b (n b a) (m b a)),λb a c=>?_⟩;rcases l b c with h | h
  ·exact m b a h
  ·have:=n b a;omega
 | .own id,_,h,hi=>by simp only[dg] at h ⊢;rw[(hi id (by simp[jH])).1];exact h
 | .ptr id _,_,h,hi=>by simp only[dg] at h ⊢;rw[h,(hi id (by simp[jH])).2]
 | .eK id i z off,_,h,hi=>by simp only[dg] at h ⊢;rw[(hi id (by simp[jH])).1];exact h
 | .iv e r off,v,h,_=>by
  simp only[dg] at h ⊢;obtain⟨b,o,q,rfl,a,t,f,m⟩:=h;have n:=bj.lt _ _ _ _ f;have key:∀x,x<w.heap.size→¬p x→¬av' x:=λx c u y=>by
   rcases l x y with h | h
   ·exact u h
   ·omega
  refine⟨b,o,q,rfl,by omega,key b a t,bj.mono k _ _ _ _ _ f (λj=>ntf (g b a t)) (λx c=>g x (n x c) (m x c)),λx c=>key x (n x c) (m x c)⟩
 | .agg cs,v,h,hi=>by simp only[dg] at h ⊢;obtain⟨d,rfl,h,f⟩:=h;exact⟨d,rfl,qV.mono k g l cs d h (by simpa [jH] using hi),f⟩
 | .Ej cs,v,h,hi=>by simp only[dg] at h ⊢;obtain⟨d,rfl,h⟩:=h;exact⟨d,rfl,qV.mono k g l cs d h (by simpa [jH] using hi)⟩
 | .GC _ cs,v,h,hi=>by simp only[dg] at h ⊢;obtain⟨d,rfl,h⟩:=h;exact⟨d,rfl,qV.mono k g l cs d h (by simpa [jH] using hi)⟩
 | .Gx id _ _,_,h,hi=>by simp only[dg] at h ⊢;rw[(hi id (by simp[jH])).1];exact h
theorem qV.mono{w w':aaD}{a av':Nat→Prop}{β β':Env}(d:w.heap.size≤w'.heap.size)
  (e:∀b,b<w.heap.size→¬a b→w'.heap[b]? =w.heap[b]?) (f:∀b,av' b→a b∨w.heap.size≤b):
  ∀(s:List bg) (v:List aaB),qV w a β s v→(∀i∈iG s,β'.val i=β.val i∧β'.cY i=β.cY i)→qV w' av' β' s v
 | [],_,h,_=>by simpa only[qV] using h
 | s::AK,_,h,hi=>by simp only[qV] at h ⊢;obtain⟨v,g,rfl,j,k⟩:=h;exact⟨v,g,rfl,dg.mono d e f s v j (λi c=>hi i (by simp[iG,c])),qV.mono d e f AK g k (λi c=>hi i (by simp[iG,c]))⟩
end
theorem qV.length{w:aaD}{av:Nat→Prop}{β:Env} :∀(s:List bg) (v:List aaB),qV w av β s v→v.length=s.length
 | [],_,h=>by simp only[qV] at h;simp[h]
 | s::AK,_,h=>by simp only[qV] at h;obtain⟨v,a,rfl,_,b⟩:=h;simp[qV.length AK a b]
theorem qV.get{w:aaD}{a:Nat→Prop}{β:Env} :∀(AK:List bg) (b:List aaB) (i:Nat) (s:bg),qV w a β AK b→AK[i]? =some s→∃v,b[i]? =some v∧dg w a β s v
 | [],_,_,_,_,hi=>by simp at hi
 | s::AK,_,i,x,h,hi=>by
  simp only[qV] at h;obtain⟨v,c,rfl,d,e⟩:=h;cases i with
  | zero=>simp at hi;subst hi;exact⟨v,by simp,d⟩
  | succ i=>simpa using qV.get AK c i x e (by simpa using hi)
theorem qV.append{w:aaD}{c:Nat→Prop}{β:Env} :∀(a:List bg) (x:List aaB) (b:List bg) (y:List aaB),qV w c β a x→qV w c β b y→qV w c β (a++b) (x++y)
 | [],_,_,_,h,h'=>by simp only[qV] at h;simpa [h] using h'
 | s::AK,_,_,_,h,h'=>by simp only[qV] at h;obtain⟨v,d,rfl,e,f⟩:=h;simp only[List.cons_append,qV];exact⟨v,_,rfl,e,qV.append AK d _ _ f h'⟩
theorem qV.take{w:aaD}{b:Nat→Prop}{β:Env} :∀(a:List bg) (x:List aaB) (n:Nat),qV w b β a x→qV w b β (a.take n) (x.take n)
 | [],_,n,h=>by simp only[qV] at h;simp[h,qV]
 | s::AK,_,n,h=>by
  simp only[qV] at h;obtain⟨v,c,rfl,d,e⟩:=h;cases n with
  | zero=>simp[qV]
  | succ n=>simp only[Cw,qV];exact⟨v,_,rfl,d,qV.take AK c n e⟩
theorem qV.drop{w:aaD}{b:Nat→Prop}{β:Env} :∀(a:List bg) (x:List aaB) (n:Nat),qV w b β a x→qV w b β (a.drop n) (x.drop n)
 | [],_,n,h=>by simp only[qV] at h;simp[h,qV]
 | s::AK,_,n,h=>by
  simp only[qV] at h;obtain⟨v,c,rfl,e,d⟩:=h;cases n with
  | zero=>simp only[List.drop_zero,qV];exact⟨v,c,rfl,e,d⟩
  | succ n=>simpa using qV.drop AK c n d
mutual
theorem ngO:∀(a b:CT),OY a b=true→a=b
 | .int k,.int k',h=>by simp[OY] at h;rw[h]
 | .bool,.bool,_=>rfl
 | .str,.str,_=>rfl
 | .sl e,.sl e',h=>by simp only[OY] at h;rw[xp e e' h]
 | .int _,.bool,h | .int _,.str,h | .int _,.sl _,h | .bool,.int _,h | .bool,.str,h | .bool,.sl _,h | .str,.int _,h | .str,.bool,h | .str,.sl _,h | .sl _,.int _,h | .sl _,.bool,h | .sl _,.str,h=>by simp[OY] at h
theorem xp:∀(a b:List CT),pc a b=true→a=b
 | [],[],_=>rfl
 | a::l,b::m,h=>by simp only[pc,gF] at h;rw[ngO a b h.1,xp l m h.2]
 | [],_::_,h | _::_,[],h=>by simp[pc] at h
end
theorem dg.DW{w:aaD}{a:Nat→Prop}{β:Env}(e:List CT)(v:aaB)(h:v= .slice none 0 0):dg w a β (.sl e []) v:=by unfold dg;refine⟨[], ?_,by simp⟩;unfold kL;exact⟨[],none,0,0,rfl,h,rfl,Cx _,BE _,.inl ⟨rfl,rfl⟩⟩
mutual
theorem dg.merge{w:aaD}{av:Nat→Prop}{β:Env}(g:Bool)(a b:bg)(v:aaB)(h:dg w av β (bif g then a else b) v):dg w av β (CG g a b) v:=by
 rw[CG.eq_def];split
 ·cases g<;>simpa using h
 ·rename_i x y;cases g<;>cases x<;>cases y<;>simp_all[dg]
 ·cases g<;>simp_all[dg]
 ·cases g<;>simp_all[dg]
 ·cases g<;>simp_all[dg]
 ·rename_i k n A m;by_cases u:k=A
  ·subst u;cases g<;>simp_all[dg]
  ·simp[u,dg]
 ·cases g<;>simp_all[dg]
 ·rename_i e r t B;cases c:pc e t
  ·simp[dg]
  ·have:=xp _ _ c;subst this;cases g<;>simpa using h
 ·cases g
  ·exact dg.DW _ _ (by simpa [dg] using h)
  ·simpa using h
 ·cases g
  ·simpa using h
  ·exact dg.DW _ _ (by simpa [dg] using h)
 ·cases g<;>simpa using h
 ·rename_i i j;cases c:AN i j
  ·simp[dg]
  ·have:=cL c;subst this;simpa using h
 ·rename_i i o j q;cases c:AN i j && AN o q
  ·simp[dg]
  ·simp only[gF] at c;have p:=cL c.1;have s:=cL c.2;subst p s;simpa using h
 ·rename_i e r o t B q;cases c:pc e t && AN o q
  ·simp[dg]
  ·simp only[gF] at c;have p:=xp _ _ c.1;have s:=cL c.2;subst p s;cases g<;>simpa using h
 ·rename_i i x z o j y C q;cases c:AN i j && AN z C && AN o q
  ·simp[dg]
  ·simp only[gF] at c;have p:=cL c.1.1;have s:=cL c.1.2;have D:=cL c.2;subst p s D;cases g<;>simpa using h
 ·rename_i l m;cases c:AN l.length m.length
  ·simp[dg]
  ·simp only[HI,dg];have d:=cL c;cases g
   ·simp only[rl,dg] at h;obtain⟨f,rfl,h,p⟩:=h;exact⟨f,rfl,qV.merge false l m f d h,p⟩
   ·simp only[HI,dg] at h;obtain⟨f,rfl,h,p⟩:=h;exact⟨f,rfl,qV.merge true l m f d h,p⟩
 ·rename_i l m;cases c:AN l.length m.length
  ·simp[dg]
  ·simp only[HI,dg];have d:=cL c;cases g
   ·simp only[rl,dg] at h;obtain⟨f,rfl,h⟩:=h;exact⟨f,rfl,qV.merge false l m f d h⟩
   ·simp only[HI,dg] at h;obtain⟨f,rfl,h⟩:=h;exact⟨f,rfl,qV.merge true l m f d h⟩
 ·simp only[dg]
termination_by SizeOf.sizeOf a
theorem qV.merge{w:aaD}{av:Nat→Prop}{β:Env}(g:Bool):∀(a b:List bg) (v:List aaB),a.length=b.length→qV w av β (bif g then a else b) v→qV w av β (sG g a b) v
 | [],[],v,_,h=>by cases g<;>simpa [sG] using h
 | [],_::_,v,hl,h=>by simp at hl
 | _::_,[],v,hl,h=>by simp at hl
 | a::l,b::m,v,hl,h=>by
  simp only[sG,qV];have f:l.length=m.length:=by simpa using hl
  cases g
  ·simp only[rl,qV] at h;obtain⟨x,c,rfl,d,e⟩:=h;exact⟨x,c,rfl,dg.merge false a b x d,qV.merge false l m c f e⟩
  ·simp only[HI,qV] at h;obtain⟨x,c,rfl,d,e⟩:=h;exact⟨x,c,rfl,dg.merge true a b x d,qV.merge true l m c f e⟩
termination_by a=>SizeOf.sizeOf a
end
def Em(w:aaD)(t size:Nat)(c:Bool)(v:aaB)(n:Nat)(b:List aaB):Prop:=b.length=n*size∧ ((v= .slice none 0 0∧n=0∧c=false)∨ ∃(g cap:Nat) (a:Array aaB),v= .slice (some ⟨g,0,none⟩) n cap∧w.heap[g]? =some (.cells a t (bif c then (a.size,a.size+1) else (0,0)))∧ n≤cap∧cap≤maxLen∧a.size=cap*size∧a.toList.take (n*size)=b)
def RN(w:aaD)(e:List CT)(a:List (List DC))(b:List aaB)(c:List (List Nat)):Prop:=c.length=a.length∧∀i r f,a[i]? =some r→c[i]? =some f→bj w e r (λj=>b[i*e.length+j]?) f
def ar(β:Env)(id:Nat):yP→List Nat
 | .box _ _=>[β.cY id]
 | .row _ _ _ _ _=>(β.val id).ownBlock.toList
 | .eN _ _=>[]
 | .deep _ _ _ _ _=>(β.val id).ownBlock.toList++β.nb id
def bC(w:aaD)(d:Option aaB)(t:aaz)(e:List CT)(a:List (List DC))(v:aaB)(c:List Nat):Prop:=
 match d with
 | none=>∃b f,Em w t e.length false v a.length b∧RN w e a b f∧c=v.ownBlock.toList
 | some v0=>v=v0∧v0.oneCell'=true∧c=[]
def QJ(w:aaD)(g:Option aaB):List CT→List aaz→List DC→List aaB→List Nat→Prop
 | [],ts,ds,us,mb=>ts=[]∧ds=[]∧us=[]∧mb=[]
 | .sl e::cs,ts,ds,us,mb=>∃t h a b v f i j,ts=t::h∧ds= .sl a::b∧us=v::f∧zP e=true∧bC w g t e a v i∧QJ w g cs h b f j∧mb=i++j
 | c::cs,ts,ds,us,mb=>∃d b v f,ds=d::b∧us=v::f∧kL w c d v []∧QJ w g cs ts b f mb
def R9(w:aaD)(e:List CT)(d:List aaz)(a:List (List DC))(b:List aaB)(f:Nat→Option aaB)(c:List (List Nat)):Prop:=c.length=a.length∧∀i r m,a[i]? =some r→c[i]? =some m→QJ w (f i) e d r ((b.drop (i*e.length)).take e.length) m
def b_(β:Env):Option (Nat×Nat)→Nat→Option aaB
 | none,_=>none
 | some (i,id),j=>if j=i then some (β.val id) else none
def uh(h:Nat→Option yP)(β:Env)(b:Nat):Prop:=(∃id o,h id=some o∧b∈ar β id o)∨β.gV b
def ef(w:aaD)(c:Nat→Prop)(β:Env)(id:Nat):yP→List Nat→Prop
 | .box t cells,φ=>∃d:List aaB,w.heap[β.cY id]? =some (.cells d.toArray t (0,0))∧qV w c β cells d∧(∀x∈d,x.oneCell'=true)∧φ=[β.cY id]
 | .row t e rows fz u,φ=>∃a f,Em w t e.length fz (β.val id) rows.length a∧RN w e rows a f∧(∀b∈f.flatten,¬c b)∧
   φ=(β.val id).ownBlock.toList++(bif u then f.flatten else [])
 | .eN e rows,φ=>dg w c β (.sl e rows) (β.val id)∧φ=[]
 | .deep t e ts rows hl,φ=>∃a g,Em w t e.length false (β.val id) rows.length a∧R9 w e ts rows a (b_ β hl) g∧β.nb id=g.flatten∧φ=(β.val id).ownBlock.toList++g.flatten
structure Own where
 may:Nat→Prop
 gV:Nat→Prop
 fx:List (Nat×aaB)
instance:CoeFun Own (λ_=>Nat→Prop):=⟨Own.may⟩
def Own.none:Own:=⟨λ_=>False,λ_=>False,[]⟩
structure Kept (S:Own) (w0 w:aaD):Prop where
 os:w.os=w0.os
 tape:w.tape=w0.tape
 output:w.output=w0.output
 size:w0.heap.size≤w.heap.size
 block:∀k,k<w0.heap.size→¬S k→w.heap[k]? =w0.heap[k]?
structure Core (w0:aaD) (S:Own) (f:Nat→bg) (h:Nat→Option yP) (β:Env) (φ:Nat→List Nat) (tm:Array aaB) (w:aaD):Prop where
 cx:∀i,dg w (uh h β) β (f i) (tm.getD i undef)
 aC:∀id o,h id=some o→ef w (uh h β) β id o (φ id)
 fresh:∀id o,h id=some o→(φ id).Nodup∧∀b∈φ id,(w0.heap.size≤b∨S b)∧b<w.heap.size
 sep:∀i j o p,i≠j→h i=some o→h j=some p→∀b∈φ i,b ∉ φ j
 gV:∀b,β.gV b→b<w0.heap.size∧¬S b
 bars:β.gV=S.gV
theorem RN.lt{w:aaD}{e:List CT}{a:List (List DC)}{c:List aaB}{d:List (List Nat)}(h:RN w e a c d):∀b∈d.flatten,b<w.heap.size:=by
 intro b g;obtain⟨f,j,g⟩:=A4.1 g;obtain⟨i,k,rfl⟩:=BY j;have l:i<a.length:=by have:=h.1;omega
 exact bj.lt e _ _ _ (h.2 i a[i] d[i] (by simp) (by simp)) b g
theorem RN.mono{w w':aaD}{e:List CT}{a:List (List DC)}{c:List aaB}{d:List (List Nat)}(h:RN w e a c d)(j:w.heap.size≤w'.heap.size)
  (k:∀b∈d.flatten,w'.heap[b]? =w.heap[b]?):RN w' e a c d:=
 ⟨h.1,λi r f l g=>bj.mono j e r _ _ f (h.2 i r f l g) (λ_=>rfl) (λb m=>k b (A4.2 ⟨f,Cr g,m⟩))⟩
theorem Em.mono{w w':aaD}{t size:Nat}{e:Bool}{v:aaB}{n:Nat}{a:List aaB}(h:Em w t size e v n a)
  (f:∀b∈v.ownBlock.toList,w'.heap[b]? =w.heap[b]?):Em w' t size e v n a:=by
 refine⟨h.1, ?_⟩;rcases h.2 with i | ⟨g,cap,d,rfl,j,c⟩
 ·exact .inl i
 ·exact .inr ⟨g,cap,d,rfl,(f g (by simp[A6])).trans j,c⟩
theorem Em.one{w:aaD}{t size:Nat}{b:Bool}{v:aaB}{n:Nat}{a:List aaB}(h:Em w t size b v n a):v.oneCell'=true:=by rcases h.2 with ⟨rfl,_⟩ | ⟨g,cap,c,rfl,_⟩<;>rfl
theorem Em.lt{w:aaD}{t size:Nat}{d:Bool}{v:aaB}{n:Nat}{a:List aaB}(h:Em w t size d v n a):∀b∈v.ownBlock.toList,b<w.heap.size:=by
 rcases h.2 with ⟨rfl,_⟩ | ⟨g,cap,e,rfl,f,_⟩
 ·simp[A6]
 ·intro b c;simp[A6] at c;subst c;exact (Array.getElem?_eq_some_iff.1 f).1
theorem Em.owns{w:aaD}{t size:Nat}{v:aaB}{n:Nat}{a:List aaB}(h:Em w t size false v n a):w.ownsRow 0 t size v n a:=by
 refine⟨h.1, ?_⟩;rcases h.2 with ⟨c,e,_⟩ | ⟨g,cap,d,c,f,b⟩
 ·exact .inl ⟨c,e⟩
 ·exact .inr ⟨g,cap,d,c,BE _,by simpa using f,b⟩
theorem Em.IB{w:aaD}{t size:Nat}{v:aaB}{n:Nat}{a:List aaB}{base:Nat}(h:w.ownsRow base t size v n a):Em w t size false v n a:=by
 refine⟨h.1, ?_⟩;rcases h.2 with ⟨c,e⟩ | ⟨g,cap,d,c,_,f,b⟩
 ·exact .inl ⟨c,e,rfl⟩
 ·exact .inr ⟨g,cap,d,c,by simpa using f,b⟩
theorem RN.mP:∀(a:List CT) (r:List DC) (f:Nat→Option aaB) (i:List Nat) {w:aaD},zP a=true→bj w a r f i→i=[]
 | [],r,g,i,w,_,h=>by simp only[bj] at h;exact h.2
 | c::a,r,g,i,w,hf,h=>by
  simp only[bj] at h;obtain⟨d,j,v,n,l,rfl,_,b,m,rfl⟩:=h;cases c with
  | sl e=>simp[zP] at hf
  | int k=>
   simp only[kL] at b;obtain⟨_,_,_,_,rfl⟩:=b;rw[RN.mP a j _ l (by simpa [zP] using hf) m];rfl
  | bool=>
   simp only[kL] at b;obtain⟨_,_,_,rfl⟩:=b;rw[RN.mP a j _ l (by simpa [zP] using hf) m];rfl
  | str=>
   simp only[kL] at b;obtain⟨_,_,_,_,rfl⟩:=b;rw[RN.mP a j _ l (by simpa [zP] using hf) m];rfl
theorem RN.Ed{w:aaD}{e:List CT}{a:List (List DC)}{b:List aaB}{c:List (List Nat)}(d:zP e=true)(h:RN w e a b c):c.flatten=[]:=by
 rw[List.flatten_eq_nil_iff];intro l f;obtain⟨i,g,rfl⟩:=BY f;have j:i<a.length:=by have:=h.1;omega
 exact RN.mP e _ _ _ d (h.2 i a[i] c[i] (by simp) (by simp))
theorem QJ.flat{w:aaD}{a:Option aaB}{c:CT}{b:List CT}{f:List aaz}{g:List DC}{h:List aaB}{i:List Nat}(m:zP [c]=true):
  QJ w a (c::b) f g h i=∃d j v l,g=d::j∧h=v::l∧kL w c d v []∧QJ w a b f j l i:=by
 cases c with
 | sl e=>simp[zP] at m
 | int k=>simp only[QJ]
 | bool=>simp only[QJ]
 | str=>simp only[QJ]
theorem QJ.mono{w w':aaD}{q:Option aaB}(c:w.heap.size≤w'.heap.size):∀(a:List CT) (s:List aaz) (u:List DC) (x:List aaB) (r:List Nat),QJ w q a s u x r→(∀b∈r,w'.heap[b]? =w.heap[b]?)→QJ w' q a s u x r
 | [],_,_,_,_,h,_=>by simpa only[QJ] using h
 | .sl e::a,_,_,_,_,h,hb=>by
  simp only[QJ] at h ⊢;obtain⟨t,A,o,g,v,i,B,C,j,l,m,f,y,D,rfl⟩:=h;refine⟨t,A,o,g,v,i,B,C,j,l,m,f, ?_,QJ.mono c a _ _ _ _ D (λb n=>hb b (mi _ n)),rfl⟩;cases q with
  | some v0=>exact y
  | none=>
   obtain⟨p,E,F,z,rfl⟩:=y;refine⟨p,E,F.mono (λb n=>hb b (U8 _ n)),z.mono c (λb n=>?_),rfl⟩;rw[z.Ed f] at n;simp at n
 | .int k::a,_,_,_,_,h,hb=>by simp only[QJ] at h ⊢;obtain⟨d,g,v,i,j,l,m,f⟩:=h;exact⟨d,g,v,i,j,l,kL.mono c _ _ _ _ m (by simp),QJ.mono c a _ _ _ _ f hb⟩
 | .bool::a,_,_,_,_,h,hb=>by simp only[QJ] at h ⊢;obtain⟨d,g,v,i,j,l,m,f⟩:=h;exact⟨d,g,v,i,j,l,kL.mono c _ _ _ _ m (by simp),QJ.mono c a _ _ _ _ f hb⟩
 | .str::a,_,_,_,_,h,hb=>by simp only[QJ] at h ⊢;obtain⟨d,g,v,i,j,l,m,f⟩:=h;exact⟨d,g,v,i,j,l,kL.mono c _ _ _ _ m (by simp),QJ.mono c a _ _ _ _ f hb⟩
theorem R9.mono{w w':aaD}{e:List CT}{f:List aaz}{a:List (List DC)}{c:List aaB}{g hv':Nat→Option aaB}{d:List (List Nat)}(h:R9 w e f a c g d)(k:w.heap.size≤w'.heap.size)
  (l:∀b∈d.flatten,w'.heap[b]? =w.heap[b]?) (n:∀i,hv' i=g i):R9 w' e f a c hv' d:=
 ⟨h.1,λi r m o j=>by rw[n];exact QJ.mono k _ _ _ _ _ (h.2 i r m o j) (λb p=>l b (A4.2 ⟨m,Cr j,p⟩))⟩
theorem al{w:aaD}{d:Nat→Prop}{β:Env}{id:Nat}{o:yP}{φ:List Nat}(h:ef w d β id o φ):∀b∈ar β id o,b∈φ:=by
 cases o with
 | box t cells=>
  obtain⟨g,_,_,_,rfl⟩:=h;simp[ar]
 | row t e rows fz u=>
  obtain⟨a,i,_,_,_,rfl⟩:=h;intro b c;exact U8 _ c
 | eN e rows=>simp[ar]
 | deep t e ts rows hl=>
  obtain⟨a,j,_,_,f,rfl⟩:=h;intro b c;simpa only[ar,f] using c
theorem ef.mono{w w':aaD}{m av':Nat→Prop}{β β':Env}{id:Nat}{o:yP}{φ:List Nat}(h:ef w m β id o φ)(n:w.heap.size≤w'.heap.size)
  (q:∀b,b<w.heap.size→¬m b→w'.heap[b]? =w.heap[b]?) (r:∀b,av' b→m b∨w.heap.size≤b)
  (s:∀i,i=id∨i∈tg o→β'.val i=β.val i∧β'.cY i=β.cY i) (p:∀b∈ar β id o,w'.heap[b]? =w.heap[b]?) (y:β'.nb id=β.nb id):ef w' av' β' id o φ:=by
 have key:∀x,x<w.heap.size→¬m x→¬av' x:=λx F z A=>by
  rcases r x A with h | h
  ·exact z h
  ·omega
 have d:=s id (.inl rfl);cases o with
 | box t cells=>
  obtain⟨B,f,g,l,rfl⟩:=h;refine⟨B, ?_,qV.mono n q r _ _ g (λi C=>s i (.inr C)),l,by rw[d.2]⟩;rw[d.2,p _ (by simp[ar])];exact f
 | row t e rows fz u=>
  obtain⟨a,D,f,g,l,rfl⟩:=h;refine⟨a,D, ?_,g.mono n (λb c=>q b (g.lt b c) (l b c)),λb c=>key b (g.lt b c) (l b c),by rw[d.1]⟩;rw[d.1];exact f.mono p
 | eN e rows=>
  obtain⟨f,rfl⟩:=h;refine⟨?_,rfl⟩;rw[d.1];exact dg.mono n q r _ _ f (by simp[jH])
 | deep t e ts rows hl=>
  obtain⟨a,E,f,g,l,rfl⟩:=h;refine⟨a,E, ?_,g.mono n (λb c=>p b ?_) (λj=>?_),by rw[y];exact l,by rw[d.1]⟩
  ·rw[d.1];exact f.mono (λb c=>p b (by simp only[ar];exact U8 _ c))
  ·simp only[ar,l];exact mi _ c
  ·cases hl with
   | none=>rfl
   | some x=>
    obtain⟨k,v⟩:=x;simp only[b_];rw[(s v (.inr (by simp[tg]))).1]
theorem Core.Aq{w0:aaD}{S:Own}{f:Nat→bg}{h g:Nat→Option yP}{β a:Env}{φ c:Nat→List Nat}{tm:Array aaB}{w w':aaD}
  (k:Core w0 S f h β φ tm w) (X:Nat→Prop)
  (n:w.heap.size≤w'.heap.size) (q:∀b,b<w.heap.size→¬uh h β b→w'.heap[b]? =w.heap[b]?) (r:∀b,uh g a b→uh h β b∨w.heap.size≤b)
  (A:∀i,∀id∈jH (f i),¬X id) (s:∀id,¬X id→a.val id=β.val id∧a.cY id=β.cY id)
  (t:∀id o,g id=some o→
   (¬X id∧h id=some o∧a.nb id=β.nb id∧c id=φ id∧(∀i∈tg o,¬X i)∧∀b∈ar β id o,w'.heap[b]? =w.heap[b]?)∨
   (ef w' (uh g a) a id o (c id)∧(c id).Nodup∧∀b∈c id,(w0.heap.size≤b∨S b)∧b<w'.heap.size))
  (B:∀i j o p,i≠j→g i=some o→g j=some p→∀b∈c i,b ∉ c j) (u:a.gV=β.gV:=by rfl):Core w0 S f g a c tm w' where
 cx i:=dg.mono n q r _ _ (k.cx i) (λid C=>s id (A i id C))
 aC id o ho:=by
  rcases t id o ho with ⟨v,d,x,l,y,z⟩ | d
  ·rw[l];exact (k.aC id o d).mono n q r (λi D=>s i (D.elim (λe=>e ▸ v) (y i))) z x
  ·exact d.1
 fresh id o ho:=by
  rcases t id o ho with ⟨v,d,x,l,y,z⟩ | d
  ·rw[l];refine⟨(k.fresh id o d).1,λb m=>?_⟩;have:=(k.fresh id o d).2 b m;exact⟨this.1,by omega⟩
  ·exact d.2
 sep:=B
 gV b m:=k.gV b (u ▸ m)
 bars:=u.trans k.bars
theorem Core.step{w0:aaD}{S:Own}{f:Nat→bg}{h h':Nat→Option yP}{β β':Env}{φ φ':Nat→List Nat}{tm:Array aaB}{w w':aaD}
  (a:Core w0 S f h β φ tm w) (X:Nat→Prop)
  (c:w.heap.size≤w'.heap.size) (d:∀b,b<w.heap.size→¬uh h β b→w'.heap[b]? =w.heap[b]?) (e:∀b,uh h' β' b→uh h β b∨w.heap.size≤b)
  (g:∀i,∀id∈jH (f i),¬X id) (k:∀id,¬X id→β'.val id=β.val id∧β'.cY id=β.cY id)
  (l:∀id o,h' id=some o→
   (¬X id∧h id=some o∧φ' id=φ id∧(∀i∈tg o,¬X i)∧∀b∈ar β id o,w'.heap[b]? =w.heap[b]?)∨
   (ef w' (uh h' β') β' id o (φ' id)∧(φ' id).Nodup∧∀b∈φ' id,(w0.heap.size≤b∨S b)∧b<w'.heap.size))
  (m:∀i j o p,i≠j→h' i=some o→h' j=some p→∀b∈φ' i,b ∉ φ' j) (n:β'.gV=β.gV:=by rfl) (q:∀id,β'.nb id=β.nb id:=by intro _;rfl):Core w0 S f h' β' φ' tm w':=
 a.Aq X c d e g k (λid o r=>(l id o r).elim (λh=> .inl ⟨h.1,h.2.1,q id,h.2.2⟩) .inr) m n
theorem Core.IX{w0:aaD}{S:Own}{f:Nat→bg}{h:Nat→Option yP}{β:Env}{φ:Nat→List Nat}{tm:Array aaB}{w:aaD}(a:Core w0 S f h β φ tm w)(i:w0.heap.size≤w.heap.size){b:Nat}(c:uh h β b):b<w.heap.size:=by
 rcases c with ⟨j,d,e,g⟩ | c
 ·exact ((a.fresh j d e).2 b (al (a.aC j d e) b g)).2
 ·have:=(a.gV b c).1;omega
theorem Core.BR{w0:aaD}{S:Own}{f:Nat→bg}{h:Nat→Option yP}{β:Env}{φ:Nat→List Nat}{tm:Array aaB}{w:aaD}(a:Core w0 S f h β φ tm w){j:Nat}{c:yP}(e:h j=some c){b:Nat}(g:b∈φ j):¬β.gV b:=by
 intro i;have k:=a.gV b i;rcases ((a.fresh j c e).2 b g).1 with d | d
 ·omega
 ·exact k.2 d
def PB{α:Type}(f:Nat→α)(d:Nat)(x:α):Nat→α:=λi=>if i=d then x else f i
theorem Core.put{w0:aaD}{S:Own}{f:Nat→bg}{h:Nat→Option yP}{β:Env}{φ:Nat→List Nat}{tm:Array aaB}{w:aaD}
  (a:Core w0 S f h β φ tm w) (d:Nat) (s:bg) (v:aaB) (c:d<tm.size) (g:dg w (uh h β) β s v):Core w0 S (PB f d s) h β φ (tm.setIfInBounds d v) w where
 cx i:=by
  by_cases b:i=d
  ·subst b;simpa [PB,Array.getD,c] using g
  ·have:=a.cx i;have e:(tm.setIfInBounds d v).getD i undef=tm.getD i undef:=by simp only[CE,Dr];rw[if_neg (λe=>b e.symm)]
   rw[e];simpa [PB,b] using this
 aC:=a.aC
 fresh:=a.fresh
 sep:=a.sep
 gV:=a.gV
 bars:=a.bars
structure Rel (w0:aaD) (S:Own) (st:CO) (a:Act) (w:aaD):Prop where
 size:a.tmps.size=st.n % 1099511627776
 fx:∀x∈S.fx,x.1<st.n / 1099511627776∧a.tmps.getD x.1 undef=x.2
 defers:a.defers=[]
 kept:Kept S w0 w
 core:∃β φ,Core w0 S st.get st.obj β φ a.tmps w
def M.val{α:Type}(f:Nat→bg)(h:Nat→Option yP):M α→Option α
 | .pure a=>some a
 | .fail=>none
 | .slot i k=>(k (f i)).val f h
 | .obj i k=>match h i with
  | some x=>(k x).val f h
  | none=>none
theorem M.dR{α:Type}{f:Nat→bg}{h:Nat→Option yP} :∀(m:M α) {a:α} {s o:List Nat},m.run f h=some (a,s,o)→m.val f h=some a
 | .pure a,_,_,_,e=>by simp only[M.run,VR,Prod.mk.injEq] at e;simp[M.val,e.1]
 | .fail,_,_,_,e=>by simp[M.run] at e
 | .slot i k,a,s,o,e=>by
  simp only[M.run] at e;split at e
  ·rename_i b d g c;simp only[VR,Prod.mk.injEq] at e;obtain⟨rfl,_,_⟩:=e;exact M.dR (k (f i)) c
  ·cases e
 | .obj i k,a,s,o,e=>by
  simp only[M.run] at e;split at e
  ·rename_i x j;split at e
   ·rename_i b d g c;simp only[VR,Prod.mk.injEq] at e;obtain⟨rfl,_,_⟩:=e;simp only[M.val,j];exact M.dR (k x) c
   ·cases e
  ·cases e
@[simp] theorem M.ag {α β:Type} {f:Nat→bg} {h:Nat→Option yP} (k:α→M β):∀(m:M α),(m.bind k).val f h=(m.val f h).bind λa=>(k a).val f h
 | .pure a=>rfl
 | .fail=>rfl
 | .slot i q=>by simp only[M.bind,M.val];exact M.ag k (q (f i))
 | .obj i q=>by
  simp only[M.bind,M.val]
  cases h i with
  | none=>rfl
  | some x=>exact M.ag k (q x)
@[simp] theorem M.ab {α:Type} {f:Nat→bg} {h:Nat→Option yP} (a:α):(M.pure a).val f h=some a:=rfl
@[simp] theorem M.As {α:Type} {f:Nat→bg} {h:Nat→Option yP} :(M.fail:M α).val f h=none:=rfl
@[simp] theorem M.aY {α:Type} {f:Nat→bg} {h:Nat→Option yP} (i:Nat) (k:yP→M α):(M.obj i k).val f h=(h i).bind λx=>(k x).val f h:=by
 simp only[M.val]
 cases h i<;>rfl
@[simp] theorem M.jd {α:Type} {f:Nat→bg} {h:Nat→Option yP} (i:Nat) (k:bg→M α):(M.slot i k).val f h=(k (f i)).val f h:=rfl
def Bc(f:Nat→bg):aaC→bg
 | .tmp t=>f t
 | .const v=>ofConst v
 | _=> .fV
theorem ngq{f:Nat→bg}{h:Nat→Option yP}{x:aaC}{s:bg}(e:(hF x).val f h=some s):s=Bc f x:=by
 cases x<;>simp[hF,M.val] at e<;>simp[Bc,e]
theorem QV{w:aaD}{b:Nat→Prop}{β:Env}(v:aaB):dg w b β (ofConst v) v:=by
 unfold ofConst;split
 ·simp[dg]
 ·rename_i k n;cases a:bp k n<;>simp[dg,a]
 ·rename_i s;cases a:AS s.data.toList.length maxLen
  ·simp[dg]
  ·simp only[HI,dg];exact⟨by simp,Bt a⟩
 ·simp[dg]
 ·simp[dg]
theorem Core.ev{w0:aaD}{S:Own}{f:Nat→bg}{h:Nat→Option yP}{β:Env}{φ:Nat→List Nat}{a:Act}{w:aaD}
  (b:Core w0 S f h β φ a.tmps w) {x:aaC} {s:bg} (e:(hF x).val f h=some s):dg w (uh h β) β s (a.eval x):=by
 have:=ngq e;subst this;cases x with
 | tmp t=>exact b.cx t
 | const v=>exact QV v
 | global g=>simp[Bc,dg]
 | func g=>simp[Bc,dg]
def xO:List (Nat×Option yP)→(Nat→Option yP)→Nat→Option yP
 | [],h=>h
 | (i,x)::l,h=>PB (xO l h) i x
def Zs:Option (Nat×Nat×List bg)→(Nat→Option yP)→Nat→Option yP
 | none,h=>h
 | some (i,off,b7),h=>match h i with
  | some (.box t cells)=>PB h i (some (.box t (Ge cells off b7)))
  | _=>h
theorem r7(h:List (Nat×yP))(i j:Nat):CH (Qq h i) j=if j=i then none else CH h j:=by
 induction h with
 | nil=>simp[Qq,CH]
 | cons x l c=>
  obtain⟨k,o⟩:=x;simp only[Qq,CH];cases d:AN k i
  ·simp only[rl,CH];cases a:AN k j
   ·simpa using c
   ·have b:=cL a;have e:=BU d;subst b;simp[e]
  ·have b:=cL d;subst b;simp only[HI];rw[c];by_cases a:j=k
   ·simp[a]
   ·have:AN k j=false:=by
     cases f:AN k j
     ·rfl
     ·exact absurd (cL f).symm a
    simp[a,this]
theorem nnN(h:List (Nat×yP))(i j:Nat)(o:yP):CH ((i,o)::h) j=if j=i then some o else CH h j:=by
 simp only[CH];cases a:AN i j
 ·have b:=BU a;rw[if_neg (λe=>b e.symm)];rfl
 ·simp[(cL a).symm]
theorem gN(ow:List (Nat×Option yP))(h:List (Nat×yP)):CH (Vs ow h)=xO ow (CH h):=by
 induction ow with
 | nil=>rfl
 | cons x l a=>
  obtain⟨i,o⟩:=x;funext j;cases o with
  | none=>simp only[Vs,r7,xO,PB,a]
  | some o=>
   simp only[Vs,nnN,r7,xO,PB,a];split<;>rfl
theorem nub(cw:Option (Nat×Nat×List bg))(h:List (Nat×yP)):CH (HD cw h)=Zs cw (CH h):=by
 cases cw with
 | none=>rfl
 | some x=>
  obtain⟨i,off,a⟩:=x;simp only[HD,Zs];cases c:CH h i with
  | none=>rfl
  | some b=>
   cases b with
   | box t cells=>
    funext j;simp only[nnN,r7,PB];split<;>rfl
   | row=>rfl
   | eN=>rfl
   | deep=>rfl
theorem VZ(st:CO)(d:Option Nat)(e:R_):(st.apply d e).obj=xO e.ow (Zs e.cw st.obj):=by show CH (Vs e.ow (HD e.cw st.hp))=_;rw[gN,nub];rfl
theorem apply_get(st:CO)(d:Nat)(e:R_):(st.apply (some d) e).get=PB st.get d e.sv:=by
 funext i;show PM ((d,e.sv)::st.sl) i=_;simp only[PM,PB,CO.get];cases a:AN d i
 ·have b:=BU a;rw[if_neg (λh=>b h.symm)];rfl
 ·simp[(cL a).symm]
theorem nnV(st:CO)(e:R_):(st.apply none e).get=st.get:=rfl
def Good(P:aaA)(w0:aaD)(S:Own)(st:CO)(o:Oper)(e:R_)(a:Act)(w:aaD):Prop:=∀Q,o.wp P a w (λb w'=>∃v,b=a.put o.dst v∧Rel w0 S (st.apply o.dst e) b w') Q
theorem zf{w0:aaD}{S:Own}{st:CO}{o:Oper}{e:R_}{a:Act}{w w':aaD}{v:aaB}(b:Rel w0 S st a w)(f:∀d,o.dst=some d→IW st.n d)
  (g:Kept S w0 w') (c:∃β φ,Core w0 S st.get (xO e.ow (Zs e.cw st.obj)) β φ a.tmps w'∧dg w' (uh (xO e.ow (Zs e.cw st.obj)) β) β e.sv v):
  Rel w0 S (st.apply o.dst e) (a.put o.dst v) w':=by
 obtain⟨β,φ,c,j⟩:=c;cases h:o.dst with
 | none=>
  refine⟨b.size,b.fx,b.defers,g,β,φ, ?_⟩;rw[VZ,nnV];exact c
 | some d=>
  refine⟨?_, ?_,b.defers,g,β,φ, ?_⟩
  ·simp only[Act.put,Array.size_setIfInBounds];exact b.size
  ·intro x k;have i:=b.fx x k;have l:=(f d h).2;refine⟨i.1, ?_⟩;simp only[Act.put,CE,Dr];rw[if_neg (by omega),←CE];exact i.2
  ·rw[VZ,apply_get];exact c.put d e.sv v (by rw[b.size];exact (f d h).1) j
theorem yu{P:aaA}{w0:aaD}{S:Own}{st:CO}{o:Oper}{e:R_}{a:Act}{w w':aaD}{v:aaB}(b:Rel w0 S st a w)(c:∀d,o.dst=some d→IW st.n d)
  (f:(execOp a.eval o).run P w= .ok (.value v) w') (g:Kept S w0 w')
  (h:∃β φ,Core w0 S st.get (xO e.ow (Zs e.cw st.obj)) β φ a.tmps w'∧dg w' (uh (xO e.ow (Zs e.cw st.obj)) β) β e.sv v):Good P w0 S st o e a w:=by
 intro Q;unfold Oper.wp;rw[f];exact⟨v,rfl,zf b c g h⟩
theorem tW{P:aaA}{w0:aaD}{S:Own}{st:CO}{o:Oper}{e:R_}{a:Act}{w w':aaD}(b:Rel w0 S st a w)(c:∀d,o.dst=some d→IW st.n d)
  (f:(execOp a.eval o).run P w= .ok .skip w') (g:Kept S w0 w')
  (h:∃β φ,Core w0 S st.get (xO e.ow (Zs e.cw st.obj)) β φ a.tmps w'∧dg w' (uh (xO e.ow (Zs e.cw st.obj)) β) β e.sv undef):Good P w0 S st o e a w:=by
 intro Q;unfold Oper.wp;rw[f];exact⟨undef,rfl,zf b c g h⟩
theorem R7{P:aaA}{w0:aaD}{S:Own}{st:CO}{o:Oper}{e:R_}{a:Act}{w:aaD}(c:Rel w0 S st a w)(i:∀d,o.dst=some d→IW st.n d)
  (f:e.cw=none) (b:e.ow=[])
  (h:∀β φ,Core w0 S st.get st.obj β φ a.tmps w→∃v,(execOp a.eval o).run P w= .ok (.value v) w∧dg w (uh st.obj β) β e.sv v):Good P w0 S st o e a w:=by
 obtain⟨β,φ,g⟩:=c.core;obtain⟨v,j,k⟩:=h β φ g;refine yu c i j c.kept ⟨β,φ, ?_, ?_⟩
 ·rw[f,b];exact g
 ·rw[f,b];exact k
theorem Az{k:aay}{n:Int} :bp k n=true↔k.min≤n∧n≤k.max:=by simp[bp]
theorem e_(k:aay)(n:Int):bp k (k.wrap n)=true:=Az.2 (wrap_within k n)
theorem Ms(a:BinOp)(k:aay)(x y:Int):bp k (bits a k x y)=true:=Az.2 (bits_within a k x y)
theorem nzb(k:aay):k.min≤0:=by cases k<;>decide
theorem nzi(k:aay):0≤k.max:=by cases k<;>decide
theorem nw5(x y:Int):(0≤x→0≤x.tmod y∧x.tmod y≤x)∧(x≤0→x≤x.tmod y∧x.tmod y≤0):=by
 have a:∀z:Int,0≤z→0≤z.tmod y∧z.tmod y≤z:=by intro z b;refine⟨Int.tmod_nonneg y b, ?_⟩;have h:=Int.natAbs_tmod z y;have c:z.natAbs % y.natAbs≤z.natAbs:=Nat.mod_le _ _;have d:=Int.tmod_nonneg y b;omega
 refine⟨a x,λe=>?_⟩;have h:=a (-x) (by omega);rw[Int.neg_tmod] at h;omega
theorem nEq{k:aay}{x:Int}(y:Int)(h:bp k x=true):bp k (x.tmod y)=true:=by
 rw[Az] at*;have c:=nzb k;have d:=nzi k;have b:=nw5 x y;rcases Int.le_total 0 x with a | a
 ·have:=b.1 a;omega
 ·have:=b.2 a;omega
theorem nrE(x:Int)(n:Nat):(0≤x→0≤x.fdiv (2 ^ n)∧x.fdiv (2 ^ n)≤x)∧(x≤0→x≤x.fdiv (2 ^ n)∧x.fdiv (2 ^ n)≤0):=by
 have b:(1:Int)≤2 ^ n:=by
  have:0<2 ^ n:=Nat.two_pow_pos n;have c:((2 ^ n:Nat):Int)=(2:Int) ^ n:=by simp
  omega
 rw[Int.fdiv_eq_ediv_of_nonneg x (by omega)];generalize (2:Int) ^ n=m at b;refine⟨λa=>⟨Int.ediv_nonneg a (by omega),Int.ediv_le_self m a⟩,λa=>⟨?_, ?_⟩⟩
 ·rw[Int.le_ediv_iff_mul_le (by omega)];have:=Int.mul_le_mul_of_nonpos_left a b;simpa using this
 ·have:=Int.ediv_le_ediv (by omega:(0:Int)<m) a;simpa using this
theorem nbL{k:aay}{x:Int}(n:Nat)(h:bp k x=true):bp k (x.fdiv (2 ^ n))=true:=by
 rw[Az] at*;have c:=nzb k;have d:=nzi k;have b:=nrE x n;rcases Int.le_total 0 x with a | a
 ·have:=b.1 a;omega
 ·have:=b.2 a;omega
theorem nBP{P:aaA}{w:aaD}{d:BinOp}{k:aay}{x y:Int}{t:aaz}{s:bg}{c:Bool}(h:bc d k x y=some (s,c))(a:c=true)(f:bp k x=true)
  {av:Nat→Prop} {β:Env} :∃v,(binOp d t (.int k x) (.int k y)).run P w= .ok v w∧dg w av β s v:=by
 unfold bc at h;split at h<;>simp only[VR,Prod.mk.injEq,reduceCtorEq] at h
 all_goals obtain⟨rfl,e⟩:=h
 ·exact⟨_,by simp[binOp,Op.intArith];rfl,by simp[dg,e_]⟩
 ·exact⟨_,by simp[binOp,Op.intArith];rfl,by simp[dg,e_]⟩
 ·exact⟨_,by simp[binOp,Op.intArith];rfl,by simp[dg,e_]⟩
 ·have b:y≠0:=by rw[←e] at a;simpa using a
  exact⟨_,by simp[binOp,Op.intDiv,b];rfl,by simp[dg,e_]⟩
 ·have b:y≠0:=by rw[←e] at a;simpa using a
  exact⟨_,by simp[binOp,Op.intDiv,b];rfl,by simp[dg,nEq y f]⟩
 ·exact⟨.int k (bits .and k x y),by simp only[binOp,ne_eq,not_true_eq_false,if_false];rfl,by simp[dg,Ms]⟩
 ·exact⟨.int k (bits .or k x y),by simp only[binOp,ne_eq,not_true_eq_false,if_false];rfl,by simp[dg,Ms]⟩
 ·exact⟨.int k (bits .xor k x y),by simp only[binOp,ne_eq,not_true_eq_false,if_false];rfl,by simp[dg,Ms]⟩
 ·exact⟨.int k (bits .andNot k x y),by simp only[binOp,ne_eq,not_true_eq_false,if_false];rfl,by simp[dg,Ms]⟩
 all_goals exact⟨_,by simp[binOp,Op.intCmp];rfl,by simp[dg]⟩
set_option linter.unusedVariables false
set_option linter.unusedSimpArgs false
theorem mu{w:aaD}{g:Nat→Prop}{β:Env}{c:CT}{d:DC}{v:aaB}{f:List Nat}(h:kL w c d v f)(j:∀b∈f,¬g b):dg w g β (RL c d) v:=by
 cases c with
 | int k=>
  simp only[kL] at h;obtain⟨n,rfl,rfl,l,_⟩:=h;simp[RL,DC.asInt,dg,l]
 | bool=>
  simp only[kL] at h;obtain⟨b,rfl,rfl,_⟩:=h;simp[RL,DC.asBool,dg]
 | str=>
  simp only[kL] at h;obtain⟨s,rfl,rfl,m,_⟩:=h;simp[RL,DC.He,dg,m]
 | sl e=>
  have h':=h;simp only[kL] at h;obtain⟨i,a,n,o,rfl,_⟩:=h;simp only[RL,DC.cG,dg];exact⟨f,h',j⟩
theorem kL.one{w:aaD}{c:CT}{d:DC}{v:aaB}{g:List Nat}(h:kL w c d v g):v.oneCell'=true:=by
 cases c with
 | int k=>simp only[kL] at h;obtain⟨n,_,rfl,_⟩:=h;rfl
 | bool=>simp only[kL] at h;obtain⟨b,_,rfl,_⟩:=h;rfl
 | str=>simp only[kL] at h;obtain⟨s,_,rfl,_⟩:=h;rfl
 | sl e=>simp only[kL] at h;obtain⟨f,a,n,i,_,rfl,_⟩:=h;rfl
theorem bj.get{w:aaD} :∀(a:List CT) (r:List DC) (f:Nat→Option aaB) (j:List Nat) (i:Nat) (c:CT),bj w a r f j→a[i]? =some c→
  ∃v e,f i=some v∧kL w c (r.getD i default) v e∧∀b∈e,b∈j
 | [],_,_,_,_,_,_,hi=>by simp at hi
 | c::a,_,_,_,i,x,h,hi=>by
  simp only[bj] at h;obtain⟨d,k,v,l,m,rfl,n,o,p,rfl⟩:=h;cases i with
  | zero=>
   simp at hi;subst hi;exact⟨v,l,n,by simpa using o,λb g=>by simp[g]⟩
  | succ i=>
   obtain⟨q,e,s,t,u⟩:=bj.get a k _ m i x p (by simpa using hi);exact⟨q,e,s,by simpa using t,λb g=>by simp[u b g]⟩
theorem bj.b7{w:aaD}{av:Nat→Prop}{β:Env}{a:List CT}{r:List DC}{f:Nat→Option aaB}{d:List Nat}(h:bj w a r f d)(i:∀b∈d,¬av b):
  ∀(n k:Nat),k+n≤a.length→∃c:List aaB,c.length=n∧(∀j v,c[j]? =some v→f (k+j)=some v)∧qV w av β (BT ((a.drop k).take n) r k) c∧∀x∈c,x.oneCell'=true
 | 0,k,_=>⟨[],rfl,by simp,by simp[BT,qV],by simp⟩
 | n+1,k,hk=>by
  have m:k<a.length:=by omega
  obtain⟨v,A,o,l,p⟩:=bj.get a r f d k a[k] h (by simp);obtain⟨c,q,s,t,y⟩:=bj.b7 (β:=β) h i n (k+1) (by omega);refine⟨v::c,by simp[q], ?_, ?_, ?_⟩
  ·intro j u e;cases j with
   | zero=>simp at e;subst e;simpa using o
   | succ j=>have:=s j u (by simpa using e);rw[←this];congr 1;omega
  ·have:(a.drop k).take (n+1)=a[k]::(a.drop (k+1)).take n:=by rw[List.drop_eq_getElem_cons m,Cw]
   rw[this];simp only[BT,qV];exact⟨v,c,rfl,mu l (λb z=>i b (p b z)),t⟩
  ·intro x g;rcases By.1 g with rfl | g
   ·exact l.one
   ·exact y x g
theorem yM(b o n:Nat):(⟨b,o,none⟩:Addr).add n=⟨b,o+n,none⟩:=by
 unfold Addr.add;split
 ·rename_i h;subst h;rfl
 ·rfl
theorem UL{P:aaA}{w:aaD}{t:aaz}{d:TypeDesc}(h:P.underlying t=some d):(isAgg t).run P w= .ok (Oz P t) w:=by simp only[isAgg,Sem.run_bind,run_underlying h,Result.andThen_ok,Oz,h];cases d<;>rfl
theorem nyU{P:aaA}{t:aaz}(h:Oz P t=true):∃d,P.underlying t=some d:=by unfold Oz at h;split at h<;>first | exact⟨_,by assumption⟩ | cases h
theorem zX{P:aaA}{w:aaD}{t:aaz}{i:TypeInfo}{b o:Nat}{vs:List aaB}(a:Oz P t=true)(c:P.info? t=some i)
  (e:vs.length=i.size) (f:∀j v,vs[j]? =some v→w.cell? ⟨b,o+j,none⟩=some v):
  (Instr.loadAt t (.pointer (some ⟨b,o,none⟩))).run P w= .ok (.agg vs.toArray) w:=by
 obtain⟨d,g⟩:=nyU a;have:=run_loadCells_list (P:=P) (w:=w) ⟨b,o,none⟩ vs (λj v h=>by rw[yM];exact f j v h);rw[e] at this;simp only[Instr.loadAt,Instr.sureAddr,loadVar,Sem.run_bind,Sem.run_pure,Result.andThen_ok,UL g,a,if_true,sizeOf,typeInfo,run_program,c,this]
theorem RQ{P:aaA}{w:aaD}{t:aaz}{d:TypeDesc}{b o:Nat}{v:aaB}(a:Oz P t=false)(c:P.underlying t=some d)
  (e:w.cell? ⟨b,o,none⟩=some v):(Instr.loadAt t (.pointer (some ⟨b,o,none⟩))).run P w= .ok v w:=by
 simp[Instr.loadAt,Instr.sureAddr,loadVar,UL c,a,e]
variable {P:aaA} {Γ:Ctx} {w0:aaD} {S:Own} {st:CO} {o:Oper} {e:R_} {a:Act} {w:aaD}
theorem nhl(c:Rel w0 S st a w)(f:∀d,o.dst=some d→IW st.n d){x:aaC}(b:o.op= .move x∨o.op= .assign x){s:bg}
  (g:(hF x).val st.get st.obj=some s) (h:e= {sv:=s}):Good P w0 S st o e a w:=by
 subst h;refine R7 c f rfl rfl λβ φ i=>⟨a.eval x, ?_,i.ev g⟩;rcases b with b | b<;>simp[execOp,b]
theorem nBu(k:Rel w0 S st a w)(l:∀d,o.dst=some d→IW st.n d){c x y:aaC}(m:o.op= .pick c x y){p i j:bg}
  (q:(hF c).val st.get st.obj=some p) (r:(hF x).val st.get st.obj=some i) (s:(hF y).val st.get st.obj=some j)
  (f:(match p with | .kb t=>M.pure ({sv:=bif t then i else j} :R_) | .bool g=> .pure {sv:=CG g i j} | _=> .fail).val st.get st.obj=some e):Good P w0 S st o e a w:=by
 split at f
 ·rename_i t;simp only[M.ab,VR] at f;subst f;refine R7 k l rfl rfl λβ φ b=>⟨if t then a.eval x else a.eval y, ?_, ?_⟩
  ·have h:=b.ev q;simp only[dg] at h;simp[execOp,m,h,asBool]
  ·cases t
   ·exact b.ev s
   ·exact b.ev r
 ·rename_i t;simp only[M.ab,VR] at f;subst f;refine R7 k l rfl rfl λβ φ b=>⟨if t then a.eval x else a.eval y, ?_, ?_⟩
  ·have h:=b.ev q;simp only[dg] at h;simp[execOp,m,h,asBool]
  ·refine dg.merge _ _ _ _ ?_;cases t
   ·exact b.ev s
   ·exact b.ev r
 ·simp at f
theorem nrh(j:Rel w0 S st a w)(k:∀d,o.dst=some d→IW st.n d){x:aaC}(l:o.op= .nilCheck x){s:bg}(i:(hF x).val st.get st.obj=some s)
  (f:(match s with | .ptr .. =>M.pure ({sv:=s} :R_) | .iv .. => .pure {sv:=s} | .eK .. => .pure {sv:=s} | _=> .fail).val st.get st.obj=some e):Good P w0 S st o e a w:=by
 split at f
 ·simp only[M.ab,VR] at f;subst f;refine R7 j k rfl rfl λβ φ h=>⟨a.eval x, ?_,h.ev i⟩;have c:=h.ev i;simp only[dg] at c;simp[execOp,l,c]
 ·simp only[M.ab,VR] at f;subst f;refine R7 j k rfl rfl λβ φ h=>⟨a.eval x, ?_,h.ev i⟩;have c:=h.ev i;simp only[dg] at c;obtain⟨b,m,p,c,_⟩:=c;simp[execOp,l,c]
 ·simp only[M.ab,VR] at f;subst f;refine R7 j k rfl rfl λβ φ h=>⟨a.eval x, ?_,h.ev i⟩;have c:=h.ev i;simp only[dg] at c;obtain⟨g,_,c⟩:=c;simp[execOp,l,c]
 ·simp at f
theorem nja(l:Rel w0 S st a w)(m:∀d,o.dst=some d→IW st.n d){t:aaz}{x:aaC}{f:Nat}(y:o.op= .fieldAddr t x f){q:Array Field}{j:Field}{i:TypeInfo}
  (A:P.underlying t=some (.struct q)) (B:q[f]? =some j) (u:fF P j.type 0=false) (v:P.info? j.type=some i) {s:bg} (p:(hF x).val st.get st.obj=some s)
  (h:(match s with
     | .ptr id off=>M.pure ({sv:= .ptr id (off+j.offset)} :R_)
     | .iv e r off=> .pure {sv:= .iv e r (off+j.offset)}
     | .eK id i z off=> .pure {sv:= .eK id i z (off+j.offset)}
     | _=> .fail).val st.get st.obj=some e):Good P w0 S st o e a w:=by
 have C:i.size≠0:=by simp only[fF,v] at u;exact BU u
 have run:∀b off,a.eval x= .pointer (some ⟨b,off,none⟩)→(execOp a.eval o).run P w= .ok (.value (.pointer (some ⟨b,off+j.offset,none⟩))) w:=by intro b off c;simp[execOp,y,c,Instr.fieldAt,run_underlying A,B,Instr.sureAddr,fieldPlace,sizeOf,typeInfo,v,C,yM]
 split at h
 ·simp only[M.ab,VR] at h;subst h;refine R7 l m rfl rfl λβ φ k=>?_;have c:=k.ev p;simp only[dg] at c;exact⟨_,run _ _ c,by simp[dg]⟩
 ·simp only[M.ab,VR] at h;subst h;refine R7 l m rfl rfl λβ φ k=>?_;have c:=k.ev p;simp only[dg] at c;obtain⟨b,D,E,c,F,G,H⟩:=c;exact⟨_,run _ _ c,by simp only[dg];exact⟨b,D,E,by rw[Ba],F,G,H⟩⟩
 ·simp only[M.ab,VR] at h;subst h;refine R7 l m rfl rfl λβ φ k=>?_;have c:=k.ev p;simp only[dg] at c;obtain⟨g,I,c⟩:=c;exact⟨_,run _ _ c,by simp only[dg];exact⟨g,I,by rw[Ba]⟩⟩
 ·simp at h
theorem nnB(f:Rel w0 S st a w)(g:∀d,o.dst=some d→IW st.n d){x:aaC}{i:Nat}(h:o.op= .extract x i){b:List bg}{v:bg}
  (j:(hF x).val st.get st.obj=some (.Ej b)) (k:b[i]? =some v) (m:e= {sv:=v}):Good P w0 S st o e a w:=by
 subst m;refine R7 f g rfl rfl λβ φ p=>?_;have c:=p.ev j;simp only[dg] at c;obtain⟨l,q,r⟩:=c;obtain⟨u,s,t⟩:=qV.get _ _ _ _ r k;exact⟨u,by simp[execOp,h,q,Instr.extract,s],t⟩
theorem RA(s:List UInt8):(⟨s.toArray⟩:ByteArray).toList=s:=by rw[Lib.toList_data]
theorem Eb(s:List UInt8):(⟨s.toArray⟩:ByteArray).size=s.length:=by simp[ByteArray.size]
theorem nnd(s t:List UInt8):(⟨s.toArray⟩:ByteArray)++(⟨t.toArray⟩:ByteArray)=⟨(s++t).toArray⟩:=by apply ByteArray.ext;simp
theorem ntk{t:aaz}{ty:TypeDesc}{a:List aaB}{off:Nat}{v:aaB}(b:Oz P t=false)(c:P.underlying t=some ty)(d:a[off]? =some v):(part t a.toArray off).run P w= .ok v w:=by simp only[part,Sem.run_bind,UL c,Result.andThen_ok,b];simp[d]
theorem nqJ{t:aaz}{i:TypeInfo}{a:List aaB}{off:Nat}(b:Oz P t=true)(c:P.info? t=some i):(part t a.toArray off).run P w= .ok (.agg ((a.drop off).take i.size).toArray) w:=by obtain⟨d,e⟩:=nyU b;simp only[part,Sem.run_bind,UL e,Result.andThen_ok,b,if_true,sizeOf,typeInfo,run_program,c,Sem.run_pure];simp[List.extract_eq_take_drop]
theorem niy{i:Nat→Prop}{β:Env}{x y:bg}{v u:aaB}(e:dg w i β x v)(f:dg w i β y u){t:aaz}{ty:TypeDesc}(g:P.underlying t=some ty)(d:Nat){b:Bool}
  (h:yI ty x y=some b):(Op.equalIn (d+1) t v u).run P w= .ok b w:=by
 unfold yI at h;split at h
 ·rename_i m k a l c;by_cases j:k=l
  ·subst j;simp only[decide_true,HI,VR] at h;simp only[dg] at e f;rw[e.1,f.1,run_equalIn_int w d t _ _ _ _ g,h]
  ·simp[j] at h
 ·simp only[VR] at h;simp only[dg] at e f;rw[e.1,f.1,run_equalIn_string w d t _ _ g,RA,RA,h]
 ·simp only[VR] at h;simp only[dg] at e f;rw[e,f,run_equalIn_bool w d t _ _ g,h]
 ·simp only[VR] at h;simp only[dg] at e f;rw[e,f,run_equalIn_bool w d t _ _ g,h]
 ·simp only[VR] at h;simp only[dg] at e f;rw[e,f,run_equalIn_bool w d t _ _ g,h]
 ·cases h
theorem qV.kS{b:Nat→Prop}{β:Env} :∀(AK:List bg) (a:List aaB) (k n:Nat),qV w b β AK a→qV w b β ((AK.drop k).take n) ((a.drop k).take n)
 | [],a,k,n,h=>by simp only[qV] at h;subst h;simp[qV]
 | s::AK,a,k,n,h=>by
  simp only[qV] at h;obtain⟨v,l,rfl,d,c⟩:=h;cases k with
  | succ k=>simpa using qV.kS AK l k n c
  | zero=>
   cases n with
   | zero=>simp[qV]
   | succ n=>
    simp only[List.drop_zero,Cw,qV];exact⟨v,_,rfl,d,by simpa using qV.kS AK l 0 n c⟩
def nj0(P:aaA)(w:aaD)(f:Nat→Prop)(β:Env)(d:Nat)(a:aaz→List bg→List bg→Option Bool):Prop:=∀(t:aaz) (g h:List bg) (c e:List aaB) (b:Bool),qV w f β g c→qV w f β h e→a t g h=some b→ (Oz P t=true→(Op.equalIn d t (.agg c.toArray) (.agg e.toArray)).run P w= .ok b w)∧ (Oz P t=false→(∃ty,P.underlying t=some ty)∧∀v u,c=[v]→e=[u]→(Op.equalIn d t v u).run P w= .ok b w)
theorem nhQ{n:Nat→Prop}{β:Env}{d:Nat}{l:aaz→List bg→List bg→Option Bool}(o:nj0 P w n β d l){p q:List bg}{s t:List aaB}(x:qV w n β p s)(y:qV w n β q t):
  ∀(m:List Field) (b:Bool),RD P l p q m=some b→(Op.eqFields d s.toArray t.toArray m).run P w= .ok b w
 | [],b,h=>by simp only[RD,VR] at h;subst h;rfl
 | f::m,b,h=>by
  unfold RD at h;cases z:f.name== "_"
  ·simp only[z,rl] at h;have G:f.name≠ "_" :=by simpa using z
   split at h
   ·rename_i a c g j;split at h
    ·rename_i e r B H;simp only[VR] at h;have I:=nhQ o x y m r H;unfold Op.eqFields;rw[if_pos G];have key:∃v u:aaB,(part f.type s.toArray f.offset).run P w= .ok v w∧(part f.type t.toArray f.offset).run P w= .ok u w∧(Op.equalIn d f.type v u).run P w= .ok e w:=by
      unfold OL at g j;cases k:Oz P f.type
      ·simp only[k,rl] at g j;split at g
       ·rename_i K L;split at j
        ·rename_i M N;simp only[VR] at g j;subst g;subst j;obtain⟨v1,O,Q⟩:=qV.get _ _ _ _ x L;obtain⟨C,R,S⟩:=qV.get _ _ _ _ y N;obtain⟨⟨ty,D⟩,T⟩:=(o f.type [K] [M] [v1] [C] e (by simp[qV,Q]) (by simp[qV,S]) B).2 k;exact⟨v1,C,ntk k D O,ntk k D R,T _ _ rfl rfl⟩
        ·cases j
       ·cases g
      ·simp only[k,HI] at g j;split at g
       ·rename_i i A;rw[A] at j;simp only[] at j;cases E:AS (f.offset+i.size) p.length
        ·simp[E] at g
        cases F:AS (f.offset+i.size) q.length
        ·simp[F] at j
        simp only[E,F,HI,VR] at g j;subst g;subst j;exact⟨_,_,nqJ k A,nqJ k A,(o _ _ _ _ _ e (qV.kS _ _ _ _ x) (qV.kS _ _ _ _ y) B).1 k⟩
       ·cases g
     obtain⟨v,u,U,W,X⟩:=key;simp only[Sem.run_bind,U,W,X,Result.andThen_ok];subst h;cases e
     ·simp
     ·simpa using I
    ·cases h
   ·cases h
  ·simp[z] at h
theorem nfx{av:Nat→Prop}{β:Env}(d:Nat):∀n:Nat,nj0 P w av β (d+n) (wG P n)
 | 0=>by intro t r s z A b f i h;simp[wG] at h
 | n+1=>by
  intro t r s z A b f i h;have B:=nfx (av:=av) (β:=β) d n;unfold wG at h;split at h
  ·rename_i C a;cases j:P.stoodInHeld t
   ·simp only[j,rl] at h;have c:Oz P t=true:=by simp[Oz,a]
    have k:P.fieldsOf t=C:=by simp[Program.fieldsOf,a]
    refine⟨λ_=>?_,λl=>by rw[c] at l;cases l⟩;rw[←Ba,run_equalIn_agg w (d+n) t _ _ (by rw[k];exact a) j,k];exact nhQ B f i _ _ h
   ·simp[j] at h
  ·rename_i ty D a;split at h
   ·rename_i x y;have m:=f;have o:=i;simp only[qV] at m o;obtain⟨v,G,rfl,E,rfl⟩:=m;obtain⟨u,H,rfl,F,rfl⟩:=o;refine⟨λc=>?_,λ_=>⟨⟨_,a⟩, ?_⟩⟩
    ·unfold Oz at c;rw[a] at c;split at c
     ·rename_i g _ I e;simp only[VR] at e;subst e;simp[yI] at h
     ·rename_i e;simp only[VR] at e;subst e;simp[yI] at h
     ·cases c
    ·intro K L p q;simp only[List.cons.injEq,and_true] at p q;subst p;subst q;rw[←Ba];exact niy E F a (d+n) h
   ·cases h
  ·cases h
theorem nuc(w:aaD)(d:Nat)(t e:aaz)(a:Addr)(l c:Nat)(h:P.underlying t=some (.slice e)):(Op.equalIn (d+1) t (.slice (some a) l c) (.slice none 0 0)).run P w= .ok false w:=by simp[Op.equalIn,run_underlying h]
theorem nwy(w:aaD)(t e:aaz)(a:Addr)(l c:Nat)(h:P.underlying t=some (.slice e)):(Op.equal t (.slice (some a) l c) (.slice none 0 0)).run P w= .ok false w:=nuc w 9999 t e a l c h
theorem nfo(j:Rel w0 S st a w)(l:∀d,o.dst=some d→IW st.n d){Q:BinOp}{t t':aaz}{x y:aaC}(p:o.op= .binOp Q t x y t'){X Z:bg}
  (u:(hF x).val st.get st.obj=some X) (z:(hF y).val st.get st.obj=some Z) (f:(aX P t Q X Z).val st.get st.obj=some e) (H:e.ok=true):Good P w0 S st o e a w:=by
 have R:∀b c:Bool,(∀β φ,Core w0 S st.get st.obj β φ a.tmps w→a.eval x= .bool b∧a.eval y= .bool c)→
   ((b9 P t Q b c).val st.get st.obj=some e)→Good P w0 S st o e a w:=by
  intro b c Er f;unfold b9 at f;cases I:VW P t
  ·simp[I] at f
  have C:P.underlying t=some .bool:=by
   unfold VW at I;split at I
   ·assumption
   ·cases I
  simp only[I,HI] at f;split at f
  ·simp only[M.ab,VR] at f;subst f;refine R7 j l rfl rfl λβ φ g=>⟨_, ?_,by simp[dg];rfl⟩;have:=Er β φ g;simp[execOp,p,this.1,this.2,eqGuard,binOp,run_equal_bool w t b c C]
  ·simp only[M.ab,VR] at f;subst f;refine R7 j l rfl rfl λβ φ g=>⟨_, ?_,by simp[dg];rfl⟩;have:=Er β φ g;simp[execOp,p,this.1,this.2,eqGuard,binOp,run_equal_bool w t b c C]
  ·simp at f
 unfold aX at f;split at f
 ·rename_i k n k' m;split at f
  ·simp only[M.ab,VR] at f;subst f;have N:0≤m:=by simpa using H
   refine R7 j l rfl rfl λβ φ g=>?_;have h:=g.ev u;have i:=g.ev z;simp only[dg] at h i;refine⟨_, ?_,by simp only[dg];exact⟨rfl,e_ _ _⟩⟩;simp[execOp,p,h.1,i.1,eqGuard,binOp,Op.shift,Int.not_lt.2 N]
  ·simp only[M.ab,VR] at f;subst f;have N:0≤m:=by simpa using H
   refine R7 j l rfl rfl λβ φ g=>?_;have h:=g.ev u;have i:=g.ev z;simp only[dg] at h i;refine⟨_, ?_,by simp only[dg];exact⟨rfl,nbL _ h.2⟩⟩;simp[execOp,p,h.1,i.1,eqGuard,binOp,Op.shift,Int.not_lt.2 N]
  ·by_cases hk:k=k'
   ·subst hk;simp only[decide_true,HI] at f;split at f
    ·rename_i s c hi;simp only[M.ab,VR] at f;subst f;refine R7 j l rfl rfl λβ φ g=>?_;have h:=g.ev u;have i:=g.ev z;simp only[dg] at h i;obtain⟨v,bH,hs⟩:=nBP (P:=P) (w:=w) (t:=t) (av:=uh st.obj β) (β:=β) hi H h.2;refine⟨v, ?_,hs⟩;simp[execOp,p,h.1,i.1,eqGuard,bH]
    ·simp at f
   ·simp[hk] at f
 ·rename_i D E;split at f
  ·simp only[M.ab,VR] at f;subst f;have N:D.length+E.length≤9223372036854775807:=by simpa using H
   refine R7 j l rfl rfl λβ φ g=>?_;have h:=g.ev u;have i:=g.ev z;simp only[dg] at h i;refine⟨.string ⟨(D++E).toArray⟩, ?_,by unfold dg;exact⟨rfl,by simp only[Qe,maxLen];omega⟩⟩;have hn:¬(((D.length+E.length:Nat):Int)>IntKind.i64.max):=by
    have:IntKind.i64.max=9223372036854775807:=by decide
    omega
   simp only[execOp,p,h.1,i.1,eqGuard,binOp,Op.stringOp,Eb,nnd];rw[if_neg hn];rfl
  ·simp only[M.ab,VR] at f;subst f;refine R7 j l rfl rfl λβ φ g=>?_;have h:=g.ev u;have i:=g.ev z;simp only[dg] at h i;refine⟨.bool (D==E), ?_,by simp[dg]⟩;simp[execOp,p,h.1,i.1,eqGuard,binOp,Op.stringOp,RA]
  ·simp only[M.ab,VR] at f;subst f;refine R7 j l rfl rfl λβ φ g=>?_;have h:=g.ev u;have i:=g.ev z;simp only[dg] at h i;refine⟨.bool (!(D==E)), ?_,by simp[dg]⟩;simp[execOp,p,h.1,i.1,eqGuard,binOp,Op.stringOp,RA]
  ·simp at f
 ·refine R _ _ (λβ φ g=>?_) f;have h:=g.ev u;have i:=g.ev z;simp only[dg] at h i;exact⟨h,i⟩
 ·refine R _ _ (λβ φ g=>?_) f;have h:=g.ev u;have i:=g.ev z;simp only[dg] at h i;exact⟨h,i⟩
 ·refine R _ _ (λβ φ g=>?_) f;have h:=g.ev u;have i:=g.ev z;simp only[dg] at h i;exact⟨h,i⟩
 ·rename_i xs ys;unfold neW at f;split at f
  ·rename_i fs C;cases O:P.eqGuardType P.depth t
   ·simp only[O,rl] at f;have EJ:Oz P t=true:=by simp[Oz,C]
    have key:∀b,wG P 8 t xs ys=some b→∀β φ,Core w0 S st.get st.obj β φ a.tmps w→∃F G:List aaB,a.eval x= .agg F.toArray∧a.eval y= .agg G.toArray∧(Op.equalIn 10000 t (.agg F.toArray) (.agg G.toArray)).run P w= .ok b w:=by intro b K β φ g;have h:=g.ev u;have i:=g.ev z;simp only[dg] at h i;obtain⟨F,A,D,_⟩:=h;obtain⟨G,B,E,_⟩:=i;exact⟨F,G,A,B,(nfx 9992 8 t xs ys F G b D E K).1 EJ⟩
    split at f
    ·rename_i b K;simp only[M.ab,VR] at f;subst f;refine R7 j l rfl rfl λβ φ g=>⟨.bool b, ?_,by simp[dg]⟩;obtain⟨F,G,A,B,T⟩:=key b K β φ g;simp only[execOp,p,A,B,Sem.run_bind,run_eqGuard_agg w _ t x y _ _ O,Result.andThen_ok,run_eql_struct,T];rfl
    ·rename_i b K;simp only[M.ab,VR] at f;subst f;refine R7 j l rfl rfl λβ φ g=>⟨.bool (!b), ?_,by simp[dg]⟩;obtain⟨F,G,A,B,T⟩:=key b K β φ g;simp only[execOp,p,A,B,Sem.run_bind,run_eqGuard_agg w _ t x y _ _ O,Result.andThen_ok,run_neq_struct,T];rfl
    ·simp at f
   ·simp[O] at f
  ·simp at f
 ·rename_i ct r;have key:∀β φ,0<r.length→Core w0 S st.get st.obj β φ a.tmps w→∃L n c,a.eval x= .slice (some L) n c∧a.eval y= .slice none 0 0:=by
   intro β φ kx g;have h:=g.ev u;have i:=g.ev z;simp only[dg] at h i;obtain⟨fp,jC,_⟩:=h;simp only[kL] at jC;obtain⟨rows,q,n,c,U,hv,hn,_,_,jB⟩:=jC;injection U with U;subst U;rcases jB with ⟨h0,_⟩ | ⟨_,b,off,aE,rfl,_⟩
   ·omega
   ·exact⟨_,n,c,hv,i⟩
  split at f
  ·rename_i W C;simp only[M.ab,VR] at f;subst f;refine R7 j l rfl rfl λβ φ g=>⟨.bool false, ?_,by simp[dg]⟩;obtain⟨L,n,c,A,B⟩:=key β φ (by simpa using H) g;simp[execOp,p,A,B,eqGuard,binOp,nwy w t W L n c C]
  ·rename_i W C;simp only[M.ab,VR] at f;subst f;refine R7 j l rfl rfl λβ φ g=>⟨.bool true, ?_,by simp[dg]⟩;obtain⟨L,n,c,A,B⟩:=key β φ (by simpa using H) g;simp[execOp,p,A,B,eqGuard,binOp,nwy w t W L n c C]
  ·simp at f
 ·simp at f
theorem nc7(i:Rel w0 S st a w)(j:∀d,o.dst=some d→IW st.n d){g:UnOp}{t:aaz}{x:aaC}(c:o.op= .unOp g t x){h:bg}
  (k:(hF x).val st.get st.obj=some h) (f:(Wy g h).val st.get st.obj=some e):Good P w0 S st o e a w:=by
 unfold Wy at f;split at f<;>simp only[M.ab,M.As,VR,reduceCtorEq] at f
 all_goals
  subst f;refine R7 i j rfl rfl λβ φ l=>?_;have b:=l.ev k;simp only[dg] at b
 ·exact⟨_,by simp[execOp,c,b,Op.unary];rfl,by simp[dg]⟩
 ·exact⟨_,by simp[execOp,c,b,Op.unary];rfl,by simp[dg]⟩
 ·exact⟨_,by simp[execOp,c,b.1,Op.unary,Op.intArith];rfl,by simp only[Int.zero_sub];unfold dg;exact⟨rfl,e_ _ _⟩⟩
 ·refine⟨_,by simp only[execOp,c,b.1,Op.unary,intBits_xor];rfl,by unfold dg;exact⟨rfl,Ms _ _ _ _⟩⟩
theorem Q9{w:aaD}{b o:Nat}{a:List aaB}{t:aaz}{c:Nat×Nat}(h:w.heap[b]? =some (.cells a.toArray t c)):w.cell? ⟨b,o,none⟩=a[o]? :=by simp[World.cell?,h]
theorem niJ{w:aaD}{b o:Nat}{a:Array aaB}{t:aaz}{c:Nat×Nat}(h:w.heap[b]? =some (.cells a t c)):w.cell? ⟨b,o,none⟩=a[o]? :=by simp[World.cell?,h]
theorem Em.cell{w:aaD}{t size:Nat}{d:Bool}{v:aaB}{n:Nat}{a:List aaB}(h:Em w t size d v n a){g j:Nat}{u:aaB}(c:v.ownBlock=some g)
  (b:a[j]? =some u):w.cell? ⟨g,j,none⟩=some u:=by
 rcases h.2 with ⟨rfl,_⟩ | ⟨k,cap,e,rfl,f,_,_,_,i⟩
 ·simp[A6] at c
 ·simp[A6] at c;subst c;rw[niJ f];rw[←i,Df] at b;split at b
  ·simpa using b
  ·cases b
theorem Em.block{w:aaD}{t size:Nat}{b:Bool}{v:aaB}{n:Nat}{a:List aaB}(h:Em w t size b v n a)(e:0<n):∃g,v.ownBlock=some g:=by
 rcases h.2 with ⟨rfl,f,_⟩ | ⟨c,cap,d,rfl,_⟩
 ·omega
 ·exact⟨c,rfl⟩
theorem xP{w:aaD}{e:List CT}{r:List (List DC)}{v:aaB}{d:List Nat}(h:kL w (.sl e) (.sl r) v d):
  ∃a n c,v= .slice a n c∧r.length=n∧n≤c∧c≤maxLen∧
   ((n=0∧d=[])∨(0<n∧∃(b o:Nat) (g:List (List Nat)),a=some ⟨b,o,none⟩∧b<w.heap.size∧g.length=n∧d=b::g.flatten∧
    ∀i l f,r[i]? =some l→g[i]? =some f→bj w e l (λj=>w.cell? ⟨b,o+(i*e.length+j),none⟩) f)):=by
 simp only[kL] at h;obtain⟨m,a,n,c,k,p,q,s,t,h⟩:=h;injection k with k;subst k;exact⟨a,n,c,p,q,s,t,h⟩
theorem lU{w:aaD}{e:List CT}{r:List (List DC)}{d:List Nat}{a:Option Addr}{n c:Nat}(l:r.length=n)(m:n≤c)(p:c≤maxLen)
  (h:(n=0∧d=[])∨(0<n∧∃(b o:Nat) (g:List (List Nat)),a=some ⟨b,o,none⟩∧b<w.heap.size∧g.length=n∧d=b::g.flatten∧
    ∀i k f,r[i]? =some k→g[i]? =some f→bj w e k (λj=>w.cell? ⟨b,o+(i*e.length+j),none⟩) f)):kL w (.sl e) (.sl r) (.slice a n c) d:=by
 unfold kL;exact⟨r,a,n,c,rfl,rfl,l,m,p,h⟩
theorem aG{w:aaD}{L:Nat→Prop}{β:Env}{id t:Nat}{e:List CT}{a:List (List DC)}{N u:Bool}{φ:List Nat}(h:ef w L β id (.row t e a N u) φ):
  ∃k,kL w (.sl e) (.sl a) (β.val id) k∧(∀b∈k,b∈(β.val id).ownBlock.toList∨¬L b)∧(u=true→(∀b∈k,b∈φ)∧(φ.Nodup→k.Nodup)):=by
 obtain⟨M,D,n,s,O,P⟩:=h;rcases Du a.length with o | o
 ·refine⟨[], ?_,by simp,by simp⟩;rcases n.2 with ⟨l,_⟩ | ⟨g,cap,E,l,_,x,y,_⟩
  ·rw[l];exact lU o (Cx _) (BE _) (.inl ⟨rfl,rfl⟩)
  ·rw[l];exact lU rfl x y (.inl ⟨o,rfl⟩)
 ·obtain⟨g,z⟩:=n.block o;have Q:=n.lt g (by simp[z]);have l:∃cap,β.val id= .slice (some ⟨g,0,none⟩) a.length cap∧a.length≤cap∧cap≤maxLen:=by
   rcases n.2 with ⟨l,X,_⟩ | ⟨R,cap,E,l,_,x,y,_⟩
   ·omega
   ·have:R=g:=by simpa [l,A6] using z
    subst this;exact⟨cap,l,x,y⟩
  obtain⟨cap,l,x,y⟩:=l;refine⟨g::D.flatten, ?_, ?_, ?_⟩
  ·rw[l];refine lU rfl x y (.inr ⟨o,g,0,D,rfl,Q,s.1,rfl,λi r f S p=>?_⟩);have A:=s.2 i r f S p;refine bj.kI ?_ A;intro j u C;have:=n.cell z C;simpa using this
  ·intro b B;rcases By.1 B with rfl | B
   ·exact .inl (by simp[z])
   ·exact .inr (O b B)
  ·intro T;subst T;have:φ=g::D.flatten:=by rw[P,z];rfl
   rw[this];exact⟨λb B=>B,λU=>U⟩
where
 bj.kI {w:aaD} {m:List CT} {r:List DC} {f q:Nat→Option aaB} {k:List Nat} (p:∀j u,f j=some u→q j=some u) (h:bj w m r f k):bj w m r q k:=by
  induction m generalizing r f q k with
  | nil=>simpa only[bj] using h
  | cons c m F=>
   simp only[bj] at h ⊢;obtain⟨d,G,v,H,I,A,o,n,s,K⟩:=h;exact⟨d,G,v,H,I,A,p 0 v o,n,F (λj u C=>p (j+1) u C) s,K⟩
 bj.jX {w:aaD} {m:List CT} {r:List DC} {f q:Nat→Option aaB} {k:List Nat} (p:∀j u,j<m.length→f j=some u→q j=some u) (h:bj w m r f k):bj w m r q k:=by
  induction m generalizing r f q k with
  | nil=>simpa only[bj] using h
  | cons c m F=>
   simp only[bj] at h ⊢;obtain⟨d,G,v,H,I,A,o,n,s,K⟩:=h;exact⟨d,G,v,H,I,A,p 0 v (by simp) o,n,F (λj u C W=>p (j+1) u (by simp;omega) W) s,K⟩
theorem nxC{w:aaD}{t:aaz}{e:List CT}{a:List (List DC)}{s:Bool}{v:aaB}{c:List aaB}{m:List (List Nat)}(d:Em w t e.length s v a.length c)(p:RN w e a c m):
  ∃q,kL w (.sl e) (.sl a) v q∧q.Sublist (v.ownBlock.toList++m.flatten):=by
 rcases Du a.length with h | h
 ·refine⟨[], ?_,List.nil_sublist _⟩;rcases d.2 with ⟨b,_⟩ | ⟨g,cap,o,b,_,k,l,_⟩
  ·rw[b];exact lU h (Cx _) (BE _) (.inl ⟨rfl,rfl⟩)
  ·rw[b];exact lU rfl k l (.inl ⟨h,rfl⟩)
 ·obtain⟨g,n⟩:=d.block h;have x:=d.lt g (by simp[n]);have b:∃cap,v= .slice (some ⟨g,0,none⟩) a.length cap∧a.length≤cap∧cap≤maxLen:=by
   rcases d.2 with ⟨b,C,_⟩ | ⟨y,cap,o,b,_,k,l,_⟩
   ·omega
   ·have:y=g:=by simpa [b,A6] using n
    subst this;exact⟨cap,b,k,l⟩
  obtain⟨cap,b,k,l⟩:=b;refine⟨g::m.flatten, ?_, ?_⟩
  ·rw[b];refine lU rfl k l (.inr ⟨h,g,0,m,rfl,x,p.1,rfl,λi r f z A=>?_⟩);refine aG.bj.kI ?_ (p.2 i r f z A);intro j u B;have:=d.cell n B;simpa using this
  ·rw[n];exact List.Sublist.refl _
theorem nm1(n:Nat)(Q:Nat→List Nat→Prop)(h:∀i,i<n→∃f,Q i f):∃l:List (List Nat),l.length=n∧∀i f,l[i]? =some f→Q i f:=by
 induction n with
 | zero=>exact⟨[],rfl,by simp⟩
 | succ n b=>
  obtain⟨l,c,d⟩:=b (λi e=>h i (by omega));obtain⟨f,j⟩:=h n (by omega);refine⟨l++[f],by simp[c],λi g a=>?_⟩;rw[List.getElem?_append] at a;split at a
  ·exact d i g a
  ·rename_i e;have:i - l.length=0:=by
    cases m:i - l.length with
    | zero=>rfl
    | succ k=>rw[m] at a;simp at a
   rw[this] at a;simp only[List.getElem?_cons_zero,VR] at a;subst a;have:i=n:=by omega
   subst this;exact j
theorem npM:∀(l m:List (List Nat)),l.length=m.length→(∀(i:Nat) (f g:List Nat),l[i]? =some f→m[i]? =some g→f.Sublist g)→l.flatten.Sublist m.flatten
 | [],[],_,_=>List.Sublist.refl _
 | [],_::_,h,_=>by simp at h
 | _::_,[],h,_=>by simp at h
 | a::l,b::m,h,hs=>by simp only[List.flatten_cons];exact (hs 0 a b rfl rfl).append (npM l m (by simpa using h) (λi f g c d=>hs (i+1) f g (by simpa using c) (by simpa using d)))
theorem QJ.reads{w:aaD} :∀(b:List CT) (y:List aaz) (o:List DC) (p:List aaB) (q:List Nat),QJ w none b y o p q→∃i,bj w b o (λj=>p[j]?) i∧i.Sublist q
 | [],_,_,_,_,h=>by simp only[QJ] at h;obtain⟨_,rfl,rfl,rfl⟩:=h;exact⟨[],by simp[bj],List.Sublist.refl _⟩
 | .sl e::b,_,_,_,_,h=>by simp only[QJ] at h;obtain⟨t,D,r,c,v,n,E,F,rfl,rfl,rfl,z,⟨s,G,A,u,rfl⟩,B,rfl⟩:=h;obtain⟨i,C,x⟩:=nxC A u;rw[u.Ed z,List.append_nil] at x;obtain⟨a,f,g⟩:=QJ.reads b _ _ _ _ B;refine⟨i++a, ?_,x.append g⟩;simp only[bj];exact⟨_,c,v,i,a,rfl,rfl,C,by simpa using f,rfl⟩
 | .int k::b,_,_,_,_,h=>by simp only[QJ] at h;obtain⟨d,c,v,n,rfl,rfl,l,m⟩:=h;obtain⟨a,f,g⟩:=QJ.reads b _ _ _ _ m;refine⟨a, ?_,g⟩;simp only[bj];exact⟨d,c,v,[],a,rfl,rfl,l,by simpa using f,rfl⟩
 | .bool::b,_,_,_,_,h=>by simp only[QJ] at h;obtain⟨d,c,v,n,rfl,rfl,l,m⟩:=h;obtain⟨a,f,g⟩:=QJ.reads b _ _ _ _ m;refine⟨a, ?_,g⟩;simp only[bj];exact⟨d,c,v,[],a,rfl,rfl,l,by simpa using f,rfl⟩
 | .str::b,_,_,_,_,h=>by simp only[QJ] at h;obtain⟨d,c,v,n,rfl,rfl,l,m⟩:=h;obtain⟨a,f,g⟩:=QJ.reads b _ _ _ _ m;refine⟨a, ?_,g⟩;simp only[bj];exact⟨d,c,v,[],a,rfl,rfl,l,by simpa using f,rfl⟩
theorem uR{α:Type}{l:List α}{k n j:Nat}{u:α}(h:((l.drop k).take n)[j]? =some u):l[k+j]? =some u:=by
 rw[Df] at h;split at h
 ·rwa[List.getElem?_drop] at h
 ·cases h
theorem R9.reads{w:aaD}{e:List CT}{s:List aaz}{a:List (List DC)}{b:List aaB}{c:List (List Nat)}(h:R9 w e s a b (λ_=>none) c):
  ∃d,RN w e a b d∧d.flatten.Sublist c.flatten:=by
 obtain⟨d,o,p⟩:=nm1 a.length (λi f=>∀r m,a[i]? =some r→c[i]? =some m→bj w e r (λj=>b[i*e.length+j]?) f∧f.Sublist m) (λi g=>by
  have l:i<c.length:=by rw[h.1];exact g
  obtain⟨f,t,v⟩:=QJ.reads _ _ _ _ _ (h.2 i a[i] c[i] (by simp) (by simp));refine⟨f,λr m k q=>?_⟩;rw[Dv g,VR] at k;rw[Dv l,VR] at q;subst k q;exact⟨aG.bj.kI (λj u x=>uR x) t,v⟩)
 refine⟨d,⟨o,λi r f k n=>?_⟩,npM d c (by rw[o,h.1]) (λi f m n l=>?_)⟩
 ·have g:i<a.length:=(DA.1 k).1;have l:i<c.length:=by rw[h.1];exact g
  exact (p i f n r c[i] k (by simp)).1
 ·have g:i<a.length:=by rw[←o];exact (DA.1 n).1
  exact (p i f n a[i] m (by simp) l).2
def G3(o:yP)(e:List CT)(a:List (List DC))(u:Bool):Prop:=(∃t b,o= .row t e a b u)∨(∃t c,o= .deep t e c a none∧u=true)
theorem by4{w:aaD}{g:Nat→Prop}{β:Env}{id:Nat}{o:yP}{e:List CT}{a:List (List DC)}{u:Bool}{φ:List Nat}(h:ef w g β id o φ)(j:G3 o e a u):
  ∃c,kL w (.sl e) (.sl a) (β.val id) c∧(∀b∈c,b∈ar β id o∨¬g b)∧(u=true→(∀b∈c,b∈φ)∧(φ.Nodup→c.Nodup)):=by
 rcases j with ⟨t,x,rfl⟩ | ⟨t,y,rfl,rfl⟩
 ·exact aG h
 ·obtain⟨i,k,l,m,n,rfl⟩:=h;obtain⟨z,p,q⟩:=m.reads;obtain⟨c,r,s⟩:=nxC l p;have d:c.Sublist ((β.val id).ownBlock.toList++k.flatten):=s.trans ((List.Sublist.refl _).append q);exact⟨c,r,λb f=> .inl (by simp only[ar,n];exact d.subset f),λ_=>⟨λb f=>d.subset f,λv=>d.nodup v⟩⟩
theorem neb(r:Rel w0 S st a w)(u:∀d,o.dst=some d→IW st.n d){t:aaz}{x i:aaC}(v:o.op= .index t x i){c f:bg}
  (g:(hF x).val st.get st.obj=some c) (h:(hF i).val st.get st.obj=some f) (b:(To P t c f).val st.get st.obj=some e) (j:e.ok=true):Good P w0 S st o e a w:=by
 unfold To at b;split at b
 ·rename_i s k n y;simp only[M.ab,VR] at b;subst b;simp only[gF,kQ] at j;obtain⟨z,B⟩:=j;refine R7 r u rfl rfl λβ φ l=>?_;have m:=l.ev g;have p:=l.ev h;simp only[dg] at m p;have q:n.toNat<s.length:=by omega
  refine⟨.int .u8 (s.getD n.toNat 0).toNat, ?_, ?_⟩
  ·have A:(⟨s.toArray⟩:ByteArray)[n.toNat]? =some (s.getD n.toNat 0):=by rw[ByteArray.getElem?_lt' _ _ (by rw[Eb];exact q)];simp[ByteArray.getElem_eq_getElem_data,List.getD,q]
   simp[execOp,v,m.1,p.1,Instr.index,asIntOf,run_underlying y,z,A]
  ·unfold dg;refine⟨rfl, ?_⟩;have:=(s.getD n.toNat 0).toNat_lt;rw[Az];have g:IntKind.u8.min=0:=by decide
   have h:IntKind.u8.max=255:=by decide
   omega
 ·simp at b
theorem nwg(s:Rel w0 S st a w)(t:∀d,o.dst=some d→IW st.n d){mx:Bool}{c:Call}{x y:aaC}(h:o.op= .call c)(i:c.callee= .builtin (bif mx then .max else .min))
  (j:c.args= #[x,y]) {l p:bg} (b:(hF x).val st.get st.obj=some l) (f:(hF y).val st.get st.obj=some p) (g:(Bb mx l p).val st.get st.obj=some e):Good P w0 S st o e a w:=by
 unfold Bb at g;split at g
 ·rename_i k n u m;by_cases q:k=u
  ·subst q;simp only[decide_true,HI,M.ab,VR] at g;subst g;refine R7 s t rfl rfl λβ φ r=>?_;have b:=r.ev b;have f:=r.ev f;simp only[dg] at b f;refine⟨.int k (bif mx then (if n<m then m else n) else (if m<n then m else n)), ?_, ?_⟩
   ·cases mx
    ·simp[execOp,h,resolve,i,j,invoke,builtin,b.1,f.1,Builtin.min_,Builtin.min2]
    ·simp[execOp,h,resolve,i,j,invoke,builtin,b.1,f.1,Builtin.max_,Builtin.max2]
   ·cases mx
    ·unfold dg;refine⟨rfl, ?_⟩;simp only[rl];split
     ·exact f.2
     ·exact b.2
    ·unfold dg;refine⟨rfl, ?_⟩;simp only[HI];split
     ·exact f.2
     ·exact b.2
  ·simp[q] at g
 ·simp at g
theorem V2{n:Nat}(h:n≤maxLen):bp .i64 (n:Int)=true:=by
 rw[Az];have a:IntKind.i64.min= -9223372036854775808:=by decide
 have b:IntKind.i64.max=9223372036854775807:=by decide
 simp only[maxLen] at h;omega
theorem njl(v:Rel w0 S st a w)(z:∀d,o.dst=some d→IW st.n d){c:Call}{x:aaC}{t:aaz}(A:o.op= .call c)(B:c.callee= .builtin .len)
  (C:c.args= #[x]) (D:c.argTypes= #[t]) {E:bg} (f:(hF x).val st.get st.obj=some E) (g:(Pu P t E).val st.get st.obj=some e):Good P w0 S st o e a w:=by
 have y:∀(l:aaz) (n:Nat),P.underlying t=some (.slice l)→n≤maxLen→e= {sv:= .int .i64 n} →
   (∀β φ,Core w0 S st.get st.obj β φ a.tmps w→∃q c,a.eval x= .slice q n c)→Good P w0 S st o e a w:=by
  intro l n k m g h;subst g;refine R7 v z rfl rfl λβ φ b=>?_;obtain⟨q,i,h⟩:=h β φ b;refine⟨.int .i64 n, ?_,by unfold dg;exact⟨rfl,V2 m⟩⟩;simp[execOp,A,resolve,B,C,D,invoke,builtin,h,Builtin.len_,run_underlying k,goInt]
 unfold Pu at g;split at g
 ·rename_i s k;simp only[M.ab,VR] at g;subst g;refine R7 v z rfl rfl λβ φ b=>?_;have f:=b.ev f;simp only[dg] at f;refine⟨.int .i64 s.length, ?_,by unfold dg;exact⟨rfl,V2 f.2⟩⟩;simp[execOp,A,resolve,B,C,D,invoke,builtin,f.1,Builtin.len_,run_underlying k,goInt,Eb]
 ·rename_i l k;simp only[M.ab,VR] at g;refine y l 0 k (BE _) g.symm λβ φ b=>?_;have f:=b.ev f;simp only[dg] at f;exact⟨none,0,f⟩
 ·rename_i l F r k;simp only[M.ab,VR] at g;have key:∀β φ,Core w0 S st.get st.obj β φ a.tmps w→∃q c,a.eval x= .slice q r.length c∧r.length≤maxLen:=by intro β φ b;have f:=b.ev f;simp only[dg] at f;obtain⟨G,f,_⟩:=f;obtain⟨q,n,i,h,m,H,I,_⟩:=xP f;exact⟨q,i,by rw[m];exact h,by omega⟩
  obtain⟨β,φ,b⟩:=v.core;obtain⟨_,_,_,j⟩:=key β φ b;exact y l r.length k j g.symm λβ φ b=>by obtain⟨q,i,h,_⟩:=key β φ b;exact⟨q,i,h⟩
 ·rename_i l id k;simp only[M.aY,sC] at g;obtain⟨L,K,g⟩:=g;split at g
  ·rename_i N F r O u;simp only[M.ab,VR] at g;have key:∀β φ,Core w0 S st.get st.obj β φ a.tmps w→∃q c,a.eval x= .slice q r.length c∧r.length≤maxLen:=by intro β φ b;have f:=b.ev f;simp only[dg] at f;obtain⟨G,p,_,_⟩:=aG (b.aC id _ K);obtain⟨q,n,i,h,m,H,I,_⟩:=xP p;exact⟨q,i,by rw[m,f.1];exact h,by omega⟩
   obtain⟨β,φ,b⟩:=v.core;obtain⟨_,_,_,j⟩:=key β φ b;exact y l r.length k j g.symm λβ φ b=>by obtain⟨q,i,h,_⟩:=key β φ b;exact⟨q,i,h⟩
  ·rename_i F r;simp only[M.ab,VR] at g;have key:∀β φ,Core w0 S st.get st.obj β φ a.tmps w→∃q c,a.eval x= .slice q r.length c∧r.length≤maxLen:=by intro β φ b;have f:=b.ev f;simp only[dg] at f;obtain⟨p,_⟩:=b.aC id _ K;simp only[dg] at p;obtain⟨G,p,_⟩:=p;obtain⟨q,n,i,h,m,H,I,_⟩:=xP p;exact⟨q,i,by rw[m,f.1];exact h,by omega⟩
   obtain⟨β,φ,b⟩:=v.core;obtain⟨_,_,_,j⟩:=key β φ b;exact y l r.length k j g.symm λβ φ b=>by obtain⟨q,i,h,_⟩:=key β φ b;exact⟨q,i,h⟩
  ·simp at g
 ·simp at g
theorem Xo{t:aaz}{n:Nat}(h:fF P t n=true):∃i,P.info? t=some i∧i.size=n:=by
 unfold fF at h;split at h
 ·rename_i i a;exact⟨i,a,cL h⟩
 ·cases h
theorem G1{α:Type}{l:List α}{i:Nat}{d:α}(h:i<l.length):l[i]? =some (l.getD i d):=by simp[List.getD,h]
theorem ns2(I:Rel w0 S st a w)(K:∀d,o.dst=some d→IW st.n d){t:aaz}{x i:aaC}(Z:o.op= .indexAddr t x i){L N:bg}
  (F:(hF x).val st.get st.obj=some L) (O:(hF i).val st.get st.obj=some N) (f:(vd P t L N).val st.get st.obj=some e) (z:e.ok=true):Good P w0 S st o e a w:=by
 unfold vd at f;split at f
 ·rename_i A k n hu;have run:∀(b v m c:Nat) (s:TypeInfo),P.info? A=some s→0≤n→n<(m:Int)→a.eval x= .slice (some ⟨b,v,none⟩) m c→(∃Q,a.eval i= .int Q n)→
    (execOp a.eval o).run P w= .ok (.value (.pointer (some ⟨b,v+n.toNat*s.size,none⟩))) w:=by
   rintro b v m c s B G R l ⟨Q,ey⟩
   simp[execOp,Z,l,ey,Instr.indexAt,asIntOf,run_underlying hu,G,R,sizeOf,typeInfo,B,yM]
  have T:∀(h:List CT) (r:List (List DC)),fF P A h.length=true→e= {sv:= .iv h (r.getD n.toNat []) 0,ok:=decide (0≤n) && decide (n<r.length)} →
    (∀β φ,Core w0 S st.get st.obj β φ a.tmps w→dg w (uh st.obj β) β (.sl h r) (a.eval x))→Good P w0 S st o e a w:=by
   intro h r j f l;subst f;simp only[gF,kQ] at z;obtain⟨s,B,H⟩:=Xo j;refine R7 I K rfl rfl λβ φ p=>?_;have l:=l β φ p;have C:=p.ev O;simp only[dg] at l C;obtain⟨fp,hr,U⟩:=l;obtain⟨q,m,c,E,R,_,_,jB⟩:=xP hr;have kx:0<m:=by omega
   rcases jB with ⟨G,_⟩ | ⟨_,b,v,D,rfl,cA,hl,rfl,fg⟩
   ·omega
   ·have Lf:n.toNat<r.length:=by omega
    refine⟨_,run b v m c s B z.1 (by omega) E ⟨k,C.1⟩, ?_⟩;have hb:¬uh st.obj β b:=U b (by simp);have hf:D[n.toNat]? =some D[n.toNat]:=by simp
    have:=fg n.toNat (r.getD n.toNat []) D[n.toNat] (G1 Lf) hf;simp only[dg];refine⟨b,v+n.toNat*h.length,D[n.toNat],by rw[H];rfl,cA,hb, ?_,λy hy=>U y ?_⟩
    ·simpa only[Ba] using this
    ·simp only[By,A4];exact .inr ⟨_,List.getElem_mem _,hy⟩
  split at f
  ·rename_i h r;cases j:fF P A h.length
   ·simp[j] at f
   ·simp only[j,HI,M.ab,VR] at f;exact T h r j f.symm λβ φ p=>p.ev F
  ·rename_i id;simp only[M.aY,sC] at f;obtain⟨ob,W,f⟩:=f;split at f
   ·rename_i t' h r fz u;cases j:fF P A h.length
    ·simp[j] at f
    ·simp only[j,HI,M.ab,VR] at f;subst f;simp only[gF,kQ] at z;obtain⟨s,B,H⟩:=Xo j;refine R7 I K rfl rfl λβ φ p=>?_;have l:=p.ev F;have C:=p.ev O;simp only[dg] at l C;obtain⟨X,D,bk,_⟩:=p.aC id _ W;rcases bk.2 with ⟨_,G,_⟩ | ⟨g,cap,cur,E,_⟩
     ·omega
     ·refine⟨_,run g 0 r.length cap s B z.1 z.2 (l.1.trans E) ⟨k,C.1⟩, ?_⟩;simp only[dg];exact⟨g,by rw[E];rfl,by rw[H];simp⟩
   ·rename_i h r;cases j:fF P A h.length
    ·simp[j] at f
    ·simp only[j,HI,M.ab,VR] at f;refine T h r j f.symm λβ φ p=>?_;have l:=p.ev F;simp only[dg] at l;rw[l.1];exact (p.aC id _ W).1
   ·simp at f
  ·simp at f
 ·simp at f
theorem nyY(Q:Rel w0 S st a w)(R:∀d,o.dst=some d→IW st.n d){t:aaz}{x:aaC}(ho:o.op= .load t x){sx:bg}
  (U:(hF x).val st.get st.obj=some sx) (f:(oK P t sx).val st.get st.obj=some e) (aN:e.ok=true):Good P w0 S st o e a w:=by
 unfold oK at f;split at f
 case h_2=>simp at f
 rename_i td hu;have agg:∀(b F:Nat) (A:List aaB) (i:TypeInfo),Oz P t=true→P.info? t=some i→A.length=i.size→(∀j v,A[j]? =some v→w.cell? ⟨b,F+j,none⟩=some v)→
   a.eval x= .pointer (some ⟨b,F,none⟩)→(execOp a.eval o).run P w= .ok (.value (.agg A.toArray)) w:=by
  intro b F A i X B hl p h;simp[execOp,ho,h,zX X B hl p]
 have L:∀(b F:Nat) (v:aaB),Oz P t=false→w.cell? ⟨b,F,none⟩=some v→a.eval x= .pointer (some ⟨b,F,none⟩)→(execOp a.eval o).run P w= .ok (.value v) w:=by intro b F v X p h;simp[execOp,ho,h,RQ X hu p]
 unfold lW at f;split at f
 ·rename_i id off;simp only[M.aY,sC] at f;obtain⟨ob,W,f⟩:=f;split at f
  ·rename_i t' N;cases r:Oz P t
   ·simp only[r,rl] at f;split at f
    ·rename_i s hs;simp only[M.ab,VR] at f;subst f;refine R7 Q R rfl rfl λβ φ m=>?_;have h:=m.ev U;simp only[dg] at h;obtain⟨A,Z,C,_,_⟩:=m.aC id _ W;obtain⟨v,D,fK⟩:=qV.get _ _ _ _ C hs;exact⟨v,L _ _ v r (by rw[Q9 Z];exact D) h,fK⟩
    ·simp at f
   ·simp only[r,HI] at f;split at f
    ·rename_i i B;cases q:AS (off+i.size) N.length
     ·simp[q] at f
     ·simp only[q,HI,M.ab,VR] at f;subst f;have H:=Bt q;refine R7 Q R rfl rfl λβ φ m=>?_;have h:=m.ev U;simp only[dg] at h;obtain⟨A,Z,C,bo,_⟩:=m.aC id _ W;have hlen:=qV.length _ _ C;refine⟨_,agg _ off ((A.drop off).take i.size) i r B (by simp;omega) (λj v G=>?_) h, ?_⟩
      ·rw[Q9 Z];rw[Df] at G;split at G
       ·simpa using G
       ·cases G
      ·simp only[dg];exact⟨_,rfl,qV.take _ _ _ (qV.drop _ _ _ C),λy O=>bo y (List.mem_of_mem_drop (List.mem_of_mem_take O))⟩
    ·simp at f
  ·simp at f
 ·rename_i K row off;cases r:Oz P t
  ·simp only[r,rl] at f;split at f
   ·rename_i c BC;simp only[M.ab,VR] at f;subst f;refine R7 Q R rfl rfl λβ φ m=>?_;have h:=m.ev U;simp only[dg] at h;obtain⟨b,F,T,D,_,_,C,I⟩:=h;obtain⟨v,Bz,e1,e2,e3⟩:=bj.get _ _ _ _ _ _ C BC;exact⟨v,L _ _ v r e1 D,mu e2 (λy O=>I y (e3 y O))⟩
   ·simp at f
  ·simp only[r,HI] at f;split at f
   ·rename_i i B;cases q:AS (off+i.size) K.length
    ·simp[q] at f
    ·simp only[q,HI,M.ab,VR] at f;subst f;have H:=Bt q;refine R7 Q R rfl rfl λβ φ m=>?_;have h:=m.ev U;simp only[dg] at h;obtain⟨b,F,T,D,_,_,C,I⟩:=h;obtain⟨A,l1,l2,l3,l4⟩:=bj.b7 (β:=β) C I i.size off H;refine⟨_,agg b (F+off) A i r B l1 (λj v G=>?_) D, ?_⟩
     ·have:=l2 j v G;rw[←this,Ba]
     ·simp only[dg];exact⟨A,rfl,l3,l4⟩
   ·simp at f
 ·rename_i id i z off;simp only[M.aY,sC] at f;obtain⟨ob,W,f⟩:=f;split at f
  ·rename_i t' K l fz u;cases q:AN z K.length
   ·simp[q] at f
   have JX:=cL q;simp only[q,Bool.not_true,rl] at f;have E:∀β φ,Core w0 S st.get st.obj β φ a.tmps w→i<l.length→∃g T,a.eval x= .pointer (some ⟨g,i*K.length+off,none⟩)∧
     bj w K (l.getD i []) (λj=>w.cell? ⟨g,i*K.length+j,none⟩) T∧∀y∈T,¬uh st.obj β y:=by
    intro β φ m B;have h:=m.ev U;simp only[dg] at h;obtain⟨g,hg,D⟩:=h;obtain⟨vals,aE,bk,dj,I,_⟩:=m.aC id _ W;have hf:i<aE.length:=by rw[dj.1];exact B
    have:=dj.2 i (l.getD i []) aE[i] (G1 B) (by simp);refine⟨g,aE[i],by rw[D,JX],aG.bj.kI (λj v G=>bk.cell hg G) this,λy O=>I y ?_⟩;exact A4.2 ⟨_,List.getElem_mem _,O⟩
   cases r:Oz P t
   ·simp only[r,rl] at f;split at f
    ·rename_i c BC;simp only[M.ab,VR] at f;subst f;have B:i<l.length:=by simpa using aN
     refine R7 Q R rfl rfl λβ φ m=>?_;obtain⟨g,T,D,C,I⟩:=E β φ m B;obtain⟨v,Bz,e1,e2,e3⟩:=bj.get _ _ _ _ _ _ C BC;exact⟨v,L _ _ v r e1 D,mu e2 (λy O=>I y (e3 y O))⟩
    ·simp at f
   ·simp only[r,HI] at f;split at f
    ·rename_i j G;cases q:AS (off+j.size) K.length
     ·simp[q] at f
     ·simp only[q,HI,M.ab,VR] at f;subst f;have B:i<l.length:=by simpa using aN
      have H:=Bt q;refine R7 Q R rfl rfl λβ φ m=>?_;obtain⟨g,T,D,C,I⟩:=E β φ m B;obtain⟨A,l1,l2,l3,l4⟩:=bj.b7 (β:=β) C I j.size off H;refine⟨_,agg g (i*K.length+off) A j r G l1 (λk v hk=>?_) D, ?_⟩
      ·have:=l2 k v hk;rw[←this,Ba]
      ·simp only[dg];exact⟨A,rfl,l3,l4⟩
    ·simp at f
  ·simp at f
 ·simp at f
end Go.Proofs.YteffpikahopfoaaGreat.Vm
