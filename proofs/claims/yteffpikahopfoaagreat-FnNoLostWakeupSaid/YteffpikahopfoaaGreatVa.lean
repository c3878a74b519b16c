/- Conditions: as each says. -/
import Derived.WalkKit
import Derived.Maps.AppendAt
import Derived.Orders
import Derived.Lib.Strings
open Nat renaming beq→zc,ble→zP,blt→zS,add_assoc→AN,le_of_ble_eq_true→AS,zero_le→Bb,ne_of_beq_eq_false→Bd,le_refl→BE,eq_zero_or_pos→CE
open List renaming mem_flatten→AI,mem_cons→AT,getElem_of_mem→Bi,mem_of_getElem?→By,take_succ_cons→BC,getElem?_take→B3,getElem?_eq_getElem→CF,getElem?_eq_some_iff→CN
open Go.Value renaming ownBlock→AL
open Array renaming getD_eq_getD_getElem?→BY,getElem?_setIfInBounds→Cz
open Go renaming IntKind→Zh,TypeId→aae,Program→aaf,Value→aag,Operand→aah,World→aai
namespace Go.Proofs.YteffpikahopfoaaGreat.Vm
theorem DF(n:Nat)(h:0<n:=by omega):∃q,n=q+1:=⟨n-1,by omega⟩
noncomputable def bW{β:Type}(z:β)(f:β→β)(n:Nat):β:=Nat.rec z (λ_=>f) n
theorem H{α:Sort _}(a b:α):cond true a b=a:=rfl
theorem J{α:Sort _}(a b:α):cond false a b=b:=rfl
theorem Bl(a b:Bool):((a && b)=true)=(a=true∧b=true):=Bool.and_eq_true a b
theorem Y{α:Type _}(a b:α):(some a=some b)=(a=b):=Option.some.injEq a b
theorem UI{α:Type _}{β:Type _}{b:β}{o:Option α}{f:α→Option β} :o.bind f=some b↔∃a,o=some a∧f a=some b:=Option.bind_eq_some_iff
theorem js{p:Prop} [Decidable p]:(decide p=true)=p:=decide_eq_true_eq
theorem Hd{p:Prop} [Decidable p] (h:p):decide p=true:=decide_eq_true h
theorem ja{p:Prop} [Decidable p] (h:¬p):decide p=false:=decide_eq_false h
theorem eR(n:Nat):(n:Int).toNat=n:=Int.toNat_natCast n
theorem Vs{a b:Nat}(h:zc a b=true):a=b:=Nat.eq_of_beq_eq_true h
theorem wZ{α:Type _}{a:α}(b:List α){c:List α}(h:a∈c):a∈b++c:=List.mem_append_right b h
theorem Ss{α:Type _}{a:α}{b:List α}(c:List α)(h:a∈b):a∈b++c:=List.mem_append_left c h
theorem fK{α:Type _}{a b:List α} :(a++b).length=a.length+b.length:=List.length_append
theorem I_{α:Type _}{a:α}{b:List α} :(a::b).length=b.length+1:=rfl
inductive CT where
 | int (k:Zh)
 | bool
 | str
 | sl (e:List CT)
inductive DC where
 | int (n:Int)
 | bool (b:Bool)
 | str (s:List UInt8)
 | sl (rows:List (List DC))
instance:Inhabited DC:=⟨.int 0⟩
def t(x y:Bool):Bool:=cond y x false
theorem cI(x y:Bool):(t x y=true)=(x=true∧y=true):=by cases x<;>cases y<;>simp[t]
def DC.asInt:DC→Int
 | .int n=>n
 | _=>0
def DC.asBool:DC→Bool
 | .bool b=>b
 | _=>false
def DC.Hm:DC→List UInt8
 | .str s=>s
 | _=>[]
def DC.cG:DC→List (List DC)
 | .sl r=>r
 | _=>[]
inductive X where
 | ga
 | undef
 | kb (b:Bool)
 | int (k:Zh) (n:Int)
 | bool (b:Bool)
 | str (s:List UInt8)
 | sl (e:List CT) (rows:List (List DC))
 | nil
 | own (id:Nat)
 | agg (cs:List X)
 | ptr (id off:Nat)
 | iD (e:List CT) (row:List DC) (off:Nat)
 | eS (id i sz off:Nat)
 | Es (vs:List X)
 | GL (g:Nat) (cs:List X)
 | GH (id lo z:Nat)
instance:Inhabited X:=⟨.ga⟩
inductive xC where
 | box (t:aae) (cells:List X)
 | row (t:aae) (e:List CT) (rows:List (List DC)) (fz u:Bool)
 | eV (e:List CT) (rows:List (List DC))
 | deep (t:aae) (e:List CT) (ts:List aae) (rows:List (List DC)) (hl:Option (Nat×Nat))
mutual
def Of:CT→CT→Bool
 | .int k,.int k'=>decide (k=k')
 | .bool,.bool=>true
 | .str,.str=>true
 | .sl e,.sl e'=>cB e e'
 | _,_=>false
def cB:List CT→List CT→Bool
 | [],[]=>true
 | a::l,b::m=>Of a b && cB l m
 | _,_=>false
end
def W4(P:aaf):Nat→aae→Option (List CT)
 | 0,_=>none
 | n+1,t=>
  match P.underlying t with
  | some .bool=>some [.bool]
  | some (.int k)=>some [.int k]
  | some .string=>some [.str]
  | some (.slice e)=>match W4 P n e with | some l=>some [.sl l] | none=>none
  | some (.struct fs)=>fs.toList.foldr (λf r=>match W4 P n f.type,r with | some l,some m=>some (l++m) | _,_=>none) (some [])
  | _=>none
def fC(P:aaf)(t:aae):Bool:=
 match P.underlying t with
 | some (.struct _)=>true
 | some (.array _ _)=>true
 | _=>false
def dQ(k:Zh)(n:Int):Bool:=decide (k.min≤n) && decide (n≤k.max)
def ofConst:aag→X
 | .bool b=> .kb b
 | .int k n=>cond (dQ k n) (.int k n) (.ga)
 | .string s=>cond (zP s.data.toList.length maxLen) (.str s.data.toList) (.ga)
 | .slice none 0 0=> .nil
 | _=> .ga
def yz:CT→DC→X
 | .int k,d=> .int k d.asInt
 | .bool,d=> .bool d.asBool
 | .str,d=> .str d.Hm
 | .sl e,d=> .sl e d.cG
def C4:List CT→List DC→Nat→List X
 | [],_,_=>[]
 | c::cs,ds,k=>yz c (ds.getD k default)::C4 cs ds (k+1)
inductive M (α:Type) where
 | pure (a:α)
 | fail
 | slot (i:Nat) (k:X→M α)
 | obj (id:Nat) (k:xC→M α)
def M.bind{α β:Type} :M α→(α→M β)→M β
 | .pure a,f=>f a
 | .fail,_=> .fail
 | .slot i k,f=> .slot i λs=>(k s).bind f
 | .obj i k,f=> .obj i λs=>(k s).bind f
instance:Monad M where
 pure:=M.pure
 bind:=M.bind
structure Nf where
 sv:X
 cw:Option (Nat×Nat×List X):=none
 ow:List (Nat×Option xC):=[]
 ok:Bool:=true
structure fG where
 bF:List CT
 agg:Bool
inductive Pj where
 | eV (ct:CT)
 | own (t:aae) (e:List CT)
 | deep (t:aae) (e:List CT) (ts:List aae)
structure ef where
 cells:List Pj
 agg:Bool
inductive dy where
 | flat (t:aae)
 | deep (t:aae) (its:List aae)
inductive ka where
 | box (t:aae)
 | rows (ts:List dy)
 | kv (ts:List dy)
 | cZ (t:aae) (ts:List dy)
def Rt(t:dy)(e:List CT)(a:List (List DC)):xC:=
 match t with
 | .flat t=> .row t e a false true
 | .deep t its=> .deep t e its a none
def Tl:List (Option ka)→Bool
 | []=>true
 | some (.box _)::_=>false
 | _::l=>Tl l
structure C where
 ps:List fG
 rs:List ef
 fn:List DC→Bool×List DC
 ms:List (Option ka):=[]
 pt:Option (aae×List CT):=none
 Hl:Bool:=false
abbrev Ctx:=List (Nat×C)
def F5:Ctx→Nat→Option C
 | [],_=>none
 | (k,s)::l,i=>cond (zc k i) (some s) (F5 l i)
def zQ:aah→M X
 | .tmp t=> .slot t .pure
 | .const v=> .pure (ofConst v)
 | _=> .fail
def yc:List aah→M (List X)
 | []=> .pure []
 | x::l=>(zQ x).bind λs=>(yc l).bind λr=> .pure (s::r)
def E9:X→M (List X)
 | .agg cs=> .pure cs
 | .ga=> .fail
 | .undef=> .fail
 | .Es _=> .fail
 | .GL _ _=> .fail
 | .GH _ _ _=> .fail
 | s=> .pure [s]
mutual
def ij(g:Bool):X→X→X
 | .undef,.undef=> .undef
 | .kb x,.kb y=>cond (x==y) (.kb x) (.bool (cond x g (!g)))
 | .kb x,.bool y=> .bool (cond g x y)
 | .bool x,.kb y=> .bool (cond g x y)
 | .bool x,.bool y=> .bool (cond g x y)
 | .int k n,.int k' m=>cond (k=k') (.int k (cond g n m)) (.ga)
 | .str n,.str m=> .str (cond g n m)
 | .sl e r,.sl e' r'=>cond (cB e e') (.sl e (cond g r r')) (.ga)
 | .sl e r,.nil=> .sl e (cond g r [])
 | .nil,.sl e r=> .sl e (cond g [] r)
 | .nil,.nil=> .nil
 | .own i,.own j=>cond (zc i j) (.own i) (.ga)
 | .ptr i o,.ptr j o'=>cond (zc i j && zc o o') (.ptr i o) (.ga)
 | .iD e r o,.iD e' r' o'=>cond (cB e e' && zc o o') (.iD e (cond g r r') o) (.ga)
 | .eS i x z o,.eS j y z' o'=>cond (zc i j && zc z z' && zc o o') (.eS i (cond g x y) z o) (.ga)
 | .agg l,.agg m=>cond (zc l.length m.length) (.agg (Ev g l m)) (.ga)
 | .Es l,.Es m=>cond (zc l.length m.length) (.Es (Ev g l m)) (.ga)
 | _,_=> .ga
def Ev(g:Bool):List X→List X→List X
 | a::l,b::m=>ij g a b::Ev g l m
 | _,_=>[]
end
abbrev yF:=List (Nat×List CT×List (List DC)×Bool)
def zo(a:CT):X→M (DC×yF×Bool)
 | .int k n=>match a with | .int k'=>cond (k=k') (.pure (.int n,[],true)) (.fail) | _=> .fail
 | .kb b=>match a with | .bool=> .pure (.bool b,[],true) | _=> .fail
 | .bool b=>match a with | .bool=> .pure (.bool b,[],true) | _=> .fail
 | .str s=>match a with | .str=> .pure (.str s,[],true) | _=> .fail
 | .sl e r=>match a with | .sl e'=>cond (cB e e') (.pure (.sl r,[],false)) (.fail) | _=> .fail
 | .nil=>match a with | .sl _=> .pure (.sl [],[],true) | _=> .fail
 | .own id=>match a with
  | .sl e'=> .obj id fun
   | .row _ e r _ u=>cond (cB e e') (.pure (.sl r,[(id,e,r,u)],u)) (.fail)
   | .eV e r=>cond (cB e e') (.pure (.sl r,[],false)) (.fail)
   | .deep _ e _ r none=>cond (cB e e') (.pure (.sl r,[(id,e,r,true)],true)) (.fail)
   | _=> .fail
  | _=> .fail
 | _=> .fail
def cQ:List CT→List X→M (List DC×yF×Bool)
 | [],[]=> .pure ([],[],true)
 | c::cs,s::U=>(zo c s).bind λd=>(cQ cs U).bind λr=> .pure (d.1::r.1,d.2.1++r.2.1,d.2.2 && r.2.2)
 | _,_=> .fail
def Sw:List CT→Bool
 | []=>true
 | .sl _::_=>false
 | _::l=>Sw l
def Qn:List CT→Nat
 | []=>0
 | .sl _::l=>Qn l+1
 | _::l=>Qn l
def UW:List aae→List aae→Bool
 | [],[]=>true
 | a::l,b::m=>zc a b && UW l m
 | _,_=>false
theorem Xo:∀(a b:List aae),UW a b=true→a=b
 | [],[],_=>rfl
 | a::l,b::m,h=>by simp only[UW,Bl] at h;rw[Vs h.1,Xo l m h.2]
 | [],_::_,h=>by simp[UW] at h
 | _::_,[],h=>by simp[UW] at h
def uF(P:aaf):Nat→aae→Option (List aae)
 | 0,_=>none
 | n+1,t=>
  match P.underlying t with
  | some (.slice e)=>some [e]
  | some (.struct fs)=>fs.toList.foldr (λf r=>match uF P n f.type,r with | some l,some m=>some (l++m) | _,_=>none) (some [])
  | some _=>some []
  | none=>none
def Fe(P:aaf)(t:aae)(n:Nat):Bool:=
 match P.info? t with
 | some i=>zc i.size n
 | none=>false
def wF(P:aaf)(t:aae)(n:Nat):Bool:=
 match P.info? t with
 | some i=>decide (n*i.bytes≤140737488355328) && decide (n≤9223372036854775807)
 | none=>false
def Uc(d k:Nat):Nat:=d*64+k
def yW(d n:Nat):Bool:=zS d (n % 1099511627776) && zP (n / 1099511627776) d
def sP(n d:Nat):Prop:=d<n % 1099511627776∧n / 1099511627776≤d
theorem CV{d n:Nat}(h:yW d n=true):sP n d:=by unfold yW at h;rw[Bl] at h;exact⟨AS h.1,AS h.2⟩
def nad(a:BinOp)(k:Zh)(x y:Int):Option (X×Bool):=
 match a with
 | .add=>some (.int k (k.wrap (x+y)),true)
 | .sub=>some (.int k (k.wrap (x - y)),true)
 | .mul=>some (.int k (k.wrap (x*y)),true)
 | .quo=>some (.int k (k.wrap (x.tdiv y)), !(y==0))
 | .rem=>some (.int k (x.tmod y), !(y==0))
 | .and=>some (.int k (bits .and k x y),true)
 | .or=>some (.int k (bits .or k x y),true)
 | .xor=>some (.int k (bits .xor k x y),true)
 | .andNot=>some (.int k (bits .andNot k x y),true)
 | .eql=>some (.bool (x==y),true)
 | .neq=>some (.bool (x != y),true)
 | .lss=>some (.bool (decide (x<y)),true)
 | .leq=>some (.bool (decide (x≤y)),true)
 | .gtr=>some (.bool (decide (y<x)),true)
 | .geq=>some (.bool (decide (y≤x)),true)
 | _=>none
def Gj:yF→List (Nat×Option xC)
 | []=>[]
 | (id,e,r,_)::l=>(id,some (.eV e r))::Gj l
def V8(id:Nat):yF→Bool
 | []=>true
 | (i,_)::l=> !(zc i id) && V8 id l
def Eg:yF→Bool
 | []=>true
 | (i,_)::l=>V8 i l && Eg l
def xn(e:List CT):X→M (List (List DC)×yF×Bool)
 | .nil=> .pure ([],[],true)
 | .sl e' r=>cond (cB e e') (.pure (r,[],false)) (.fail)
 | .own id=> .obj id fun
  | .row _ e' r _ u=>cond (cB e e') (.pure (r,[(id,e',r,u)],u)) (.fail)
  | .eV e' r=>cond (cB e e') (.pure (r,[],false)) (.fail)
  | _=> .fail
 | _=> .fail
def EN(P:aaf)(t:aae):X→M Nf
 | .ptr id off=> .obj id fun
  | .box _ cells=>
   bif fC P t then
    match P.info? t with
    | some i=>cond (zP (off+i.size) cells.length) (.pure {sv:= .agg ((cells.drop off).take i.size)}) (.fail)
    | none=> .fail
   else match cells[off]? with
    | some s=> .pure {sv:=s}
    | none=> .fail
  | _=> .fail
 | .iD e row off=>
  bif fC P t then
   match P.info? t with
   | some i=>cond (zP (off+i.size) e.length) (.pure {sv:= .agg (C4 ((e.drop off).take i.size) row off)}) (.fail)
   | none=> .fail
  else match e[off]? with
   | some c=> .pure {sv:=yz c (row.getD off default)}
   | none=> .fail
 | .eS id i z off=> .obj id fun
  | .row _ e rows _ _=>
   bif !(zc z e.length) then .fail else
   bif fC P t then
    match P.info? t with
    | some j=>cond (zP (off+j.size) e.length) (.pure {sv:= .agg (C4 ((e.drop off).take j.size) (rows.getD i []) off),ok:=decide (i<rows.length)}) (.fail)
    | none=> .fail
   else match e[off]? with
    | some c=> .pure {sv:=yz c ((rows.getD i []).getD off default),ok:=decide (i<rows.length)}
    | none=> .fail
  | _=> .fail
 | _=> .fail
def Pp(P:aaf)(t:aae)(s:X):M Nf:=
 match P.underlying t with
 | some _=>EN P t s
 | none=> .fail
def Sk(a:List DC)(off:Nat)(b:List DC):List DC:=a.take off++(b++a.drop (off+b.length))
def IG(P:aaf)(t:aae)(b x:X):M Nf:=
 (E9 x).bind λa=>
 bif Fe P t a.length then
  match b with
  | .ptr id off=> .obj id fun
   | .box _ cells=>cond (zP (off+a.length) cells.length) (.pure {sv:= .undef,cw:=some (id,off,a)}) (.fail)
   | _=> .fail
  | .eS id i z off=> .obj id fun
   | .row t' e rows fz u=>
    bif zc z e.length && zP (off+a.length) e.length then
     (cQ ((e.drop off).take a.length) a).bind λr=>
     bif V8 id r.2.1 && Eg r.2.1 then
      .pure {sv:= .undef,ow:=(id,some (.row t' e (rows.set i (Sk (rows.getD i []) off r.1)) fz (u && r.2.2)))::Gj r.2.1,ok:=decide (i<rows.length)}
     else .fail
    else .fail
   | _=> .fail
  | _=> .fail
 else .fail
def nCk(P:aaf)(t:aae):Bool:=
 match P.underlying t with
 | some .bool=>true
 | _=>false
def U1(P:aaf)(t:aae)(c:BinOp)(a b:Bool):M Nf:=
 bif nCk P t then
  match c with
  | .eql=> .pure {sv:= .bool (a==b)}
  | .neq=> .pure {sv:= .bool (!(a==b))}
  | _=> .fail
 else .fail
def wX(P:aaf)(t:aae)(a:List X)(off:Nat):Option (List X):=
 bif fC P t then
  match P.info? t with
  | some i=>cond (zP (off+i.size) a.length) (some ((a.drop off).take i.size)) none
  | none=>none
 else match a[off]? with
  | some x=>some [x]
  | none=>none
def zu(P:aaf)(d:aae→List X→List X→Option Bool)(e g:List X):List Field→Option Bool
 | []=>some true
 | f::fs=>
  bif f.name== "_" then none else
  match wX P f.type e f.offset,wX P f.type g f.offset with
  | some a,some b=>match d f.type a b,zu P d e g fs with
   | some c,some r=>some (cond c r false)
   | _,_=>none
  | _,_=>none
def Vi(t:TypeDesc)(x y:X):Option Bool:=
 match t,x,y with
 | .int _,.int k a,.int k' b=>cond (k=k') (some (a==b)) none
 | .string,.str a,.str b=>some (a==b)
 | .bool,.bool a,.bool b=>some (a==b)
 | .bool,.kb a,.bool b=>some (a==b)
 | .bool,.bool a,.kb b=>some (a==b)
 | _,_,_=>none
def VG(P:aaf):Nat→aae→List X→List X→Option Bool
 | 0,_,_,_=>none
 | n+1,t,xs,ys=>
  match P.underlying t with
  | some (.struct fs)=>cond (P.stoodInHeld t) none (zu P (VG P n) xs ys fs.toList)
  | some d=>match xs,ys with
   | [x],[y]=>Vi d x y
   | _,_=>none
  | none=>none
def ntp(P:aaf)(t:aae)(a:BinOp)(c d:List X):M Nf:=
 match P.underlying t with
 | some (.struct _)=>
  bif P.eqGuardType P.depth t then .fail else
  match VG P 8 t c d,a with
  | some b,.eql=> .pure {sv:= .bool b}
  | some b,.neq=> .pure {sv:= .bool (!b)}
  | _,_=> .fail
 | _=> .fail
def QK(P:aaf)(t:aae)(d:BinOp)(x y:X):M Nf:=
 match x,y with
 | .int k a,.int k' b=>
  match d with
  | .shl=> .pure {sv:= .int k (k.wrap (a*2 ^ (min b.toNat k.bits))),ok:=decide (0≤b)}
  | .shr=> .pure {sv:= .int k (a.fdiv (2 ^ (min b.toNat k.bits))),ok:=decide (0≤b)}
  | _=>bif decide (k=k') then
    match nad d k a b with
    | some (s,c)=> .pure {sv:=s,ok:=c}
    | none=> .fail
   else .fail
 | .str a,.str b=>
  match d with
  | .add=> .pure {sv:= .str (a++b),ok:=decide (a.length+b.length≤9223372036854775807)}
  | .eql=> .pure {sv:= .bool (a==b)}
  | .neq=> .pure {sv:= .bool (!(a==b))}
  | _=> .fail
 | .bool a,.bool b=>U1 P t d a b
 | .kb a,.bool b=>U1 P t d a b
 | .bool a,.kb b=>U1 P t d a b
 | .agg xs,.agg ys=>ntp P t d xs ys
 | .sl _ r,.nil=>match P.underlying t,d with
  | some (.slice _),.eql=> .pure {sv:= .bool false,ok:=decide (0<r.length)}
  | some (.slice _),.neq=> .pure {sv:= .bool true,ok:=decide (0<r.length)}
  | _,_=> .fail
 | _,_=> .fail
def xT(a:UnOp)(x:X):M Nf:=
 match a,x with
 | .not,.kb b=> .pure {sv:= .kb (!b)}
 | .not,.bool b=> .pure {sv:= .bool (!b)}
 | .neg,.int k n=> .pure {sv:= .int k (k.wrap (0 - n))}
 | .xor,.int k n=> .pure {sv:= .int k (bits .xor k (if k.signed then -1 else k.max) n)}
 | _,_=> .fail
def byteOf(r:List DC):UInt8:=UInt8.ofNat (r.headD default).asInt.toNat
def dc(b:UInt8):List DC:=[.int b.toNat]
def OM(P:aaf)(d:Option Nat)(a b:aae)(x:X):M Nf:=
 match P.underlying b,P.underlying a with
 | some (.int k),some _=>match x with
  | .int _ n=> .pure {sv:= .int k (k.wrap n)}
  | _=> .fail
 | some .string,some .string=>match x with
  | .str s=> .pure {sv:= .str s}
  | _=> .fail
 | some .string,some (.slice e)=>match P.underlying e with
  | some (.int .u8)=>(xn [.int .u8] x).bind λr=> .pure {sv:= .str (r.1.map byteOf)}
  | _=> .fail
 | some (.slice e),some .string=>
  match P.underlying e,x,d with
  | some (.int .u8),.str s,some d=>cond (Fe P e 1) (.pure {sv:= .own (Uc d 0),ow:=[(Uc d 0,some (.row e [.int .u8] (s.map dc) true true))]}) (.fail)
  | _,_,_=> .fail
 | _,_=> .fail
def X8(P:aaf)(t:aae):M (List X):=
 match P.info? t with
 | some i=>match i.zero with
  | some z=>cond (z.cells.toList.all (·.oneCell')) (.pure (z.cells.toList.map ofConst)) (.fail)
  | none=> .fail
 | none=> .fail
def niA(P:aaf)(d:Option Nat)(t:aae)(l c:X):M Nf:=
 match P.underlying t,l,c,d with
 | some (.slice et),.int .i64 n,.int .i64 m,some d=>
  match W4 P 16 et,P.info? et with
  | some e,some i=>
   bif zc i.size e.length && zS 0 e.length then
    (X8 P et).bind λz=>(cQ e z).bind λr=>
     .pure {sv:= .own (Uc d 0),ow:=[(Uc d 0,some (.row et e (List.replicate n.toNat r.1) false true))],ok:=decide (0≤n) && decide (n≤m) && decide (m.toNat*i.bytes≤140737488355328) && decide (m≤9223372036854775807)}
   else .fail
  | _,_=> .fail
 | _,_,_,_=> .fail
def Ol(P:aaf)(b:Array Field):List (Nat×aah)→List X→M (List X)
 | [],cells=> .pure cells
 | (i,x)::rest,cells=>
  match b[i]? with
  | some f=>(zQ x).bind λs=>(E9 s).bind λa=>
   bif Fe P f.type a.length && zP (f.offset+a.length) cells.length then
    Ol P b rest (cells.take f.offset++(a++cells.drop (f.offset+a.length)))
   else .fail
  | none=> .fail
def kn(e:List CT):Nat→List (Nat×aah)→M (List (List DC)×yF×Bool)
 | _,[]=> .pure ([],[],true)
 | k,(i,x)::rest=>
  bif zc i k then
   (zQ x).bind λs=>(E9 s).bind λa=>(cQ e a).bind λr=>(kn e (k+1) rest).bind λq=>
    .pure (r.1::q.1,r.2.1++q.2.1,r.2.2 && q.2.2)
  else .fail
def Sm(n:Nat)(a b:Option X):Option (Nat×Nat×Bool):=
 match a,b with
 | none,none=>some (0,n,true)
 | some (.int _ l),none=>some (l.toNat,n,decide (0≤l) && decide (l≤n))
 | none,some (.int _ h)=>some (0,h.toNat,decide (0≤h) && decide (h≤n))
 | some (.int _ l),some (.int _ h)=>some (l.toNat,h.toNat,decide (0≤l) && decide (l≤h) && decide (h≤n))
 | _,_=>none
def tE:Option aah→M (Option X)
 | none=> .pure none
 | some x=>(zQ x).bind λs=> .pure (some s)
def AW(P:aaf)(t:aae)(x:X)(a b:Option X):M Nf:=
 match P.underlying t with
 | some .string=>match x with
  | .str s=>match Sm s.length a b with
   | some (l,h,c)=> .pure {sv:= .str ((s.take h).drop l),ok:=c}
   | none=> .fail
  | _=> .fail
 | some (.slice et)=>
  match x with
  | .sl e r=>bif Fe P et e.length then match Sm r.length a b with
   | some (l,h,c)=> .pure {sv:= .sl e ((r.take h).drop l),ok:=c}
   | none=> .fail
   else .fail
  | .own id=> .obj id fun
   | .row t' e r false _=>bif zc t' et && Fe P et e.length then match Sm r.length a b with
    | some (l,h,c)=> .pure {sv:= .sl e ((r.take h).drop l),ow:=[(id,some (.eV e r))],ok:=c}
    | none=> .fail
    else .fail
   | .eV e r=>bif Fe P et e.length then match Sm r.length a b with
    | some (l,h,c)=> .pure {sv:= .sl e ((r.take h).drop l),ok:=c}
    | none=> .fail
    else .fail
   | _=> .fail
  | _=> .fail
 | _=> .fail
def nBP(P:aaf)(t:aae)(x:X)(a b:Option X):M Nf:=
 match P.underlying t,x,a,b with
 | some (.slice et),.own id,some (.int _ l),none=> .obj id fun
  | .row t' e r _ _=>cond (zc t' et && Fe P et e.length) (.pure {sv:= .GH id l.toNat e.length,ok:=decide (0≤l) && decide (l≤r.length) && decide (0<r.length)}) (.fail)
  | _=> .fail
 | _,_,_,_=> .fail
def VS(Γ:Ctx):Option Nat→Bool
 | some d=>match F5 Γ (1125899906842624+d) with | some s=>s.Hl | none=>false
 | none=>false
def Wl(P:aaf)(t:aae)(x y:X):M Nf:=
 match P.underlying t,x,y with
 | some (.slice et),.GH id lo z,.str s=> .obj id fun
  | .row t' e r fz u=>
   bif zc t' et && Fe P et 1 && zc z 1 && cB e [.int .u8] then
    .pure {sv:= .int .i64 (min s.length (r.length - lo):Nat),ow:=[(id,some (.row t' e (r.take lo++(((s.take (r.length - lo)).map dc)++r.drop (lo+min s.length (r.length - lo)))) fz u))],ok:=decide (lo≤r.length)}
   else .fail
  | _=> .fail
 | _,_,_=> .fail
def aO(P:aaf)(t:aae)(x i:X):M Nf:=
 match P.underlying t,i with
 | some (.slice et),.int _ n=>
  match x with
  | .sl e r=>cond (Fe P et e.length) (.pure {sv:= .iD e (r.getD n.toNat []) 0,ok:=decide (0≤n) && decide (n<r.length)}) (.fail)
  | .own id=> .obj id fun
   | .row _ e r _ _=>cond (Fe P et e.length) (.pure {sv:= .eS id n.toNat e.length 0,ok:=decide (0≤n) && decide (n<r.length)}) (.fail)
   | .eV e r=>cond (Fe P et e.length) (.pure {sv:= .iD e (r.getD n.toNat []) 0,ok:=decide (0≤n) && decide (n<r.length)}) (.fail)
   | _=> .fail
  | _=> .fail
 | _,_=> .fail
def il(P:aaf)(t:aae)(x i:X):M Nf:=
 match P.underlying t,x,i with
 | some .string,.str s,.int _ n=> .pure {sv:= .int .u8 (s.getD n.toNat 0).toNat,ok:=decide (0≤n) && decide (n<s.length)}
 | _,_,_=> .fail
def A1(P:aaf)(t:aae)(x:X):M Nf:=
 match P.underlying t,x with
 | some .string,.str s=> .pure {sv:= .int .i64 s.length}
 | some (.slice _),.nil=> .pure {sv:= .int .i64 0}
 | some (.slice _),.sl _ r=> .pure {sv:= .int .i64 r.length}
 | some (.slice _),.own id=> .obj id fun
  | .row _ _ r _ _=> .pure {sv:= .int .i64 r.length}
  | .eV _ r=> .pure {sv:= .int .i64 r.length}
  | _=> .fail
 | _,_=> .fail
def nsX(P:aaf)(d:Option Nat)(t:aae)(s x:X):M Nf:=
 match P.underlying t,d with
 | some (.slice et),some d=>
  match W4 P 16 et with
  | some e=>
   bif Fe P et e.length && zS 0 e.length then
    (X8 P et).bind λz=>bif zc z.length e.length then
     match s with
     | .nil=>(xn e x).bind λq=>
      .pure {sv:= .own (Uc d 0),ow:=(Uc d 0,some (.row et e q.1 false (Sw e || q.2.2)))::(cond (Sw e) [] (Gj q.2.1)),ok:=wF P et q.1.length}
     | .own id=> .obj id fun
      | .row t' e' r false u=>
       bif zc t' et && cB e' e then
        (xn e x).bind λq=>
        bif V8 id q.2.1 then
         .pure {sv:= .own (Uc d 0),ow:=(Uc d 0,some (.row et e (r++q.1) false (u && (Sw e || q.2.2))))::(id,none)::(cond (Sw e) [] (Gj q.2.1)),ok:=wF P et (r.length+q.1.length)}
        else .fail
       else .fail
      | _=> .fail
     | _=> .fail
    else .fail
   else .fail
  | none=> .fail
 | _,_=> .fail
def ndT(P:aaf)(d:Option Nat)(t a:aae)(s x:X):M Nf:=
 match P.underlying t,P.underlying a,d,s,x with
 | some (.slice et),some .string,some d,.own id,.str b=> .obj id fun
  | .row t1 e r false u=>
   bif zc t1 et && cB e [.int .u8] && Fe P et 1 then
    (X8 P et).bind λz=>bif zc z.length 1 then
     .pure {sv:= .own (Uc d 0),ow:=[(Uc d 0,some (.row et [.int .u8] (r++b.map dc) false u)),(id,none)],ok:=wF P et (r.length+b.length)}
    else .fail
   else .fail
  | _=> .fail
 | _,_,_,_,_=> .fail
def uD:List fG→List X→M (List DC×yF)
 | [],[]=> .pure ([],[])
 | k::ks,s::U=>
  (match k.agg,s with
   | true,.agg cs=>cQ k.bF cs
   | true,_=> .fail
   | false,.agg _=> .fail
   | false,s=>cQ k.bF [s]).bind λr=>(uD ks U).bind λq=> .pure (r.1++q.1,r.2.1++q.2)
 | _,_=> .fail
def jX(d:Nat):Nat→List Pj→List DC→List X×List (Nat×Option xC)
 | _,[],_=>([],[])
 | k,.eV c::rs,ds=>let q:=jX d k rs ds.tail;(yz c (ds.headD default)::q.1,q.2)
 | k,.own t e::rs,ds=>
  let q:=jX d (k+1) rs ds.tail
  (.own (Uc d k)::q.1,(Uc d k,some (.row t e (ds.headD default).cG false true))::q.2)
 | k,.deep t e ts::rs,ds=>
  let q:=jX d (k+1) rs ds.tail
  (.own (Uc d k)::q.1,(Uc d k,some (.deep t e ts (ds.headD default).cG none))::q.2)
def P0:List Pj→Nat
 | []=>0
 | .eV _::l=>P0 l
 | .own _ _::l=>P0 l+1
 | .deep _ _ _::l=>P0 l+1
def vr(d:Nat):Nat→List ef→List DC→List X×List (Nat×Option xC)
 | _,[],_=>([],[])
 | k,r::rs,ds=>
  let q:=jX d k r.cells (ds.take r.cells.length)
  let p:=vr d (k+P0 r.cells) rs (ds.drop r.cells.length)
  ((cond r.agg (.agg q.1) (q.1.headD .ga))::p.1,q.2++p.2)
def Qy:List Pj→Bool
 | []=>false
 | .eV (.sl _)::_=>true
 | _::l=>Qy l
def shares(s:C):Bool:=s.rs.any λr=>Qy r.cells
def UG:List ef→Nat
 | []=>0
 | r::rs=>P0 r.cells+UG rs
def ah:List X→X
 | [x]=>x
 | l=> .Es l
inductive HV where
 | box (id:Nat) (t:aae) (cs:List CT)
 | row (id:Nat) (t:aae) (e:List CT) (u:Bool)
 | deep (id:Nat) (t:aae) (e:List CT) (ts:List aae)
 | gone (id:Nat) (dp:Bool)
 | cZ (id:Nat) (t:aae) (cs:List CT) (ts:List dy)
 | mJ
def gk:List HV→List Nat
 | []=>[]
 | .box id _ _::l=>id::gk l
 | .row id _ _ _::l=>id::gk l
 | .deep id _ _ _::l=>id::gk l
 | .gone id _::l=>id::gk l
 | .cZ id _ _ _::l=>id::gk l
 | .mJ::l=>gk l
def C0:List HV→List HV
 | []=>[]
 | .row id _ _ _::l=> .gone id false::C0 l
 | .deep id _ _ _::l=> .gone id true::C0 l
 | .box _ _ _::l=>C0 l
 | .gone _ _::l=>C0 l
 | .cZ _ _ _ _::l=>C0 l
 | .mJ::l=>C0 l
def jg:List HV→Bool
 | []=>true
 | .row _ _ _ _::l=>jg l
 | .deep _ _ _ _::l=>jg l
 | .box _ _ _::_=>false
 | .gone _ _::_=>false
 | .cZ _ _ _ _::_=>false
 | .mJ::l=>jg l
def Gr:List CT→List aae→List X→M (List DC×List HV)
 | [],[],[]=> .pure ([],[])
 | .sl e::cs,t::ts,s::U=>
  (match s with
   | .own id=> .obj id fun
    | .row t' e' r false u=>cond (zc t' t && cB e' e && Sw e) (.pure (.sl r,.row id t' e' u)) (.fail)
    | _=> .fail
   | .nil=>cond (Sw e) (.pure (.sl [],.mJ)) (.fail)
   | _=> .fail:M (DC×HV)).bind λq=>(Gr cs ts U).bind λr=> .pure (q.1::r.1,q.2::r.2)
 | .int k::cs,ts,s::U=>(zo (.int k) s).bind λq=>(Gr cs ts U).bind λr=> .pure (q.1::r.1,r.2)
 | .bool::cs,ts,s::U=>(zo .bool s).bind λq=>(Gr cs ts U).bind λr=> .pure (q.1::r.1,r.2)
 | .str::cs,ts,s::U=>(zo .str s).bind λq=>(Gr cs ts U).bind λr=> .pure (q.1::r.1,r.2)
 | _,_,_=> .fail
def wx:List CT→List dy→List X→M (List DC×List HV)
 | [],[],[]=> .pure ([],[])
 | .sl e::cs,.flat t::ts,s::U=>
  (match s with
   | .own id=> .obj id fun
    | .row t' e' r false u=>cond (zc t' t && cB e' e && Sw e) (.pure (.sl r,.row id t' e' u)) (.fail)
    | _=> .fail
   | .nil=>cond (Sw e) (.pure (.sl [],.mJ)) (.fail)
   | _=> .fail:M (DC×HV)).bind λq=>(wx cs ts U).bind λr=> .pure (q.1::r.1,q.2::r.2)
 | .sl e::cs,.deep t its::ts,s::U=>
  (match s with
   | .own id=> .obj id fun
    | .deep t' e' eu r none=>cond (zc t' t && cB e' e && UW eu its) (.pure (.sl r,.deep id t' e' eu)) (.fail)
    | _=> .fail
   | .nil=> .pure (.sl [],.mJ)
   | _=> .fail:M (DC×HV)).bind λq=>(wx cs ts U).bind λr=> .pure (q.1::r.1,q.2::r.2)
 | .int k::cs,ts,s::U=>(zo (.int k) s).bind λq=>(wx cs ts U).bind λr=> .pure (q.1::r.1,r.2)
 | .bool::cs,ts,s::U=>(zo .bool s).bind λq=>(wx cs ts U).bind λr=> .pure (q.1::r.1,r.2)
 | .str::cs,ts,s::U=>(zo .str s).bind λq=>(wx cs ts U).bind λr=> .pure (q.1::r.1,r.2)
 | _,_,_=> .fail
def Ui(k:fG)(a:List dy)(s:X):M (List DC×List HV):=
 match k.agg,s with
 | true,.agg cs=>wx k.bF a cs
 | true,_=> .fail
 | false,.agg _=> .fail
 | false,s=>wx k.bF a [s]
def zI:List fG→List (Option ka)→List X→M (List DC×yF×List HV)
 | [],[],[]=> .pure ([],[],[])
 | k::ks,none::ms,s::U=>
  (match k.agg,s with
   | true,.agg cs=>cQ k.bF cs
   | true,_=> .fail
   | false,.agg _=> .fail
   | false,s=>cQ k.bF [s]).bind λr=>(zI ks ms U).bind λq=> .pure (r.1++q.1,r.2.1++q.2.1,q.2.2)
 | k::ks,some (.box t)::ms,.ptr id 0::U=> .obj id fun
  | .box t' cells=>
   bif zc t' t then
    (cQ k.bF cells).bind λr=>cond r.2.1.isEmpty ((zI ks ms U).bind λq=> .pure (r.1++q.1,q.2.1,.box id t' k.bF::q.2.2)) (.fail)
   else .fail
  | _=> .fail
 | k::ks,some (.rows ts)::ms,s::U=>(Ui k ts s).bind λr=>(zI ks ms U).bind λq=> .pure (r.1++q.1,q.2.1,r.2++q.2.2)
 | k::ks,some (.kv ts)::ms,s::U=>(Ui k ts s).bind λr=>cond (jg r.2) ((zI ks ms U).bind λq=> .pure (r.1++q.1,q.2.1,C0 r.2++q.2.2)) (.fail)
 | k::ks,some (.cZ t ts)::ms,.ptr id 0::U=> .obj id fun
  | .box t' cells=>
   cond (zc t' t) ((wx k.bF ts cells).bind λr=>cond (jg r.2) ((zI ks ms U).bind λq=> .pure (r.1++q.1,q.2.1,.cZ id t' k.bF ts::(C0 r.2++q.2.2))) (.fail)) (.fail)
  | _=> .fail
 | _,_,_=> .fail
def sV(d:Nat):Nat→List CT→List dy→List DC→List X×List (Nat×Option xC)
 | _,[],_,_=>([],[])
 | k,.sl e::cs,ts,ds=>
  let q:=sV d (k+1) cs ts.tail ds.tail
  (.own (Uc d k)::q.1,(Uc d k,some (Rt (ts.headD (.flat 0)) e (ds.headD default).cG))::q.2)
 | k,.int x::cs,ts,ds=>let q:=sV d k cs ts ds.tail;(yz (.int x) (ds.headD default)::q.1,q.2)
 | k,.bool::cs,ts,ds=>let q:=sV d k cs ts ds.tail;(yz .bool (ds.headD default)::q.1,q.2)
 | k,.str::cs,ts,ds=>let q:=sV d k cs ts ds.tail;(yz .str (ds.headD default)::q.1,q.2)
def BW(d:Nat):Nat→List HV→List DC→List (Nat×Option xC)
 | _,[],_=>[]
 | k,.box id t cs::l,ds=>(id,some (.box t (C4 cs ds 0)))::BW d k l (ds.drop cs.length)
 | k,.row id t e u::l,ds=>(id,some (.row t e (ds.headD default).cG false u))::BW d k l ds.tail
 | k,.deep id t e ts::l,ds=>(id,some (.deep t e ts (ds.headD default).cG none))::BW d k l ds.tail
 | k,.gone _ _::l,ds=>BW d k l ds
 | k,.cZ id t cs ts::l,ds=>(id,some (.box t (sV d k cs ts ds).1))::BW d (k+Qn cs) l (ds.drop cs.length)
 | k,.mJ::l,ds=>BW d k l ds.tail
def PF(d:Nat):Nat→List HV→List DC→List (Nat×Option xC)
 | _,[],_=>[]
 | k,.box _ _ cs::l,ds=>PF d k l (ds.drop cs.length)
 | k,.row _ _ _ _::l,ds=>PF d k l ds.tail
 | k,.deep _ _ _ _::l,ds=>PF d k l ds.tail
 | k,.gone _ _::l,ds=>PF d k l ds
 | k,.cZ _ _ cs ts::l,ds=>(sV d k cs ts ds).2++PF d (k+Qn cs) l (ds.drop cs.length)
 | k,.mJ::l,ds=>PF d k l ds.tail
def rk:List HV→Nat
 | []=>0
 | .box _ _ _::l=>rk l
 | .row _ _ _ _::l=>rk l
 | .deep _ _ _ _::l=>rk l
 | .gone _ _::l=>rk l
 | .cZ _ _ cs _::l=>Qn cs+rk l
 | .mJ::l=>rk l
def wO:List HV→List Nat
 | []=>[]
 | .box _ _ _::l=>wO l
 | .row _ _ _ _::l=>wO l
 | .deep _ _ _ _::l=>wO l
 | .gone id _::l=>id::wO l
 | .cZ _ _ _ _::l=>wO l
 | .mJ::l=>wO l
def Ye(l:List Nat):List (Nat×Option xC):=l.map λi=>(i,none)
def U7:List ef→Nat
 | []=>0
 | r::rs=>r.cells.length+U7 rs
def XG:List Nat→Bool
 | []=>true
 | i::l=> !(l.any λj=>zc j i) && XG l
def Ny(s:C)(d:Option Nat)(a:List X):M Nf:=cond (zS (UG s.rs) 64 && !(shares s) && (d.isSome || s.rs.isEmpty)) ((zI s.ps s.ms a).bind λr=>cond (Eg r.2.1 && XG (gk r.2.2) && (gk r.2.2).all (λi=>V8 i r.2.1) && (zS (UG s.rs+rk r.2.2) 64 && (d.isSome || zc (rk r.2.2) 0))) (.pure {sv:=ah (vr (d.getD 0) 0 s.rs (s.fn r.1).2).1,ow:=(vr (d.getD 0) 0 s.rs (s.fn r.1).2).2++(PF (d.getD 0) (UG s.rs) r.2.2 ((s.fn r.1).2.drop (U7 s.rs))++(BW (d.getD 0) (UG s.rs) r.2.2 ((s.fn r.1).2.drop (U7 s.rs))++(Ye (wO r.2.2)++(cond (Tl s.ms) [] (Gj r.2.1))))),ok:=(s.fn r.1).1}) (.fail)) (.fail)
def ov(Γ:Ctx)(d:Option Nat)(g:Nat)(a:List X):M Nf:=
 match F5 Γ g with
 | some s=>
  bif s.Hl then .fail else
  match s.pt with
  | some (t,bF)=>
   match d with
   | some d=>
    (uD s.ps a).bind λr=>
     bif Eg r.2 then
      .pure {sv:= .ptr (Uc d 0) 0,ow:=(Uc d 0,some (.box t (C4 bF (s.fn r.1).2 0)))::Gj r.2,ok:=(s.fn r.1).1}
     else .fail
   | none=> .fail
  | none=>
  match s.ms,d with
  | [],some d=>
   bif zS (UG s.rs) 64 then
    (uD s.ps a).bind λr=>
     bif !(shares s) || Eg r.2 then
      .pure {sv:=ah (vr d 0 s.rs (s.fn r.1).2).1,ow:=(vr d 0 s.rs (s.fn r.1).2).2++(cond (shares s) (Gj r.2) []),ok:=(s.fn r.1).1}
     else .fail
   else .fail
  | [],none=> .fail
  | _::_,d=>Ny s d a
 | none=> .fail
def nE6(P:aaf)(t:aae)(i z off:Nat)(e:List CT)(a:List (List DC)):M Nf:=
 bif !(zc z e.length) then .fail else
 match P.underlying t with
 | none=> .fail
 | some _=>
  bif fC P t then
   match P.info? t with
   | some j=>cond (zP (off+j.size) e.length && Sw ((e.drop off).take j.size)) (.pure {sv:= .agg (C4 ((e.drop off).take j.size) (a.getD i []) off),ok:=decide (i<a.length)}) (.fail)
   | none=> .fail
  else match e[off]? with
   | some c=>cond (Sw [c]) (.pure {sv:=yz c ((a.getD i []).getD off default),ok:=decide (i<a.length)}) (.fail)
   | none=> .fail
def nCD(P:aaf)(d:Option Nat)(t:aae)(id i z off:Nat)(c:aae)(e:List CT)(b:List aae)(a:List (List DC))(f:Option (Nat×Nat)):M Nf:=
 match f,e[off]?,b,d with
 | none,some (.sl e'),[t1],some d=>
  bif zc z e.length && zc (Qn e) 1 && !(fC P t) && (P.underlying t).isSome then
   .pure {sv:= .own (Uc d 0),ow:=[(Uc d 0,some (.row t1 e' ((a.getD i []).getD off default).cG false true)),(id,some (.deep c e b a (some (i,Uc d 0))))],ok:=decide (i<a.length)}
  else .fail
 | _,_,_,_=> .fail
def UB(a:Nat):List CT→List DC→Nat→List X
 | [],_,_=>[]
 | .sl _::cs,ds,k=> .own a::UB a cs ds (k+1)
 | .int x::cs,ds,k=>yz (.int x) (ds.getD k default)::UB a cs ds (k+1)
 | .bool::cs,ds,k=>yz .bool (ds.getD k default)::UB a cs ds (k+1)
 | .str::cs,ds,k=>yz .str (ds.getD k default)::UB a cs ds (k+1)
def qc:List CT→Nat
 | []=>0
 | .sl _::_=>0
 | _::l=>qc l+1
def nbb(P:aaf)(d:Option Nat)(t:aae)(id i z off:Nat)(c:aae)(e:List CT)(b:List aae)(a:List (List DC))(f:Option (Nat×Nat)):M Nf:=
 match f,e[qc e]?,b,d,P.info? t with
 | none,some (.sl e'),[t1],some d,some j=>
  bif zc z e.length && zc (Qn e) 1 && zP (off+j.size) e.length then
   .pure {sv:= .agg (UB (Uc d 0) ((e.drop off).take j.size) (a.getD i []) off),ow:=[(Uc d 0,some (.row t1 e' ((a.getD i []).getD (qc e) default).cG false true)),(id,some (.deep c e b a (some (i,Uc d 0))))],ok:=decide (i<a.length)}
  else .fail
 | _,_,_,_,_=> .fail
def nDQ(P:aaf)(Γ:Ctx)(d:Option Nat)(t:aae)(s:X):M Nf:=
 match s with
 | .eS id i z off=> .obj id fun
  | .deep t' e ts rows hl=>cond (VS Γ d) (cond (fC P t) (nbb P d t id i z off t' e ts rows hl) (nCD P d t id i z off t' e ts rows hl)) (nE6 P t i z off e rows)
  | _=>Pp P t s
 | _=>Pp P t s
def yQ:List HV→List (Nat×Option xC)
 | []=>[]
 | .box id _ _::l=>(id,none)::yQ l
 | .row id _ _ _::l=>(id,none)::yQ l
 | .deep id _ _ _::l=>(id,none)::yQ l
 | .gone id _::l=>(id,none)::yQ l
 | .cZ id _ _ _::l=>(id,none)::yQ l
 | .mJ::l=>yQ l
def cf:Option (Nat×Nat)→Nat→Bool
 | none,_=>true
 | some (j,_),i=>zc j i
def ntt(P:aaf)(t:aae)(id i z off:Nat)(d:aae)(e:List CT)(c:List aae)(a:List (List DC))(f:Option (Nat×Nat))(x:X):M Nf:=(E9 x).bind λb=>cond (Fe P t b.length && zc z e.length && zP (off+b.length) e.length) (cond (Sw ((e.drop off).take b.length)) ((cQ ((e.drop off).take b.length) b).bind λr=>cond r.2.1.isEmpty (.pure {sv:= .undef,ow:=[(id,some (.deep d e c (a.set i (Sk (a.getD i []) off r.1)) f))],ok:=decide (i<a.length)}) (.fail)) (cond (zc (Qn ((e.drop off).take b.length)) (Qn e)) ((Gr ((e.drop off).take b.length) c b).bind λr=>cond (XG (id::gk r.2)) (.pure {sv:= .undef,ow:=(id,some (.deep d e c (a.set i (Sk (a.getD i []) off r.1)) none))::yQ r.2,ok:=decide (i<a.length) && cf f i}) (.fail)) (.fail))) (.fail)
def noO(P:aaf)(t:aae)(a x:X):M Nf:=
 match a with
 | .eS id i z off=> .obj id fun
  | .deep t' e ts rows hl=>ntt P t id i z off t' e ts rows hl x
  | _=>IG P t a x
 | _=>IG P t a x
def my(P:aaf)(t:aae)(x i:X):M Nf:=
 match x with
 | .own id=> .obj id fun
  | .deep _ e _ rows _=>
   match P.underlying t,i with
   | some (.slice et),.int _ n=>cond (Fe P et e.length) (.pure {sv:= .eS id n.toNat e.length 0,ok:=decide (0≤n) && decide (n<rows.length)}) (.fail)
   | _,_=> .fail
  | _=>aO P t x i
 | _=>aO P t x i
def btw(P:aaf)(t:aae)(x:X):M Nf:=
 match x with
 | .own id=> .obj id fun
  | .deep _ _ _ rows _=>
   match P.underlying t with
   | some (.slice _)=> .pure {sv:= .int .i64 rows.length}
   | _=> .fail
  | _=>A1 P t x
 | _=>A1 P t x
def nn7(P:aaf)(d:Option Nat)(t:aae)(l c:X):M Nf:=
 match P.underlying t,l,c,d with
 | some (.slice et),.int .i64 n,.int .i64 m,some d=>
  match W4 P 16 et,uF P 16 et,P.info? et with
  | some e,some ts,some i=>
   bif zc i.size e.length && zS 0 e.length then
    (X8 P et).bind λz=>(Gr e ts z).bind λr=>
     bif (gk r.2).isEmpty then
      .pure {sv:= .own (Uc d 0),ow:=[(Uc d 0,some (.deep et e ts (List.replicate n.toNat r.1) none))],ok:=decide (0≤n) && decide (n≤m) && decide (m.toNat*i.bytes≤140737488355328) && decide (m≤9223372036854775807)}
     else .fail
   else .fail
  | _,_,_=> .fail
 | _,_,_,_=> .fail
def QA(e:List CT)(a:List aae):Nat→List (Nat×aah)→M (List (List DC)×List HV)
 | _,[]=> .pure ([],[])
 | k,(i,x)::rest=>
  bif zc i k then
   (zQ x).bind λs=>(E9 s).bind λb=>(Gr e a b).bind λr=>(QA e a (k+1) rest).bind λq=> .pure (r.1::q.1,r.2++q.2)
  else .fail
def nEU(P:aaf)(d:Option Nat)(t:aae)(len:Nat)(a:List (Nat×aah)):M Nf:=
 match P.underlying t,d with
 | some (.slice et),some d=>
  match W4 P 16 et,uF P 16 et with
  | some e,some ts=>
   bif Fe P et e.length && zS 0 e.length && zc len a.length && zP (len*e.length) 16777216 then
    (X8 P et).bind λ_=>(QA e ts 0 a).bind λq=>
     bif XG (gk q.2) then
      .pure {sv:= .own (Uc d 0),ow:=(Uc d 0,some (.deep et e ts q.1 none))::yQ q.2}
     else .fail
   else .fail
  | _,_=> .fail
 | _,_=> .fail
def cJ(a:aae)(e:List CT)(b:List aae):X→M (List (List DC)×List Nat)
 | .nil=> .pure ([],[])
 | .own id=> .obj id fun
  | .deep t' e' eu r none=>cond (zc t' a && cB e' e && UW eu b) (.pure (r,[id])) (.fail)
  | _=> .fail
 | _=> .fail
def gone(a:List Nat):List (Nat×Option xC):=a.map λi=>(i,none)
def nom(P:aaf)(d:Option Nat)(t:aae)(s x:X):M Nf:=
 match P.underlying t,d with
 | some (.slice et),some d=>
  match W4 P 16 et,uF P 16 et with
  | some e,some ts=>
   bif Fe P et e.length && zS 0 e.length then
    (X8 P et).bind λz=>bif zc z.length e.length then
     (cJ et e ts s).bind λp=>(cJ et e ts x).bind λq=>
      bif XG (p.2++q.2) then
       .pure {sv:= .own (Uc d 0),ow:=(Uc d 0,some (.deep et e ts (p.1++q.1) none))::gone (p.2++q.2),ok:=wF P et (p.1.length+q.1.length)}
      else .fail
    else .fail
   else .fail
  | _,_=> .fail
 | _,_=> .fail
def Q8(mx:Bool)(x y:X):M Nf:=
 match x,y with
 | .int k a,.int k' b=>cond (k=k') (.pure {sv:= .int k (cond mx (if a<b then b else a) (if b<a then b else a))}) (.fail)
 | _,_=> .fail
def evalOp(P:aaf)(Γ:Ctx)(o:Oper):M Nf:=
 match o.op with
 | .move x=>(zQ x).bind λs=> .pure {sv:=s}
 | .assign x=>(zQ x).bind λs=> .pure {sv:=s}
 | .pick c a b=>(zQ c).bind λc=>(zQ a).bind λa=>(zQ b).bind λb=>
  match c with
  | .kb t=> .pure {sv:=cond t a b}
  | .bool g=> .pure {sv:=ij g a b}
  | _=> .fail
 | .alloc t=>match o.dst with
  | some d=>(X8 P t).bind λz=> .pure {sv:= .ptr (Uc d 0) 0,ow:=[(Uc d 0,some (.box t z))]}
  | none=> .fail
 | .box t x=>match o.dst with
  | some d=>(zQ x).bind λs=>(E9 s).bind λj=> .pure {sv:= .ptr (Uc d 0) 0,ow:=[(Uc d 0,some (.box t j))]}
  | none=> .fail
 | .build t parts=>match P.underlying t with
  | some (.struct fs)=>match fs.toList.mapM (λf=>(P.info? f.type).map λi=>(f.offset,i.size)) with
   | some _=>(X8 P t).bind λz=>(Ol P fs parts.toList z).bind λj=> .pure {sv:= .agg j}
   | none=> .fail
  | _=> .fail
 | .buildSlice t len parts=>bif VS Γ o.dst then nEU P o.dst t len parts.toList else match P.underlying t,o.dst with
  | some (.slice et),some d=>match W4 P 16 et with
   | some e=>bif Fe P et e.length && zS 0 e.length && zc len parts.toList.length && zP (len*e.length) 16777216 then
     (X8 P et).bind λ_=>(kn e 0 parts.toList).bind λq=>
      bif Eg q.2.1 then
       .pure {sv:= .own (Uc d 0),ow:=(Uc d 0,some (.row et e q.1 false q.2.2))::Gj q.2.1}
      else .fail
    else .fail
   | none=> .fail
  | _,_=> .fail
 | .load t x=>(zQ x).bind λs=>nDQ P Γ o.dst t s
 | .store t x y=>(zQ x).bind λa=>(zQ y).bind λv=>noO P t a v
 | .nilCheck x=>(zQ x).bind λs=>match s with
  | .ptr .. => .pure {sv:=s}
  | .iD .. => .pure {sv:=s}
  | .eS .. => .pure {sv:=s}
  | _=> .fail
 | .binOp op t x y _=>(zQ x).bind λa=>(zQ y).bind λb=>QK P t op a b
 | .unOp op _ x=>(zQ x).bind λa=>xT op a
 | .convert s t x=>(zQ x).bind λa=>OM P o.dst s t a
 | .makeSlice t l c=>(zQ l).bind λl=>(zQ c).bind λc=>cond (VS Γ o.dst) (nn7 P o.dst t l c) (niA P o.dst t l c)
 | .slice t x lo hi mx=>match mx with
  | none=>(zQ x).bind λs=>(tE lo).bind λl=>(tE hi).bind λh=>cond (VS Γ o.dst) (nBP P t s l h) (AW P t s l h)
  | some _=> .fail
 | .fieldAddr t x f=>match P.underlying t with
  | some (.struct fs)=>match fs[f]? with
   | some fd=>bif Fe P fd.type 0 then .fail else match P.info? fd.type with
    | none=> .fail
    | some _=>(zQ x).bind λs=>match s with
     | .ptr id off=> .pure {sv:= .ptr id (off+fd.offset)}
     | .iD e r off=> .pure {sv:= .iD e r (off+fd.offset)}
     | .eS id i z off=> .pure {sv:= .eS id i z (off+fd.offset)}
     | _=> .fail
   | none=> .fail
  | _=> .fail
 | .indexAddr t x i=>(zQ x).bind λs=>(zQ i).bind λn=>my P t s n
 | .index t x i=>(zQ x).bind λs=>(zQ i).bind λn=>il P t s n
 | .extract x i=>(zQ x).bind λs=>match s with
  | .Es vs=>match vs[i]? with
   | some v=> .pure {sv:=v}
   | none=> .fail
  | _=> .fail
 | .call c=>match c.callee with
  | .value (.func g)=>(yc c.args.toList).bind λl=>ov Γ o.dst g l
  | .builtin .len=>match c.args.toList,c.argTypes.toList with
   | [x],[t]=>(zQ x).bind λs=>btw P t s
   | _,_=> .fail
  | .builtin .min=>match c.args.toList with
   | [x,y]=>(zQ x).bind λa=>(zQ y).bind λb=>Q8 false a b
   | _=> .fail
  | .builtin .max=>match c.args.toList with
   | [x,y]=>(zQ x).bind λa=>(zQ y).bind λb=>Q8 true a b
   | _=> .fail
  | .builtin .append=>match c.args.toList,c.argTypes.toList with
   | [s,x],[t,t']=>cond (zc t t') ((zQ s).bind λa=>(zQ x).bind λb=>cond (VS Γ o.dst) (nom P o.dst t a b) (nsX P o.dst t a b)) ((zQ s).bind λa=>(zQ x).bind λb=>ndT P o.dst t t' a b)
   | _,_=> .fail
  | .builtin .copy=>match c.args.toList,c.argTypes.toList with
   | [s,x],[t,_]=>(zQ s).bind λa=>(zQ x).bind λb=>Wl P t a b
   | _,_=> .fail
  | _=> .fail
 | _=> .fail
structure E where
 n:Nat
 sl:List (Nat×X)
 hp:List (Nat×xC)
 ok:Bool:=true
 ls:List Nat:=[]
 lm:List Nat:=[]
abbrev p(n:Int):X:=.int .i64 n
def XH:List (Nat×X)→Nat→X
 | [],_=> .ga
 | (k,s)::l,i=>cond (zc k i) s (XH l i)
def e6:List (Nat×xC)→Nat→Option xC
 | [],_=>none
 | (k,s)::l,i=>cond (zc k i) (some s) (e6 l i)
def CH:List (Nat×xC)→Nat→List (Nat×xC)
 | [],_=>[]
 | (k,s)::l,i=>cond (zc k i) (CH l i) ((k,s)::CH l i)
def E.get(st:E)(i:Nat):X:=XH st.sl i
def E.obj(st:E)(i:Nat):Option xC:=e6 st.hp i
def M.run{α:Type}(f:Nat→X)(h:Nat→Option xC):M α→Option (α×List Nat×List Nat)
 | .pure a=>some (a,[],[])
 | .fail=>none
 | .slot i k=>match (k (f i)).run f h with
  | some (a,s,o)=>some (a,i::s,o)
  | none=>none
 | .obj i k=>match h i with
  | some x=>match (k x).run f h with
   | some (a,s,o)=>some (a,s,i::o)
   | none=>none
  | none=>none
def E.fail(st:E):E:= {st with ok:=false,sl:=[],hp:=[]}
def fW:List X→Nat→List X→List X
 | cells,off,b7=>cells.take off++(b7++cells.drop (off+b7.length))
def ax:List (Nat×Option xC)→List (Nat×xC)→List (Nat×xC)
 | [],h=>h
 | (i,some o)::l,h=>(i,o)::CH (ax l h) i
 | (i,none)::l,h=>CH (ax l h) i
def gX:Option (Nat×Nat×List X)→List (Nat×xC)→List (Nat×xC)
 | none,h=>h
 | some (i,off,b7),h=>match e6 h i with
  | some (.box t cells)=>(i,.box t (fW cells off b7))::CH h i
  | _=>h
def E.apply(st:E)(d:Option Nat)(e:Nf):E:=
 {n:=st.n
  sl:=match d with | some d=>(d,e.sv)::st.sl | none=>st.sl
  hp:=ax e.ow (gX e.cw st.hp)
  ok:=t (t st.ok e.ok) (match d with | some d=>yW d st.n | none=>true)
  ls:=match d with | some d=>d::st.ls | none=>st.ls
  lm:=(match e.cw with | some (i,_)=>[i] | none=>[])++(e.ow.map (·.1)++st.lm)}
def E.skip(st:E)(d:Option Nat):E:=st.apply d {sv:= .undef}
def Rf(i:Nat):List Nat→Bool
 | []=>false
 | k::l=>zc k i || Rf i l
def Nt(g:Bool)(f h:Nat→X):List Nat→List (Nat×X)→List (Nat×X)
 | [],l=>l
 | i::r,l=>(i,ij g (f i) (h i))::Nt g f h r l
def dedup:List Nat→List Nat
 | []=>[]
 | i::l=>cond (Rf i l) (dedup l) (i::dedup l)
def OE(a:List (Nat×xC)):List Nat→Bool
 | []=>true
 | i::l=>(match e6 a i with | some _=>false | none=>true) && OE a l
def E.reset(st:E):E:= {st with ls:=[],lm:=[]}
def pk(g x y:Bool):Bool:=cond (x && y) true (cond g x y)
theorem Vn(g x y:Bool):pk g x y=cond g x y:=by cases g<;>cases x<;>cases y<;>rfl
def oe(g:Bool):Option xC→Option xC→Option xC
 | some (.box t cs),some (.box t' Ck)=>cond (zc t t' && zc cs.length Ck.length) (some (.box t (Ev g cs Ck))) none
 | some (.row t e r fz u),some (.row t' e' r' Kn u')=>cond (zc t t' && cB e e' && (fz==Kn) && (u==u')) (some (.row t e (cond g r r') fz u)) none
 | _,_=>none
def A7(a:List (Nat×xC)):List Nat→List Nat
 | []=>[]
 | i::l=>match e6 a i with | some _=>i::A7 a l | none=>A7 a l
def F_(g:Bool)(f h:Nat→Option xC):List Nat→List (Nat×Option xC)
 | []=>[]
 | i::l=>(i,oe g (f i) (h i))::F_ g f h l
def merge(pre:E)(g:Bool)(a b:E):E:=
 {n:=pre.n
  sl:=Nt g a.get b.get (dedup (a.ls++b.ls)) pre.sl
  hp:=ax (F_ g a.obj b.obj (A7 pre.hp (dedup (a.lm++b.lm)))) pre.hp
  ok:=pk g a.ok b.ok
  ls:=dedup (a.ls++b.ls)++pre.ls
  lm:=A7 pre.hp (dedup (a.lm++b.lm))++pre.lm}
def NH:X→Bool
 | .ga=>true
 | .undef=>true
 | _=>false
def njV(g:Bool)(f h:Nat→X):List Nat→Bool
 | []=>true
 | i::r=>(NH (f i) || NH (h i) || !(NH (ij g (f i) (h i)))) && njV g f h r
def nqZ(Γ:Ctx)(g:Bool)(f h:Nat→X):List Nat→Bool
 | []=>true
 | i::r=>(!(NH (ij g (f i) (h i))) || !(VS Γ (some i))) && nqZ Γ g f h r
def zT(Γ:Ctx)(pre:E)(g:Bool)(a b:E):Bool:=OE pre.hp a.lm && OE pre.hp b.lm && njV g a.get b.get (dedup (a.ls++b.ls)) && nqZ Γ g a.get b.get (dedup (a.ls++b.ls))
def E.gB(st:E)(s:Nat)(b:Bool):E:= {st with sl:=(s,.kb b)::st.sl,ls:=s::st.ls}
mutual
def zX:X→List Nat
 | .own i=>[i]
 | .ptr i _=>[i]
 | .eS i _ _ _=>[i]
 | .agg l=>PD l
 | .Es l=>PD l
 | .GL _ l=>PD l
 | .GH i _ _=>[i]
 | _=>[]
def PD:List X→List Nat
 | []=>[]
 | a::l=>zX a++PD l
end
def c4:xC→List Nat
 | .box _ cells=>PD cells
 | .deep _ _ _ _ (some (_,i))=>[i]
 | _=>[]
def nut(e:Nf):List Nat:=
 zX e.sv++((match e.cw with | some (_,_,b7)=>PD b7 | none=>[])++e.ow.flatMap λx=>x.1::(match x.2 with | some o=>c4 o | none=>[]))
structure CM where
 i:Nat
 d:Option Nat
 rs:List Nat
 ro:List Nat
 wo:List Nat
 m:List Nat
def oK:List Oper→List Nat
 | []=>[]
 | o::l=>match o.dst with | some d=>d::oK l | none=>oK l
def Xb(a:List Nat):List Nat→Bool
 | []=>true
 | i::l=> !(Rf (i / 64) a) && Xb a l
def HQ(a:List Nat)(st:E):Bool:=(st.sl.all λx=>Xb a (zX x.2)) && (st.hp.all λx=>Xb a (x.1::c4 x.2))
def jO(d:Option Nat)(e:Nf)(st:E):Bool:=
 match e.ow,d with
 | _::_,some d=>HQ [d] st
 | _,_=>true
def E.cP(P:aaf)(Γ:Ctx)(st:E)(o:Oper):E:=
 match (evalOp P Γ o).run st.get st.obj with
 | some (e,_)=>cond (jO o.dst e st) (st.apply o.dst e) st.fail
 | none=>st.fail
def CZ:List Nat→List Nat→List Nat
 | [],m=>m
 | i::l,m=>cond (Rf i m) (CZ l m) (i::CZ l m)
def dU:List Oper→List (List Nat)→List (List Nat)
 | [],acc=>acc
 | o::l,acc=>dU l (acc++[o.after.toList.foldr (λe r=>cond (Region.binds .any e) (CZ (CZ [e.on] (acc.getD e.on [])) r) r) []])
def eB:List Oper→Nat→Bool
 | [],_=>true
 | o::l,i=>(o.after.toList.all λe=> !(Region.binds .any e) || zS e.on i) && eB l (i+1)
def TK(l:List Nat):List Nat→Bool
 | []=>false
 | i::m=>Rf i l || TK l m
def zn:Option Nat→List Nat
 | some d=>[d]
 | none=>[]
def DX(a b:CM):Bool:=
 TK (zn a.d) (b.rs++zn b.d) || TK a.rs (zn b.d) || TK a.wo (b.ro++b.wo) || TK a.ro b.wo ||
 (match a.d with | some d=>b.m.any λi=>zc (i / 64) d | none=>false)
def jQ(b a:CM):Bool:=match b.d with | some d=>a.m.any λi=>zc (i / 64) d | none=>false
def vq(an:List (List Nat))(a:CM):List CM→Bool
 | []=>true
 | b::l=>(!(DX a b) || Rf a.i (an.getD b.i [])) && !(jQ b a) && vq an a l
def TE(an:List (List Nat)):List CM→Bool
 | []=>true
 | a::l=>vq an a l && TE an l
def wL(ops:Array Oper)(o:Oper):List Nat:=
 match o.guard with
 | some (j,_)=>zn ((ops[j]?).bind (·.dst))
 | none=>[]
def ni(P:aaf)(Γ:Ctx)(ops:Array Oper)(i:Nat)(st:E)(o:Oper):CM:=
 match (evalOp P Γ o).run st.get st.obj with
 | some (e,s,r)=>⟨i,o.dst,wL ops o++s,(match e.cw with | some (i,_)=>[i] | none=>[])++r,(match e.cw with | some (i,_)=>[i] | none=>[])++e.ow.map (·.1),nut e⟩
 | none=>⟨i,o.dst,[],[],[],[]⟩
def V5(ops:Array Oper)(i:Nat)(o:Oper):CM:=⟨i,o.dst,wL ops o,[],[],[]⟩
def yG(ops:Array Oper)(st:E)(o:Oper):Option Bool:=
 match o.guard with
 | none=>some true
 | some (j,want)=>
  match (ops[j]?).bind (·.dst) with
  | none=>none
  | some s=>
   match st.get s with
   | .kb b=>some (b==want)
   | .undef=>some false
   | _=>none
def Ho(P:aaf)(Γ:Ctx)(ops:Array Oper)(gs:List Nat)(a:List CM→Bool):List Oper→Nat→List CM→E→E
 | [],_,acc,st=> {st with ok:=t st.ok (a acc)}
 | o::rest,i,acc,st=>
  match yG ops st o with
  | none=>st.fail
  | some false=>Ho P Γ ops gs a rest (i+1) (acc++[V5 ops i o]) (st.skip o.dst)
  | some true=>
   match o.dst with
   | none=>Ho P Γ ops gs a rest (i+1) (acc++[ni P Γ ops i st o]) (st.cP P Γ o)
   | some s=>
    bif Rf s gs then
     match (st.cP P Γ o).get s with
     | .bool g=>merge (st.cP P Γ o) g (Ho P Γ ops gs a rest (i+1) (acc++[ni P Γ ops i st o]) ((st.cP P Γ o).reset.gB s true))
       (Ho P Γ ops gs a rest (i+1) (acc++[ni P Γ ops i st o]) ((st.cP P Γ o).reset.gB s false))
     | _=>Ho P Γ ops gs a rest (i+1) (acc++[ni P Γ ops i st o]) (st.cP P Γ o)
    else Ho P Γ ops gs a rest (i+1) (acc++[ni P Γ ops i st o]) (st.cP P Γ o)
def Ud(ops:Array Oper):List Oper→List Nat
 | []=>[]
 | o::l=>wL ops o++Ud ops l
def fw(P:aaf)(Γ:Ctx)(ops:Array Oper)(a:Bool)(st:E):E:=cond a (cond (HQ (oK ops.toList) st && eB ops.toList 0 && P.follows .mixedOrders) (Ho P Γ ops (Ud ops ops.toList) (TE (dU ops.toList [])) ops.toList 0 [] st) st.fail) (Ho P Γ ops (Ud ops ops.toList) (λ_=>true) ops.toList 0 [] st)
def simple:Code→Bool
 | .skip=>true
 | .region _ _ _=>true
 | .seq a b=>simple a && simple b
 | .cond _ a b=>simple a && simple b
 | _=>false
def ev(st:E):aah→X
 | .tmp t=>st.get t
 | .const v=>ofConst v
 | _=> .ga
def E.dA(st:E)(c:aah)(b:Bool):E:=
 match c with
 | .tmp t=>st.gB t b
 | _=>st
def exec(P:aaf)(Γ:Ctx):Code→E→E
 | .skip,st=>st
 | .region _ ops draw,st=>fw P Γ ops draw st
 | .seq a b,st=>exec P Γ b (exec P Γ a st)
 | .cond c a b,st=>
  match ev st c with
  | .kb t=>cond t (exec P Γ a st) (exec P Γ b st)
  | .bool g=>merge st g (exec P Γ a (st.reset.dA c true)) (exec P Γ b (st.reset.dA c false))
  | _=>st.fail
 | _,st=>st.fail
abbrev B:=Bool×List DC
def lf:B:=(false,[])
inductive Sl where
 | AH
 | own (t:aae)
 | eV (t:aae)
 | deep (t:aae) (ts:List aae)
structure YJ where
 cx:List (Nat×Sl)
 boxes:List (Nat×List (Nat×Sl))
def sT:List (Nat×YJ)→Nat→Option YJ
 | [],_=>none
 | (k,s)::l,i=>cond (zc k i) (some s) (sT l i)
def Tt:List (Nat×Sl)→Nat→Sl
 | [],_=> .AH
 | (k,s)::l,i=>cond (zc k i) s (Tt l i)
def kV:List X→Bool
 | []=>true
 | .ptr _ _::l=>kV l
 | _=>false
def Yq(P:aaf)(c:List (Nat×xC))(ck:Sl)(a:Nat)(s:X):X×List (Nat×xC×Option Nat):=
 match s with
 | .own id=>match e6 c id with
  | some (.row t e r fz u)=>match ck with
   | .eV _=>(.ga,[])
   | _=>(.own a,[(a,.row t e r fz u,some id)])
  | some (.eV e r)=>(.sl e r,[])
  | some (.deep t e ts r none)=>match ck with
   | .eV _=>(.ga,[])
   | _=>(.own a,[(a,.deep t e ts r none,some id)])
  | _=>(.ga,[])
 | .nil=>match ck with
  | .own t=>match W4 P 16 t with
   | some e=>(.own a,[(a,.row t e [] false true,none)])
   | none=>(.ga,[])
  | .deep t ts=>match W4 P 16 t with
   | some e=>(.own a,[(a,.deep t e ts [] none,none)])
   | none=>(.ga,[])
  | .eV t=>match W4 P 16 t with
   | some e=>(.sl e [],[])
   | none=>(.ga,[])
  | .AH=>(.nil,[])
 | .kb b=>(.bool b,[])
 | .agg _=>(.ga,[])
 | .Es _=>(.ga,[])
 | .eS .. =>(.ga,[])
 | .GH .. =>(.ga,[])
 | .GL g cs=>cond (kV cs) (.GL g cs,[]) (.ga,[])
 | s=>(s,[])
def OH(P:aaf)(st:E):List (Nat×Sl)→List (Nat×X)×List (Nat×xC×Option Nat)
 | []=>([],[])
 | (i,ck)::l=>
  let c:=Yq P st.hp ck (Uc (10000+i) 0) (st.get i)
  let q:=OH P st l
  ((i,c.1)::q.1,c.2++q.2)
def n8(P:aaf)(a:List (Nat×xC))(d:List (Nat×Sl))(b:Nat):Nat→List X→List X×List (Nat×xC×Option Nat)
 | _,[]=>([],[])
 | k,s::l=>
  let c:=Yq P a (Tt d k) (Uc (20000+b*4) k) s
  let q:=n8 P a d b (k+1) l
  (c.1::q.1,c.2++q.2)
def kR(P:aaf)(a:List (Nat×xC)):List (Nat×List (Nat×Sl))→List (Nat×xC)×List (Nat×xC×Option Nat)
 | []=>([],[])
 | (b,mU)::l=>
  let q:=kR P a l
  match e6 a b with
  | some (.box t cells)=>
   let c:=n8 P a mU b 0 cells
   ((b,.box t c.1)::q.1,c.2++q.2)
  | _=>q
def C2:List Nat→Bool
 | []=>true
 | i::l=> !(Rf i l) && C2 l
def Oh:List (Nat×xC×Option Nat)→List Nat
 | []=>[]
 | (_,_,some i)::l=>i::Oh l
 | (_,_,none)::l=>Oh l
def nDs:List (Nat×xC)→Option Nat
 | []=>none
 | (i,.deep _ _ _ _ (some _))::_=>some i
 | _::l=>nDs l
def Yp:List CT→Nat
 | []=>0
 | .sl _::_=>0
 | _::l=>Yp l+1
def npE(e a:List CT):Bool:=
 match e[Yp e]? with
 | some (.sl e')=>cB e' a
 | _=>false
def E.EH(st:E):E:=
 match nDs st.hp with
 | some id=>match st.obj id with
  | some (.deep t e [t1] rows (some (i,nid)))=>match st.obj nid with
   | some (.row t2 e2 r false _)=>
    bif zc t2 t1 && npE e e2 && zc (Qn e) 1 && !(zc nid id) && Sw e2 then
     {st with hp:=ax [(id,some (.deep t e [t1] (rows.set i (Sk (rows.getD i []) (Yp e) [.sl r])) none)),(nid,none)] st.hp}
    else st
   | _=>st
  | _=>st
 | none=>st
def hG(P:aaf)(an:YJ)(st:E):E:=let s:=OH P st an.cx;let b:=kR P st.hp an.boxes;let a:=s.2++b.2;cond (C2 (Oh a) && C2 (b.1.map (·.1)++a.map (·.1))) ({n:=st.n,sl:=s.1,hp:=b.1++a.map (λx=>(x.1,x.2.1)),ok:=st.ok,ls:=[],lm:=[]}) st.fail
def qs(st:E):List (Nat×Sl)→yF
 | []=>[]
 | (i,.eV _)::l=>match st.get i with
  | .own id=>match st.obj id with
   | some (.row _ e r _ u)=>cond (V8 id (qs st l)) ((id,e,r,u)::qs st l) (qs st l)
   | _=>qs st l
  | _=>qs st l
 | (_,.AH)::l=>qs st l
 | (_,.own _)::l=>qs st l
 | (_,.deep _ _)::l=>qs st l
def E.KU(st:E)(an:YJ):E:= {st with hp:=ax (Gj (qs st an.cx)) st.hp}
def canon(P:aaf)(an:YJ)(st:E):E:=hG P an (st.EH.KU an)
def E.gd(st:E)(k:E→B):B:=cond st.ok (k {st with ok:=true}) lf
theorem eO{st:E}{k:E→B}{r:List DC}(h:st.gd k=(true,r)):k st=(true,r):=by
 unfold E.gd at h;cases a:st.ok with
 | true=>
  rw[a] at h;obtain⟨_,_,_,_,_,_⟩:=st;subst a;exact h
 | false=>
  rw[a] at h;exact absurd (congrArg Prod.fst h) (by simp[lf])
structure uS where
 fB:E→B
 ext:Nat→E→B
 ret:E→B
def Pz:Code→Option Nat
 | .region id _ _=>some id
 | .seq a b=>match Pz a with | some i=>some i | none=>Pz b
 | .cond _ a b=>match Pz a with | some i=>some i | none=>Pz b
 | .block _ a=>Pz a
 | .loop a=>Pz a
 | _=>none
def run(P:aaf)(Γ:Ctx)(A:List (Nat×YJ))(N:Nat):Code→E→uS→B
 | .skip,st,K=>K.fB st
 | .region _ ops draw,st,K=>(fw P Γ ops draw st).gd K.fB
 | .seq a b,st,K=>run P Γ A N a st {fB:=λs=>run P Γ A N b s K,ext:=K.ext,ret:=K.ret}
 | .cond c a b,st,K=>
  match ev st c with
  | .kb t=>cond t (run P Γ A N a st K) (run P Γ A N b st K)
  | .bool g=>
   bif simple a && simple b && zT Γ st g (exec P Γ a (st.reset.dA c true)) (exec P Γ b (st.reset.dA c false)) then
    (merge st g (exec P Γ a (st.reset.dA c true)) (exec P Γ b (st.reset.dA c false))).gd K.fB
   else cond g (run P Γ A N a (st.dA c true) K) (run P Γ A N b (st.dA c false) K)
  | _=>lf
 | .block id a,st,K=>run P Γ A N a st {fB:=K.fB,ext:=λi s=>cond (zc i id) (K.fB s) (K.ext i s),ret:=K.ret}
 | .loop a,st,K=>
  match (Pz a).bind (sT A) with
  | some an=>(Nat.rec (motive:=λ_=>E→B) (λ_=>lf) (λ_ d s=>run P Γ A N a s {fB:=λe=>d (canon P an e),ext:=K.ext,ret:=K.ret}) N) (canon P an st)
  | none=>lf
 | .exit id,st,K=>K.ext id st
 | .ret,st,K=>K.ret st
 | _,_,_=>lf
def RD(P:aaf):List ResultVar→M (List X)
 | []=> .pure []
 | .tmp t::l=> .slot t λs=>(RD P l).bind λr=> .pure (s::r)
 | .cell a t::l=> .slot a λs=>(match s with | .ptr id off=>Pp P t (.ptr id off) | _=> .fail).bind λe=>(RD P l).bind λr=> .pure (e.sv::r)
def YT:Pj→X→M (DC×List Nat×List Nat)
 | .eV ct,s=>(zo ct s).bind λq=> .pure (q.1,[],q.2.1.map (·.1))
 | .own _ _,.nil=> .pure (.sl [],[],[])
 | .own t e,.own id=> .obj id fun
  | .row t' e' r false u=>cond (zc t t' && cB e e' && u) (.pure (.sl r,[id],[])) (.fail)
  | _=> .fail
 | .own _ _,_=> .fail
 | .deep _ _ _,.nil=> .pure (.sl [],[],[])
 | .deep t e ts,.own id=> .obj id fun
  | .deep t' e' eu r none=>cond (zc t t' && cB e e' && UW ts eu) (.pure (.sl r,[id],[])) (.fail)
  | _=> .fail
 | .deep _ _ _,_=> .fail
def qe:List Pj→List X→M (List DC×List Nat×List Nat)
 | [],[]=> .pure ([],[],[])
 | c::cs,s::U=>(YT c s).bind λq=>(qe cs U).bind λr=> .pure (q.1::r.1,q.2.1++r.2.1,q.2.2++r.2.2)
 | _,_=> .fail
def sG:List ef→List X→M (List DC×List Nat×List Nat)
 | [],[]=> .pure ([],[],[])
 | k::ks,s::U=>
  (match k.agg,s with
   | true,.agg cs=>qe k.cells cs
   | true,_=> .fail
   | false,.agg _=> .fail
   | false,s=>qe k.cells [s]).bind λq=>(sG ks U).bind λr=> .pure (q.1++r.1,q.2.1++r.2.1,q.2.2++r.2.2)
 | _,_=> .fail
def nzi(t:aae)(bF:List CT):List X→M (List DC)
 | [.ptr id 0]=> .obj id fun
  | .box t' cells=>cond (zc t' t) ((cQ bF cells).bind λq=>cond q.2.1.isEmpty (.pure q.1) (.fail)) (.fail)
  | _=> .fail
 | _=> .fail
def W(P:aaf)(fn:Func)(s:C)(st:E):B:=
 match s.pt with
 | some (t,bF)=>
  match ((RD P fn.results.toList).bind λl=>nzi t bF l).run st.get st.obj with
  | some (ds,_)=>(st.ok,ds)
  | none=>lf
 | none=>
 match ((RD P fn.results.toList).bind λl=>sG s.rs l).run st.get st.obj with
 | some ((ds,own,im),_)=>(st.ok && C2 own && im.all (λi=> !(Rf i own)),ds)
 | none=>lf
def rU:Nat→List fG→List DC→List (Nat×X)
 | _,[],_=>[]
 | i,k::ks,ds=>(i,cond k.agg (.agg (C4 k.bF ds 0)) ((C4 k.bF ds 0).headD .ga))::rU (i+1) ks (ds.drop k.bF.length)
def dM(P:aaf)(Γ:Ctx)(A:List (Nat×YJ))(N:Nat)(fn:Func)(s:C)(a:List DC):B:=
 match fn.body with
 | some c=>run P Γ A N c {n:=fn.ntmps,sl:=rU 0 s.ps a,hp:=[],ok:=true,ls:=[],lm:=[]} {fB:=W P fn s,ext:=λ_ _=>lf,ret:=W P fn s}
 | none=>lf
mutual
def Z8(w:aai):CT→DC→aag→List Nat→Prop
 | .int k,d,v,fp=>∃n,d= .int n∧v= .int k n∧dQ k n=true∧fp=[]
 | .bool,d,v,fp=>∃b,d= .bool b∧v= .bool b∧fp=[]
 | .str,d,v,fp=>∃s:List UInt8,d= .str s∧v= .string ⟨s.toArray⟩∧s.length≤maxLen∧fp=[]
 | .sl e,d,v,fp=>∃g a n c,d= .sl g∧v= .slice a n c∧g.length=n∧n≤c∧c≤maxLen∧
   ((n=0∧fp=[])∨(0<n∧∃(b o:Nat) (h:List (List Nat)),a=some ⟨b,o,none⟩∧b<w.heap.size∧h.length=n∧fp=b::h.flatten∧
    ∀i r f,g[i]? =some r→h[i]? =some f→bj w e r (λj=>w.cell? ⟨b,o+(i*e.length+j),none⟩) f))
def bj(w:aai):List CT→List DC→(Nat→Option aag)→List Nat→Prop
 | [],r,_,fp=>r=[]∧fp=[]
 | c::cs,r,f,fp=>∃d a v b e,r=d::a∧f 0=some v∧Z8 w c d v b∧bj w cs a (λj=>f (j+1)) e∧fp=b++e
end
theorem ne5{w w':aai}{b o:Nat}(h:w'.heap[b]? =w.heap[b]?):w'.cell? ⟨b,o,none⟩=w.cell? ⟨b,o,none⟩:=by simp[World.cell?,h]
mutual
theorem Z8.lt{w:aai} :∀(c:CT) (d:DC) (v:aag) (k:List Nat),Z8 w c d v k→∀b∈k,b<w.heap.size
 | .int _,_,_,_,h=>by obtain⟨_,_,_,_,rfl⟩:=(by simpa only[Z8] using h);simp
 | .bool,_,_,_,h=>by obtain⟨_,_,_,rfl⟩:=(by simpa only[Z8] using h);simp
 | .str,_,_,_,h=>by obtain⟨_,_,_,_,rfl⟩:=(by simpa only[Z8] using h);simp
 | .sl e,_,_,_,h=>by
  simp only[Z8] at h;obtain⟨g,a,n,c,_,_,r,_,_,⟨_,rfl⟩ | ⟨_,b,o,l,_,m,s,rfl,p⟩⟩:=h
  ·simp
  ·intro x j;simp only[AT,AI] at j;rcases j with rfl | ⟨f,q,j⟩
   ·exact m
   ·obtain⟨i,t,rfl⟩:=Bi q;have u:i<g.length:=by omega
    exact bj.lt e _ _ _ (p i g[i] l[i] (by simp) (by simp)) x j
theorem bj.lt{w:aai} :∀(e:List CT) (r:List DC) (f:Nat→Option aag) (g:List Nat),bj w e r f g→∀b∈g,b<w.heap.size
 | [],_,_,_,h=>by simp only[bj] at h;simp[h.2]
 | c::e,_,_,_,h=>by
  simp only[bj] at h;obtain⟨d,k,v,l,m,_,_,i,j,rfl⟩:=h;intro b a;simp only[List.mem_append] at a;rcases a with a | a
  ·exact Z8.lt c _ _ _ i b a
  ·exact bj.lt e _ _ _ j b a
end
mutual
theorem Z8.mono{w w':aai}(u:w.heap.size≤w'.heap.size):∀(c:CT) (d:DC) (v:aag) (k:List Nat),Z8 w c d v k→(∀b∈k,w'.heap[b]? =w.heap[b]?)→Z8 w' c d v k
 | .int _,_,_,_,h,_=>by simpa only[Z8] using h
 | .bool,_,_,_,h,_=>by simpa only[Z8] using h
 | .str,_,_,_,h,_=>by simpa only[Z8] using h
 | .sl e,_,_,_,h,hb=>by
  simp only[Z8] at h ⊢;obtain⟨g,a,n,c,l,m,p,q,s,⟨y,rfl⟩ | ⟨z,b,o,A,B,G,C,rfl,D⟩⟩:=h
  ·exact⟨g,a,n,c,l,m,p,q,s,.inl ⟨y,rfl⟩⟩
  ·refine⟨g,a,n,c,l,m,p,q,s,.inr ⟨z,b,o,A,B,by omega,C,rfl,λi r f E t=>?_⟩⟩;refine bj.mono u e r _ _ f (D i r f E t) (λj=>?_) (λx F=>hb x ?_)
   ·exact (ne5 (hb b (by simp))).symm ▸ rfl
   ·simp only[AT,AI];exact .inr ⟨f,By t,F⟩
theorem bj.mono{w w':aai}(i:w.heap.size≤w'.heap.size):∀(a:List CT) (r:List DC) (f k:Nat→Option aag) (e:List Nat),bj w a r f e→(∀j,k j=f j)→(∀b∈e,w'.heap[b]? =w.heap[b]?)→bj w' a r k e
 | [],_,_,_,_,h,_,_=>by simpa only[bj] using h
 | c::a,_,_,_,_,h,hf,hb=>by simp only[bj] at h ⊢;obtain⟨d,l,v,m,n,o,p,q,s,rfl⟩:=h;exact⟨d,l,v,m,n,o,(hf 0).trans p,Z8.mono i c _ _ _ q (λb g=>hb b (by simp[g])),bj.mono i a _ _ _ _ s (λj=>hf (j+1)) (λb g=>hb b (by simp[g])),rfl⟩
end
theorem bj.length{w:aai} :∀(a:List CT) (r:List DC) (f:Nat→Option aag) (b:List Nat),bj w a r f b→r.length=a.length
 | [],_,_,_,h=>by simp only[bj] at h;simp[h.1]
 | c::a,_,_,_,h=>by simp only[bj] at h;obtain⟨d,g,v,i,j,rfl,_,_,e,_⟩:=h;simp[bj.length a _ _ _ e]
structure L where
 cY:Nat→Nat
 val:Nat→aag
 hX:Nat→Prop
 nb:Nat→List Nat
mutual
def O(w:aai)(a:Nat→Prop)(β:L):X→aag→Prop
 | .ga,_=>True
 | .undef,v=>v=undef
 | .kb b,v=>v= .bool b
 | .int k n,v=>v= .int k n∧dQ k n=true
 | .bool b,v=>v= .bool b
 | .str s,v=>v= .string ⟨s.toArray⟩∧s.length≤maxLen
 | .sl e r,v=>∃d,Z8 w (.sl e) (.sl r) v d∧∀b∈d,¬a b
 | .nil,v=>v= .slice none 0 0
 | .own id,v=>v=β.val id∧v.oneCell'=true
 | .agg cs,v=>∃f:List aag,v= .agg f.toArray∧Z w a β cs f∧∀x∈f,x.oneCell'=true
 | .ptr id off,v=>v= .pointer (some ⟨β.cY id,off,none⟩)
 | .iD e r off,v=>∃b o d,v= .pointer (some ⟨b,o+off,none⟩)∧b<w.heap.size∧¬a b∧bj w e r (λj=>w.cell? ⟨b,o+j,none⟩) d∧∀x∈d,¬a x
 | .eS id i z off,v=>∃g,(β.val id).ownBlock=some g∧v= .pointer (some ⟨g,i*z+off,none⟩)
 | .Es f,v=>∃l:List aag,v= .tuple l.toArray∧Z w a β f l
 | .GL g cs,v=>∃l:List aag,v= .func (.func g) #[] l.toArray∧Z w a β cs l
 | .GH id lo z,v=>∃g n c,β.val id= .slice (some ⟨g,0,none⟩) n c∧lo≤n∧v= .slice (some ⟨g,if lo<c then lo*z else 0,none⟩) (n - lo) (c - lo)
def Z(w:aai)(a:Nat→Prop)(β:L):List X→List aag→Prop
 | [],l=>l=[]
 | s::U,l=>∃v b,l=v::b∧O w a β s v∧Z w a β U b
end
mutual
theorem O.mono{w w':aai}{p av':Nat→Prop}{β β':L}(k:w.heap.size≤w'.heap.size)
  (g:∀b,b<w.heap.size→¬p b→w'.heap[b]? =w.heap[b]?) (l:∀b,av' b→p b∨w.heap.size≤b):
  ∀(s:X) (v:aag),O w p β s v→(∀i∈zX s,β'.val i=β.val i∧β'.cY i=β.cY i)→O w' av' β' s v
 | .ga,_,_,_=>by simp only[O]
 | .undef,_,h,_=>by simpa only[O] using h
 | .kb _,_,h,_=>by simpa only[O] using h
 | .int _ _,_,h,_=>by simpa only[O] using h
 | .bool _,_,h,_=>by simpa only[O] using h
 | .str _,_,h,_=>by simpa only[O] using h
 | .nil,_,h,_=>by simpa only[O] using h
 | .sl e r,v,h,_=>by
  simp only[O] at h ⊢;obtain⟨q,f,m⟩:=h;have n:=Z8.lt _ _ _ _ f;refine⟨q,Z8.mono k _ _ _ _ f (λb a=>g b (n b a) (m b a)),λb a c=>?_⟩;rcases l b c with h | h
  ·exact m b a h
  ·have:=n b a;omega
 | .own id,_,h,hi=>by simp only[O] at h ⊢;rw[(hi id (by simp[zX])).1];exact h
 | .ptr id _,_,h,hi=>by simp only[O] at h ⊢;rw[h,(hi id (by simp[zX])).2]
 | .eS id i z off,_,h,hi=>by simp only[O] at h ⊢;rw[(hi id (by simp[zX])).1];exact h
 | .iD e r off,v,h,_=>by
  simp only[O] at h ⊢;obtain⟨b,o,q,rfl,a,t,f,m⟩:=h;have n:=bj.lt _ _ _ _ f;have key:∀x,x<w.heap.size→¬p x→¬av' x:=λx c u y=>by
   rcases l x y with h | h
   ·exact u h
   ·omega
  refine⟨b,o,q,rfl,by omega,key b a t,bj.mono k _ _ _ _ _ f (λj=>ne5 (g b a t)) (λx c=>g x (n x c) (m x c)),λx c=>key x (n x c) (m x c)⟩
 | .agg cs,v,h,hi=>by simp only[O] at h ⊢;obtain⟨d,rfl,h,f⟩:=h;exact⟨d,rfl,Z.mono k g l cs d h (by simpa [zX] using hi),f⟩
 | .Es cs,v,h,hi=>by simp only[O] at h ⊢;obtain⟨d,rfl,h⟩:=h;exact⟨d,rfl,Z.mono k g l cs d h (by simpa [zX] using hi)⟩
 | .GL _ cs,v,h,hi=>by simp only[O] at h ⊢;obtain⟨d,rfl,h⟩:=h;exact⟨d,rfl,Z.mono k g l cs d h (by simpa [zX] using hi)⟩
 | .GH id _ _,_,h,hi=>by simp only[O] at h ⊢;rw[(hi id (by simp[zX])).1];exact h
theorem Z.mono{w w':aai}{a av':Nat→Prop}{β β':L}(d:w.heap.size≤w'.heap.size)
  (e:∀b,b<w.heap.size→¬a b→w'.heap[b]? =w.heap[b]?) (f:∀b,av' b→a b∨w.heap.size≤b):
  ∀(s:List X) (v:List aag),Z w a β s v→(∀i∈PD s,β'.val i=β.val i∧β'.cY i=β.cY i)→Z w' av' β' s v
 | [],_,h,_=>by simpa only[Z] using h
 | s::U,_,h,hi=>by simp only[Z] at h ⊢;obtain⟨v,g,rfl,j,k⟩:=h;exact⟨v,g,rfl,O.mono d e f s v j (λi c=>hi i (by simp[PD,c])),Z.mono d e f U g k (λi c=>hi i (by simp[PD,c]))⟩
end
theorem Z.length{w:aai}{av:Nat→Prop}{β:L} :∀(s:List X) (v:List aag),Z w av β s v→v.length=s.length
 | [],_,h=>by simp only[Z] at h;simp[h]
 | s::U,_,h=>by simp only[Z] at h;obtain⟨v,a,rfl,_,b⟩:=h;simp[Z.length U a b]
theorem Z.get{w:aai}{a:Nat→Prop}{β:L} :∀(U:List X) (b:List aag) (i:Nat) (s:X),Z w a β U b→U[i]? =some s→∃v,b[i]? =some v∧O w a β s v
 | [],_,_,_,_,hi=>by simp at hi
 | s::U,_,i,x,h,hi=>by
  simp only[Z] at h;obtain⟨v,c,rfl,d,e⟩:=h;cases i with
  | zero=>simp at hi;subst hi;exact⟨v,by simp,d⟩
  | succ i=>simpa using Z.get U c i x e (by simpa using hi)
theorem Z.append{w:aai}{c:Nat→Prop}{β:L} :∀(a:List X) (x:List aag) (b:List X) (y:List aag),Z w c β a x→Z w c β b y→Z w c β (a++b) (x++y)
 | [],_,_,_,h,h'=>by simp only[Z] at h;simpa [h] using h'
 | s::U,_,_,_,h,h'=>by simp only[Z] at h;obtain⟨v,d,rfl,e,f⟩:=h;simp only[List.cons_append,Z];exact⟨v,_,rfl,e,Z.append U d _ _ f h'⟩
theorem Z.take{w:aai}{b:Nat→Prop}{β:L} :∀(a:List X) (x:List aag) (n:Nat),Z w b β a x→Z w b β (a.take n) (x.take n)
 | [],_,n,h=>by simp only[Z] at h;simp[h,Z]
 | s::U,_,n,h=>by
  simp only[Z] at h;obtain⟨v,c,rfl,d,e⟩:=h;cases n with
  | zero=>simp[Z]
  | succ n=>simp only[BC,Z];exact⟨v,_,rfl,d,Z.take U c n e⟩
theorem Z.drop{w:aai}{b:Nat→Prop}{β:L} :∀(a:List X) (x:List aag) (n:Nat),Z w b β a x→Z w b β (a.drop n) (x.drop n)
 | [],_,n,h=>by simp only[Z] at h;simp[h,Z]
 | s::U,_,n,h=>by
  simp only[Z] at h;obtain⟨v,c,rfl,e,d⟩:=h;cases n with
  | zero=>simp only[List.drop_zero,Z];exact⟨v,c,rfl,e,d⟩
  | succ n=>simpa using Z.drop U c n d
mutual
theorem gpP:∀(a b:CT),Of a b=true→a=b
 | .int k,.int k',h=>by simp[Of] at h;rw[h]
 | .bool,.bool,_=>rfl
 | .str,.str,_=>rfl
 | .sl e,.sl e',h=>by simp only[Of] at h;rw[uG e e' h]
 | .int _,.bool,h | .int _,.str,h | .int _,.sl _,h | .bool,.int _,h | .bool,.str,h | .bool,.sl _,h | .str,.int _,h | .str,.bool,h | .str,.sl _,h | .sl _,.int _,h | .sl _,.bool,h | .sl _,.str,h=>by simp[Of] at h
theorem uG:∀(a b:List CT),cB a b=true→a=b
 | [],[],_=>rfl
 | a::l,b::m,h=>by simp only[cB,Bl] at h;rw[gpP a b h.1,uG l m h.2]
 | [],_::_,h | _::_,[],h=>by simp[cB] at h
end
theorem O.D4{w:aai}{a:Nat→Prop}{β:L}(e:List CT)(v:aag)(h:v= .slice none 0 0):O w a β (.sl e []) v:=by unfold O;refine⟨[], ?_,by simp⟩;unfold Z8;exact⟨[],none,0,0,rfl,h,rfl,BE _,Bb _,.inl ⟨rfl,rfl⟩⟩
mutual
theorem O.merge{w:aai}{av:Nat→Prop}{β:L}(g:Bool)(a b:X)(v:aag)(h:O w av β (cond g a b) v):O w av β (ij g a b) v:=by
 rw[ij.eq_def];split
 ·cases g<;>simpa using h
 ·rename_i x y;cases g<;>cases x<;>cases y<;>simp_all[O]
 ·cases g<;>simp_all[O]
 ·cases g<;>simp_all[O]
 ·cases g<;>simp_all[O]
 ·rename_i k n A m;by_cases u:k=A
  ·subst u;cases g<;>simp_all[O]
  ·simp[u,O]
 ·cases g<;>simp_all[O]
 ·rename_i e r t B;cases c:cB e t
  ·simp[O]
  ·have:=uG _ _ c;subst this;cases g<;>simpa using h
 ·cases g
  ·exact O.D4 _ _ (by simpa [O] using h)
  ·simpa using h
 ·cases g
  ·simpa using h
  ·exact O.D4 _ _ (by simpa [O] using h)
 ·cases g<;>simpa using h
 ·rename_i i j;cases c:zc i j
  ·simp[O]
  ·have:=Vs c;subst this;simpa using h
 ·rename_i i o j q;cases c:zc i j && zc o q
  ·simp[O]
  ·simp only[Bl] at c;have p:=Vs c.1;have s:=Vs c.2;subst p s;simpa using h
 ·rename_i e r o t B q;cases c:cB e t && zc o q
  ·simp[O]
  ·simp only[Bl] at c;have p:=uG _ _ c.1;have s:=Vs c.2;subst p s;cases g<;>simpa using h
 ·rename_i i x z o j y C q;cases c:zc i j && zc z C && zc o q
  ·simp[O]
  ·simp only[Bl] at c;have p:=Vs c.1.1;have s:=Vs c.1.2;have D:=Vs c.2;subst p s D;cases g<;>simpa using h
 ·rename_i l m;cases c:zc l.length m.length
  ·simp[O]
  ·simp only[H,O];have d:=Vs c;cases g
   ·simp only[J,O] at h;obtain⟨f,rfl,h,p⟩:=h;exact⟨f,rfl,Z.merge false l m f d h,p⟩
   ·simp only[H,O] at h;obtain⟨f,rfl,h,p⟩:=h;exact⟨f,rfl,Z.merge true l m f d h,p⟩
 ·rename_i l m;cases c:zc l.length m.length
  ·simp[O]
  ·simp only[H,O];have d:=Vs c;cases g
   ·simp only[J,O] at h;obtain⟨f,rfl,h⟩:=h;exact⟨f,rfl,Z.merge false l m f d h⟩
   ·simp only[H,O] at h;obtain⟨f,rfl,h⟩:=h;exact⟨f,rfl,Z.merge true l m f d h⟩
 ·simp only[O]
termination_by SizeOf.sizeOf a
theorem Z.merge{w:aai}{av:Nat→Prop}{β:L}(g:Bool):∀(a b:List X) (v:List aag),a.length=b.length→Z w av β (cond g a b) v→Z w av β (Ev g a b) v
 | [],[],v,_,h=>by cases g<;>simpa [Ev] using h
 | [],_::_,v,hl,h=>by simp at hl
 | _::_,[],v,hl,h=>by simp at hl
 | a::l,b::m,v,hl,h=>by
  simp only[Ev,Z];have f:l.length=m.length:=by simpa using hl
  cases g
  ·simp only[J,Z] at h;obtain⟨x,c,rfl,d,e⟩:=h;exact⟨x,c,rfl,O.merge false a b x d,Z.merge false l m c f e⟩
  ·simp only[H,Z] at h;obtain⟨x,c,rfl,d,e⟩:=h;exact⟨x,c,rfl,O.merge true a b x d,Z.merge true l m c f e⟩
termination_by a=>SizeOf.sizeOf a
end
def pz(w:aai)(t size:Nat)(c:Bool)(v:aag)(n:Nat)(b:List aag):Prop:=b.length=n*size∧ ((v= .slice none 0 0∧n=0∧c=false)∨ ∃(g cap:Nat) (a:Array aag),v= .slice (some ⟨g,0,none⟩) n cap∧w.heap[g]? =some (.cells a t (cond c (a.size,a.size+1) (0,0)))∧ n≤cap∧cap≤maxLen∧a.size=cap*size∧a.toList.take (n*size)=b)
def Uv(w:aai)(e:List CT)(a:List (List DC))(b:List aag)(c:List (List Nat)):Prop:=c.length=a.length∧∀i r f,a[i]? =some r→c[i]? =some f→bj w e r (λj=>b[i*e.length+j]?) f
def ar(β:L)(id:Nat):xC→List Nat
 | .box _ _=>[β.cY id]
 | .row _ _ _ _ _=>(β.val id).ownBlock.toList
 | .eV _ _=>[]
 | .deep _ _ _ _ _=>(β.val id).ownBlock.toList++β.nb id
def Zx(w:aai)(d:Option aag)(t:aae)(e:List CT)(a:List (List DC))(v:aag)(c:List Nat):Prop:=
 match d with
 | none=>∃b f,pz w t e.length false v a.length b∧Uv w e a b f∧c=v.ownBlock.toList
 | some v0=>v=v0∧v0.oneCell'=true∧c=[]
def D7(w:aai)(g:Option aag):List CT→List aae→List DC→List aag→List Nat→Prop
 | [],ts,ds,us,mb=>ts=[]∧ds=[]∧us=[]∧mb=[]
 | .sl e::cs,ts,ds,us,mb=>∃t h a b v f i j,ts=t::h∧ds= .sl a::b∧us=v::f∧Sw e=true∧Zx w g t e a v i∧D7 w g cs h b f j∧mb=i++j
 | c::cs,ts,ds,us,mb=>∃d b v f,ds=d::b∧us=v::f∧Z8 w c d v []∧D7 w g cs ts b f mb
def Ni(w:aai)(e:List CT)(d:List aae)(a:List (List DC))(b:List aag)(f:Nat→Option aag)(c:List (List Nat)):Prop:=c.length=a.length∧∀i r m,a[i]? =some r→c[i]? =some m→D7 w (f i) e d r ((b.drop (i*e.length)).take e.length) m
def Mz(β:L):Option (Nat×Nat)→Nat→Option aag
 | none,_=>none
 | some (i,id),j=>if j=i then some (β.val id) else none
def oa(h:Nat→Option xC)(β:L)(b:Nat):Prop:=(∃id o,h id=some o∧b∈ar β id o)∨β.hX b
def zC(w:aai)(c:Nat→Prop)(β:L)(id:Nat):xC→List Nat→Prop
 | .box t cells,φ=>∃d:List aag,w.heap[β.cY id]? =some (.cells d.toArray t (0,0))∧Z w c β cells d∧(∀x∈d,x.oneCell'=true)∧φ=[β.cY id]
 | .row t e rows fz u,φ=>∃a f,pz w t e.length fz (β.val id) rows.length a∧Uv w e rows a f∧(∀b∈f.flatten,¬c b)∧
   φ=(β.val id).ownBlock.toList++(cond u f.flatten [])
 | .eV e rows,φ=>O w c β (.sl e rows) (β.val id)∧φ=[]
 | .deep t e ts rows hl,φ=>∃a g,pz w t e.length false (β.val id) rows.length a∧Ni w e ts rows a (Mz β hl) g∧β.nb id=g.flatten∧φ=(β.val id).ownBlock.toList++g.flatten
structure Own where
 may:Nat→Prop
 hX:Nat→Prop
 fx:List (Nat×aag)
instance:CoeFun Own (λ_=>Nat→Prop):=⟨Own.may⟩
def Own.none:Own:=⟨λ_=>False,λ_=>False,[]⟩
structure Kept (S:Own) (w0 w:aai):Prop where
 os:w.os=w0.os
 tape:w.tape=w0.tape
 output:w.output=w0.output
 size:w0.heap.size≤w.heap.size
 block:∀k,k<w0.heap.size→¬S k→w.heap[k]? =w0.heap[k]?
structure V (w0:aai) (S:Own) (f:Nat→X) (h:Nat→Option xC) (β:L) (φ:Nat→List Nat) (tm:Array aag) (w:aai):Prop where
 cx:∀i,O w (oa h β) β (f i) (tm.getD i undef)
 aC:∀id o,h id=some o→zC w (oa h β) β id o (φ id)
 fresh:∀id o,h id=some o→(φ id).Nodup∧∀b∈φ id,(w0.heap.size≤b∨S b)∧b<w.heap.size
 sep:∀i j o p,i≠j→h i=some o→h j=some p→∀b∈φ i,b ∉ φ j
 hX:∀b,β.hX b→b<w0.heap.size∧¬S b
 bars:β.hX=S.hX
theorem Uv.lt{w:aai}{e:List CT}{a:List (List DC)}{c:List aag}{d:List (List Nat)}(h:Uv w e a c d):∀b∈d.flatten,b<w.heap.size:=by
 intro b g;obtain⟨f,j,g⟩:=AI.1 g;obtain⟨i,k,rfl⟩:=Bi j;have l:i<a.length:=by have:=h.1;omega
 exact bj.lt e _ _ _ (h.2 i a[i] d[i] (by simp) (by simp)) b g
theorem Uv.mono{w w':aai}{e:List CT}{a:List (List DC)}{c:List aag}{d:List (List Nat)}(h:Uv w e a c d)(j:w.heap.size≤w'.heap.size)
  (k:∀b∈d.flatten,w'.heap[b]? =w.heap[b]?):Uv w' e a c d:=
 ⟨h.1,λi r f l g=>bj.mono j e r _ _ f (h.2 i r f l g) (λ_=>rfl) (λb m=>k b (AI.2 ⟨f,By g,m⟩))⟩
theorem pz.mono{w w':aai}{t size:Nat}{e:Bool}{v:aag}{n:Nat}{a:List aag}(h:pz w t size e v n a)
  (f:∀b∈v.ownBlock.toList,w'.heap[b]? =w.heap[b]?):pz w' t size e v n a:=by
 refine⟨h.1, ?_⟩;rcases h.2 with i | ⟨g,cap,d,rfl,j,c⟩
 ·exact .inl i
 ·exact .inr ⟨g,cap,d,rfl,(f g (by simp[AL])).trans j,c⟩
theorem pz.one{w:aai}{t size:Nat}{b:Bool}{v:aag}{n:Nat}{a:List aag}(h:pz w t size b v n a):v.oneCell'=true:=by rcases h.2 with ⟨rfl,_⟩ | ⟨g,cap,c,rfl,_⟩<;>rfl
theorem pz.lt{w:aai}{t size:Nat}{d:Bool}{v:aag}{n:Nat}{a:List aag}(h:pz w t size d v n a):∀b∈v.ownBlock.toList,b<w.heap.size:=by
 rcases h.2 with ⟨rfl,_⟩ | ⟨g,cap,e,rfl,f,_⟩
 ·simp[AL]
 ·intro b c;simp[AL] at c;subst c;exact (Array.getElem?_eq_some_iff.1 f).1
theorem pz.owns{w:aai}{t size:Nat}{v:aag}{n:Nat}{a:List aag}(h:pz w t size false v n a):w.ownsRow 0 t size v n a:=by
 refine⟨h.1, ?_⟩;rcases h.2 with ⟨c,e,_⟩ | ⟨g,cap,d,c,f,b⟩
 ·exact .inl ⟨c,e⟩
 ·exact .inr ⟨g,cap,d,c,Bb _,by simpa using f,b⟩
theorem pz.IK{w:aai}{t size:Nat}{v:aag}{n:Nat}{a:List aag}{base:Nat}(h:w.ownsRow base t size v n a):pz w t size false v n a:=by
 refine⟨h.1, ?_⟩;rcases h.2 with ⟨c,e⟩ | ⟨g,cap,d,c,_,f,b⟩
 ·exact .inl ⟨c,e,rfl⟩
 ·exact .inr ⟨g,cap,d,c,by simpa using f,b⟩
theorem Uv.mX:∀(a:List CT) (r:List DC) (f:Nat→Option aag) (i:List Nat) {w:aai},Sw a=true→bj w a r f i→i=[]
 | [],r,g,i,w,_,h=>by simp only[bj] at h;exact h.2
 | c::a,r,g,i,w,hf,h=>by
  simp only[bj] at h;obtain⟨d,j,v,n,l,rfl,_,b,m,rfl⟩:=h;cases c with
  | sl e=>simp[Sw] at hf
  | int k=>
   simp only[Z8] at b;obtain⟨_,_,_,_,rfl⟩:=b;rw[Uv.mX a j _ l (by simpa [Sw] using hf) m];rfl
  | bool=>
   simp only[Z8] at b;obtain⟨_,_,_,rfl⟩:=b;rw[Uv.mX a j _ l (by simpa [Sw] using hf) m];rfl
  | str=>
   simp only[Z8] at b;obtain⟨_,_,_,_,rfl⟩:=b;rw[Uv.mX a j _ l (by simpa [Sw] using hf) m];rfl
theorem Uv.El{w:aai}{e:List CT}{a:List (List DC)}{b:List aag}{c:List (List Nat)}(d:Sw e=true)(h:Uv w e a b c):c.flatten=[]:=by
 rw[List.flatten_eq_nil_iff];intro l f;obtain⟨i,g,rfl⟩:=Bi f;have j:i<a.length:=by have:=h.1;omega
 exact Uv.mX e _ _ _ d (h.2 i a[i] c[i] (by simp) (by simp))
theorem D7.flat{w:aai}{a:Option aag}{c:CT}{b:List CT}{f:List aae}{g:List DC}{h:List aag}{i:List Nat}(m:Sw [c]=true):
  D7 w a (c::b) f g h i=∃d j v l,g=d::j∧h=v::l∧Z8 w c d v []∧D7 w a b f j l i:=by
 cases c with
 | sl e=>simp[Sw] at m
 | int k=>simp only[D7]
 | bool=>simp only[D7]
 | str=>simp only[D7]
theorem D7.mono{w w':aai}{q:Option aag}(c:w.heap.size≤w'.heap.size):∀(a:List CT) (s:List aae) (u:List DC) (x:List aag) (r:List Nat),D7 w q a s u x r→(∀b∈r,w'.heap[b]? =w.heap[b]?)→D7 w' q a s u x r
 | [],_,_,_,_,h,_=>by simpa only[D7] using h
 | .sl e::a,_,_,_,_,h,hb=>by
  simp only[D7] at h ⊢;obtain⟨t,A,o,g,v,i,B,C,j,l,m,f,y,D,rfl⟩:=h;refine⟨t,A,o,g,v,i,B,C,j,l,m,f, ?_,D7.mono c a _ _ _ _ D (λb n=>hb b (wZ _ n)),rfl⟩;cases q with
  | some v0=>exact y
  | none=>
   obtain⟨p,E,F,z,rfl⟩:=y;refine⟨p,E,F.mono (λb n=>hb b (Ss _ n)),z.mono c (λb n=>?_),rfl⟩;rw[z.El f] at n;simp at n
 | .int k::a,_,_,_,_,h,hb=>by simp only[D7] at h ⊢;obtain⟨d,g,v,i,j,l,m,f⟩:=h;exact⟨d,g,v,i,j,l,Z8.mono c _ _ _ _ m (by simp),D7.mono c a _ _ _ _ f hb⟩
 | .bool::a,_,_,_,_,h,hb=>by simp only[D7] at h ⊢;obtain⟨d,g,v,i,j,l,m,f⟩:=h;exact⟨d,g,v,i,j,l,Z8.mono c _ _ _ _ m (by simp),D7.mono c a _ _ _ _ f hb⟩
 | .str::a,_,_,_,_,h,hb=>by simp only[D7] at h ⊢;obtain⟨d,g,v,i,j,l,m,f⟩:=h;exact⟨d,g,v,i,j,l,Z8.mono c _ _ _ _ m (by simp),D7.mono c a _ _ _ _ f hb⟩
theorem Ni.mono{w w':aai}{e:List CT}{f:List aae}{a:List (List DC)}{c:List aag}{g hv':Nat→Option aag}{d:List (List Nat)}(h:Ni w e f a c g d)(k:w.heap.size≤w'.heap.size)
  (l:∀b∈d.flatten,w'.heap[b]? =w.heap[b]?) (n:∀i,hv' i=g i):Ni w' e f a c hv' d:=
 ⟨h.1,λi r m o j=>by rw[n];exact D7.mono k _ _ _ _ _ (h.2 i r m o j) (λb p=>l b (AI.2 ⟨m,By j,p⟩))⟩
theorem al{w:aai}{d:Nat→Prop}{β:L}{id:Nat}{o:xC}{φ:List Nat}(h:zC w d β id o φ):∀b∈ar β id o,b∈φ:=by
 cases o with
 | box t cells=>
  obtain⟨g,_,_,_,rfl⟩:=h;simp[ar]
 | row t e rows fz u=>
  obtain⟨a,i,_,_,_,rfl⟩:=h;intro b c;exact Ss _ c
 | eV e rows=>simp[ar]
 | deep t e ts rows hl=>
  obtain⟨a,j,_,_,f,rfl⟩:=h;intro b c;simpa only[ar,f] using c
theorem zC.mono{w w':aai}{m av':Nat→Prop}{β β':L}{id:Nat}{o:xC}{φ:List Nat}(h:zC w m β id o φ)(n:w.heap.size≤w'.heap.size)
  (q:∀b,b<w.heap.size→¬m b→w'.heap[b]? =w.heap[b]?) (r:∀b,av' b→m b∨w.heap.size≤b)
  (s:∀i,i=id∨i∈c4 o→β'.val i=β.val i∧β'.cY i=β.cY i) (p:∀b∈ar β id o,w'.heap[b]? =w.heap[b]?) (y:β'.nb id=β.nb id):zC w' av' β' id o φ:=by
 have key:∀x,x<w.heap.size→¬m x→¬av' x:=λx F z A=>by
  rcases r x A with h | h
  ·exact z h
  ·omega
 have d:=s id (.inl rfl);cases o with
 | box t cells=>
  obtain⟨B,f,g,l,rfl⟩:=h;refine⟨B, ?_,Z.mono n q r _ _ g (λi C=>s i (.inr C)),l,by rw[d.2]⟩;rw[d.2,p _ (by simp[ar])];exact f
 | row t e rows fz u=>
  obtain⟨a,D,f,g,l,rfl⟩:=h;refine⟨a,D, ?_,g.mono n (λb c=>q b (g.lt b c) (l b c)),λb c=>key b (g.lt b c) (l b c),by rw[d.1]⟩;rw[d.1];exact f.mono p
 | eV e rows=>
  obtain⟨f,rfl⟩:=h;refine⟨?_,rfl⟩;rw[d.1];exact O.mono n q r _ _ f (by simp[zX])
 | deep t e ts rows hl=>
  obtain⟨a,E,f,g,l,rfl⟩:=h;refine⟨a,E, ?_,g.mono n (λb c=>p b ?_) (λj=>?_),by rw[y];exact l,by rw[d.1]⟩
  ·rw[d.1];exact f.mono (λb c=>p b (by simp only[ar];exact Ss _ c))
  ·simp only[ar,l];exact wZ _ c
  ·cases hl with
   | none=>rfl
   | some x=>
    obtain⟨k,v⟩:=x;simp only[Mz];rw[(s v (.inr (by simp[c4]))).1]
theorem V.AA{w0:aai}{S:Own}{f:Nat→X}{h g:Nat→Option xC}{β a:L}{φ c:Nat→List Nat}{tm:Array aag}{w w':aai}
  (k:V w0 S f h β φ tm w) (Z:Nat→Prop)
  (n:w.heap.size≤w'.heap.size) (q:∀b,b<w.heap.size→¬oa h β b→w'.heap[b]? =w.heap[b]?) (r:∀b,oa g a b→oa h β b∨w.heap.size≤b)
  (A:∀i,∀id∈zX (f i),¬Z id) (s:∀id,¬Z id→a.val id=β.val id∧a.cY id=β.cY id)
  (t:∀id o,g id=some o→
   (¬Z id∧h id=some o∧a.nb id=β.nb id∧c id=φ id∧(∀i∈c4 o,¬Z i)∧∀b∈ar β id o,w'.heap[b]? =w.heap[b]?)∨
   (zC w' (oa g a) a id o (c id)∧(c id).Nodup∧∀b∈c id,(w0.heap.size≤b∨S b)∧b<w'.heap.size))
  (B:∀i j o p,i≠j→g i=some o→g j=some p→∀b∈c i,b ∉ c j) (u:a.hX=β.hX:=by rfl):V w0 S f g a c tm w' where
 cx i:=O.mono n q r _ _ (k.cx i) (λid C=>s id (A i id C))
 aC id o ho:=by
  rcases t id o ho with ⟨v,d,x,l,y,z⟩ | d
  ·rw[l];exact (k.aC id o d).mono n q r (λi D=>s i (D.elim (λe=>e ▸ v) (y i))) z x
  ·exact d.1
 fresh id o ho:=by
  rcases t id o ho with ⟨v,d,x,l,y,z⟩ | d
  ·rw[l];refine⟨(k.fresh id o d).1,λb m=>?_⟩;have:=(k.fresh id o d).2 b m;exact⟨this.1,by omega⟩
  ·exact d.2
 sep:=B
 hX b m:=k.hX b (u ▸ m)
 bars:=u.trans k.bars
theorem V.step{w0:aai}{S:Own}{f:Nat→X}{h h':Nat→Option xC}{β β':L}{φ φ':Nat→List Nat}{tm:Array aag}{w w':aai}
  (a:V w0 S f h β φ tm w) (Z:Nat→Prop)
  (c:w.heap.size≤w'.heap.size) (d:∀b,b<w.heap.size→¬oa h β b→w'.heap[b]? =w.heap[b]?) (e:∀b,oa h' β' b→oa h β b∨w.heap.size≤b)
  (g:∀i,∀id∈zX (f i),¬Z id) (k:∀id,¬Z id→β'.val id=β.val id∧β'.cY id=β.cY id)
  (l:∀id o,h' id=some o→
   (¬Z id∧h id=some o∧φ' id=φ id∧(∀i∈c4 o,¬Z i)∧∀b∈ar β id o,w'.heap[b]? =w.heap[b]?)∨
   (zC w' (oa h' β') β' id o (φ' id)∧(φ' id).Nodup∧∀b∈φ' id,(w0.heap.size≤b∨S b)∧b<w'.heap.size))
  (m:∀i j o p,i≠j→h' i=some o→h' j=some p→∀b∈φ' i,b ∉ φ' j) (n:β'.hX=β.hX:=by rfl) (q:∀id,β'.nb id=β.nb id:=by intro _;rfl):V w0 S f h' β' φ' tm w':=
 a.AA Z c d e g k (λid o r=>(l id o r).elim (λh=> .inl ⟨h.1,h.2.1,q id,h.2.2⟩) .inr) m n
theorem V.I5{w0:aai}{S:Own}{f:Nat→X}{h:Nat→Option xC}{β:L}{φ:Nat→List Nat}{tm:Array aag}{w:aai}(a:V w0 S f h β φ tm w)(i:w0.heap.size≤w.heap.size){b:Nat}(c:oa h β b):b<w.heap.size:=by
 rcases c with ⟨j,d,e,g⟩ | c
 ·exact ((a.fresh j d e).2 b (al (a.aC j d e) b g)).2
 ·have:=(a.hX b c).1;omega
theorem V.B0{w0:aai}{S:Own}{f:Nat→X}{h:Nat→Option xC}{β:L}{φ:Nat→List Nat}{tm:Array aag}{w:aai}(a:V w0 S f h β φ tm w){j:Nat}{c:xC}(e:h j=some c){b:Nat}(g:b∈φ j):¬β.hX b:=by
 intro i;have k:=a.hX b i;rcases ((a.fresh j c e).2 b g).1 with d | d
 ·omega
 ·exact k.2 d
def L9{α:Type}(f:Nat→α)(d:Nat)(x:α):Nat→α:=λi=>if i=d then x else f i
theorem V.put{w0:aai}{S:Own}{f:Nat→X}{h:Nat→Option xC}{β:L}{φ:Nat→List Nat}{tm:Array aag}{w:aai}
  (a:V w0 S f h β φ tm w) (d:Nat) (s:X) (v:aag) (c:d<tm.size) (g:O w (oa h β) β s v):V w0 S (L9 f d s) h β φ (tm.setIfInBounds d v) w where
 cx i:=by
  by_cases b:i=d
  ·subst b;simpa [L9,Array.getD,c] using g
  ·have:=a.cx i;have e:(tm.setIfInBounds d v).getD i undef=tm.getD i undef:=by simp only[BY,Cz];rw[if_neg (λe=>b e.symm)]
   rw[e];simpa [L9,b] using this
 aC:=a.aC
 fresh:=a.fresh
 sep:=a.sep
 hX:=a.hX
 bars:=a.bars
structure Rel (w0:aai) (S:Own) (st:E) (a:Act) (w:aai):Prop where
 size:a.tmps.size=st.n % 1099511627776
 fx:∀x∈S.fx,x.1<st.n / 1099511627776∧a.tmps.getD x.1 undef=x.2
 defers:a.defers=[]
 kept:Kept S w0 w
 core:∃β φ,V w0 S st.get st.obj β φ a.tmps w
def M.val{α:Type}(f:Nat→X)(h:Nat→Option xC):M α→Option α
 | .pure a=>some a
 | .fail=>none
 | .slot i k=>(k (f i)).val f h
 | .obj i k=>match h i with
  | some x=>(k x).val f h
  | none=>none
theorem M.dX{α:Type}{f:Nat→X}{h:Nat→Option xC} :∀(m:M α) {a:α} {s o:List Nat},m.run f h=some (a,s,o)→m.val f h=some a
 | .pure a,_,_,_,e=>by simp only[M.run,Y,Prod.mk.injEq] at e;simp[M.val,e.1]
 | .fail,_,_,_,e=>by simp[M.run] at e
 | .slot i k,a,s,o,e=>by
  simp only[M.run] at e;split at e
  ·rename_i b d g c;simp only[Y,Prod.mk.injEq] at e;obtain⟨rfl,_,_⟩:=e;exact M.dX (k (f i)) c
  ·cases e
 | .obj i k,a,s,o,e=>by
  simp only[M.run] at e;split at e
  ·rename_i x j;split at e
   ·rename_i b d g c;simp only[Y,Prod.mk.injEq] at e;obtain⟨rfl,_,_⟩:=e;simp only[M.val,j];exact M.dX (k x) c
   ·cases e
  ·cases e
@[simp] theorem M.ag {α β:Type} {f:Nat→X} {h:Nat→Option xC} (k:α→M β):∀(m:M α),(m.bind k).val f h=(m.val f h).bind λa=>(k a).val f h
 | .pure a=>rfl
 | .fail=>rfl
 | .slot i q=>by simp only[M.bind,M.val];exact M.ag k (q (f i))
 | .obj i q=>by
  simp only[M.bind,M.val]
  cases h i with
  | none=>rfl
  | some x=>exact M.ag k (q x)
@[simp] theorem M.ab {α:Type} {f:Nat→X} {h:Nat→Option xC} (a:α):(M.pure a).val f h=some a:=rfl
@[simp] theorem M.AD {α:Type} {f:Nat→X} {h:Nat→Option xC} :(M.fail:M α).val f h=none:=rfl
@[simp] theorem M.aY {α:Type} {f:Nat→X} {h:Nat→Option xC} (i:Nat) (k:xC→M α):(M.obj i k).val f h=(h i).bind λx=>(k x).val f h:=by
 simp only[M.val]
 cases h i<;>rfl
@[simp] theorem M.jl {α:Type} {f:Nat→X} {h:Nat→Option xC} (i:Nat) (k:X→M α):(M.slot i k).val f h=(k (f i)).val f h:=rfl
def iN(f:Nat→X):aah→X
 | .tmp t=>f t
 | .const v=>ofConst v
 | _=> .ga
theorem naX{f:Nat→X}{h:Nat→Option xC}{x:aah}{s:X}(e:(zQ x).val f h=some s):s=iN f x:=by
 cases x<;>simp[zQ,M.val] at e<;>simp[iN,e]
theorem B6{w:aai}{b:Nat→Prop}{β:L}(v:aag):O w b β (ofConst v) v:=by
 unfold ofConst;split
 ·simp[O]
 ·rename_i k n;cases a:dQ k n<;>simp[O,a]
 ·rename_i s;cases a:zP s.data.toList.length maxLen
  ·simp[O]
  ·simp only[H,O];exact⟨by simp,AS a⟩
 ·simp[O]
 ·simp[O]
theorem V.ev{w0:aai}{S:Own}{f:Nat→X}{h:Nat→Option xC}{β:L}{φ:Nat→List Nat}{a:Act}{w:aai}
  (b:V w0 S f h β φ a.tmps w) {x:aah} {s:X} (e:(zQ x).val f h=some s):O w (oa h β) β s (a.eval x):=by
 have:=naX e;subst this;cases x with
 | tmp t=>exact b.cx t
 | const v=>exact B6 v
 | global g=>simp[iN,O]
 | func g=>simp[iN,O]
def ji:List (Nat×Option xC)→(Nat→Option xC)→Nat→Option xC
 | [],h=>h
 | (i,x)::l,h=>L9 (ji l h) i x
def ey:Option (Nat×Nat×List X)→(Nat→Option xC)→Nat→Option xC
 | none,h=>h
 | some (i,off,b7),h=>match h i with
  | some (.box t cells)=>L9 h i (some (.box t (fW cells off b7)))
  | _=>h
theorem vw(h:List (Nat×xC))(i j:Nat):e6 (CH h i) j=if j=i then none else e6 h j:=by
 induction h with
 | nil=>simp[CH,e6]
 | cons x l c=>
  obtain⟨k,o⟩:=x;simp only[CH,e6];cases d:zc k i
  ·simp only[J,e6];cases a:zc k j
   ·simpa using c
   ·have b:=Vs a;have e:=Bd d;subst b;simp[e]
  ·have b:=Vs d;subst b;simp only[H];rw[c];by_cases a:j=k
   ·simp[a]
   ·have:zc k j=false:=by
     cases f:zc k j
     ·rfl
     ·exact absurd (Vs f).symm a
    simp[a,this]
theorem nk3(h:List (Nat×xC))(i j:Nat)(o:xC):e6 ((i,o)::h) j=if j=i then some o else e6 h j:=by
 simp only[e6];cases a:zc i j
 ·have b:=Bd a;rw[if_neg (λe=>b e.symm)];rfl
 ·simp[(Vs a).symm]
theorem Qt(ow:List (Nat×Option xC))(h:List (Nat×xC)):e6 (ax ow h)=ji ow (e6 h):=by
 induction ow with
 | nil=>rfl
 | cons x l a=>
  obtain⟨i,o⟩:=x;funext j;cases o with
  | none=>simp only[ax,vw,ji,L9,a]
  | some o=>
   simp only[ax,nk3,vw,ji,L9,a];split<;>rfl
theorem ncn(cw:Option (Nat×Nat×List X))(h:List (Nat×xC)):e6 (gX cw h)=ey cw (e6 h):=by
 cases cw with
 | none=>rfl
 | some x=>
  obtain⟨i,off,a⟩:=x;simp only[gX,ey];cases c:e6 h i with
  | none=>rfl
  | some b=>
   cases b with
   | box t cells=>
    funext j;simp only[nk3,vw,L9];split<;>rfl
   | row=>rfl
   | eV=>rfl
   | deep=>rfl
theorem VK(st:E)(d:Option Nat)(e:Nf):(st.apply d e).obj=ji e.ow (ey e.cw st.obj):=by show e6 (ax e.ow (gX e.cw st.hp))=_;rw[Qt,ncn];rfl
theorem apply_get(st:E)(d:Nat)(e:Nf):(st.apply (some d) e).get=L9 st.get d e.sv:=by
 funext i;show XH ((d,e.sv)::st.sl) i=_;simp only[XH,L9,E.get];cases a:zc d i
 ·have b:=Bd a;rw[if_neg (λh=>b h.symm)];rfl
 ·simp[(Vs a).symm]
theorem nsE(st:E)(e:Nf):(st.apply none e).get=st.get:=rfl
def R(P:aaf)(w0:aai)(S:Own)(st:E)(o:Oper)(e:Nf)(a:Act)(w:aai):Prop:=∀Q,o.wp P a w (λb w'=>∃v,b=a.put o.dst v∧Rel w0 S (st.apply o.dst e) b w') Q
theorem L8{w0:aai}{S:Own}{st:E}{o:Oper}{e:Nf}{a:Act}{w w':aai}{v:aag}(b:Rel w0 S st a w)(f:∀d,o.dst=some d→sP st.n d)
  (g:Kept S w0 w') (c:∃β φ,V w0 S st.get (ji e.ow (ey e.cw st.obj)) β φ a.tmps w'∧O w' (oa (ji e.ow (ey e.cw st.obj)) β) β e.sv v):
  Rel w0 S (st.apply o.dst e) (a.put o.dst v) w':=by
 obtain⟨β,φ,c,j⟩:=c;cases h:o.dst with
 | none=>
  refine⟨b.size,b.fx,b.defers,g,β,φ, ?_⟩;rw[VK,nsE];exact c
 | some d=>
  refine⟨?_, ?_,b.defers,g,β,φ, ?_⟩
  ·simp only[Act.put,Array.size_setIfInBounds];exact b.size
  ·intro x k;have i:=b.fx x k;have l:=(f d h).2;refine⟨i.1, ?_⟩;simp only[Act.put,BY,Cz];rw[if_neg (by omega),←BY];exact i.2
  ·rw[VK,apply_get];exact c.put d e.sv v (by rw[b.size];exact (f d h).1) j
theorem HI{P:aaf}{w0:aai}{S:Own}{st:E}{o:Oper}{e:Nf}{a:Act}{w w':aai}{v:aag}(b:Rel w0 S st a w)(c:∀d,o.dst=some d→sP st.n d)
  (f:(execOp a.eval o).run P w= .ok (.value v) w') (g:Kept S w0 w')
  (h:∃β φ,V w0 S st.get (ji e.ow (ey e.cw st.obj)) β φ a.tmps w'∧O w' (oa (ji e.ow (ey e.cw st.obj)) β) β e.sv v):R P w0 S st o e a w:=by
 intro Q;unfold Oper.wp;rw[f];exact⟨v,rfl,L8 b c g h⟩
theorem Au{P:aaf}{w0:aai}{S:Own}{st:E}{o:Oper}{e:Nf}{a:Act}{w w':aai}(b:Rel w0 S st a w)(c:∀d,o.dst=some d→sP st.n d)
  (f:(execOp a.eval o).run P w= .ok .skip w') (g:Kept S w0 w')
  (h:∃β φ,V w0 S st.get (ji e.ow (ey e.cw st.obj)) β φ a.tmps w'∧O w' (oa (ji e.ow (ey e.cw st.obj)) β) β e.sv undef):R P w0 S st o e a w:=by
 intro Q;unfold Oper.wp;rw[f];exact⟨undef,rfl,L8 b c g h⟩
theorem zt{P:aaf}{w0:aai}{S:Own}{st:E}{o:Oper}{e:Nf}{a:Act}{w:aai}(c:Rel w0 S st a w)(i:∀d,o.dst=some d→sP st.n d)
  (f:e.cw=none) (b:e.ow=[])
  (h:∀β φ,V w0 S st.get st.obj β φ a.tmps w→∃v,(execOp a.eval o).run P w= .ok (.value v) w∧O w (oa st.obj β) β e.sv v):R P w0 S st o e a w:=by
 obtain⟨β,φ,g⟩:=c.core;obtain⟨v,j,k⟩:=h β φ g;refine HI c i j c.kept ⟨β,φ, ?_, ?_⟩
 ·rw[f,b];exact g
 ·rw[f,b];exact k
theorem aL{k:Zh}{n:Int} :dQ k n=true↔k.min≤n∧n≤k.max:=by simp[dQ]
theorem qM(k:Zh)(n:Int):dQ k (k.wrap n)=true:=aL.2 (wrap_within k n)
theorem mT(a:BinOp)(k:Zh)(x y:Int):dQ k (bits a k x y)=true:=aL.2 (bits_within a k x y)
theorem nmc(k:Zh):k.min≤0:=by cases k<;>decide
theorem ngE(k:Zh):0≤k.max:=by cases k<;>decide
theorem nfz(x y:Int):(0≤x→0≤x.tmod y∧x.tmod y≤x)∧(x≤0→x≤x.tmod y∧x.tmod y≤0):=by
 have a:∀z:Int,0≤z→0≤z.tmod y∧z.tmod y≤z:=by intro z b;refine⟨Int.tmod_nonneg y b, ?_⟩;have h:=Int.natAbs_tmod z y;have c:z.natAbs % y.natAbs≤z.natAbs:=Nat.mod_le _ _;have d:=Int.tmod_nonneg y b;omega
 refine⟨a x,λe=>?_⟩;have h:=a (-x) (by omega);rw[Int.neg_tmod] at h;omega
theorem nwz{k:Zh}{x:Int}(y:Int)(h:dQ k x=true):dQ k (x.tmod y)=true:=by
 rw[aL] at*;have c:=nmc k;have d:=ngE k;have b:=nfz x y;rcases Int.le_total 0 x with a | a
 ·have:=b.1 a;omega
 ·have:=b.2 a;omega
theorem niL(x:Int)(n:Nat):(0≤x→0≤x.fdiv (2 ^ n)∧x.fdiv (2 ^ n)≤x)∧(x≤0→x≤x.fdiv (2 ^ n)∧x.fdiv (2 ^ n)≤0):=by
 have b:(1:Int)≤2 ^ n:=by
  have:0<2 ^ n:=Nat.two_pow_pos n;have c:((2 ^ n:Nat):Int)=(2:Int) ^ n:=by simp
  omega
 rw[Int.fdiv_eq_ediv_of_nonneg x (by omega)];generalize (2:Int) ^ n=m at b;refine⟨λa=>⟨Int.ediv_nonneg a (by omega),Int.ediv_le_self m a⟩,λa=>⟨?_, ?_⟩⟩
 ·rw[Int.le_ediv_iff_mul_le (by omega)];have:=Int.mul_le_mul_of_nonpos_left a b;simpa using this
 ·have:=Int.ediv_le_ediv (by omega:(0:Int)<m) a;simpa using this
theorem nFD{k:Zh}{x:Int}(n:Nat)(h:dQ k x=true):dQ k (x.fdiv (2 ^ n))=true:=by
 rw[aL] at*;have c:=nmc k;have d:=ngE k;have b:=niL x n;rcases Int.le_total 0 x with a | a
 ·have:=b.1 a;omega
 ·have:=b.2 a;omega
theorem ngj{P:aaf}{w:aai}{d:BinOp}{k:Zh}{x y:Int}{t:aae}{s:X}{c:Bool}(h:nad d k x y=some (s,c))(a:c=true)(f:dQ k x=true)
  {av:Nat→Prop} {β:L} :∃v,(binOp d t (.int k x) (.int k y)).run P w= .ok v w∧O w av β s v:=by
 unfold nad at h;split at h<;>simp only[Y,Prod.mk.injEq,reduceCtorEq] at h
 all_goals obtain⟨rfl,e⟩:=h
 ·exact⟨_,by simp[binOp,Op.intArith];rfl,by simp[O,qM]⟩
 ·exact⟨_,by simp[binOp,Op.intArith];rfl,by simp[O,qM]⟩
 ·exact⟨_,by simp[binOp,Op.intArith];rfl,by simp[O,qM]⟩
 ·have b:y≠0:=by rw[←e] at a;simpa using a
  exact⟨_,by simp[binOp,Op.intDiv,b];rfl,by simp[O,qM]⟩
 ·have b:y≠0:=by rw[←e] at a;simpa using a
  exact⟨_,by simp[binOp,Op.intDiv,b];rfl,by simp[O,nwz y f]⟩
 ·exact⟨.int k (bits .and k x y),by simp only[binOp,ne_eq,not_true_eq_false,if_false];rfl,by simp[O,mT]⟩
 ·exact⟨.int k (bits .or k x y),by simp only[binOp,ne_eq,not_true_eq_false,if_false];rfl,by simp[O,mT]⟩
 ·exact⟨.int k (bits .xor k x y),by simp only[binOp,ne_eq,not_true_eq_false,if_false];rfl,by simp[O,mT]⟩
 ·exact⟨.int k (bits .andNot k x y),by simp only[binOp,ne_eq,not_true_eq_false,if_false];rfl,by simp[O,mT]⟩
 all_goals exact⟨_,by simp[binOp,Op.intCmp];rfl,by simp[O]⟩
set_option linter.unusedVariables false
set_option linter.unusedSimpArgs false
theorem WH{w:aai}{g:Nat→Prop}{β:L}{c:CT}{d:DC}{v:aag}{f:List Nat}(h:Z8 w c d v f)(j:∀b∈f,¬g b):O w g β (yz c d) v:=by
 cases c with
 | int k=>
  simp only[Z8] at h;obtain⟨n,rfl,rfl,l,_⟩:=h;simp[yz,DC.asInt,O,l]
 | bool=>
  simp only[Z8] at h;obtain⟨b,rfl,rfl,_⟩:=h;simp[yz,DC.asBool,O]
 | str=>
  simp only[Z8] at h;obtain⟨s,rfl,rfl,m,_⟩:=h;simp[yz,DC.Hm,O,m]
 | sl e=>
  have h':=h;simp only[Z8] at h;obtain⟨i,a,n,o,rfl,_⟩:=h;simp only[yz,DC.cG,O];exact⟨f,h',j⟩
theorem Z8.one{w:aai}{c:CT}{d:DC}{v:aag}{g:List Nat}(h:Z8 w c d v g):v.oneCell'=true:=by
 cases c with
 | int k=>simp only[Z8] at h;obtain⟨n,_,rfl,_⟩:=h;rfl
 | bool=>simp only[Z8] at h;obtain⟨b,_,rfl,_⟩:=h;rfl
 | str=>simp only[Z8] at h;obtain⟨s,_,rfl,_⟩:=h;rfl
 | sl e=>simp only[Z8] at h;obtain⟨f,a,n,i,_,rfl,_⟩:=h;rfl
theorem bj.get{w:aai} :∀(a:List CT) (r:List DC) (f:Nat→Option aag) (j:List Nat) (i:Nat) (c:CT),bj w a r f j→a[i]? =some c→
  ∃v e,f i=some v∧Z8 w c (r.getD i default) v e∧∀b∈e,b∈j
 | [],_,_,_,_,_,_,hi=>by simp at hi
 | c::a,_,_,_,i,x,h,hi=>by
  simp only[bj] at h;obtain⟨d,k,v,l,m,rfl,n,o,p,rfl⟩:=h;cases i with
  | zero=>
   simp at hi;subst hi;exact⟨v,l,n,by simpa using o,λb g=>by simp[g]⟩
  | succ i=>
   obtain⟨q,e,s,t,u⟩:=bj.get a k _ m i x p (by simpa using hi);exact⟨q,e,s,by simpa using t,λb g=>by simp[u b g]⟩
theorem bj.b7{w:aai}{av:Nat→Prop}{β:L}{a:List CT}{r:List DC}{f:Nat→Option aag}{d:List Nat}(h:bj w a r f d)(i:∀b∈d,¬av b):
  ∀(n k:Nat),k+n≤a.length→∃c:List aag,c.length=n∧(∀j v,c[j]? =some v→f (k+j)=some v)∧Z w av β (C4 ((a.drop k).take n) r k) c∧∀x∈c,x.oneCell'=true
 | 0,k,_=>⟨[],rfl,by simp,by simp[C4,Z],by simp⟩
 | n+1,k,hk=>by
  have m:k<a.length:=by omega
  obtain⟨v,A,o,l,p⟩:=bj.get a r f d k a[k] h (by simp);obtain⟨c,q,s,t,y⟩:=bj.b7 (β:=β) h i n (k+1) (by omega);refine⟨v::c,by simp[q], ?_, ?_, ?_⟩
  ·intro j u e;cases j with
   | zero=>simp at e;subst e;simpa using o
   | succ j=>have:=s j u (by simpa using e);rw[←this];congr 1;omega
  ·have:(a.drop k).take (n+1)=a[k]::(a.drop (k+1)).take n:=by rw[List.drop_eq_getElem_cons m,BC]
   rw[this];simp only[C4,Z];exact⟨v,c,rfl,WH l (λb z=>i b (p b z)),t⟩
  ·intro x g;rcases AT.1 g with rfl | g
   ·exact l.one
   ·exact y x g
theorem ZB(b o n:Nat):(⟨b,o,none⟩:Addr).add n=⟨b,o+n,none⟩:=by
 unfold Addr.add;split
 ·rename_i h;subst h;rfl
 ·rfl
theorem yr{P:aaf}{w:aai}{t:aae}{d:TypeDesc}(h:P.underlying t=some d):(isAgg t).run P w= .ok (fC P t) w:=by simp only[isAgg,Sem.run_bind,run_underlying h,Result.andThen_ok,fC,h];cases d<;>rfl
theorem nzT{P:aaf}{t:aae}(h:fC P t=true):∃d,P.underlying t=some d:=by unfold fC at h;split at h<;>first | exact⟨_,by assumption⟩ | cases h
theorem ZO{P:aaf}{w:aai}{t:aae}{i:TypeInfo}{b o:Nat}{vs:List aag}(a:fC P t=true)(c:P.info? t=some i)
  (e:vs.length=i.size) (f:∀j v,vs[j]? =some v→w.cell? ⟨b,o+j,none⟩=some v):
  (Instr.loadAt t (.pointer (some ⟨b,o,none⟩))).run P w= .ok (.agg vs.toArray) w:=by
 obtain⟨d,g⟩:=nzT a;have:=run_loadCells_list (P:=P) (w:=w) ⟨b,o,none⟩ vs (λj v h=>by rw[ZB];exact f j v h);rw[e] at this;simp only[Instr.loadAt,Instr.sureAddr,loadVar,Sem.run_bind,Sem.run_pure,Result.andThen_ok,yr g,a,if_true,sizeOf,typeInfo,run_program,c,this]
theorem Xh{P:aaf}{w:aai}{t:aae}{d:TypeDesc}{b o:Nat}{v:aag}(a:fC P t=false)(c:P.underlying t=some d)
  (e:w.cell? ⟨b,o,none⟩=some v):(Instr.loadAt t (.pointer (some ⟨b,o,none⟩))).run P w= .ok v w:=by
 simp[Instr.loadAt,Instr.sureAddr,loadVar,yr c,a,e]
variable {P:aaf} {Γ:Ctx} {w0:aai} {S:Own} {st:E} {o:Oper} {e:Nf} {a:Act} {w:aai}
theorem nod(c:Rel w0 S st a w)(f:∀d,o.dst=some d→sP st.n d){x:aah}(b:o.op= .move x∨o.op= .assign x){s:X}
  (g:(zQ x).val st.get st.obj=some s) (h:e= {sv:=s}):R P w0 S st o e a w:=by
 subst h;refine zt c f rfl rfl λβ φ i=>⟨a.eval x, ?_,i.ev g⟩;rcases b with b | b<;>simp[execOp,b]
theorem nka(k:Rel w0 S st a w)(l:∀d,o.dst=some d→sP st.n d){c x y:aah}(m:o.op= .pick c x y){p i j:X}
  (q:(zQ c).val st.get st.obj=some p) (r:(zQ x).val st.get st.obj=some i) (s:(zQ y).val st.get st.obj=some j)
  (f:(match p with | .kb t=>M.pure ({sv:=cond t i j} :Nf) | .bool g=> .pure {sv:=ij g i j} | _=> .fail).val st.get st.obj=some e):R P w0 S st o e a w:=by
 split at f
 ·rename_i t;simp only[M.ab,Y] at f;subst f;refine zt k l rfl rfl λβ φ b=>⟨if t then a.eval x else a.eval y, ?_, ?_⟩
  ·have h:=b.ev q;simp only[O] at h;simp[execOp,m,h,asBool]
  ·cases t
   ·exact b.ev s
   ·exact b.ev r
 ·rename_i t;simp only[M.ab,Y] at f;subst f;refine zt k l rfl rfl λβ φ b=>⟨if t then a.eval x else a.eval y, ?_, ?_⟩
  ·have h:=b.ev q;simp only[O] at h;simp[execOp,m,h,asBool]
  ·refine O.merge _ _ _ _ ?_;cases t
   ·exact b.ev s
   ·exact b.ev r
 ·simp at f
theorem nwb(j:Rel w0 S st a w)(k:∀d,o.dst=some d→sP st.n d){x:aah}(l:o.op= .nilCheck x){s:X}(i:(zQ x).val st.get st.obj=some s)
  (f:(match s with | .ptr .. =>M.pure ({sv:=s} :Nf) | .iD .. => .pure {sv:=s} | .eS .. => .pure {sv:=s} | _=> .fail).val st.get st.obj=some e):R P w0 S st o e a w:=by
 split at f
 ·simp only[M.ab,Y] at f;subst f;refine zt j k rfl rfl λβ φ h=>⟨a.eval x, ?_,h.ev i⟩;have c:=h.ev i;simp only[O] at c;simp[execOp,l,c]
 ·simp only[M.ab,Y] at f;subst f;refine zt j k rfl rfl λβ φ h=>⟨a.eval x, ?_,h.ev i⟩;have c:=h.ev i;simp only[O] at c;obtain⟨b,m,p,c,_⟩:=c;simp[execOp,l,c]
 ·simp only[M.ab,Y] at f;subst f;refine zt j k rfl rfl λβ φ h=>⟨a.eval x, ?_,h.ev i⟩;have c:=h.ev i;simp only[O] at c;obtain⟨g,_,c⟩:=c;simp[execOp,l,c]
 ·simp at f
theorem nmj(l:Rel w0 S st a w)(m:∀d,o.dst=some d→sP st.n d){t:aae}{x:aah}{f:Nat}(y:o.op= .fieldAddr t x f){q:Array Field}{j:Field}{i:TypeInfo}
  (A:P.underlying t=some (.struct q)) (B:q[f]? =some j) (u:Fe P j.type 0=false) (v:P.info? j.type=some i) {s:X} (p:(zQ x).val st.get st.obj=some s)
  (h:(match s with
     | .ptr id off=>M.pure ({sv:= .ptr id (off+j.offset)} :Nf)
     | .iD e r off=> .pure {sv:= .iD e r (off+j.offset)}
     | .eS id i z off=> .pure {sv:= .eS id i z (off+j.offset)}
     | _=> .fail).val st.get st.obj=some e):R P w0 S st o e a w:=by
 have C:i.size≠0:=by simp only[Fe,v] at u;exact Bd u
 have run:∀b off,a.eval x= .pointer (some ⟨b,off,none⟩)→(execOp a.eval o).run P w= .ok (.value (.pointer (some ⟨b,off+j.offset,none⟩))) w:=by intro b off c;simp[execOp,y,c,Instr.fieldAt,run_underlying A,B,Instr.sureAddr,fieldPlace,sizeOf,typeInfo,v,C,ZB]
 split at h
 ·simp only[M.ab,Y] at h;subst h;refine zt l m rfl rfl λβ φ k=>?_;have c:=k.ev p;simp only[O] at c;exact⟨_,run _ _ c,by simp[O]⟩
 ·simp only[M.ab,Y] at h;subst h;refine zt l m rfl rfl λβ φ k=>?_;have c:=k.ev p;simp only[O] at c;obtain⟨b,D,E,c,F,G,H⟩:=c;exact⟨_,run _ _ c,by simp only[O];exact⟨b,D,E,by rw[AN],F,G,H⟩⟩
 ·simp only[M.ab,Y] at h;subst h;refine zt l m rfl rfl λβ φ k=>?_;have c:=k.ev p;simp only[O] at c;obtain⟨g,I,c⟩:=c;exact⟨_,run _ _ c,by simp only[O];exact⟨g,I,by rw[AN]⟩⟩
 ·simp at h
theorem ncz(f:Rel w0 S st a w)(g:∀d,o.dst=some d→sP st.n d){x:aah}{i:Nat}(h:o.op= .extract x i){b:List X}{v:X}
  (j:(zQ x).val st.get st.obj=some (.Es b)) (k:b[i]? =some v) (m:e= {sv:=v}):R P w0 S st o e a w:=by
 subst m;refine zt f g rfl rfl λβ φ p=>?_;have c:=p.ev j;simp only[O] at c;obtain⟨l,q,r⟩:=c;obtain⟨u,s,t⟩:=Z.get _ _ _ _ r k;exact⟨u,by simp[execOp,h,q,Instr.extract,s],t⟩
theorem Wn(s:List UInt8):(⟨s.toArray⟩:ByteArray).toList=s:=by rw[Lib.toList_data]
theorem Ch(s:List UInt8):(⟨s.toArray⟩:ByteArray).size=s.length:=by simp[ByteArray.size]
theorem ndm(s t:List UInt8):(⟨s.toArray⟩:ByteArray)++(⟨t.toArray⟩:ByteArray)=⟨(s++t).toArray⟩:=by apply ByteArray.ext;simp
theorem njg{t:aae}{ty:TypeDesc}{a:List aag}{off:Nat}{v:aag}(b:fC P t=false)(c:P.underlying t=some ty)(d:a[off]? =some v):(part t a.toArray off).run P w= .ok v w:=by simp only[part,Sem.run_bind,yr c,Result.andThen_ok,b];simp[d]
theorem nwt{t:aae}{i:TypeInfo}{a:List aag}{off:Nat}(b:fC P t=true)(c:P.info? t=some i):(part t a.toArray off).run P w= .ok (.agg ((a.drop off).take i.size).toArray) w:=by obtain⟨d,e⟩:=nzT b;simp only[part,Sem.run_bind,yr e,Result.andThen_ok,b,if_true,sizeOf,typeInfo,run_program,c,Sem.run_pure];simp[List.extract_eq_take_drop]
theorem niR{i:Nat→Prop}{β:L}{x y:X}{v u:aag}(e:O w i β x v)(f:O w i β y u){t:aae}{ty:TypeDesc}(g:P.underlying t=some ty)(d:Nat){b:Bool}
  (h:Vi ty x y=some b):(Op.equalIn (d+1) t v u).run P w= .ok b w:=by
 unfold Vi at h;split at h
 ·rename_i m k a l c;by_cases j:k=l
  ·subst j;simp only[decide_true,H,Y] at h;simp only[O] at e f;rw[e.1,f.1,run_equalIn_int w d t _ _ _ _ g,h]
  ·simp[j] at h
 ·simp only[Y] at h;simp only[O] at e f;rw[e.1,f.1,run_equalIn_string w d t _ _ g,Wn,Wn,h]
 ·simp only[Y] at h;simp only[O] at e f;rw[e,f,run_equalIn_bool w d t _ _ g,h]
 ·simp only[Y] at h;simp only[O] at e f;rw[e,f,run_equalIn_bool w d t _ _ g,h]
 ·simp only[Y] at h;simp only[O] at e f;rw[e,f,run_equalIn_bool w d t _ _ g,h]
 ·cases h
theorem Z.k8{b:Nat→Prop}{β:L} :∀(U:List X) (a:List aag) (k n:Nat),Z w b β U a→Z w b β ((U.drop k).take n) ((a.drop k).take n)
 | [],a,k,n,h=>by simp only[Z] at h;subst h;simp[Z]
 | s::U,a,k,n,h=>by
  simp only[Z] at h;obtain⟨v,l,rfl,d,c⟩:=h;cases k with
  | succ k=>simpa using Z.k8 U l k n c
  | zero=>
   cases n with
   | zero=>simp[Z]
   | succ n=>
    simp only[List.drop_zero,BC,Z];exact⟨v,_,rfl,d,by simpa using Z.k8 U l 0 n c⟩
def njb(P:aaf)(w:aai)(f:Nat→Prop)(β:L)(d:Nat)(a:aae→List X→List X→Option Bool):Prop:=∀(t:aae) (g h:List X) (c e:List aag) (b:Bool),Z w f β g c→Z w f β h e→a t g h=some b→ (fC P t=true→(Op.equalIn d t (.agg c.toArray) (.agg e.toArray)).run P w= .ok b w)∧ (fC P t=false→(∃ty,P.underlying t=some ty)∧∀v u,c=[v]→e=[u]→(Op.equalIn d t v u).run P w= .ok b w)
theorem opR{n:Nat→Prop}{β:L}{d:Nat}{l:aae→List X→List X→Option Bool}(o:njb P w n β d l){p q:List X}{s t:List aag}(x:Z w n β p s)(y:Z w n β q t):
  ∀(m:List Field) (b:Bool),zu P l p q m=some b→(Op.eqFields d s.toArray t.toArray m).run P w= .ok b w
 | [],b,h=>by simp only[zu,Y] at h;subst h;rfl
 | f::m,b,h=>by
  unfold zu at h;cases z:f.name== "_"
  ·simp only[z,J] at h;have G:f.name≠ "_" :=by simpa using z
   split at h
   ·rename_i a c g j;split at h
    ·rename_i e r B aiK;simp only[Y] at h;have I:=opR o x y m r aiK;unfold Op.eqFields;rw[if_pos G];have key:∃v u:aag,(part f.type s.toArray f.offset).run P w= .ok v w∧(part f.type t.toArray f.offset).run P w= .ok u w∧(Op.equalIn d f.type v u).run P w= .ok e w:=by
      unfold wX at g j;cases k:fC P f.type
      ·simp only[k,J] at g j;split at g
       ·rename_i aia K;split at j
        ·rename_i ahG M;simp only[Y] at g j;subst g;subst j;obtain⟨v1,N,O⟩:=Z.get _ _ _ _ x K;obtain⟨C,Q,R⟩:=Z.get _ _ _ _ y M;obtain⟨⟨ty,D⟩,S⟩:=(o f.type [aia] [ahG] [v1] [C] e (by simp[Z,O]) (by simp[Z,R]) B).2 k;exact⟨v1,C,njg k D N,njg k D Q,S _ _ rfl rfl⟩
        ·cases j
       ·cases g
      ·simp only[k,H] at g j;split at g
       ·rename_i i A;rw[A] at j;simp only[] at j;cases E:zP (f.offset+i.size) p.length
        ·simp[E] at g
        cases F:zP (f.offset+i.size) q.length
        ·simp[F] at j
        simp only[E,F,H,Y] at g j;subst g;subst j;exact⟨_,_,nwt k A,nwt k A,(o _ _ _ _ _ e (Z.k8 _ _ _ _ x) (Z.k8 _ _ _ _ y) B).1 k⟩
       ·cases g
     obtain⟨v,u,T,U,V⟩:=key;simp only[Sem.run_bind,T,U,V,Result.andThen_ok];subst h;cases e
     ·simp
     ·simpa using I
    ·cases h
   ·cases h
  ·simp[z] at h
theorem nFH{av:Nat→Prop}{β:L}(d:Nat):∀n:Nat,njb P w av β (d+n) (VG P n)
 | 0=>by intro t r s z A b f i h;simp[VG] at h
 | n+1=>by
  intro t r s z A b f i h;have B:=nFH (av:=av) (β:=β) d n;unfold VG at h;split at h
  ·rename_i C a;cases j:P.stoodInHeld t
   ·simp only[j,J] at h;have c:fC P t=true:=by simp[fC,a]
    have k:P.fieldsOf t=C:=by simp[Program.fieldsOf,a]
    refine⟨λ_=>?_,λl=>by rw[c] at l;cases l⟩;rw[←AN,run_equalIn_agg w (d+n) t _ _ (by rw[k];exact a) j,k];exact opR B f i _ _ h
   ·simp[j] at h
  ·rename_i ty D a;split at h
   ·rename_i x y;have m:=f;have o:=i;simp only[Z] at m o;obtain⟨v,G,rfl,E,rfl⟩:=m;obtain⟨u,H,rfl,F,rfl⟩:=o;refine⟨λc=>?_,λ_=>⟨⟨_,a⟩, ?_⟩⟩
    ·unfold fC at c;rw[a] at c;split at c
     ·rename_i g _ I e;simp only[Y] at e;subst e;simp[Vi] at h
     ·rename_i e;simp only[Y] at e;subst e;simp[Vi] at h
     ·cases c
    ·intro T K p q;simp only[List.cons.injEq,and_true] at p q;subst p;subst q;rw[←AN];exact niR E F a (d+n) h
   ·cases h
  ·cases h
theorem nmL(w:aai)(d:Nat)(t e:aae)(a:Addr)(l c:Nat)(h:P.underlying t=some (.slice e)):(Op.equalIn (d+1) t (.slice (some a) l c) (.slice none 0 0)).run P w= .ok false w:=by simp[Op.equalIn,run_underlying h]
theorem nef(w:aai)(t e:aae)(a:Addr)(l c:Nat)(h:P.underlying t=some (.slice e)):(Op.equal t (.slice (some a) l c) (.slice none 0 0)).run P w= .ok false w:=nmL w 9999 t e a l c h
theorem nL4(j:Rel w0 S st a w)(l:∀d,o.dst=some d→sP st.n d){afq:BinOp}{t t':aae}{x y:aah}(p:o.op= .binOp afq t x y t'){agM W:X}
  (u:(zQ x).val st.get st.obj=some agM) (z:(zQ y).val st.get st.obj=some W) (f:(QK P t afq agM W).val st.get st.obj=some e) (adQ:e.ok=true):R P w0 S st o e a w:=by
 have Q:∀b c:Bool,(∀β φ,V w0 S st.get st.obj β φ a.tmps w→a.eval x= .bool b∧a.eval y= .bool c)→
   ((U1 P t afq b c).val st.get st.obj=some e)→R P w0 S st o e a w:=by
  intro b c ahH f;unfold U1 at f;cases I:nCk P t
  ·simp[I] at f
  have C:P.underlying t=some .bool:=by
   unfold nCk at I;split at I
   ·assumption
   ·cases I
  simp only[I,H] at f;split at f
  ·simp only[M.ab,Y] at f;subst f;refine zt j l rfl rfl λβ φ g=>⟨_, ?_,by simp[O];rfl⟩;have:=ahH β φ g;simp[execOp,p,this.1,this.2,eqGuard,binOp,run_equal_bool w t b c C]
  ·simp only[M.ab,Y] at f;subst f;refine zt j l rfl rfl λβ φ g=>⟨_, ?_,by simp[O];rfl⟩;have:=ahH β φ g;simp[execOp,p,this.1,this.2,eqGuard,binOp,run_equal_bool w t b c C]
  ·simp at f
 unfold QK at f;split at f
 ·rename_i k n k' m;split at f
  ·simp only[M.ab,Y] at f;subst f;have L:0≤m:=by simpa using adQ
   refine zt j l rfl rfl λβ φ g=>?_;have h:=g.ev u;have i:=g.ev z;simp only[O] at h i;refine⟨_, ?_,by simp only[O];exact⟨rfl,qM _ _⟩⟩;simp[execOp,p,h.1,i.1,eqGuard,binOp,Op.shift,Int.not_lt.2 L]
  ·simp only[M.ab,Y] at f;subst f;have L:0≤m:=by simpa using adQ
   refine zt j l rfl rfl λβ φ g=>?_;have h:=g.ev u;have i:=g.ev z;simp only[O] at h i;refine⟨_, ?_,by simp only[O];exact⟨rfl,nFD _ h.2⟩⟩;simp[execOp,p,h.1,i.1,eqGuard,binOp,Op.shift,Int.not_lt.2 L]
  ·by_cases aib:k=k'
   ·subst aib;simp only[decide_true,H] at f;split at f
    ·rename_i s c hi;simp only[M.ab,Y] at f;subst f;refine zt j l rfl rfl λβ φ g=>?_;have h:=g.ev u;have i:=g.ev z;simp only[O] at h i;obtain⟨v,bH,hs⟩:=ngj (P:=P) (w:=w) (t:=t) (av:=oa st.obj β) (β:=β) hi adQ h.2;refine⟨v, ?_,hs⟩;simp[execOp,p,h.1,i.1,eqGuard,bH]
    ·simp at f
   ·simp[aib] at f
 ·rename_i D E;split at f
  ·simp only[M.ab,Y] at f;subst f;have L:D.length+E.length≤9223372036854775807:=by simpa using adQ
   refine zt j l rfl rfl λβ φ g=>?_;have h:=g.ev u;have i:=g.ev z;simp only[O] at h i;refine⟨.string ⟨(D++E).toArray⟩, ?_,by unfold O;exact⟨rfl,by simp only[fK,maxLen];omega⟩⟩;have Z:¬(((D.length+E.length:Nat):Int)>IntKind.i64.max):=by
    have:IntKind.i64.max=9223372036854775807:=by decide
    omega
   simp only[execOp,p,h.1,i.1,eqGuard,binOp,Op.stringOp,Ch,ndm];rw[if_neg Z];rfl
  ·simp only[M.ab,Y] at f;subst f;refine zt j l rfl rfl λβ φ g=>?_;have h:=g.ev u;have i:=g.ev z;simp only[O] at h i;refine⟨.bool (D==E), ?_,by simp[O]⟩;simp[execOp,p,h.1,i.1,eqGuard,binOp,Op.stringOp,Wn]
  ·simp only[M.ab,Y] at f;subst f;refine zt j l rfl rfl λβ φ g=>?_;have h:=g.ev u;have i:=g.ev z;simp only[O] at h i;refine⟨.bool (!(D==E)), ?_,by simp[O]⟩;simp[execOp,p,h.1,i.1,eqGuard,binOp,Op.stringOp,Wn]
  ·simp at f
 ·refine Q _ _ (λβ φ g=>?_) f;have h:=g.ev u;have i:=g.ev z;simp only[O] at h i;exact⟨h,i⟩
 ·refine Q _ _ (λβ φ g=>?_) f;have h:=g.ev u;have i:=g.ev z;simp only[O] at h i;exact⟨h,i⟩
 ·refine Q _ _ (λβ φ g=>?_) f;have h:=g.ev u;have i:=g.ev z;simp only[O] at h i;exact⟨h,i⟩
 ·rename_i xs ys;unfold ntp at f;split at f
  ·rename_i fs C;cases N:P.eqGuardType P.depth t
   ·simp only[N,J] at f;have ET:fC P t=true:=by simp[fC,C]
    have key:∀b,VG P 8 t xs ys=some b→∀β φ,V w0 S st.get st.obj β φ a.tmps w→∃F G:List aag,a.eval x= .agg F.toArray∧a.eval y= .agg G.toArray∧(Op.equalIn 10000 t (.agg F.toArray) (.agg G.toArray)).run P w= .ok b w:=by intro b aeM β φ g;have h:=g.ev u;have i:=g.ev z;simp only[O] at h i;obtain⟨F,A,D,_⟩:=h;obtain⟨G,B,E,_⟩:=i;exact⟨F,G,A,B,(nFH 9992 8 t xs ys F G b D E aeM).1 ET⟩
    split at f
    ·rename_i b aeM;simp only[M.ab,Y] at f;subst f;refine zt j l rfl rfl λβ φ g=>⟨.bool b, ?_,by simp[O]⟩;obtain⟨F,G,A,B,agm⟩:=key b aeM β φ g;simp only[execOp,p,A,B,Sem.run_bind,run_eqGuard_agg w _ t x y _ _ N,Result.andThen_ok,run_eql_struct,agm];rfl
    ·rename_i b aeM;simp only[M.ab,Y] at f;subst f;refine zt j l rfl rfl λβ φ g=>⟨.bool (!b), ?_,by simp[O]⟩;obtain⟨F,G,A,B,agm⟩:=key b aeM β φ g;simp only[execOp,p,A,B,Sem.run_bind,run_eqGuard_agg w _ t x y _ _ N,Result.andThen_ok,run_neq_struct,agm];rfl
    ·simp at f
   ·simp[N] at f
  ·simp at f
 ·rename_i ct r;have key:∀β φ,0<r.length→V w0 S st.get st.obj β φ a.tmps w→∃K n c,a.eval x= .slice (some K) n c∧a.eval y= .slice none 0 0:=by
   intro β φ kF g;have h:=g.ev u;have i:=g.ev z;simp only[O] at h i;obtain⟨fp,jK,_⟩:=h;simp only[Z8] at jK;obtain⟨rows,q,n,c,T,hv,Z,_,_,jJ⟩:=jK;injection T with T;subst T;rcases jJ with ⟨h0,_⟩ | ⟨_,b,off,aE,rfl,_⟩
   ·omega
   ·exact⟨_,n,c,hv,i⟩
  split at f
  ·rename_i U C;simp only[M.ab,Y] at f;subst f;refine zt j l rfl rfl λβ φ g=>⟨.bool false, ?_,by simp[O]⟩;obtain⟨K,n,c,A,B⟩:=key β φ (by simpa using adQ) g;simp[execOp,p,A,B,eqGuard,binOp,nef w t U K n c C]
  ·rename_i U C;simp only[M.ab,Y] at f;subst f;refine zt j l rfl rfl λβ φ g=>⟨.bool true, ?_,by simp[O]⟩;obtain⟨K,n,c,A,B⟩:=key β φ (by simpa using adQ) g;simp[execOp,p,A,B,eqGuard,binOp,nef w t U K n c C]
  ·simp at f
 ·simp at f
theorem nbl(i:Rel w0 S st a w)(j:∀d,o.dst=some d→sP st.n d){g:UnOp}{t:aae}{x:aah}(c:o.op= .unOp g t x){h:X}
  (k:(zQ x).val st.get st.obj=some h) (f:(xT g h).val st.get st.obj=some e):R P w0 S st o e a w:=by
 unfold xT at f;split at f<;>simp only[M.ab,M.AD,Y,reduceCtorEq] at f
 all_goals
  subst f;refine zt i j rfl rfl λβ φ l=>?_;have b:=l.ev k;simp only[O] at b
 ·exact⟨_,by simp[execOp,c,b,Op.unary];rfl,by simp[O]⟩
 ·exact⟨_,by simp[execOp,c,b,Op.unary];rfl,by simp[O]⟩
 ·exact⟨_,by simp[execOp,c,b.1,Op.unary,Op.intArith];rfl,by simp only[Int.zero_sub];unfold O;exact⟨rfl,qM _ _⟩⟩
 ·refine⟨_,by simp only[execOp,c,b.1,Op.unary,intBits_xor];rfl,by unfold O;exact⟨rfl,mT _ _ _ _⟩⟩
theorem Zk{w:aai}{b o:Nat}{a:List aag}{t:aae}{c:Nat×Nat}(h:w.heap[b]? =some (.cells a.toArray t c)):w.cell? ⟨b,o,none⟩=a[o]? :=by simp[World.cell?,h]
theorem nFQ{w:aai}{b o:Nat}{a:Array aag}{t:aae}{c:Nat×Nat}(h:w.heap[b]? =some (.cells a t c)):w.cell? ⟨b,o,none⟩=a[o]? :=by simp[World.cell?,h]
theorem pz.cell{w:aai}{t size:Nat}{d:Bool}{v:aag}{n:Nat}{a:List aag}(h:pz w t size d v n a){g j:Nat}{u:aag}(c:v.ownBlock=some g)
  (b:a[j]? =some u):w.cell? ⟨g,j,none⟩=some u:=by
 rcases h.2 with ⟨rfl,_⟩ | ⟨k,cap,e,rfl,f,_,_,_,i⟩
 ·simp[AL] at c
 ·simp[AL] at c;subst c;rw[nFQ f];rw[←i,B3] at b;split at b
  ·simpa using b
  ·cases b
theorem pz.block{w:aai}{t size:Nat}{b:Bool}{v:aag}{n:Nat}{a:List aag}(h:pz w t size b v n a)(e:0<n):∃g,v.ownBlock=some g:=by
 rcases h.2 with ⟨rfl,f,_⟩ | ⟨c,cap,d,rfl,_⟩
 ·omega
 ·exact⟨c,rfl⟩
theorem t9{w:aai}{e:List CT}{r:List (List DC)}{v:aag}{d:List Nat}(h:Z8 w (.sl e) (.sl r) v d):
  ∃a n c,v= .slice a n c∧r.length=n∧n≤c∧c≤maxLen∧
   ((n=0∧d=[])∨(0<n∧∃(b o:Nat) (g:List (List Nat)),a=some ⟨b,o,none⟩∧b<w.heap.size∧g.length=n∧d=b::g.flatten∧
    ∀i l f,r[i]? =some l→g[i]? =some f→bj w e l (λj=>w.cell? ⟨b,o+(i*e.length+j),none⟩) f)):=by
 simp only[Z8] at h;obtain⟨m,a,n,c,k,p,q,s,t,h⟩:=h;injection k with k;subst k;exact⟨a,n,c,p,q,s,t,h⟩
theorem qv{w:aai}{e:List CT}{r:List (List DC)}{d:List Nat}{a:Option Addr}{n c:Nat}(l:r.length=n)(m:n≤c)(p:c≤maxLen)
  (h:(n=0∧d=[])∨(0<n∧∃(b o:Nat) (g:List (List Nat)),a=some ⟨b,o,none⟩∧b<w.heap.size∧g.length=n∧d=b::g.flatten∧
    ∀i k f,r[i]? =some k→g[i]? =some f→bj w e k (λj=>w.cell? ⟨b,o+(i*e.length+j),none⟩) f)):Z8 w (.sl e) (.sl r) (.slice a n c) d:=by
 unfold Z8;exact⟨r,a,n,c,rfl,rfl,l,m,p,h⟩
theorem dr{w:aai}{K:Nat→Prop}{β:L}{id t:Nat}{e:List CT}{a:List (List DC)}{M u:Bool}{φ:List Nat}(h:zC w K β id (.row t e a M u) φ):
  ∃k,Z8 w (.sl e) (.sl a) (β.val id) k∧(∀b∈k,b∈(β.val id).ownBlock.toList∨¬K b)∧(u=true→(∀b∈k,b∈φ)∧(φ.Nodup→k.Nodup)):=by
 obtain⟨Z,D,n,s,N,O⟩:=h;rcases CE a.length with o | o
 ·refine⟨[], ?_,by simp,by simp⟩;rcases n.2 with ⟨l,_⟩ | ⟨g,cap,E,l,_,x,y,_⟩
  ·rw[l];exact qv o (BE _) (Bb _) (.inl ⟨rfl,rfl⟩)
  ·rw[l];exact qv rfl x y (.inl ⟨o,rfl⟩)
 ·obtain⟨g,z⟩:=n.block o;have P:=n.lt g (by simp[z]);have l:∃cap,β.val id= .slice (some ⟨g,0,none⟩) a.length cap∧a.length≤cap∧cap≤maxLen:=by
   rcases n.2 with ⟨l,V,_⟩ | ⟨Q,cap,E,l,_,x,y,_⟩
   ·omega
   ·have:Q=g:=by simpa [l,AL] using z
    subst this;exact⟨cap,l,x,y⟩
  obtain⟨cap,l,x,y⟩:=l;refine⟨g::D.flatten, ?_, ?_, ?_⟩
  ·rw[l];refine qv rfl x y (.inr ⟨o,g,0,D,rfl,P,s.1,rfl,λi r f R p=>?_⟩);have A:=s.2 i r f R p;refine bj.kQ ?_ A;intro j u C;have:=n.cell z C;simpa using this
  ·intro b B;rcases AT.1 B with rfl | B
   ·exact .inl (by simp[z])
   ·exact .inr (N b B)
  ·intro S;subst S;have:φ=g::D.flatten:=by rw[O,z];rfl
   rw[this];exact⟨λb B=>B,λT=>T⟩
where
 bj.kQ {w:aai} {m:List CT} {r:List DC} {f q:Nat→Option aag} {k:List Nat} (p:∀j u,f j=some u→q j=some u) (h:bj w m r f k):bj w m r q k:=by
  induction m generalizing r f q k with
  | nil=>simpa only[bj] using h
  | cons c m F=>
   simp only[bj] at h ⊢;obtain⟨d,G,v,H,I,A,o,n,s,J⟩:=h;exact⟨d,G,v,H,I,A,p 0 v o,n,F (λj u C=>p (j+1) u C) s,J⟩
 bj.kd {w:aai} {m:List CT} {r:List DC} {f q:Nat→Option aag} {k:List Nat} (p:∀j u,j<m.length→f j=some u→q j=some u) (h:bj w m r f k):bj w m r q k:=by
  induction m generalizing r f q k with
  | nil=>simpa only[bj] using h
  | cons c m F=>
   simp only[bj] at h ⊢;obtain⟨d,G,v,H,I,A,o,n,s,J⟩:=h;exact⟨d,G,v,H,I,A,p 0 v (by simp) o,n,F (λj u C U=>p (j+1) u (by simp;omega) U) s,J⟩
theorem nBi{w:aai}{t:aae}{e:List CT}{a:List (List DC)}{s:Bool}{v:aag}{c:List aag}{m:List (List Nat)}(d:pz w t e.length s v a.length c)(p:Uv w e a c m):
  ∃q,Z8 w (.sl e) (.sl a) v q∧q.Sublist (v.ownBlock.toList++m.flatten):=by
 rcases CE a.length with h | h
 ·refine⟨[], ?_,List.nil_sublist _⟩;rcases d.2 with ⟨b,_⟩ | ⟨g,cap,o,b,_,k,l,_⟩
  ·rw[b];exact qv h (BE _) (Bb _) (.inl ⟨rfl,rfl⟩)
  ·rw[b];exact qv rfl k l (.inl ⟨h,rfl⟩)
 ·obtain⟨g,n⟩:=d.block h;have x:=d.lt g (by simp[n]);have b:∃cap,v= .slice (some ⟨g,0,none⟩) a.length cap∧a.length≤cap∧cap≤maxLen:=by
   rcases d.2 with ⟨b,C,_⟩ | ⟨y,cap,o,b,_,k,l,_⟩
   ·omega
   ·have:y=g:=by simpa [b,AL] using n
    subst this;exact⟨cap,b,k,l⟩
  obtain⟨cap,b,k,l⟩:=b;refine⟨g::m.flatten, ?_, ?_⟩
  ·rw[b];refine qv rfl k l (.inr ⟨h,g,0,m,rfl,x,p.1,rfl,λi r f z A=>?_⟩);refine dr.bj.kQ ?_ (p.2 i r f z A);intro j u B;have:=d.cell n B;simpa using this
  ·rw[n];exact List.Sublist.refl _
theorem nFG(n:Nat)(Q:Nat→List Nat→Prop)(h:∀i,i<n→∃f,Q i f):∃l:List (List Nat),l.length=n∧∀i f,l[i]? =some f→Q i f:=by
 induction n with
 | zero=>exact⟨[],rfl,by simp⟩
 | succ n b=>
  obtain⟨l,c,d⟩:=b (λi e=>h i (by omega));obtain⟨f,j⟩:=h n (by omega);refine⟨l++[f],by simp[c],λi g a=>?_⟩;rw[List.getElem?_append] at a;split at a
  ·exact d i g a
  ·rename_i e;have:i - l.length=0:=by
    cases m:i - l.length with
    | zero=>rfl
    | succ k=>rw[m] at a;simp at a
   rw[this] at a;simp only[List.getElem?_cons_zero,Y] at a;subst a;have:i=n:=by omega
   subst this;exact j
theorem noz:∀(l m:List (List Nat)),l.length=m.length→(∀(i:Nat) (f g:List Nat),l[i]? =some f→m[i]? =some g→f.Sublist g)→l.flatten.Sublist m.flatten
 | [],[],_,_=>List.Sublist.refl _
 | [],_::_,h,_=>by simp at h
 | _::_,[],h,_=>by simp at h
 | a::l,b::m,h,hs=>by simp only[List.flatten_cons];exact (hs 0 a b rfl rfl).append (noz l m (by simpa using h) (λi f g c d=>hs (i+1) f g (by simpa using c) (by simpa using d)))
theorem D7.reads{w:aai} :∀(b:List CT) (y:List aae) (o:List DC) (p:List aag) (q:List Nat),D7 w none b y o p q→∃i,bj w b o (λj=>p[j]?) i∧i.Sublist q
 | [],_,_,_,_,h=>by simp only[D7] at h;obtain⟨_,rfl,rfl,rfl⟩:=h;exact⟨[],by simp[bj],List.Sublist.refl _⟩
 | .sl e::b,_,_,_,_,h=>by simp only[D7] at h;obtain⟨t,D,r,c,v,n,E,F,rfl,rfl,rfl,z,⟨s,G,A,u,rfl⟩,B,rfl⟩:=h;obtain⟨i,C,x⟩:=nBi A u;rw[u.El z,List.append_nil] at x;obtain⟨a,f,g⟩:=D7.reads b _ _ _ _ B;refine⟨i++a, ?_,x.append g⟩;simp only[bj];exact⟨_,c,v,i,a,rfl,rfl,C,by simpa using f,rfl⟩
 | .int k::b,_,_,_,_,h=>by simp only[D7] at h;obtain⟨d,c,v,n,rfl,rfl,l,m⟩:=h;obtain⟨a,f,g⟩:=D7.reads b _ _ _ _ m;refine⟨a, ?_,g⟩;simp only[bj];exact⟨d,c,v,[],a,rfl,rfl,l,by simpa using f,rfl⟩
 | .bool::b,_,_,_,_,h=>by simp only[D7] at h;obtain⟨d,c,v,n,rfl,rfl,l,m⟩:=h;obtain⟨a,f,g⟩:=D7.reads b _ _ _ _ m;refine⟨a, ?_,g⟩;simp only[bj];exact⟨d,c,v,[],a,rfl,rfl,l,by simpa using f,rfl⟩
 | .str::b,_,_,_,_,h=>by simp only[D7] at h;obtain⟨d,c,v,n,rfl,rfl,l,m⟩:=h;obtain⟨a,f,g⟩:=D7.reads b _ _ _ _ m;refine⟨a, ?_,g⟩;simp only[bj];exact⟨d,c,v,[],a,rfl,rfl,l,by simpa using f,rfl⟩
theorem nys{α:Type}{l:List α}{k n j:Nat}{u:α}(h:((l.drop k).take n)[j]? =some u):l[k+j]? =some u:=by
 rw[B3] at h;split at h
 ·rwa[List.getElem?_drop] at h
 ·cases h
theorem Ni.reads{w:aai}{e:List CT}{s:List aae}{a:List (List DC)}{b:List aag}{c:List (List Nat)}(h:Ni w e s a b (λ_=>none) c):
  ∃d,Uv w e a b d∧d.flatten.Sublist c.flatten:=by
 obtain⟨d,o,p⟩:=nFG a.length (λi f=>∀r m,a[i]? =some r→c[i]? =some m→bj w e r (λj=>b[i*e.length+j]?) f∧f.Sublist m) (λi g=>by
  have l:i<c.length:=by rw[h.1];exact g
  obtain⟨f,t,v⟩:=D7.reads _ _ _ _ _ (h.2 i a[i] c[i] (by simp) (by simp));refine⟨f,λr m k q=>?_⟩;rw[CF g,Y] at k;rw[CF l,Y] at q;subst k q;exact⟨dr.bj.kQ (λj u x=>nys x) t,v⟩)
 refine⟨d,⟨o,λi r f k n=>?_⟩,noz d c (by rw[o,h.1]) (λi f m n l=>?_)⟩
 ·have g:i<a.length:=(CN.1 k).1;have l:i<c.length:=by rw[h.1];exact g
  exact (p i f n r c[i] k (by simp)).1
 ·have g:i<a.length:=by rw[←o];exact (CN.1 n).1
  exact (p i f n a[i] m (by simp) l).2
def N5(o:xC)(e:List CT)(a:List (List DC))(u:Bool):Prop:=(∃t b,o= .row t e a b u)∨(∃t c,o= .deep t e c a none∧u=true)
theorem nwI{w:aai}{g:Nat→Prop}{β:L}{id:Nat}{o:xC}{e:List CT}{a:List (List DC)}{u:Bool}{φ:List Nat}(h:zC w g β id o φ)(j:N5 o e a u):
  ∃c,Z8 w (.sl e) (.sl a) (β.val id) c∧(∀b∈c,b∈ar β id o∨¬g b)∧(u=true→(∀b∈c,b∈φ)∧(φ.Nodup→c.Nodup)):=by
 rcases j with ⟨t,x,rfl⟩ | ⟨t,y,rfl,rfl⟩
 ·exact dr h
 ·obtain⟨i,k,l,m,n,rfl⟩:=h;obtain⟨z,p,q⟩:=m.reads;obtain⟨c,r,s⟩:=nBi l p;have d:c.Sublist ((β.val id).ownBlock.toList++k.flatten):=s.trans ((List.Sublist.refl _).append q);exact⟨c,r,λb f=> .inl (by simp only[ar,n];exact d.subset f),λ_=>⟨λb f=>d.subset f,λv=>d.nodup v⟩⟩
theorem nm0(r:Rel w0 S st a w)(u:∀d,o.dst=some d→sP st.n d){t:aae}{x i:aah}(v:o.op= .index t x i){c f:X}
  (g:(zQ x).val st.get st.obj=some c) (h:(zQ i).val st.get st.obj=some f) (b:(il P t c f).val st.get st.obj=some e) (j:e.ok=true):R P w0 S st o e a w:=by
 unfold il at b;split at b
 ·rename_i s k n y;simp only[M.ab,Y] at b;subst b;simp only[Bl,js] at j;obtain⟨z,B⟩:=j;refine zt r u rfl rfl λβ φ l=>?_;have m:=l.ev g;have p:=l.ev h;simp only[O] at m p;have q:n.toNat<s.length:=by omega
  refine⟨.int .u8 (s.getD n.toNat 0).toNat, ?_, ?_⟩
  ·have A:(⟨s.toArray⟩:ByteArray)[n.toNat]? =some (s.getD n.toNat 0):=by rw[ByteArray.getElem?_lt' _ _ (by rw[Ch];exact q)];simp[ByteArray.getElem_eq_getElem_data,List.getD,q]
   simp[execOp,v,m.1,p.1,Instr.index,asIntOf,run_underlying y,z,A]
  ·unfold O;refine⟨rfl, ?_⟩;have:=(s.getD n.toNat 0).toNat_lt;rw[aL];have g:IntKind.u8.min=0:=by decide
   have h:IntKind.u8.max=255:=by decide
   omega
 ·simp at b
theorem nC3(s:Rel w0 S st a w)(t:∀d,o.dst=some d→sP st.n d){mx:Bool}{c:Call}{x y:aah}(h:o.op= .call c)(i:c.callee= .builtin (cond mx (.max) (.min)))
  (j:c.args= #[x,y]) {l p:X} (b:(zQ x).val st.get st.obj=some l) (f:(zQ y).val st.get st.obj=some p) (g:(Q8 mx l p).val st.get st.obj=some e):R P w0 S st o e a w:=by
 unfold Q8 at g;split at g
 ·rename_i k n u m;by_cases q:k=u
  ·subst q;simp only[decide_true,H,M.ab,Y] at g;subst g;refine zt s t rfl rfl λβ φ r=>?_;have b:=r.ev b;have f:=r.ev f;simp only[O] at b f;refine⟨.int k (cond mx (if n<m then m else n) (if m<n then m else n)), ?_, ?_⟩
   ·cases mx
    ·simp[execOp,h,resolve,i,j,invoke,builtin,b.1,f.1,Builtin.min_,Builtin.min2]
    ·simp[execOp,h,resolve,i,j,invoke,builtin,b.1,f.1,Builtin.max_,Builtin.max2]
   ·cases mx
    ·unfold O;refine⟨rfl, ?_⟩;simp only[J];split
     ·exact f.2
     ·exact b.2
    ·unfold O;refine⟨rfl, ?_⟩;simp only[H];split
     ·exact f.2
     ·exact b.2
  ·simp[q] at g
 ·simp at g
theorem uV{n:Nat}(h:n≤maxLen):dQ .i64 (n:Int)=true:=by
 rw[aL];have a:IntKind.i64.min= -9223372036854775808:=by decide
 have b:IntKind.i64.max=9223372036854775807:=by decide
 simp only[maxLen] at h;omega
theorem na0(v:Rel w0 S st a w)(z:∀d,o.dst=some d→sP st.n d){c:Call}{x:aah}{t:aae}(A:o.op= .call c)(B:c.callee= .builtin .len)
  (C:c.args= #[x]) (D:c.argTypes= #[t]) {E:X} (f:(zQ x).val st.get st.obj=some E) (g:(A1 P t E).val st.get st.obj=some e):R P w0 S st o e a w:=by
 have y:∀(l:aae) (n:Nat),P.underlying t=some (.slice l)→n≤maxLen→e= {sv:= .int .i64 n} →
   (∀β φ,V w0 S st.get st.obj β φ a.tmps w→∃q c,a.eval x= .slice q n c)→R P w0 S st o e a w:=by
  intro l n k m g h;subst g;refine zt v z rfl rfl λβ φ b=>?_;obtain⟨q,i,h⟩:=h β φ b;refine⟨.int .i64 n, ?_,by unfold O;exact⟨rfl,uV m⟩⟩;simp[execOp,A,resolve,B,C,D,invoke,builtin,h,Builtin.len_,run_underlying k,goInt]
 unfold A1 at g;split at g
 ·rename_i s k;simp only[M.ab,Y] at g;subst g;refine zt v z rfl rfl λβ φ b=>?_;have f:=b.ev f;simp only[O] at f;refine⟨.int .i64 s.length, ?_,by unfold O;exact⟨rfl,uV f.2⟩⟩;simp[execOp,A,resolve,B,C,D,invoke,builtin,f.1,Builtin.len_,run_underlying k,goInt,Ch]
 ·rename_i l k;simp only[M.ab,Y] at g;refine y l 0 k (Bb _) g.symm λβ φ b=>?_;have f:=b.ev f;simp only[O] at f;exact⟨none,0,f⟩
 ·rename_i l F r k;simp only[M.ab,Y] at g;have key:∀β φ,V w0 S st.get st.obj β φ a.tmps w→∃q c,a.eval x= .slice q r.length c∧r.length≤maxLen:=by intro β φ b;have f:=b.ev f;simp only[O] at f;obtain⟨G,f,_⟩:=f;obtain⟨q,n,i,h,m,H,I,_⟩:=t9 f;exact⟨q,i,by rw[m];exact h,by omega⟩
  obtain⟨β,φ,b⟩:=v.core;obtain⟨_,_,_,j⟩:=key β φ b;exact y l r.length k j g.symm λβ φ b=>by obtain⟨q,i,h,_⟩:=key β φ b;exact⟨q,i,h⟩
 ·rename_i l id k;simp only[M.aY,UI] at g;obtain⟨K,J,g⟩:=g;split at g
  ·rename_i L F r N u;simp only[M.ab,Y] at g;have key:∀β φ,V w0 S st.get st.obj β φ a.tmps w→∃q c,a.eval x= .slice q r.length c∧r.length≤maxLen:=by intro β φ b;have f:=b.ev f;simp only[O] at f;obtain⟨G,p,_,_⟩:=dr (b.aC id _ J);obtain⟨q,n,i,h,m,H,I,_⟩:=t9 p;exact⟨q,i,by rw[m,f.1];exact h,by omega⟩
   obtain⟨β,φ,b⟩:=v.core;obtain⟨_,_,_,j⟩:=key β φ b;exact y l r.length k j g.symm λβ φ b=>by obtain⟨q,i,h,_⟩:=key β φ b;exact⟨q,i,h⟩
  ·rename_i F r;simp only[M.ab,Y] at g;have key:∀β φ,V w0 S st.get st.obj β φ a.tmps w→∃q c,a.eval x= .slice q r.length c∧r.length≤maxLen:=by intro β φ b;have f:=b.ev f;simp only[O] at f;obtain⟨p,_⟩:=b.aC id _ J;simp only[O] at p;obtain⟨G,p,_⟩:=p;obtain⟨q,n,i,h,m,H,I,_⟩:=t9 p;exact⟨q,i,by rw[m,f.1];exact h,by omega⟩
   obtain⟨β,φ,b⟩:=v.core;obtain⟨_,_,_,j⟩:=key β φ b;exact y l r.length k j g.symm λβ φ b=>by obtain⟨q,i,h,_⟩:=key β φ b;exact⟨q,i,h⟩
  ·simp at g
 ·simp at g
theorem TL{t:aae}{n:Nat}(h:Fe P t n=true):∃i,P.info? t=some i∧i.size=n:=by
 unfold Fe at h;split at h
 ·rename_i i a;exact⟨i,a,Vs h⟩
 ·cases h
theorem bl{α:Type}{l:List α}{i:Nat}{d:α}(h:i<l.length):l[i]? =some (l.getD i d):=by simp[List.getD,h]
theorem niv(I:Rel w0 S st a w)(J:∀d,o.dst=some d→sP st.n d){t:aae}{x i:aah}(W:o.op= .indexAddr t x i){K L:X}
  (F:(zQ x).val st.get st.obj=some K) (N:(zQ i).val st.get st.obj=some L) (f:(aO P t K L).val st.get st.obj=some e) (z:e.ok=true):R P w0 S st o e a w:=by
 unfold aO at f;split at f
 ·rename_i A k n ahI;have run:∀(b v m c:Nat) (s:TypeInfo),P.info? A=some s→0≤n→n<(m:Int)→a.eval x= .slice (some ⟨b,v,none⟩) m c→(∃afr,a.eval i= .int afr n)→
    (execOp a.eval o).run P w= .ok (.value (.pointer (some ⟨b,v+n.toNat*s.size,none⟩))) w:=by
   rintro b v m c s B G Q l ⟨afr,aic⟩
   simp[execOp,W,l,aic,Instr.indexAt,asIntOf,run_underlying ahI,G,Q,sizeOf,typeInfo,B,ZB]
  have agn:∀(h:List CT) (r:List (List DC)),Fe P A h.length=true→e= {sv:= .iD h (r.getD n.toNat []) 0,ok:=decide (0≤n) && decide (n<r.length)} →
    (∀β φ,V w0 S st.get st.obj β φ a.tmps w→O w (oa st.obj β) β (.sl h r) (a.eval x))→R P w0 S st o e a w:=by
   intro h r j f l;subst f;simp only[Bl,js] at z;obtain⟨s,B,adR⟩:=TL j;refine zt I J rfl rfl λβ φ p=>?_;have l:=l β φ p;have C:=p.ev N;simp only[O] at l C;obtain⟨fp,Z,T⟩:=l;obtain⟨q,m,c,E,Q,_,_,jJ⟩:=t9 Z;have kF:0<m:=by omega
   rcases jJ with ⟨G,_⟩ | ⟨_,b,v,D,rfl,cA,hl,rfl,ft⟩
   ·omega
   ·have Ln:n.toNat<r.length:=by omega
    refine⟨_,run b v m c s B z.1 (by omega) E ⟨k,C.1⟩, ?_⟩;have hb:¬oa st.obj β b:=T b (by simp);have hf:D[n.toNat]? =some D[n.toNat]:=by simp
    have:=ft n.toNat (r.getD n.toNat []) D[n.toNat] (bl Ln) hf;simp only[O];refine⟨b,v+n.toNat*h.length,D[n.toNat],by rw[adR];rfl,cA,hb, ?_,λy hy=>T y ?_⟩
    ·simpa only[AN] using this
    ·simp only[AT,AI];exact .inr ⟨_,List.getElem_mem _,hy⟩
  split at f
  ·rename_i h r;cases j:Fe P A h.length
   ·simp[j] at f
   ·simp only[j,H,M.ab,Y] at f;exact agn h r j f.symm λβ φ p=>p.ev F
  ·rename_i id;simp only[M.aY,UI] at f;obtain⟨ob,U,f⟩:=f;split at f
   ·rename_i t' h r fz u;cases j:Fe P A h.length
    ·simp[j] at f
    ·simp only[j,H,M.ab,Y] at f;subst f;simp only[Bl,js] at z;obtain⟨s,B,adR⟩:=TL j;refine zt I J rfl rfl λβ φ p=>?_;have l:=p.ev F;have C:=p.ev N;simp only[O] at l C;obtain⟨agN,D,bk,_⟩:=p.aC id _ U;rcases bk.2 with ⟨_,G,_⟩ | ⟨g,cap,cur,E,_⟩
     ·omega
     ·refine⟨_,run g 0 r.length cap s B z.1 z.2 (l.1.trans E) ⟨k,C.1⟩, ?_⟩;simp only[O];exact⟨g,by rw[E];rfl,by rw[adR];simp⟩
   ·rename_i h r;cases j:Fe P A h.length
    ·simp[j] at f
    ·simp only[j,H,M.ab,Y] at f;refine agn h r j f.symm λβ φ p=>?_;have l:=p.ev F;simp only[O] at l;rw[l.1];exact (p.aC id _ U).1
   ·simp at f
  ·simp at f
 ·simp at f
theorem naD(afs:Rel w0 S st a w)(Q:∀d,o.dst=some d→sP st.n d){t:aae}{x:aah}(ho:o.op= .load t x){sx:X}
  (T:(zQ x).val st.get st.obj=some sx) (f:(Pp P t sx).val st.get st.obj=some e) (aN:e.ok=true):R P w0 S st o e a w:=by
 unfold Pp at f;split at f
 case h_2=>simp at f
 rename_i td hu;have agg:∀(b F:Nat) (A:List aag) (i:TypeInfo),fC P t=true→P.info? t=some i→A.length=i.size→(∀j v,A[j]? =some v→w.cell? ⟨b,F+j,none⟩=some v)→
   a.eval x= .pointer (some ⟨b,F,none⟩)→(execOp a.eval o).run P w= .ok (.value (.agg A.toArray)) w:=by
  intro b F A i agO B hl p h;simp[execOp,ho,h,ZO agO B hl p]
 have K:∀(b F:Nat) (v:aag),fC P t=false→w.cell? ⟨b,F,none⟩=some v→a.eval x= .pointer (some ⟨b,F,none⟩)→(execOp a.eval o).run P w= .ok (.value v) w:=by intro b F v agO p h;simp[execOp,ho,h,Xh agO hu p]
 unfold EN at f;split at f
 ·rename_i id off;simp only[M.aY,UI] at f;obtain⟨ob,U,f⟩:=f;split at f
  ·rename_i t' L;cases r:fC P t
   ·simp only[r,J] at f;split at f
    ·rename_i s hs;simp only[M.ab,Y] at f;subst f;refine zt afs Q rfl rfl λβ φ m=>?_;have h:=m.ev T;simp only[O] at h;obtain⟨A,W,C,_,_⟩:=m.aC id _ U;obtain⟨v,D,fR⟩:=Z.get _ _ _ _ C hs;exact⟨v,K _ _ v r (by rw[Zk W];exact D) h,fR⟩
    ·simp at f
   ·simp only[r,H] at f;split at f
    ·rename_i i B;cases q:zP (off+i.size) L.length
     ·simp[q] at f
     ·simp only[q,H,M.ab,Y] at f;subst f;have adS:=AS q;refine zt afs Q rfl rfl λβ φ m=>?_;have h:=m.ev T;simp only[O] at h;obtain⟨A,W,C,bo,_⟩:=m.aC id _ U;have hlen:=Z.length _ _ C;refine⟨_,agg _ off ((A.drop off).take i.size) i r B (by simp;omega) (λj v G=>?_) h, ?_⟩
      ·rw[Zk W];rw[B3] at G;split at G
       ·simpa using G
       ·cases G
      ·simp only[O];exact⟨_,rfl,Z.take _ _ _ (Z.drop _ _ _ C),λy N=>bo y (List.mem_of_mem_drop (List.mem_of_mem_take N))⟩
    ·simp at f
  ·simp at f
 ·rename_i aeN row off;cases r:fC P t
  ·simp only[r,J] at f;split at f
   ·rename_i c ahJ;simp only[M.ab,Y] at f;subst f;refine zt afs Q rfl rfl λβ φ m=>?_;have h:=m.ev T;simp only[O] at h;obtain⟨b,F,ago,D,_,_,C,I⟩:=h;obtain⟨v,BI,aid,aiL,e3⟩:=bj.get _ _ _ _ _ _ C ahJ;exact⟨v,K _ _ v r aid D,WH aiL (λy N=>I y (e3 y N))⟩
   ·simp at f
  ·simp only[r,H] at f;split at f
   ·rename_i i B;cases q:zP (off+i.size) aeN.length
    ·simp[q] at f
    ·simp only[q,H,M.ab,Y] at f;subst f;have adS:=AS q;refine zt afs Q rfl rfl λβ φ m=>?_;have h:=m.ev T;simp only[O] at h;obtain⟨b,F,ago,D,_,_,C,I⟩:=h;obtain⟨A,l1,l2,l3,l4⟩:=bj.b7 (β:=β) C I i.size off adS;refine⟨_,agg b (F+off) A i r B l1 (λj v G=>?_) D, ?_⟩
     ·have:=l2 j v G;rw[←this,AN]
     ·simp only[O];exact⟨A,rfl,l3,l4⟩
   ·simp at f
 ·rename_i id i z off;simp only[M.aY,UI] at f;obtain⟨ob,U,f⟩:=f;split at f
  ·rename_i t' aeN l fz u;cases q:zc z aeN.length
   ·simp[q] at f
   have J5:=Vs q;simp only[q,Bool.not_true,J] at f;have E:∀β φ,V w0 S st.get st.obj β φ a.tmps w→i<l.length→∃g ago,a.eval x= .pointer (some ⟨g,i*aeN.length+off,none⟩)∧
     bj w aeN (l.getD i []) (λj=>w.cell? ⟨g,i*aeN.length+j,none⟩) ago∧∀y∈ago,¬oa st.obj β y:=by
    intro β φ m B;have h:=m.ev T;simp only[O] at h;obtain⟨g,hg,D⟩:=h;obtain⟨vals,aE,bk,dk,I,_⟩:=m.aC id _ U;have hf:i<aE.length:=by rw[dk.1];exact B
    have:=dk.2 i (l.getD i []) aE[i] (bl B) (by simp);refine⟨g,aE[i],by rw[D,J5],dr.bj.kQ (λj v G=>bk.cell hg G) this,λy N=>I y ?_⟩;exact AI.2 ⟨_,List.getElem_mem _,N⟩
   cases r:fC P t
   ·simp only[r,J] at f;split at f
    ·rename_i c ahJ;simp only[M.ab,Y] at f;subst f;have B:i<l.length:=by simpa using aN
     refine zt afs Q rfl rfl λβ φ m=>?_;obtain⟨g,ago,D,C,I⟩:=E β φ m B;obtain⟨v,BI,aid,aiL,e3⟩:=bj.get _ _ _ _ _ _ C ahJ;exact⟨v,K _ _ v r aid D,WH aiL (λy N=>I y (e3 y N))⟩
    ·simp at f
   ·simp only[r,H] at f;split at f
    ·rename_i j G;cases q:zP (off+j.size) aeN.length
     ·simp[q] at f
     ·simp only[q,H,M.ab,Y] at f;subst f;have B:i<l.length:=by simpa using aN
      have adS:=AS q;refine zt afs Q rfl rfl λβ φ m=>?_;obtain⟨g,ago,D,C,I⟩:=E β φ m B;obtain⟨A,l1,l2,l3,l4⟩:=bj.b7 (β:=β) C I j.size off adS;refine⟨_,agg g (i*aeN.length+off) A j r G l1 (λk v hk=>?_) D, ?_⟩
      ·have:=l2 k v hk;rw[←this,AN]
      ·simp only[O];exact⟨A,rfl,l3,l4⟩
    ·simp at f
  ·simp at f
 ·simp at f
end Go.Proofs.YteffpikahopfoaaGreat.Vm
