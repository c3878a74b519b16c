/- Plain forms. Conditions: as each says. -/
import Derived.Test.YteffpikahopfoaaGreatP0
set_option linter.unusedVariables false
set_option linter.unusedSimpArgs false
set_option maxRecDepth 100000
open Int renaming toNat→so,tmod→tj,tdiv→t0,emod_nonneg→ud,emod_lt_of_pos→uq,tmod_eq_emod_of_nonneg→u2,sub_emod→vk,le_refl→vl,fdiv_eq_ediv_of_nonneg→vm
open List renaming set→sI,length_nil→sS,length_take→tr,length_drop→tt,getD_eq_getElem?_getD→tL,length→t3,length_set→t5,all_eq_true→t6,drop_zero→t_,append_assoc→uj,drop_length→uk,take_length→uz,drop_of_length_le→uB,mem_append→uW,mem_singleton→u1,drop_eq_getElem_cons→vn,take_of_length_le→vo,getElem?_set_ne→vp,getElem?_take_of_lt→vq,getElem?_eq_none→vr
open Bool renaming not_true→tk,not_false→uy,and_self→uF
open Nat renaming le_trans→tl,zero_le→tI,le_refl→tK,le_add_right→ui,min_eq_left→uC
open Go.IntKind renaming wrap→tJ
namespace Go.Proofs.YteffpikahopfoaaGreat.Pl
open Vm
noncomputable section
variable {α:Type} (kW:α)
structure UJ where
 Op:Int
 ez:Int
 e8:Int
 At:Int
 nA:Int
 sr:Int
def UJ.enc(x:UJ):List DC:=[.int x.Op,.int x.ez,.int x.e8,.int x.At,.int x.nA,.int x.sr]
def UJ.nd(r:List DC)(o:Nat):UJ:=⟨J r (o+0),J r (o+1),J r (o+2),J r (o+3),J r (o+4),J r (o+5)⟩
def UJ.ct:List CT:=WT
theorem UJ.eta{r:List DC}(h:i_ UJ.ct r):(UJ.nd r 0).enc=r:=(show (UJ.nd r 0).enc=nK UJ.ct r 0 from by kernel_rfl).trans (DG h)
theorem UJ.nX{r:List CT}{b:List DC}(h:i_ (UJ.ct++r) b):∃(x:UJ) (c:List DC),b=x.enc++c∧i_ UJ.ct x.enc∧i_ r c:=by obtain⟨d,e,rfl,a,f⟩:=Vi h;exact⟨UJ.nd d 0,e,by rw[UJ.eta a],by rw[UJ.eta a];exact a,f⟩
theorem UJ.nCz{x:UJ}(h:i_ UJ.ct x.enc):Oj .i (.int x.ez):=Fh 1 h rfl rfl
theorem UJ.nDY{x:UJ}(h:i_ UJ.ct x.enc):Oj .i (.int x.e8):=Fh 2 h rfl rfl
theorem UJ.niT{x:UJ}(h:i_ UJ.ct x.enc):Oj .i (.int x.nA):=Fh 4 h rfl rfl
theorem UJ.nxA{x:UJ}(h:i_ UJ.ct x.enc):Oj .i (.int x.sr):=Fh 5 h rfl rfl
def nwH(a:Int→α)(s:Y)(gZ:Int):α:=bif bif decide (gZ<0) then true else decide (ZK ((len s) - 2)<gZ) then a (-1) else bif Bk (Bk true (idx gZ s)) (idx (ZK (gZ+1)) s) then a (bits .or .i64 (Zl .i64 (ZK (nf s gZ)) 8) (ZK (nf s (ZK (gZ+1))))) else kW
theorem nsW(a:Int→α)(s:Y)(gZ:Int)(i:Oj .str (.str s)):nwH kW a s gZ=a (tC s gZ):=by
 have f:=jU i;have k:0≤len s:=by simp[len]
 have m:len s≤9223372036854775807:=by simp only[len];omega
 unfold nwH tC;have c:(bif decide (gZ<0) then true else decide (ZK (len s - 2)<gZ))= !(WU s gZ 2):=by
  have d:=within_iff (s:=s) (gZ:=gZ) (n:=2) f;rw[Ou (n:=len s - 2)];cases b:WU s gZ 2
  ·by_cases g:gZ<0
   ·simp[g]
   ·by_cases e:len s - 2<gZ
    ·simp[g,e]
    ·rw[d.2 (by omega)] at b;cases b
  ·have:=d.1 b;simp[show ¬gZ<0 by omega,show ¬len s - 2<gZ by omega]
 rw[c];cases b:WU s gZ 2
 ·rfl
 ·have o:=(within_iff f).1 b;have l:ZK (gZ+1)=gZ+1:=Ou;have h:∀j:Int,0≤j→j<len s→idx j s=true:=by intro j d e;simp only[len] at e;simp only[idx,gF,kQ];omega
  have p:=fR s gZ;have c0:=V0 s gZ;have q:=fR s (gZ+1);have r:=V0 s (gZ+1);simp only[l,h gZ (by omega) (by omega),h (gZ+1) (by omega) (by omega),cd,HI,rl,tk];rw[Ou (n:=nf s gZ),Ou (n:=nf s (gZ+1)),Qz,Ou (n:=nf s gZ*256),PV 8 (y:=nf s (gZ+1)) (by omega) (by omega) (by omega) (by omega) (by omega) (by omega)]
def E3(s:Y):Int:=bif (tC s 12)==33024 then 18 else 14
theorem SQ(s:Y):E3 s=14∨E3 s=18:=by unfold E3;cases (tC s 12)==33024<;>simp
theorem nBt{e:Ps}(h:tf e=true):0≤e.W0∧e.W0≤281474976710655∧0≤e.e7∧e.e7≤281474976710655∧46≤e.ed.length:=by
 unfold tf fy at h;cases c:nn e.W0 0 281474976710655
 ·rw[c] at h;cases h
 cases d:nn e.e7 0 281474976710655
 ·rw[c,d] at h;cases h
 have a:=Wx.1 c;have b:=Wx.1 d;cases f:nn (len e.ed) 46 400
 ·rw[f] at h;revert h;cases nn e.W0 0 281474976710655<;>cases nn e.e7 0 281474976710655<;>cases nn e.rX (-1) 4095<;>cases nn e.PC 1536 65535<;>cases e.PC != 33024<;>simp
 ·have:=Wx.1 f;simp only[len] at this;omega
def naH(a:Int→Int→α)(b:Y):α:=let c:Int:=bif (tC b 12)==33024 then 18 else 14;let d:Int:=ZK (c+9);let e:Bool:=decide (d<len b);bif lV e (Bk true (idx d b)) true then a (ZK (c+10)) (ZK ((ZK (c+20))+(wj (bif e then ZK (nf b d) else 0)))) else kW
def ue(s:Y):Int×Int:=(E3 s+10,E3 s+20+wj (bif decide (E3 s+9<len s) then nf s (E3 s+9) else 0))
theorem nyS(a:Int→Int→α)(b:Y)(c:Oj .str (.str b)):naH kW a b=a (ue b).1 (ue b).2:=by
 have l:=jU c;have f:0≤len b:=by simp[len]
 have m:len b≤9223372036854775807:=by simp only[len];omega
 have n:=SQ b;have o:=fR b (E3 b+9);have c0:=V0 b (E3 b+9);unfold naH;rw[show (bif (tC b 12)==33024 then (18:Int) else 14)=E3 b from rfl];dsimp only;have g:ZK (E3 b+9)=E3 b+9:=Ou;have d:ZK (E3 b+10)=E3 b+10:=Ou;have i:ZK (nf b (E3 b+9))=nf b (E3 b+9):=Ou;have j:E3 b+9<len b→idx (E3 b+9) b=true:=by intro h;simp only[len] at h;simp only[idx,gF,kQ];omega
 have e:ZK (E3 b+20)=E3 b+20:=Ou;have k:∀v:Int,ZK (E3 b+20+wj v)=E3 b+20+wj v:=by
  intro v;rw[RF];cases v==6
  ·exact Ou (by simp only[rl];omega) (by simp only[rl];omega)
  ·exact Ou (by simp only[HI];omega) (by simp only[HI];omega)
 rw[g,d,i,e,k];exact Bw (eE (λh=>by rw[j (of_decide_eq_true h)];rfl) (λ_=>rfl)) rfl
def nuS(a:Y→Bool→α)(p:oY):α:=let b:Y:=iU ((dQ p).1) ((ue ((dQ p).1)).1) (Ro 0);bif !((dQ p).2) then a [] false else bif Bk (Bk true (Ei ((dQ p).1) ((ue ((dQ p).1)).1) (Ro 0))) (Ei b ((ue ((dQ p).1)).2) (Ro 0)) then a (iU b ((ue ((dQ p).1)).2) (Ro 0)) true else kW
theorem nwS{a b:Y}{j:Nat} :nf (a++b) ((a.length+j:Nat):Int)=nf b (j:Int):=by simp only[nf,lN,tL];rw[List.getElem?_append_right (by omega),Nat.add_sub_cancel_left]
theorem nxk{a:Int}(d:0≤a)(e:a≤281474976710655):(yw a).length=6:=by
 have b:xu .i64 a 32=a / 4294967296:=by unfold xu;rw[show min (so 32) IntKind.i64.bits=32 by rfl,show (2 ^ 32:Int)=4294967296 by rfl];exact vm a (by omega)
 have c:bits .and .i64 a 4294967295=a % 4294967296:=ja 32 (by decide) a;unfold yw;rw[b,c,Qe,ES (by omega) (by omega),nCb (by omega) (by omega)]
theorem nqg{p:oY}(h:(dQ p).2=true):E3 (dQ p).1+46≤len (dQ p).1:=by
 unfold dQ at h ⊢;cases i:rZ p
 ·rw[i] at h;cases h
 rw[i] at h;simp only[tk,rl] at h ⊢;unfold Og at h ⊢;cases d:tf (UI p)
 ·rw[d] at h;cases h
 simp only[tk,rl];obtain⟨o,q,r,s,A⟩:=nBt d;have k:=nxk o q;have l:=nxk r s;have c:(UI p).PC=2048:=rfl;have e:Ro 2048=[8,0]:=by unfold Ro jc;rfl
 have f:(yw (UI p).W0++yw (UI p).e7).length=12:=by rw[Qe,k,l]
 by_cases m:0≤(UI p).rX
 ·have t:=SQ (OX (UI p)++Ro (UI p).PC++(UI p).ed);have u:(Ro 33024).length=2:=ES (by omega) (by omega);have v:(UI p).rX≤4095:=by
   unfold tf fy at d;cases n:nn (UI p).rX (-1) 4095
   ·rw[n] at d;revert d;cases nn (UI p).W0 0 281474976710655<;>cases nn (UI p).e7 0 281474976710655<;>simp
   ·exact (Wx.1 n).2
  have g:(OX (UI p)).length=16:=by unfold OX;rw[Tl m,HI,Qe,f,Qe,u,ES (by omega) (by omega)]
  simp only[len,Qe,g,c,e,di,sS];simp only[c,e] at t;omega
 ·have g:OX (UI p)=yw (UI p).W0++yw (UI p).e7:=by unfold OX;rw[yF m,rl]
  rw[g,c,e];have w:tC (yw (UI p).W0++yw (UI p).e7++[8,0]++(UI p).ed) 12≠33024:=by
   unfold tC;have x:nf (yw (UI p).W0++yw (UI p).e7++[8,0]++(UI p).ed) 12=8:=by have:=nwS (a:=yw (UI p).W0++yw (UI p).e7) (b:=[8,0]++(UI p).ed) (j:=0);rw[f,←uj] at this;exact this
   have y:nf (yw (UI p).W0++yw (UI p).e7++[8,0]++(UI p).ed) (12+1)=0:=by have:=nwS (a:=yw (UI p).W0++yw (UI p).e7) (b:=[8,0]++(UI p).ed) (j:=1);rw[f,←uj] at this;exact this
   rw[x,y];cases !(WU (yw (UI p).W0++yw (UI p).e7++[8,0]++(UI p).ed) 12 2)<;>simp
  have z:((tC (yw (UI p).W0++yw (UI p).e7++[8,0]++(UI p).ed) 12)==33024)=false:=by simpa using w
  unfold E3;rw[z,rl];simp only[len,Qe,k,l,di,sS];omega
def B0(p:oY):Y×Bool:=bif !(dQ p).2 then ([],false) else (iU (iU (dQ p).1 (ue (dQ p).1).1 (Ro 0)) (ue (dQ p).1).2 (Ro 0),true)
theorem nzf(p:oY):(B0 p).1.length≤420:=by
 have a:=Cg p;unfold B0;cases (dQ p).2
 ·exact tI _
 ·simp only[tk,rl];rw[TA (by rw[TA (by omega)];omega),TA (by omega)];exact a
theorem phQ(c:Y→Bool→α)(p:oY):nuS kW c p=c (B0 p).1 (B0 p).2:=by
 have f:=Cg p;have g:=Xa 0;unfold nuS B0;refine oN (K:=λr:Y×Bool=>c r.1 r.2) (λ_=>rfl) (λh=>?_);have d:∀a,Ei (dQ p).1 a (Ro 0)=true:=λa=>by simp only[Ei,gF,kQ];omega
 have e:∀a b,Ei (iU (dQ p).1 a (Ro 0)) b (Ro 0)=true:=λa b=>by simp only[Ei,gF,kQ];rw[TA (by omega)];omega
 simp only[d,e,cd,HI]
theorem cB{r:jW}(h:Wi r=true):Uo r.nA=true∧UU r=(r.pj - r.ej) % (2*r.nA)∧UU r≤r.nA∧0≤r.ej∧r.ej<2*r.nA∧0≤r.pj∧r.pj<2*r.nA∧2≤r.nA∧r.nA≤16:=by
 have g:=FZ h;unfold Wi rQ at h;simp only[id] at h;rw[Ou (n:=2*r.nA),Ou (n:=2*r.nA - 1)] at h;cases c:Uo r.nA
 ·rw[c] at h;revert h;cases nn r.nW 0 130944<;>simp
 cases d:nn r.ej 0 (2*r.nA - 1)
 ·rw[c,d] at h;revert h;cases nn r.nW 0 130944<;>simp
 cases e:nn r.pj 0 (2*r.nA - 1)
 ·rw[c,d,e] at h;revert h;cases nn r.nW 0 130944<;>simp
 rw[c,d,e] at h;have f:UU r≤r.nA:=by revert h;cases nn r.nW 0 130944<;>simp
 have a:=Wx.1 d;have b:=Wx.1 e;refine⟨rfl, ?_,f, ?_⟩
 ·unfold UU;rw[c];rfl
 ·omega
theorem ne1{r:jW}(h:Wi r=true){a:Int}(d:0≤a)(i:a<2*r.nA)(e:(r.pj - a) % (2*r.nA)≤r.nA):
  Wi ⟨r.nW,r.nA,a,r.pj⟩=true∧UU ⟨r.nW,r.nA,a,r.pj⟩=(r.pj - a) % (2*r.nA):=by
 obtain⟨b,j,k,l,m,f,o,p,q⟩:=cB h;have c:UU ⟨r.nW,r.nA,a,r.pj⟩=(r.pj - a) % (2*r.nA):=by unfold UU;rw[b];rfl
 refine⟨?_,c⟩;have g:nn r.nW 0 130944=true:=by unfold Wi rQ at h;revert h;cases nn r.nW 0 130944<;>simp
 unfold Wi rQ;simp only[id];rw[c];rw[Ou (n:=2*r.nA),Ou (n:=2*r.nA - 1)];rw[g,b,show nn a 0 (2*r.nA - 1)=true from Wx.2 ⟨d,by omega⟩,show nn r.pj 0 (2*r.nA - 1)=true from Wx.2 ⟨f,by omega⟩];exact Tl e
def y_(a:Int→α)(r:jW):α:=bif !(Wi r) then a 0 else a (ZK (r.nA - (UU r)))
def P7(r:jW):Int:=y_ id r
theorem nuK(a:Int→α)(r:jW):y_ a r=a (P7 r):=by exact cU rfl rfl
def WL(a:Int→α)(p:Cf)(k:Int):α:=bif bif !(mK p) then true else !(nn k 0 (ZK (p.d9 - 1))) then a (-1) else a (ZK (p.nW+(ZK (k*p.nA))))
def zj(p:Cf)(k:Int):Int:=WL id p k
theorem nko(a:Int→α)(p:Cf)(k:Int):WL a p k=a (zj p k):=by exact cU rfl rfl
def tG(a:Bool→α)(x:UJ):α:=a (bif nn x.Op 0 3 then bif nn x.ez 0 3 then bif nn x.e8 0 65535 then bif nn x.nA 0 65535 then bif nn x.sr 0 65535 then nn x.At 0 4294967295 else false else false else false else false else false)
def Ze(x:UJ):Bool:=tG id x
theorem nuO(a:Bool→α)(x:UJ):tG a x=a (Ze x):=by rfl
def tu(a:Int→α)(x:rM)(c:Int)(d:Int→Int→α)(n b:Int):α:=bif decide (b<c) then bif Bk true (idx b x) then d (ZK (n+(J (V x (so b)) 1))) (ZK (b+1)) else kW else a n
def zt(a:Int→α)(N:Nat)(x:rM)(b:Int)(c:Nat):Int→Int→α:=WS (λ_ _=>kW) (tu kW a x b) c
theorem nAa(a:Int→α)(N:Nat)(x:rM)(b:Int)(c:Nat):zt kW a N x b (c+1)=tu kW a x b (zt kW a N x b c):=rfl
def PY(kW:α)(a:Int→α)(b:rM→Int→Int→Int→α)(q:Sx):α:=b q.nx (len q.nx) 0 0
def ngm(a:Int→α)(N:Nat)(q:Sx):α:=PY kW a (λx b=>zt kW a N x b N) q
def ZI(q:Sx):Int:=Wc (λi o=>ZK (o+J (V q.nx i) 1)) q.nx.length 0 0
theorem nn6(a:Int→α)(q:Sx)(b:i_ Sx.ct q.enc):∃N,ngm kW a N q=a (ZI q):=by
 obtain⟨d,e⟩:=jD (Sx.nv3 b);refine⟨q.nx.length+1, ?_⟩;unfold ngm PY;refine (Xb q.nx.length (λn i o=>zt kW a (q.nx.length+1) q.nx (len q.nx) n o i) (λi o=>ZK (o+J (V q.nx i) 1)) a (λ_ _=>True) ?_ ?_ ?_ (q.nx.length+1) 0 trivial (by omega)).trans rfl
 ·intros;trivial
 ·intro n i o c _;show zt kW a (q.nx.length+1) q.nx (len q.nx) (n+1) o (i:Int)=_;rw[nAa];simp only[tu,T9 c,uH c,Q8 c d,lN,cd,HI]
 ·intro n o _;show zt kW a (q.nx.length+1) q.nx (len q.nx) (n+1) o (q.nx.length:Int)=_;rw[nAa];simp only[tu,hO,rl]
def WJ(a:Bool→α)(Z x:rM)(c:Int)(d:Int→α)(b:Int):α:=bif decide (b<c) then bif Bk true (idx b x) then bif bif decide (J (V x (so b)) 0<0) then true else !(nn (J (V x (so b)) 1) 0 4096) then a false else d (ZK (b+1)) else kW else a (decide (len Z≤16))
def zC(a:Bool→α)(N:Nat)(Z x:rM)(b:Int)(c:Nat):Int→α:=WS (λ_=>kW) (WJ kW a Z x b) c
theorem nuy(a:Bool→α)(N:Nat)(Z x:rM)(b:Int)(c:Nat):zC kW a N Z x b (c+1)=WJ kW a Z x b (zC kW a N Z x b c):=rfl
def T4(kW:α)(a:Bool→α)(b:rM→Int→Int→α)(Z:rM):α:=b Z (len Z) 0
def swF(a:Bool→α)(N:Nat)(Z:rM):α:=T4 kW a (λx b=>zC kW a N Z x b N) Z
def b0(Z:rM):Bool:=bif Pt (λ_ r=>bif decide (J r 0<0) then true else !(nn (J r 1) 0 4096)) Z 0 then false else decide (len Z≤16)
theorem n_{l:rM}(h:b0 l=true):l.length≤16:=by
 unfold b0 at h;revert h;cases Pt (λ_ r=>bif decide (J r 0<0) then true else !(nn (J r 1) 0 4096)) l 0
 ·intro h;have:=of_decide_eq_true h;simp only[len] at this;omega
 ·intro h;cases h
theorem nt5(a:Bool→α)(Z:rM)(b:Oj (.sl bG) (.sl Z)):∃N,swF kW a N Z=a (b0 Z):=by
 obtain⟨d,_⟩:=jD b;refine⟨Z.length+1, ?_⟩;unfold swF T4;refine (P6 Z (zC kW a (Z.length+1) Z Z (len Z)) (λi r c=>bif bif decide (J r 0<0) then true else !(nn (J r 1) 0 4096) then a false else c) (a (decide (len Z≤16))) ?_ ?_).trans ?_
 ·intro n i h;rw[nuy];simp only[WJ,T9 h,uH h,Q8 h d,lN,cd,TK,HI,CC]
 ·intro n;rw[nuy];simp only[WJ,hO,rl,CC]
 ·refine (NS (λ_ r=>bif decide (J r 0<0) then true else !(nn (J r 1) 0 4096)) (a false) (a (decide (len Z≤16))) Z 0).trans ?_;exact cU rfl rfl
def nAI(a:Int→α)(r:jW)(b:Int):α:=bif bif !(Wi r) then true else decide (b<0) then a (-1) else bif Bk true (!(r.nA==0)) then a (ZK (r.nW+(ZK ((tj b r.nA)*16)))) else kW
def bn(r:jW)(a:Int):Int:=bif bif !(Wi r) then true else decide (a<0) then -1 else ZK (r.nW+ZK (tj a r.nA*16))
theorem naw(a:Int→α)(r:jW)(b:Int):nAI kW a r b=a (bn r b):=by
 unfold nAI bn;refine oN (λ_=>rfl) (λc=>?_);have d:Wi r=true:=by revert c;cases Wi r<;>simp
 have f:=FZ d;have e:(!(r.nA==0))=true:=by simp;omega
 simp only[e,cd,HI]
def nL7(a:Int→α)(r:jW)(b:Int):α:=bif bif !(Wi r) then true else decide (b<0) then a (-1) else bif Bk true (!(r.nA==0)) then a (ZK (r.nW+(ZK (16*(tj b r.nA))))) else kW
theorem nih(a:Int→α)(r:jW)(b:Int):nL7 kW a r b=a (bn r b):=by
 unfold nL7 bn;refine oN (λ_=>rfl) (λc=>?_);have d:Wi r=true:=by revert c;cases Wi r<;>simp
 have f:=FZ d;have e:(!(r.nA==0))=true:=by simp;omega
 simp only[e,cd,HI,Int.mul_comm 16]
def nz2(a:Cf→rM→Bool→α)(p:Cf)(n:Int):α:=bif Bk true (ig p) then bif bif !(mK p) then true else !(nn n 0 (len p.oq)) then a (cp p) [] false else bif Bk (Bk true (fD p.oq n)) (Of (qg p.oq n)) then bif Bk (Bk true (Oo p.oq n)) (Of (Xg p.oq n)) then a (⟨(cp p).nW,(cp p).nA,(cp p).d9,cp (qg p.oq n)⟩:Cf) (cp (Xg p.oq n)) true else kW else kW else kW
def Yk(p:Cf)(n:Int):Bool:=ig p
def xy(p:Cf)(n:Int):Cf×rM×Bool:=bif bif !(mK p) then true else !(nn n 0 (len p.oq)) then (p,[],false) else (⟨p.nW,p.nA,p.d9,qg p.oq n⟩,Xg p.oq n,true)
theorem ntU(a:Cf→rM→Bool→α)(p:Cf)(n:Int)(c:Yk p n=true):nz2 kW a p n=a (xy p n).1 (xy p n).2.1 (xy p n).2.2:=by
 have b:ig p=true:=c;have d:Of p.oq=true:=b;have l:=RG d;unfold nz2 xy;rw[b];refine O3 rfl |>.trans ?_;refine oN (K:=λr:Cf×rM×Bool=>a r.1 r.2.1 r.2.2) (λ_=>rfl) (λe=>?_);have f:nn n 0 (len p.oq)=true:=by revert e;cases mK p<;>simp
 have g:=Wx.1 f;simp only[len] at g;have h:Oo p.oq n=true:=by simp only[Oo,gF,kQ];omega
 have i:fD p.oq n=true:=by simp only[fD,gF,kQ];omega
 have m:(Xg p.oq n).length≤p.oq.length:=by simp only[Xg,tt,tr];omega
 have o:(qg p.oq n).length≤p.oq.length:=by simp only[qg,tt,tr];omega
 have j:Of (Xg p.oq n)=true:=Tl (by omega);have k:Of (qg p.oq n)=true:=Tl (by omega);simp only[h,i,j,k,cd,HI,cp]
def nl6(a:Y→α)(x:UJ):α:=let b:Y:=(toStr ([[.int (tJ .u8 x.Op)],[.int (tJ .u8 x.ez)]]))++(Ro x.e8);let c:Y:=b++(v7 x.At);let d:Y:=c++(Ro x.nA);let e:Y:=d++(Ro x.sr);bif !(Ze x) then a [] else bif Bk (Bk (Bk (Bk (Bk true (S_ (toStr ([[.int (tJ .u8 x.Op)],[.int (tJ .u8 x.ez)]])) (Ro x.e8))) (S_ b (v7 x.At))) (S_ c (Ro x.nA))) (S_ d (Ro x.sr))) (S_ e (v7 0)) then a (e++(v7 0)) else kW
def St(x:UJ):Y:=bif !(Ze x) then [] else toStr ([[.int (tJ .u8 x.Op)],[.int (tJ .u8 x.ez)]])++Ro x.e8++v7 x.At++Ro x.nA++Ro x.sr++v7 0
theorem nmT(f:Y→α)(x:UJ):nl6 kW f x=f (St x):=by have a:=Xa x.e8;have b:=Qm x.At;have c:=Xa x.nA;have d:=Xa x.sr;have e:=Qm 0;unfold nl6 St;refine oN (λ_=>rfl) (λg=>?_);refine Bw (by simp only[DT,S_,AK,Qe,kN,di,sS,kQ,true_and,and_true];omega) rfl
def Qf(a:rM→α)(g:rM→rM→Int→Int→α)(d:rM)(b:Int)(x:rM)(h:Int)(f:Int→rM→α)(c:Int)(e:rM):α:=bif decide (c<h) then bif Bk true (idx c x) then bif c==(ZK ((len d) - 1)) then bif Bk true (Pf 48 e ([[.int 1,.int 1,.int (J (V x (so c)) 1),.int (J (V x (so c)) 0),.int 0,.int b]])) then f (ZK (c+1)) (e++([[.int 1,.int 1,.int (J (V x (so c)) 1),.int (J (V x (so c)) 0),.int 0,.int b]])) else kW else bif Bk true (Pf 48 e ([[.int 1,.int 0,.int (J (V x (so c)) 1),.int (J (V x (so c)) 0),.int 0,.int b]])) then f (ZK (c+1)) (e++([[.int 1,.int 0,.int (J (V x (so c)) 1),.int (J (V x (so c)) 0),.int 0,.int b]])) else kW else kW else g e e (len e) 0
def Tp(a:rM→α)(d c:rM)(e:Int)(f:Int→α)(b:Int):α:=bif decide (b<e) then bif Bk true (idx b c) then bif !(Ze (UJ.nd (V c (so b)) 0)) then a [] else f (ZK (b+1)) else kW else a d
def YX(a:rM→α)(N:Nat)(b c:rM)(d:Int)(e:Nat):Int→α:=WS (λ_=>kW) (Tp kW a b c d) e
theorem nBT(a:rM→α)(N:Nat)(b c:rM)(d:Int)(e:Nat):YX kW a N b c d (e+1)=Tp kW a b c d (YX kW a N b c d e):=rfl
def Ux(a:rM→α)(N:Nat)(b:rM)(c:Int)(x:rM)(d:Int)(e:Nat):Int→rM→α:=WS (λ_ _=>kW) (Qf kW a (λg h i=>YX kW a N g h i N) b c x d) e
theorem ngQ(a:rM→α)(N:Nat)(b:rM)(c:Int)(x:rM)(e:Int)(f:Nat)(g:Int)(d:rM):Ux kW a N b c x e (f+1) g d=Qf kW a (λd h i=>YX kW a N d h i N) b c x e (Ux kW a N b c x e f) g d:=rfl
def dM(kW:α)(a:rM→α)(d:rM→Int→Int→rM→α)(b:rM)(size c:Int):α:=bif bif (len b)==0 then true else bif !(b0 b) then true else !(nn size 1 128) then a [] else d b (len b) 0 ([[.int 2,.int 0,.int 0,.int 0,.int size,.int c]])
def C8(a:rM→α)(N:Nat)(b:rM)(size c:Int):α:=dM kW a (λx d=>Ux kW a N b c x d N) b size c
def FU(n:Nat)(a:Int)(i:Nat)(r:List DC):List DC:=[.int 1,.int (bif ((i:Nat):Int)==ZK ((n:Int) - 1) then 1 else 0),.int (J r 1),.int (J r 0),.int 0,.int a]
def cC(n:Nat)(a:Int):rM→Nat→rM
 | [],_=>[]
 | r::rs,i=>FU n a i r::cC n a rs (i+1)
theorem c6(n:Nat)(a:Int):∀(l:rM) (i:Nat),(cC n a l i).length=l.length
 | [],_=>rfl
 | r::rs,i=>by simp only[cC,di,c6 n a rs (i+1)]
def eS(r:List DC):Bool:= !(Ze (UJ.nd r 0))
def Ec(size a:Int):List DC:=[.int 2,.int 0,.int 0,.int 0,.int size,.int a]
def aj(a:rM)(size b:Int):rM:=bif bif (len a)==0 then true else bif !(b0 a) then true else !(nn size 1 128) then [] else bif (Ec size b::cC a.length b a 0).any eS then [] else Ec size b::cC a.length b a 0
theorem nsa(n:Nat)(a:Int)(fin:rM→α):∀(l:rM) (i:Nat) (o:rM),
  vQ (σ:=rM) (λi r c o=>c (o++[FU n a i r])) fin l i o=fin (o++cC n a l i)
 | [],_,o=>by simp[vQ,cC]
 | r::rs,i,o=>by simp only[vQ,cC];have:=nsa n a fin rs (i+1) (o++[FU n a i r]);rw[this,uj];rfl
theorem vj(a:rM)(L:Nat→Int→rM→α)(step:Nat→List DC→(rM→α)→rM→α)(fin:rM→α)(z:Nat)
  (g:∀i r (c d:rM→α) s,(∀b,b.length=s.length+1→c b=d b)→step i r c s=step i r d s)
  (j:∀n (i:Nat) s,i<a.length→s.length=z+i→L (n+1) (i:Int) s=step i (V a i) (L n ((i:Int)+1)) s)
  (k:∀n s,s.length=z+a.length→L (n+1) (a.length:Int) s=fin s):∀(m i:Nat) (s:rM) (n:Nat),i+m=a.length→m<n→s.length=z+i→L n (i:Int) s=vQ step fin (a.drop i) i s
 | 0,i,s,n,h,hn,hz=>by
  obtain⟨n,rfl⟩:=O4 n;have:i=a.length:=by omega
  subst this;rw[k n s hz,uk];rfl
 | m+1,i,s,n,h,hn,hz=>by
  obtain⟨n,rfl⟩:=O4 n;have e:i<a.length:=by omega
  rw[j n i s e hz,vn e];have f:V a i=a[i]:=by simp[V,tL,e]
  show _=step i a[i] (vQ step fin (a.drop (i+1)) (i+1)) s;rw[←f];refine g _ _ _ _ _ (λb l=>?_);exact vj a L step fin z g j k m (i+1) b n (by omega) (by omega) (by omega)
theorem nyh(a:rM→α)(b:rM)(size f:Int)(k:Oj (.sl bG) (.sl b)):∃N,C8 kW a N b size f=a (aj b size f):=by
 obtain⟨m,A⟩:=jD k;refine⟨b.length+2, ?_⟩;unfold C8 dM aj;have p:∀(o:rM) (x:List DC),o.length≤100→Pf 48 o [x]=true:=λo x h=>Q0 (by simp only[di,sS];omega) (by omega);refine oN (λ_=>rfl) (λq=>?_);have t:b0 b=true:=by revert q;cases (len b)==0<;>cases b0 b<;>simp
 have u:=n_ t;have key:=vj b (λn i o=>Ux kW a (b.length+2) b f b (len b) n i o) (λi r c o=>c (o++[FU b.length f i r])) (λo=>YX kW a (b.length+2) o o (len o) (b.length+2) 0) 1 (λi r c d s h=>h _ (by simp)) ?_ ?_ b.length 0 [Ec size f] (b.length+2) (by omega) (by omega) (by simp)
 ·refine key.trans ?_;rw[t_,nsa];have v:([Ec size f]++cC b.length f b 0).length+0=b.length+1:=by simp[c6]
  generalize w:[Ec size f]++cC b.length f b 0=O at v;have j:Ec size f::cC b.length f b 0=O:=w;rw[j];refine (fT O (λn i=>YX kW a (b.length+2) O O (len O) n i) (λi r c=>bif eS r then a [] else c) (a O) ?_ ?_ (b.length+2) (by omega)).trans ?_
  ·intro n i g;show YX kW a (b.length+2) O O (len O) (n+1) (i:Int)=_;rw[nBT];simp only[Tp,T9 g,uH g,Q8 g (show O.length≤9223372036854775807 by omega),lN,cd,HI];rfl
  ·intro n;show YX kW a (b.length+2) O O (len O) (n+1) (O.length:Int)=_;rw[nBT];simp only[Tp,hO,rl]
  ·have e:∀(l:rM) (i:Nat),vQ (σ:=Unit) (λi r c s=>bif eS r then a [] else c s) (λ_=>a O) l i ()=bif l.any eS then a [] else a O:=by
    intro l
    induction l with
    | nil=>intro i;rfl
    | cons r rs y=>
     intro i;simp only[vQ,List.any_cons];cases eS r
     ·exact y (i+1)
     ·rfl
   exact (e O 0).trans (cU rfl rfl)
 ·intro n i o g z;show Ux kW a (b.length+2) b f b (len b) (n+1) (i:Int) o=_;rw[ngQ];simp only[Qf,T9 g,uH g,Q8 g m,lN,p o _ (by omega),cd,HI,FU];simp only[len];cases ((i:Nat):Int)==ZK ((b.length:Int) - 1)<;>rfl
 ·intro n o z;show Ux kW a (b.length+2) b f b (len b) (n+1) (b.length:Int) o=_;rw[ngQ];simp only[Qf,hO,rl]
theorem nl4:∀(m a:Nat) (s:Y) (l:rM),(Wo m a s l).length=l.length
 | 0,_,_,_=>rfl
 | m+1,a,s,l=>by
  unfold Wo;cases decide (0<s.length)
  ·rfl
  ·rw[HI,nl4 m];simp[uX]
theorem noC(m:TV)(a:Int)(s:Y):(Ga m a s).1.nQ.length=m.nQ.length:=by
 unfold Ga;cases !(within m a (len s))
 ·exact nl4 _ _ _ _
 ·rfl
theorem nwC:∀(r:rM) (s:Y) (l:rM),(nD r s l).length=l.length
 | [],_,_=>rfl
 | r::rs,s,l=>by unfold nD;rw[nwC rs,noC]
theorem qh(l:rM)(m:TV)(d a:Int)(s:Y)(w:Bool):(put l m d a s w).1.nQ.length=m.nQ.length:=by
 unfold put;cases !(Zi l m d a (len s) w).2
 ·exact nwC _ _ _
 ·rfl
theorem ndK{l:rM}{m:TV}{d a:Int}{s:Y}{w:Bool}(h:(put l m d a s w).2=false):(put l m d a s w).1=m:=by
 unfold put at h ⊢;cases b:(Zi l m d a (len s) w).2
 ·rfl
 ·rw[b] at h;cases h
def ndu(a:TV→jW→Bool→α)(Z:rM)(m:TV)(c:Int)(r:jW)(b:Y):α:=let d:TV×Bool:=Y2 Z m c (bn r r.pj) b;bif bif (P7 r)==0 then true else (len b) != 16 then bif Bk true (zH m) then a (cp m) r false else kW else bif Bk true (zm Z m c (bn r r.pj) b) then bif !d.2 then a d.1 r false else bif Bk true (!((ZK (2*r.nA))==0)) then a d.1 (⟨r.nW,r.nA,r.ej,tj (ZK (r.pj+1)) (ZK (2*r.nA))⟩:jW) true else kW else kW
def bX(Z:rM)(m:TV)(a:Int)(r:jW)(b:α):Bool:=Of m.nQ
def Xz(Z:rM)(m:TV)(b:Int)(r:jW)(a:Y):TV×jW×Bool:=bif bif (P7 r)==0 then true else (len a) != 16 then (m,r,false) else bif !(Y2 Z m b (bn r r.pj) a).2 then (m,r,false) else ((Y2 Z m b (bn r r.pj) a).1,⟨r.nW,r.nA,r.ej,tj (ZK (r.pj+1)) (ZK (2*r.nA))⟩,true)
theorem Q6(Z:rM)(m:TV)(b:Int)(r:jW)(a:Y):(Xz Z m b r a).1.nQ.length=m.nQ.length:=by
 unfold Xz;cases (bif (P7 r)==0 then true else (len a) != 16)
 ·cases !(Y2 Z m b (bn r r.pj) a).2
  ·exact qh _ _ _ _ _ _
  ·rfl
 ·rfl
theorem nnK(b:TV→jW→Bool→α)(Z:rM)(m:TV)(c:Int)(r:jW)(d:Y)(g:bX Z m c r d=true):ndu kW b Z m c r d=b (Xz Z m c r d).1 (Xz Z m c r d).2.1 (Xz Z m c r d).2.2:=by
 have h:zH m=true:=g;have e:∀a,zm Z m c a d=true:=λa=>g;unfold ndu Xz;dsimp only;refine oN (K:=λr:TV×jW×Bool=>b r.1 r.2.1 r.2.2) (λ_=>by rw[h];rfl) (λi=>?_);rw[e];simp only[cd,HI];have j:Wi r=true:=by revert i;unfold P7 y_;cases Wi r<;>simp
 have l:=FZ j;have k:(!((ZK (2*r.nA))==0))=true:=by rw[Ou];simp;omega
 refine oN (K:=λr:TV×jW×Bool=>b r.1 r.2.1 r.2.2) (λf=>?_) (λ_=>by rw[k];rfl);have f:(Y2 Z m c (bn r r.pj) d).2=false:=by simpa using f
 rw[show (Y2 Z m c (bn r r.pj) d).1=m from ndK f]
def nni(a:TV→jW→Bool→α)(Z:rM)(m:TV)(c:Int)(r:jW)(b:Y):α:=let d:TV×Bool:=Y2 Z m c (bn r r.pj) b;bif bif (P7 r)==0 then true else (len b) != 16 then bif Bk true (zH m) then a (cp m) r false else kW else bif Bk true (zm Z m c (bn r r.pj) b) then bif !d.2 then bif Bk true (zH m) then a (cp m) r false else kW else bif Bk true (!((ZK (2*r.nA))==0)) then a d.1 (⟨r.nW,r.nA,r.ej,tj (ZK (r.pj+1)) (ZK (2*r.nA))⟩:jW) true else kW else kW
theorem nsR(b:TV→jW→Bool→α)(Z:rM)(m:TV)(c:Int)(r:jW)(d:Y)(f:bX Z m c r d=true):nni kW b Z m c r d=b (Xz Z m c r d).1 (Xz Z m c r d).2.1 (Xz Z m c r d).2.2:=by
 have g:zH m=true:=f;have e:∀a,zm Z m c a d=true:=λa=>f;unfold nni Xz;dsimp only;refine oN (K:=λr:TV×jW×Bool=>b r.1 r.2.1 r.2.2) (λ_=>by rw[g];rfl) (λh=>?_);rw[e];simp only[cd,HI];have i:Wi r=true:=by revert h;unfold P7 y_;cases Wi r<;>simp
 have k:=FZ i;have j:(!((ZK (2*r.nA))==0))=true:=by rw[Ou];simp;omega
 refine oN (K:=λr:TV×jW×Bool=>b r.1 r.2.1 r.2.2) (λl=>?_) (λ_=>by rw[j];rfl);rw[g];rfl
def rP(a:TV→jW→Bool→α)(Z:rM)(c:Int)(b:rM)(l:Int)(k:rM)(m n o p:Int)(q:Int→Int→Int→Int→Int→rM→α)(g next d e f:Int)(i:rM):α:=let j:TV×jW×Bool:=Xz Z (⟨i⟩:TV) c (⟨next,d,e,f⟩:jW) (fJ (V b (so g)) 0);let h:jW:=j.2.1;bif decide (g<l) then bif Bk true (idx g b) then bif Bk true (bX Z (⟨i⟩:TV) c (⟨next,d,e,f⟩:jW) (fJ (V b (so g)) 0)) then bif !j.2.2 then bif Bk true (zH (⟨k⟩:TV)) then a (cp (⟨k⟩:TV)) (⟨m,n,o,p⟩:jW) false else kW else q (ZK (g+1)) h.nW h.nA h.ej h.pj j.1.nQ else kW else kW else a (⟨i⟩:TV) (⟨next,d,e,f⟩:jW) true
def PN(a:TV→jW→Bool→α)(N:Nat)(Z:rM)(c:Int)(b:rM)(d:Int)(e:rM)(f g h i:Int)(j:Nat):Int→Int→Int→Int→Int→rM→α:=WS (λ_ _ _ _ _ _=>kW) (rP kW a Z c b d e f g h i) j
theorem nzq(a:TV→jW→Bool→α)(N:Nat)(Z:rM)(c:Int)(b:rM)(d:Int)(e:rM)(f g h i:Int)(j:Nat):PN kW a N Z c b d e f g h i (j+1)=rP kW a Z c b d e f g h i (PN kW a N Z c b d e f g h i j):=rfl
def cy(a:TV→jW→Bool→α)(d:Int→rM→Int→Int→Int→Int→Int→Int→Int→Int→Int→rM→α)(Z:rM)(m:TV)(c:Int)(r:jW)(b:rM):α:=bif Bk true (zH m) then d (len b) m.nQ r.nW r.nA r.ej r.pj 0 r.nW r.nA r.ej r.pj ((cp m).nQ) else kW
def ncb(a:TV→jW→Bool→α)(N:Nat)(Z:rM)(m:TV)(c:Int)(r:jW)(b:rM):α:=cy kW a (λd e f g h i=>PN kW a N Z c b d e f g h i N) Z m c r b
def qs(Z:rM)(a:Int)(e:List DC)(s:TV×jW):Bool:= !(Xz Z s.1 a s.2 (fJ e 0)).2.2
def LQ(Z:rM)(a:Int)(e:List DC)(s:TV×jW):TV×jW:=((Xz Z s.1 a s.2 (fJ e 0)).1,(Xz Z s.1 a s.2 (fJ e 0)).2.1)
def Bs(Z:rM)(m:TV)(a:Int)(r:jW)(b:rM):TV×jW×Bool:=nY (qs Z a) (LQ Z a) (m,r,false) (λs=>(s.1,s.2,true)) b (m,r)
theorem nha(a:TV→jW→Bool→α)(Z:rM)(m:TV)(c:Int)(r:jW)(b:rM)(f:Oj (.sl VB) (.sl b))(g:bX Z m c r b=true):∃N,ncb kW a N Z m c r b=a (Bs Z m c r b).1 (Bs Z m c r b).2.1 (Bs Z m c r b).2.2:=by
 obtain⟨j,o⟩:=jD f;have k:zH m=true:=g;have l:zH (⟨m.nQ⟩:TV)=true:=g;refine⟨b.length+1, ?_⟩;unfold ncb cy Bs;rw[k];refine (O3 rfl).trans ?_;refine (Y_ b (λn i (s:TV×jW)=>PN kW a (b.length+1) Z c b (len b) m.nQ r.nW r.nA r.ej r.pj n i s.2.nW s.2.nA s.2.ej s.2.pj s.1.nQ) (qs Z c) (LQ Z c) (a m r false) (λs=>a s.1 s.2 true) (λ_ s=>Of s.1.nQ=true) ?_ ?_ ?_ (m,r) g).trans ?_
 ·intro i s d e _;refine Tl ?_;show (Xz Z s.1 c s.2 (fJ (V b i) 0)).1.nQ.length≤16777216;rw[Q6];exact RG e
 ·intro n i s d e;show PN kW a (b.length+1) Z c b (len b) m.nQ r.nW r.nA r.ej r.pj (n+1) (i:Int) s.2.nW s.2.nA s.2.ej s.2.pj s.1.nQ=_;rw[nzq];have h:∀q:jW,bX Z (⟨s.1.nQ⟩:TV) c q (fJ (V b i) 0)=true:=λ_=>e;simp only[rP,T9 d,uH d,Q8 d j,lN,h,l,cd,HI];rfl
 ·intro n s e;show PN kW a (b.length+1) Z c b (len b) m.nQ r.nW r.nA r.ej r.pj (n+1) (b.length:Int) s.2.nW s.2.nA s.2.ej s.2.pj s.1.nQ=_;rw[nzq];simp only[rP,hO,rl]
 ·exact Dz (λz:TV×jW×Bool=>a z.1 z.2.1 z.2.2) (qs Z c) (LQ Z c) (x:=(m,r,false)) (λs=>(s.1,s.2,true)) b (m,r)
def dw(a:TV→rM→Bool→α)(Z:rM)(c f:Int)(k:rM)(m n o p:Int)(q:rM)(r:Y→Int→rM→rM→α)(e:Y)(g:Int)(b d:rM):α:=let j:Y:=Xg e (kh f (len e));let h:Int:=len j;let i:Int:=zj (⟨n,o,p,q⟩:Cf) (J (V k (so g)) 0);let l:TV×Bool:=wD Z (⟨d⟩:TV) c i j;bif decide (g<m) then bif Bk true (idx g k) then bif Bk true (Oo e (kh f (len e))) then bif Bk true (fD e h) then bif Bk true (au Z (⟨d⟩:TV) c i j) then bif !l.2 then a (⟨d⟩:TV) [] false else bif Bk true (Pf 16 b ([[.int i,.int h]])) then r (qg e h) (ZK (g+1)) (b++([[.int i,.int h]])) l.1.nQ else kW else kW else kW else kW else kW else a (⟨d⟩:TV) b true
def EF(a:TV→rM→Bool→α)(N:Nat)(Z:rM)(b c:Int)(d:rM)(e f g h:Int)(i:rM)(j:Nat):Y→Int→rM→rM→α:=WS (λ_ _ _ _=>kW) (dw kW a Z b c d e f g h i) j
theorem nfm(a:TV→rM→Bool→α)(N:Nat)(Z:rM)(b c:Int)(d:rM)(e f g h:Int)(i:rM)(j:Nat):EF kW a N Z b c d e f g h i (j+1)=dw kW a Z b c d e f g h i (EF kW a N Z b c d e f g h i j):=rfl
def OU(kW:α)(a:TV→rM→Bool→α)(c:Int→Int→Int→Int→rM→Y→Int→rM→rM→α)(Z:rM)(m:TV)(b:Int)(p:Cf)(d:rM)(t:Y)(e:Int):α:=c (len d) p.nW p.nA p.d9 p.oq t 0 [] m.nQ
def no4(a:TV→rM→Bool→α)(N:Nat)(Z:rM)(m:TV)(b:Int)(p:Cf)(d:rM)(t:Y)(c:Int):α:=OU kW a (λe f g h i=>EF kW a N Z b c d e f g h i N) Z m b p d t c
def ot(Z:rM)(a:Int)(p:Cf)(c:Int):rM→Y→TV→rM→TV×rM×Bool
 | [],_,m,o=>(m,o,true)
 | b::bs,t,m,o=>
  bif !(wD Z m a (zj p (J b 0)) (t.take c.toNat)).2 then (m,[],false)
  else ot Z a p c bs (t.drop c.toNat) (wD Z m a (zj p (J b 0)) (t.take c.toNat)).1 (o++[[.int (zj p (J b 0)),.int (len (t.take c.toNat))]])
def cu(Z:rM)(m:TV)(a:Int)(p:Cf)(c:rM)(t:Y)(b:Int):Bool:=Of Z && (Of m.nQ && (decide (0≤b) && decide (c.length≤1000)))
def y9(Z:rM)(m:TV)(a:Int)(p:Cf)(c:rM)(t:Y)(b:Int):TV×rM×Bool:=ot Z a p b c t m []
theorem npD(l:rM)(m:TV)(d a:Int)(s:Y):(wD l m d a s).1.nQ.length=m.nQ.length:=qh _ _ _ _ _ _
theorem nvD(c:TV→rM→Bool→α)(Z:rM)(m:TV)(d:Int)(p:Cf)(f:rM)(t:Y)(e:Int)(j:Oj (.sl vL) (.sl f))(k:Oj .str (.str t))(l:Oj .i (.int e))(v:cu Z m d p f t e=true):∃N,no4 kW c N Z m d p f t e=c (y9 Z m d p f t e).1 (y9 Z m d p f t e).2.1 (y9 Z m d p f t e).2.2:=by
 obtain⟨Q,R⟩:=jD j;have r:=jU k;have S:=ka l;have u:=v;simp only[cu,gF,kQ] at u;obtain⟨w,y,T,U⟩:=u;refine⟨f.length+1, ?_⟩;unfold no4 OU y9;have key:∀(q i:Nat) (t:Y) (m:TV) (o:rM) (n:Nat),i+q=f.length→q<n→t.length≤9223372036854775807→Of m.nQ=true→o.length≤i→
   EF kW c (f.length+1) Z d e f (len f) p.nW p.nA p.d9 p.oq n t (i:Int) o m.nQ=(λz:TV×rM×Bool=>c z.1 z.2.1 z.2.2) (ot Z d p e (f.drop i) t m o):=by
  intro q
  induction q with
  | zero=>
   intro i t m o n A B C s D;obtain⟨n,rfl⟩:=O4 n;have h:i=f.length:=by omega
   subst h;rw[nfm,uk];simp only[dw,hO,rl,ot]
  | succ q E=>
   intro i t m o n A B C s D;obtain⟨n,rfl⟩:=O4 n;have h:i<f.length:=by omega
   have F:f[i]=V f i:=by simp[V,h]
   rw[nfm,vn h,F];have G:Xg t (kh e (len t))=t.take e.toNat:=by
    simp only[Xg,t_];unfold kh;by_cases g:len t<e
    ·rw[if_pos g];simp only[len] at g ⊢;rw[vo (by omega),vo (by omega)]
    ·rw[if_neg g]
   have H:Oo t (kh e (len t))=true:=by
    simp only[Oo,gF,kQ];unfold kh;by_cases g:len t<e
    ·rw[if_pos g];simp only[len];omega
    ·rw[if_neg g];simp only[len] at g ⊢;omega
   have I:qg t (len (t.take e.toNat))=t.drop e.toNat:=by
    simp only[qg,uz,len,lN,tr];by_cases g:t.length<e.toNat
    ·rw[uB (by omega),uB (by omega)]
    ·rw[uC (by omega)]
   have L:fD t (len (t.take e.toNat))=true:=by simp only[fD,gF,kQ,len,tr];omega
   have M:∀a b,au Z (⟨m.nQ⟩:TV) d a b=true:=λa b=>by simp only[au,w,s,uF]
   have O:∀x:List DC,Pf 16 o [x]=true:=λx=>Q0 (by simp only[di,sS];omega) (by omega);have this:=E (i+1) (t.drop e.toNat) (wD Z m d (zj p (J (V f i) 0)) (t.take e.toNat)).1 (o++[[.int (zj p (J (V f i) 0)),.int (len (t.take e.toNat))]]) n (by omega) (by omega) (by rw[tt];omega) (Tl (by rw[npD];exact RG s)) (by simp only[Qe,di,sS];omega);have P:ZK ((i:Int)+1)=((i+1:Nat):Int):=by rw[Ou];omega
   simp only[dw,T9 h,uH h,lN,G,H,I,L,M,O,P,cd,HI,ot];refine oN (K:=λz:TV×rM×Bool=>c z.1 z.2.1 z.2.2) (λ_=>rfl) (λ_=>?_);exact this
 exact key f.length 0 t m [] (f.length+1) (by omega) (by omega) r y (tK _)
theorem ux{b:Bool}(h:(!b)=false):b=true:=by cases b<;>simp_all
theorem zL{b:Bool}(h:b=true):Bk true b=true:=by rw[h];rfl
theorem uI(f:List DC→List DC)(fin:rM→α):∀(l:rM) (i:Nat) (o:rM),vQ (σ:=rM) (λ_ r c o=>c (o++[f r])) fin l i o=fin (o++l.map f)
 | [],_,o=>by simp[vQ]
 | r::rs,i,o=>by simp only[vQ];have:=uI f fin rs (i+1) (o++[f r]);rw[this,uj];rfl
theorem aJ{p:oY} :(dQ p).2=rZ p:=by
 unfold dQ;cases b:rZ p
 ·rfl
 have c:tf (UI p)=true:=by
  have g:=nap (nv1 (⟨p.S9,p.Id,p.Ta,p.pk.eh,p.py,p.pN,(k8 p.py p.pN p.pk).1⟩:Tc)) (show 46≤400 by omega);have a:nn p.rA 0 281474976710655=true∧nn p.rN 0 281474976710655=true∧nn p.rX (-1) 4095=true:=by unfold rZ HG at b;revert b;cases nn p.rA 0 281474976710655<;>cases nn p.rN 0 281474976710655<;>cases nn p.rX (-1) 4095<;>simp
  have d:nn (len (UI p).ed) 46 400=true:=Wx.2 ⟨by simp only[len,UI];omega,by simp only[len,UI];omega⟩;have e:nn (UI p).PC 1536 65535=true:=by rfl
  have f:((UI p).PC != 33024)=true:=by rfl
  unfold tf fy;simp only[show nn (UI p).W0 0 281474976710655=true from a.1,show nn (UI p).e7 0 281474976710655=true from a.2.1,show nn (UI p).rX (-1) 4095=true from a.2.2,d,e,f,HI,id]
 simp only[tk,rl];unfold Og;rw[c];rfl
theorem nib(p:oY):(B0 p).2=rZ p:=by rw[←aJ];unfold B0;cases (dQ p).2<;>rfl
theorem nag{p:oY}(h:rZ p=true):60≤(B0 p).1.length:=by
 have a:(dQ p).2=true:=by rw[aJ];exact h
 have b:=nqg a;have c:=SQ (dQ p).1;have d:=Cg p;unfold B0;rw[a];simp only[tk,rl];rw[TA (by rw[TA (by omega)];omega),TA (by omega)];simp only[len] at b;omega
def sW(a:TV→Sx→Bool→α)(Z:rM)(c:Int)(s x:rM)(w d e f g i y j k l m n o p z A B:Int)(t C D q E u v:rM)(F:Int→rM→α)(h:Int)(b:rM):α:=let r:TV×jW×Bool:=Bs Z (⟨v⟩:TV) c (⟨d,e,f,g⟩:jW) b;bif decide (h<w) then bif Bk true (idx h x) then bif Bk true (Pf 16 b ([[.str (St (UJ.nd (V x (so h)) 0))]])) then F (ZK (h+1)) (b++([[.str (St (UJ.nd (V x (so h)) 0))]])) else kW else kW else bif Bk true (bX Z (⟨v⟩:TV) c (⟨d,e,f,g⟩:jW) b) then bif !r.2.2 then a (⟨C⟩:TV) (⟨(⟨y,j,k,l⟩:jW),(⟨m,n,o,D⟩:Cf),q,p⟩:Sx) false else bif Bk true (Pf 40 u ([[.int i,.int (len s),.sl t]])) then a r.1 (⟨r.2.1,(⟨z,A,B,E⟩:Cf),u++([[.int i,.int (len s),.sl t]]),tj (ZK (i+1)) 65536⟩:Sx) true else kW else kW
def yV(a:TV→Sx→Bool→α)(N:Nat)(Z:rM)(b:Int)(o x:rM)(p c d e f q r g h i j k l m s t u:Int)(v w y n z A B:rM)(C:Nat):Int→rM→α:=WS (λ_ _=>kW) (sW kW a Z b o x p c d e f q r g h i j k l m s t u v w y n z A B) C
theorem noR(a:TV→Sx→Bool→α)(N:Nat)(Z:rM)(b:Int)(o x:rM)(p c d e f q r g h i j k l m s t u:Int)(v w y n z A B:rM)(C:Nat):yV kW a N Z b o x p c d e f q r g h i j k l m s t u v w y n z A B (C+1)=sW kW a Z b o x p c d e f q r g h i j k l m s t u v w y n z A B (yV kW a N Z b o x p c d e f q r g h i j k l m s t u v w y n z A B C):=rfl
def Ur(a:TV→Sx→Bool→α)(l:rM→rM→Int→Int→Int→Int→Int→Int→Int→Int→Int→Int→Int→Int→Int→Int→Int→Int→Int→rM→rM→rM→rM→rM→rM→rM→Int→rM→α)(Z:rM)(m:TV)(b:Int)(q:Sx)(p:oY)(size c:Int):α:=let j:Bool:= !(nn c 1 q.nM.nA);let d:Int:=ZK (t0 (ZK ((ZK ((len ((B0 p).1))+c)) - 1)) c);let g:Cf×rM×Bool:=xy q.nM d;let h:rM:=g.2.1;let i:TV×rM×Bool:=y9 Z (cp m) b q.nM h ((B0 p).1) c;let k:Bool:= !i.2.2;let e:rM:=aj i.2.1 size q.en;let f:Cf:=g.1;bif Bk (Bk true (zH m)) (nG q) then bif lV (!(Yo q)) (Bk true (TC q)) (lV (!(rZ p)) (Bk true (TC q)) (lV j (Bk true (TC q)) (Bk true (TC q)))) then bif bif !(Yo q) then true else bif !(rZ p) then true else bif j then true else !(nn size 1 128) then a (cp m) (cp q) false else bif Bk true (!(c==0)) then bif bif decide (16<d) then true else bif decide (P7 q.d5<ZK (d+1)) then true else decide (q.d5.nA<ZK ((ZK ((ZI q)+d))+1)) then a (cp m) (cp q) false else bif Bk true (nG q) then bif Bk true (Yk q.nM d) then bif !g.2.2 then a (cp m) (cp q) false else bif Bk (Bk true (zH m)) (cu Z (cp m) b q.nM h ((B0 p).1) c) then bif lV k true (Bk true (decide (0<t3 e))) then bif bif k then true else false then a (cp m) (cp q) false else l e e (len e) q.d5.nW q.d5.nA q.d5.ej q.d5.pj q.en (((cp q).d5).nW) (((cp q).d5).nA) (((cp q).d5).ej) (((cp q).d5).pj) (((cp q).nM).nW) (((cp q).nM).nA) (((cp q).nM).d9) ((cp q).en) f.nW f.nA f.d9 h ((cp m).nQ) (((cp q).nM).oq) ((cp q).nx) f.oq ((cp q).nx) i.1.nQ 0 [] else kW else kW else kW else kW else kW else kW else kW
def nfg(a:TV→Sx→Bool→α)(N:Nat)(Z:rM)(m:TV)(b:Int)(q:Sx)(p:oY)(size c:Int):α:=Ur kW a (λs x t d e f g u v h i j k l n o w y z A B C r D E F=>yV kW a N Z b s x t d e f g u v h i j k l n o w y z A B C r D E F N) Z m b q p size c
def WB(r:List DC):Prop:=0≤J r 0∧J r 0≤140000∧0≤J r 1∧J r 1≤512
theorem nyv(p:Cf)(k:Int): -1≤zj p k∧zj p k≤140000:=by
 unfold zj WL;cases f:mK p
 ·simp
 cases g:nn k 0 (ZK (p.d9 - 1))
 ·simp
 have e:nn p.nW 0 130944=true∧nn p.nA 1 512=true∧nn p.d9 0 16=true:=by unfold mK at f;revert f;cases nn p.nW 0 130944<;>cases nn p.nA 1 512<;>cases nn p.d9 0 16<;>simp
 have a:=Wx.1 e.1;have b:=Wx.1 e.2.1;have c:=Wx.1 e.2.2;have d:=Wx.1 g;rw[Ou (n:=p.d9 - 1)] at d;have h:k*p.nA≤15*512:=Int.mul_le_mul (by omega) (by omega) (by omega) (by omega);have i:0≤k*p.nA:=Int.mul_nonneg (by omega) (by omega);simp only[tk,rl,id];rw[Ou (n:=k*p.nA),Ou];omega
theorem nAX{l:rM}{m:TV}{d a:Int}{s:Y}(e:0<s.length)(h:(wD l m d a s).2=true):0≤a:=by
 unfold wD put Zi at h;have b:((len s)==0)=false:=beq_eq_false_iff_ne.2 (by simp only[len];omega);by_cases c:a<0
 ·rw[b,Tl c] at h;revert h;cases (bif !(cz l) then true else bif !(pw m) then true else !(nn (len s) 0 4096))<;>simp
 ·omega
theorem nl8(l:rM)(d:Int)(p:Cf)(a:Int):∀(c:rM) (t:Y) (m:TV) (o:rM),(ot l d p a c t m o).1.nQ.length=m.nQ.length
 | [],_,_,_=>rfl
 | b::c,t,m,o=>by
  unfold ot;cases (wD l m d (zj p (J b 0)) (t.take a.toNat)).2
  ·rfl
  ·simp only[tk,rl];rw[nl8 l d p a c,npD]
theorem ndi(l:rM)(d:Int)(p:Cf)(a:Int)(j:1≤a)(k:a≤512):∀(c:rM) (t:Y) (m:TV) (o:rM),c.length*a.toNat≤t.length+a.toNat - 1→(∀r∈o,WB r)→
  (ot l d p a c t m o).2.2=true→(ot l d p a c t m o).2.1.length=o.length+c.length∧∀r∈(ot l d p a c t m o).2.1,WB r
 | [],t,m,o,_,ho,_=>⟨rfl,ho⟩
 | b::c,t,m,o,ht,ho,h=>by
  unfold ot at h ⊢;cases f:(wD l m d (zj p (J b 0)) (t.take a.toNat)).2
  ·rw[f] at h;cases h
  ·rw[f] at h;simp only[tk,rl] at h ⊢;rw[di,Nat.succ_mul] at ht;have n:0<(t.take a.toNat).length:=by rw[tr];omega
   have q:=nAX n f;have g:=nyv p (J b 0);have i:WB [DC.int (zj p (J b 0)),DC.int (len (t.take a.toNat))]:=by
    refine⟨q,g.2, ?_, ?_⟩
    ·show 0≤len (t.take a.toNat);simp[len]
    ·show len (t.take a.toNat)≤512;simp only[len,tr];omega
   have:=ndi l d p a j k c (t.drop a.toNat) _ (o++[[.int (zj p (J b 0)),.int (len (t.take a.toNat))]]) (by rw[tt];omega) (λr e=>by
    rcases uW.1 e with e | e
    ·exact ho r e
    ·rw[u1] at e;rw[e];exact i) h
   refine⟨?_,this.2⟩;rw[this.1,Qe,di,di,sS];omega
theorem nkd{p:List DC→Bool} :∀(l:rM) (i:Nat),(∀r∈l,p r=false)→Pt (λ_ r=>p r) l i=false
 | [],_,_=>rfl
 | r::rs,i,h=>by simp only[Pt];rw[h r (by simp),rl];exact nkd rs (i+1) (λx a=>h x (by simp[a]))
theorem nml{n:Nat}{c:Int}{x:List DC} :∀ {l:rM} {i:Nat},x∈cC n c l i→∃j r,r∈l∧x=FU n c j r
 | [],_,h=>by cases h
 | r::rs,i,h=>by
  simp only[cC,List.mem_cons] at h;rcases h with h | h
  ·exact⟨i,r,by simp,h⟩
  ·obtain⟨j,q,a,b⟩:=nml h;exact⟨j,q,by simp[a],b⟩
theorem nbV{b d e a f c:Int}(g:nn b 0 3=true)(h:nn d 0 3=true)(i:nn e 0 65535=true)(j:nn f 0 65535=true)(k:nn c 0 65535=true)(l:nn a 0 4294967295=true):
  eS [.int b,.int d,.int e,.int a,.int f,.int c]=false:=by
 show (!(Ze (⟨b,d,e,a,f,c⟩:UJ)))=false;unfold Ze tG;simp only[g,h,i,j,k,l,HI,id,tk]
theorem nd4{P:rM}{size gH:Int}(t:0<P.length)(k:P.length≤16)(g:∀r∈P,WB r)(l:1≤size)(m:size≤128)(h:0≤gH)(i:gH≤65535):
  aj P size gH=Ec size gH::cC P.length gH P 0:=by
 unfold aj;have n:((len P)==0)=false:=beq_eq_false_iff_ne.2 (by simp only[len];omega);have o:b0 P=true:=by
  unfold b0;rw[nkd (p:=λr=>bif decide (J r 0<0) then true else !(nn (J r 1) 0 4096)) P 0 (λr f=>by obtain⟨a,_,b,c⟩:=g r f;rw[yF (by omega),show nn (J r 1) 0 4096=true from Wx.2 ⟨b,by omega⟩];rfl)]
  exact Tl (by simp only[len];omega)
 have q:nn size 1 128=true:=Wx.2 ⟨l,m⟩;have s:(Ec size gH::cC P.length gH P 0).any eS=false:=by
  rw[List.any_eq_false];intro x e;rw[Bool.not_eq_true];rcases List.mem_cons.1 e with e | e
  ·rw[e];exact nbV (by rfl) (by rfl) (by rfl) (Wx.2 ⟨by omega,by omega⟩) (Wx.2 ⟨h,i⟩) (by rfl)
  ·obtain⟨j,r,f,e⟩:=nml e;obtain⟨a,b,c,d⟩:=g r f;rw[e];exact nbV (by rfl) (by cases ((j:Nat):Int)==ZK ((P.length:Int) - 1)<;>rfl) (Wx.2 ⟨c,by omega⟩) (by rfl) (Wx.2 ⟨h,i⟩) (Wx.2 ⟨a,by omega⟩)
 simp only[n,o,q,s,tk,rl]
def OD(t:Y)(a:Int):Int:=ZK (t0 (ZK ((ZK ((len t)+a)) - 1)) a)
theorem noW{t:Y}{c:Nat}(a:1≤c)(b:c≤512)(d:t.length≤420):OD t (c:Int)=(((t.length+c - 1) / c:Nat):Int):=by unfold OD len;rw[Ou (n:=(t.length:Int)+(c:Int)),Ou (n:=(t.length:Int)+(c:Int) - 1),show (t.length:Int)+(c:Int) - 1=((t.length+c - 1:Nat):Int) by omega,←Int.ofNat_tdiv];have:=Nat.div_le_self (t.length+c - 1) c;generalize (t.length+c - 1) / c=y at this ⊢;exact Ou
def Z8(r:List DC):List DC:=[.str (St (UJ.nd r 0))]
def Nt(Z:rM)(m:TV)(a:Int)(q:Sx)(c:TV)(b:rM)(e:Cf)(d:rM):TV×Sx×Bool:=bif !(Bs Z c a q.d5 (b.map Z8)).2.2 then (m,q,false) else ((Bs Z c a q.d5 (b.map Z8)).1,⟨(Bs Z c a q.d5 (b.map Z8)).2.1,e,q.nx++[[.int q.en,.int (len b),.sl d]],tj (ZK (q.en+1)) 65536⟩,true)
def hJ(q:Sx)(p:oY)(size a:Int):Bool:=bif !(Yo q) then true else bif !(rZ p) then true else bif !(nn a 1 q.nM.nA) then true else !(nn size 1 128)
def l8(q:Sx)(n:Int):Bool:=bif decide (16<n) then true else bif decide (P7 q.d5<ZK (n+1)) then true else decide (q.d5.nA<ZK (ZK (ZI q+n)+1))
def RR(Z:rM)(m:TV)(a:Int)(q:Sx)(p:oY)(size b:Int):Bool:=zH m && (nG q && (TC q && Of Z))
def vC(Z:rM)(m:TV)(a:Int)(q:Sx)(p:oY)(size b:Int):TV×Sx×Bool:=bif hJ q p size b then (m,q,false) else bif l8 q (OD (B0 p).1 b) then (m,q,false) else bif !(xy q.nM (OD (B0 p).1 b)).2.2 then (m,q,false) else bif !(y9 Z m a q.nM (xy q.nM (OD (B0 p).1 b)).2.1 (B0 p).1 b).2.2 then (m,q,false) else Nt Z m a q (y9 Z m a q.nM (xy q.nM (OD (B0 p).1 b)).2.1 (B0 p).1 b).1 (aj (y9 Z m a q.nM (xy q.nM (OD (B0 p).1 b)).2.1 (B0 p).1 b).2.1 size q.en) (xy q.nM (OD (B0 p).1 b)).1 (xy q.nM (OD (B0 p).1 b)).2.1
theorem ntY{Z:rM}{m:TV}{gp:Int}{q:Sx}{p:oY}{size d:Int}(f:hJ q p size d=false)(l:l8 q (OD (B0 p).1 d)=false)(i:(xy q.nM (OD (B0 p).1 d)).2.2=true):
  ∃c n:Nat,d=(c:Int)∧1≤c∧c≤512∧OD (B0 p).1 d=(n:Int)∧1≤n∧n≤16∧n*c≤(B0 p).1.length+c - 1∧(xy q.nM (OD (B0 p).1 d)).2.1.length=n∧
   ((y9 Z m gp q.nM (xy q.nM (OD (B0 p).1 d)).2.1 (B0 p).1 d).2.2=true→
    0<(aj (y9 Z m gp q.nM (xy q.nM (OD (B0 p).1 d)).2.1 (B0 p).1 d).2.1 size q.en).length∧
    (aj (y9 Z m gp q.nM (xy q.nM (OD (B0 p).1 d)).2.1 (B0 p).1 d).2.1 size q.en).length=n+1):=by
 unfold hJ at f;cases g:Yo q
 ·rw[g] at f;cases f
 cases j:rZ p
 ·rw[g,j] at f;cases f
 cases o:nn d 1 q.nM.nA
 ·rw[g,j,o] at f;cases f
 cases y:nn size 1 128
 ·rw[g,j,o,y] at f;cases f
 have H:=Wx.1 o;have I:=Wx.1 y;have k:mK q.nM=true∧nn q.en 0 65535=true:=by unfold Yo at g;revert g;cases Wi q.d5<;>cases mK q.nM<;>cases nn q.en 0 65535<;>simp
 have s:nn q.nM.nA 1 512=true:=by have:=k.1;unfold mK at this;revert this;cases nn q.nM.nW 0 130944<;>cases nn q.nM.nA 1 512<;>simp
 have K:=Wx.1 s;have L:=Wx.1 k.2;have D:=nzf p;have M:=nag j;obtain⟨c,rfl⟩:∃c:Nat,d=(c:Int):=⟨d.toNat,by omega⟩;have u:=noW (t:=(B0 p).1) (c:=c) (by omega) (by omega) D;have v:=Nat.div_mul_le_self ((B0 p).1.length+c - 1) c;have z:1≤((B0 p).1.length+c - 1) / c:=(Nat.le_div_iff_mul_le (by omega)).2 (by omega);generalize ((B0 p).1.length+c - 1) / c=n at u v z;have w:n≤16:=by
  unfold l8 at l;by_cases h:16<OD (B0 p).1 (c:Int)
  ·rw[Tl h] at l;cases l
  ·omega
 refine⟨c,n,rfl,by omega,by omega,u,z,w,v, ?_⟩;rw[u] at i ⊢;have A:(n:Int)≤len q.nM.oq:=by
  unfold xy at i;rw[k.1] at i;cases B:nn (n:Int) 0 (len q.nM.oq)
  ·rw[B] at i;cases i
  ·exact ((Wx (n:=(n:Int)) (a:=0) (b:=len q.nM.oq)).1 B).2
 have e:(xy q.nM (n:Int)).2.1.length=n:=by unfold xy;rw[k.1,show nn (n:Int) 0 (len q.nM.oq)=true from (Wx (n:=(n:Int)) (a:=0) (b:=len q.nM.oq)).2 ⟨by omega,A⟩];simp only[len] at A;simp only[tk,rl,Xg,t_,tr,lN];omega
 refine⟨e,λE=>?_⟩;have C:=ndi Z gp q.nM (c:Int) (by omega) (by omega) (xy q.nM (n:Int)).2.1 (B0 p).1 m [] (by rw[e,lN];exact v) (λr F=>by cases F) E;have x:(y9 Z m gp q.nM (xy q.nM (n:Int)).2.1 (B0 p).1 (c:Int)).2.1.length=n:=by have:=C.1;rw[e,sS,Nat.zero_add] at this;exact this
 have G:=nd4 (P:=(y9 Z m gp q.nM (xy q.nM (n:Int)).2.1 (B0 p).1 (c:Int)).2.1) (size:=size) (gH:=q.en) (by omega) (by omega) C.2 (by omega) (by omega) (by omega) (by omega);rw[G,di,c6,x];omega
theorem nh8(a:TV→Sx→Bool→α)(Z:rM)(m:TV)(gp:Int)(q:Sx)(p:oY)(size e:Int)(C:RR Z m gp q p size e=true):∃N,nfg kW a N Z m gp q p size e=a (vC Z m gp q p size e).1 (vC Z m gp q p size e).2.1 (vC Z m gp q p size e).2.2:=by
 have B:=C;simp only[RR,gF] at B;obtain⟨k,u,E,F⟩:=B;have s1':=u;simp only[nG,wB,gF] at s1';have R:=RG s1'.2.1;have S:=RG (show Of m.nQ=true from k);refine⟨40, ?_⟩;unfold nfg Ur vC;dsimp only;refine Bw (by rw[k,u];rfl) ?_;refine Bw (by simp only[E,cd,CC]) ?_;refine oN (K:=λz:TV×Sx×Bool=>a z.1 z.2.1 z.2.2) (λ_=>rfl) (λl=>?_);have T:1≤e:=by
  revert l;cases G:nn e 1 q.nM.nA
  ·cases Yo q<;>cases rZ p<;>simp
  ·intro _;exact (Wx.1 G).1
 have H:(!(e==0))=true:=by rw[beq_eq_false_iff_ne.2 (by omega)];rfl
 refine Bw (zL H) ?_;refine oN (K:=λz:TV×Sx×Bool=>a z.1 z.2.1 z.2.2) (λ_=>rfl) (λv=>?_);refine Bw (by rw[u];rfl) ?_;refine Bw (by rw[show Yk q.nM (ZK (t0 (ZK ((ZK ((len ((B0 p).1))+e)) - 1)) e))=true from s1'.1];rfl) ?_;refine oN (K:=λz:TV×Sx×Bool=>a z.1 z.2.1 z.2.2) (λ_=>rfl) (λw=>?_);have l:hJ q p size e=false:=l;have v:l8 q (OD (B0 p).1 e)=false:=v;have w:(xy q.nM (OD (B0 p).1 e)).2.2=true:=ux w;obtain⟨c,n,U,W,X,f4,f5,f6,f7,f8,t⟩:=ntY (Z:=Z) (m:=m) (gp:=gp) l v w;have I:cu Z (cp m) gp q.nM (xy q.nM (OD (B0 p).1 e)).2.1 (B0 p).1 e=true:=by simp only[cu,cp,F,show Of m.nQ=true from k,gF,kQ,true_and];omega
 refine Bw (by rw[k];rw[show (xy q.nM (ZK (t0 (ZK ((ZK ((len ((B0 p).1))+e)) - 1)) e))).2.1=(xy q.nM (OD (B0 p).1 e)).2.1 from rfl,I];rfl) ?_;have L:=nl8 Z gp q.nM e (xy q.nM (OD (B0 p).1 e)).2.1 (B0 p).1 m [];refine Bw (eE (λ_=>rfl) (λh=>?_)) ?_
 ·exact zL (Tl (t (ux h)).1)
 rw[show ∀b:Bool,(bif b then true else false)=b from λb=>by cases b<;>rfl];refine oN (K:=λz:TV×Sx×Bool=>a z.1 z.2.1 z.2.2) (λ_=>rfl) (λM=>?_);have t:=t (ux M);have key:∀(D:rM) (j:TV) (f:Cf) (g:rM),D.length≤17→j.nQ.length=m.nQ.length→yV kW a 40 Z gp D D (len D) q.d5.nW q.d5.nA q.d5.ej q.d5.pj q.en q.d5.nW q.d5.nA q.d5.ej q.d5.pj q.nM.nW q.nM.nA q.nM.d9 q.en f.nW f.nA f.d9 g m.nQ q.nM.oq q.nx f.oq q.nx j.nQ 40 0 []=(λz:TV×Sx×Bool=>a z.1 z.2.1 z.2.2) (Nt Z m gp q j D f g):=by
  intro D j f g hD D4;have O:=vj D (λn i o=>yV kW a 40 Z gp D D (len D) q.d5.nW q.d5.nA q.d5.ej q.d5.pj q.en q.d5.nW q.d5.nA q.d5.ej q.d5.pj q.nM.nW q.nM.nA q.nM.d9 q.en f.nW f.nA f.d9 g m.nQ q.nM.oq q.nx f.oq q.nx j.nQ n i o) (λ_ r c o=>c (o++[Z8 r])) (λo=>bif !(Bs Z j gp q.d5 o).2.2 then a m q false
    else a (Bs Z j gp q.d5 o).1 (⟨(Bs Z j gp q.d5 o).2.1,f,q.nx++[[.int q.en,.int (len D),.sl g]],tj (ZK (q.en+1)) 65536⟩:Sx) true) 0 (λi r c d s h=>h _ (by simp)) ?_ ?_ D.length 0 [] 40 (by omega) (by omega) rfl
  ·refine O.trans ?_;rw[t_,uI,List.nil_append];exact cU (K:=λz:TV×Sx×Bool=>a z.1 z.2.1 z.2.2) rfl rfl
  ·intro n i o y P;rw[noR];have A:∀x:List DC,Pf 16 o [x]=true:=λx=>Q0 (by simp only[di,sS];omega) (by omega);simp only[sW,T9 y,uH y,Q8 y (show D.length≤9223372036854775807 by omega),lN,A,cd,HI];rfl
  ·intro n o P;rw[noR];have Q:bX Z (⟨j.nQ⟩:TV) gp (⟨q.d5.nW,q.d5.nA,q.d5.ej,q.d5.pj⟩:jW) o=true:=Tl (by show j.nQ.length≤16777216;omega);have A:∀x:List DC,Pf 40 q.nx [x]=true:=λx=>Q0 (by simp only[di,sS];omega) (by omega);simp only[sW,hO,Q,A,cd,HI,rl]
 exact key _ (y9 Z m gp q.nM (xy q.nM (OD (B0 p).1 e)).2.1 (B0 p).1 e).1 (xy q.nM (OD (B0 p).1 e)).1 (xy q.nM (OD (B0 p).1 e)).2.1 (tl (Nat.le_of_eq t.2) (by omega)) L
def nCZ(a:QP→Bool→α)(h:QP)(p:oY)(size b:Int):α:=let c:TV×Sx×Bool:=vC h.ei h.oa 0 h.Tx p size b;bif Bk true (eW h) then bif Bk true (jV h) then bif !(sN h) then a (cp h) false else bif Bk true (RR h.ei h.oa 0 h.Tx p size b) then a (⟨c.1,(cp h).ei,c.2.1,(cp h).Rx,(cp h).oh,(cp h).nL,(cp h).n8,(cp h).ec,(cp h).ni,(cp h).oI,(cp h).oU,(cp h).tB,(cp h).ox,(cp h).oV,(cp h).d4⟩:QP) c.2.2 else kW else kW else kW
def D1(h:QP)(p:oY)(size a:Int):Bool:=eW h && jV h
def AR(h:QP)(p:oY)(size a:Int):QP×Bool:=bif !(sN h) then (h,false) else ({h with oa:=(vC h.ei h.oa 0 h.Tx p size a).1,Tx:=(vC h.ei h.oa 0 h.Tx p size a).2.1},(vC h.ei h.oa 0 h.Tx p size a).2.2)
theorem nmo(a:QP→Bool→α)(h:QP)(p:oY)(size c:Int)(e:D1 h p size c=true):nCZ kW a h p size c=a (AR h p size c).1 (AR h p size c).2:=by
 have d:(eW h && jV h)=true:=e;simp only[gF] at d;obtain⟨s,b⟩:=d;have s':=s;simp only[eW,gF] at s';obtain⟨f,g,i,j,_⟩:=s';have k:RR h.ei h.oa 0 h.Tx p size c=true:=by simp only[RR,nG,gF];exact⟨f,⟨i,j⟩,b,g⟩
 unfold nCZ AR;dsimp only;refine Bw (zL s) ?_;refine Bw (zL b) ?_;refine oN (K:=λz:QP×Bool=>a z.1 z.2) (λ_=>rfl) (λ_=>?_);refine Bw (zL k) rfl
def nbU(a:UJ→Bool→α)(s:Y):α:=let b:UJ:=(⟨0,0,0,0,0,0⟩:UJ);let c:UJ:=(⟨ZK (nf s 0),ZK (nf s 1),tC s 2,N5 s 4,tC s 8,tC s 10⟩:UJ);bif (len s) != 16 then a b false else bif Bk (Bk true (idx 0 s)) (idx 1 s) then bif !((St c)==s) then a b false else a c true else kW
def descOf(s:Y):UJ:=⟨ZK (nf s 0),ZK (nf s 1),tC s 2,N5 s 4,tC s 8,tC s 10⟩
def lS(s:Y):UJ×Bool:=bif (len s) != 16 then (⟨0,0,0,0,0,0⟩,false) else bif !((St (descOf s))==s) then (⟨0,0,0,0,0,0⟩,false) else (descOf s,true)
theorem nh9(a:UJ→Bool→α)(s:Y):nbU kW a s=a (lS s).1 (lS s).2:=by
 unfold nbU lS;dsimp only;refine oN (K:=λr:UJ×Bool=>a r.1 r.2) (λ_=>rfl) (λd=>?_);have b:len s=16:=by simpa using d
 have c:∀j:Int,0≤j→j<16→idx j s=true:=by intro j e f;simp only[len] at b;simp only[idx,gF,kQ];omega
 refine Bw (by rw[c 0 (by omega) (by omega),c 1 (by omega) (by omega)];rfl) ?_;exact cU (K:=λr:UJ×Bool=>a r.1 r.2) rfl rfl
def ny7(a:Y→jW→Bool→α)(Z:rM)(m:TV)(b:Int)(r:jW):α:=let c:Y×Bool:=vV Z m b (bn r r.ej) 16;bif bif !(Wi r) then true else (UU r)==0 then a [] r false else bif !c.2 then a [] r false else bif Bk true (!((ZK (2*r.nA))==0)) then a c.1 (⟨r.nW,r.nA,tj (ZK (r.ej+1)) (ZK (2*r.nA)),r.pj⟩:jW) true else kW
def TZ(Z:rM)(m:TV)(a:Int)(r:jW):Y×jW×Bool:=bif bif !(Wi r) then true else (UU r)==0 then ([],r,false) else bif !(vV Z m a (bn r r.ej) 16).2 then ([],r,false) else ((vV Z m a (bn r r.ej) 16).1,⟨r.nW,r.nA,tj (ZK (r.ej+1)) (ZK (2*r.nA)),r.pj⟩,true)
theorem yQ{l:rM}{m:TV}{d:Int}{r:jW}(h:Wi r=true)(c:0<UU r)(a:(TZ l m d r).2.2=true):
  (TZ l m d r).2.1=⟨r.nW,r.nA,(TZ l m d r).2.1.ej,r.pj⟩∧Wi (TZ l m d r).2.1=true∧UU (TZ l m d r).2.1=UU r - 1:=by
 obtain⟨q,f,g,s,t,u,v,w,x⟩:=cB h;unfold TZ at a ⊢;rw[h,show ((UU r)==0)=false from beq_eq_false_iff_ne.2 (by omega)] at a ⊢;simp only[tk,rl] at a ⊢;cases i:(vV l m d (bn r r.ej) 16).2
 ·rw[i] at a;cases a
 simp only[tk,rl];have e:tj (ZK (r.ej+1)) (ZK (2*r.nA))=(r.ej+1) % (2*r.nA):=by rw[Ou (n:=r.ej+1),Ou (n:=2*r.nA)];exact u2 (by omega)
 have b:(r.pj - (r.ej+1) % (2*r.nA)) % (2*r.nA)=UU r - 1:=by rw[f] at c g ⊢;rw[vk,Int.emod_emod_of_dvd _ (Int.dvd_refl _),←vk];generalize y:2*r.nA=S at*;have z:=ud (r.pj - r.ej) (show S≠0 by omega);have A:=uq (r.pj - r.ej) (show 0<S by omega);rw[show r.pj - (r.ej+1)=(r.pj - r.ej) - 1 by omega,vk];have j:(1:Int) % S=1:=Int.emod_eq_of_lt (by omega) (by omega);rw[j];exact Int.emod_eq_of_lt (by omega) (by omega)
 have o:=ud (r.ej+1) (show 2*r.nA≠0 by omega);have p:=uq (r.ej+1) (show 0<2*r.nA by omega);have k:=ne1 h o p (by rw[b];omega);rw[e];exact⟨trivial,k.1,k.2.trans b⟩
theorem nDH(a:Y→jW→Bool→α)(Z:rM)(m:TV)(b:Int)(r:jW):ny7 kW a Z m b r=a (TZ Z m b r).1 (TZ Z m b r).2.1 (TZ Z m b r).2.2:=by
 unfold ny7 TZ;dsimp only;refine oN (K:=λr:Y×jW×Bool=>a r.1 r.2.1 r.2.2) (λ_=>rfl) (λc=>?_);refine oN (K:=λr:Y×jW×Bool=>a r.1 r.2.1 r.2.2) (λ_=>rfl) (λ_=>?_);have d:Wi r=true:=by revert c;cases Wi r<;>simp
 have f:=FZ d;have e:(!((ZK (2*r.nA))==0))=true:=by rw[Ou];simp;omega
 refine Bw (zL e) rfl
def zd(a:rM→jW→Bool→α)(Z:rM)(c:Int)(o:rM)(b k l m:Int)(p:Int→Int→Int→Int→rM→α)(g h i j:Int)(f:rM):α:=let d:Y×jW×Bool:=TZ Z (⟨o⟩:TV) c (⟨g,h,i,j⟩:jW);let n:UJ×Bool:=lS d.1;let e:UJ:=n.1;bif decide (0<UU (⟨g,h,i,j⟩:jW)) then bif !d.2.2 then a [] (⟨b,k,l,m⟩:jW) false else bif !n.2 then a [] (⟨b,k,l,m⟩:jW) false else bif Bk true (Pf 48 f [UJ.enc e]) then bif bif e.Op==1 then (bits .and .i64 e.ez 1) != 0 else false then a (f++[UJ.enc e]) d.2.1 true else p d.2.1.nW d.2.1.nA d.2.1.ej d.2.1.pj (f++[UJ.enc e]) else kW else a f (⟨g,h,i,j⟩:jW) true
def Tk(a:rM→jW→Bool→α)(N:Nat)(Z:rM)(b:Int)(d:rM)(c e f g:Int)(h:Nat):Int→Int→Int→Int→rM→α:=WS (λ_ _ _ _ _=>kW) (zd kW a Z b d c e f g) h
theorem neA(a:rM→jW→Bool→α)(N:Nat)(Z:rM)(b:Int)(d:rM)(c e f g:Int)(h:Nat):Tk kW a N Z b d c e f g (h+1)=zd kW a Z b d c e f g (Tk kW a N Z b d c e f g h):=rfl
def hX(kW:α)(a:rM→jW→Bool→α)(c:rM→Int→Int→Int→Int→Int→Int→Int→Int→rM→α)(Z:rM)(m:TV)(b:Int)(r:jW):α:=bif bif !(Wi r) then true else (UU r)==0 then a [] r false else c m.nQ r.nW r.nA r.pj r.pj r.nW r.nA r.ej r.pj []
def nze(a:rM→jW→Bool→α)(N:Nat)(Z:rM)(m:TV)(b:Int)(r:jW):α:=hX kW a (λd c e f g=>Tk kW a N Z b d c e f g N) Z m b r
def Bl(Z:rM)(m:TV)(a:Int):Nat→jW→rM→rM×jW×Bool
 | 0,r,o=>(o,r,true)
 | n+1,r,o=>bif decide (0<UU r) then
   bif bif !(TZ Z m a r).2.2 then true else !(lS (TZ Z m a r).1).2 then ([],⟨r.nW,r.nA,r.pj,r.pj⟩,false)
   else bif bif (lS (TZ Z m a r).1).1.Op==1 then (bits .and .i64 (lS (TZ Z m a r).1).1.ez 1) != 0 else false then (o++[UJ.enc (lS (TZ Z m a r).1).1],(TZ Z m a r).2.1,true)
   else Bl Z m a n (TZ Z m a r).2.1 (o++[UJ.enc (lS (TZ Z m a r).1).1])
  else (o,r,true)
def V7(Z:rM)(m:TV)(a:Int)(r:jW):rM×jW×Bool:=bif bif !(Wi r) then true else (UU r)==0 then ([],r,false) else Bl Z m a 16 r []
theorem uK{r:jW}(h:Wi r=true):Wi ⟨r.nW,r.nA,r.pj,r.pj⟩=true∧UU ⟨r.nW,r.nA,r.pj,r.pj⟩=0:=by
 obtain⟨c,d,f,g,i,a,b,j,l⟩:=cB h;have e:(r.pj - r.pj) % (2*r.nA)=0:=by rw[Int.sub_self];exact Int.zero_emod _
 have k:=ne1 h a b (by rw[e];omega);exact⟨k.1,k.2.trans e⟩
theorem YD{l:rM}{m:TV}{d:Int} :∀(n:Nat) (x:jW) (o:rM),Wi x=true→Wi (Bl l m d n x o).2.1=true∧UU (Bl l m d n x o).2.1≤UU x∧(Bl l m d n x o).1.length≤o.length+n
 | 0,x,o,h=>⟨h,vl _,tK _⟩
 | n+1,x,o,h=>by
  unfold Bl;by_cases e:0<UU x
  ·rw[Tl e,HI];cases f:(TZ l m d x).2.2
   ·have k:=uK h;refine⟨k.1, ?_,tI _⟩;show UU ⟨x.nW,x.nA,x.pj,x.pj⟩≤UU x;rw[k.2];omega
   obtain⟨a,b,c⟩:=yQ h e f;cases (lS (TZ l m d x).1).2
   ·have k:=uK h;refine⟨k.1, ?_,tI _⟩;show UU ⟨x.nW,x.nA,x.pj,x.pj⟩≤UU x;rw[k.2];omega
   simp only[tk,rl];cases (bif (lS (TZ l m d x).1).1.Op==1 then (bits .and .i64 (lS (TZ l m d x).1).1.ez 1) != 0 else false)
   ·obtain⟨g,j,i⟩:=YD (l:=l) (m:=m) (d:=d) n (TZ l m d x).2.1 (o++[UJ.enc (lS (TZ l m d x).1).1]) b;simp only[rl];simp only[Qe,di,sS] at i;exact⟨g,by omega,by omega⟩
   ·exact⟨b,by show UU (TZ l m d x).2.1≤UU x;omega,by simp only[HI,Qe,di,sS];omega⟩
  ·rw[yF e,rl];exact⟨h,vl _,by show o.length≤_;omega⟩
theorem nru{l:rM}{m:TV}{d:Int}{x:jW}(h:Wi x=true)(g:UU x≠0):Wi (V7 l m d x).2.1=true∧UU (V7 l m d x).2.1<UU x∧(V7 l m d x).1.length≤16:=by
 have f:=cB h;have e:0<UU x:=by rw[f.2.1] at g ⊢;have:=ud (x.pj - x.ej) (show 2*x.nA≠0 by omega);omega
 unfold V7;rw[h,show ((UU x)==0)=false from beq_eq_false_iff_ne.2 g];simp only[tk,rl];have i:=(YD (l:=l) (m:=m) (d:=d) 16 x [] h).2.2;refine⟨(YD 16 x [] h).1, ?_,by simpa using i⟩;show UU (Bl l m d (15+1) x []).2.1<UU x;unfold Bl;rw[Tl e,HI];have k:=uK h;cases j:(TZ l m d x).2.2
 ·show UU ⟨x.nW,x.nA,x.pj,x.pj⟩<UU x;rw[k.2];exact e
 obtain⟨a,b,c⟩:=yQ h e j;cases (lS (TZ l m d x).1).2
 ·show UU ⟨x.nW,x.nA,x.pj,x.pj⟩<UU x;rw[k.2];exact e
 simp only[tk,rl];cases (bif (lS (TZ l m d x).1).1.Op==1 then (bits .and .i64 (lS (TZ l m d x).1).1.ez 1) != 0 else false)
 ·have:=(YD (l:=l) (m:=m) (d:=d) 15 (TZ l m d x).2.1 ([]++[UJ.enc (lS (TZ l m d x).1).1]) b).2.1;simp only[rl];omega
 ·simp only[HI];omega
theorem nl3(d:rM→jW→Bool→α)(Z:rM)(m:TV)(e:Int)(r:jW):∃N,nze kW d N Z m e r=d (V7 Z m e r).1 (V7 Z m e r).2.1 (V7 Z m e r).2.2:=by
 unfold nze hX V7;refine⟨20, ?_⟩;refine oN (K:=λz:rM×jW×Bool=>d z.1 z.2.1 z.2.2) (λ_=>rfl) (λp=>?_);have k:Wi r=true:=by revert p;cases Wi r<;>simp
 have key:∀(n:Nat) (x:jW) (o:rM) (N:Nat),UU x≤n→n<N→n≤16→Wi x=true→x.nW=r.nW→x.nA=r.nA→x.pj=r.pj→o.length+n≤16→
   Tk kW d 20 Z e m.nQ r.nW r.nA r.pj r.pj N x.nW x.nA x.ej x.pj o=(λz:rM×jW×Bool=>d z.1 z.2.1 z.2.2) (Bl Z m e n x o):=by
  intro n
  induction n with
  | zero=>
   intro x o N s t u l f g h v;obtain⟨N,rfl⟩:=O4 N;rw[neA];simp only[zd,yF (show ¬0<UU (⟨x.nW,x.nA,x.ej,x.pj⟩:jW) by show ¬0<UU x;omega),rl,Bl]
  | succ n w=>
   intro x o N s t u l f g h v;obtain⟨N,rfl⟩:=O4 N;rw[neA];have A:∀y:List DC,Pf 48 o [y]=true:=λy=>Q0 (by simp only[di,sS];omega) (by omega);have B:(⟨x.nW,x.nA,x.ej,x.pj⟩:jW)=x:=rfl;have C:(⟨m.nQ⟩:TV)=m:=rfl;simp only[zd,Bl,B,C,A,cd,HI];refine oN (K:=λz:rM×jW×Bool=>d z.1 z.2.1 z.2.2) (λi=>?_) (λ_=>rfl);have i:=of_decide_eq_true i;have step:(TZ Z m e x).2.2=true→Tk kW d 20 Z e m.nQ r.nW r.nA r.pj r.pj N (TZ Z m e x).2.1.nW (TZ Z m e x).2.1.nA (TZ Z m e x).2.1.ej (TZ Z m e x).2.1.pj (o++[UJ.enc (lS (TZ Z m e x).1).1])=(λz:rM×jW×Bool=>d z.1 z.2.1 z.2.2) (Bl Z m e n (TZ Z m e x).2.1 (o++[UJ.enc (lS (TZ Z m e x).1).1])):=by
    intro j;obtain⟨a,b,c⟩:=yQ l i j;refine w _ _ N (by omega) (by omega) (by omega) b ?_ ?_ ?_ (by simp only[Qe,di,sS];omega)
    ·rw[a];exact f
    ·rw[a];exact g
    ·rw[a];exact h
   cases j:(TZ Z m e x).2.2
   ·simp only[uy,HI,f,g,h]
   have step:=step j;simp only[tk,rl];cases (lS (TZ Z m e x).1).2
   ·simp only[uy,HI,f,g,h]
   simp only[tk,rl];refine oN (K:=λz:rM×jW×Bool=>d z.1 z.2.1 z.2.2) (λ_=>rfl) (λ_=>step)
 obtain⟨D,E,F,G,H,I,L,M,O⟩:=cB k;exact key 16 r [] 20 (by omega) (by omega) (by omega) k rfl rfl rfl (by simp)
def jq(r q:List DC):Bool:=bif (J r 0)==(J q 0) then bif (J r 1)==(J q 1) then bif (J r 2)==(J q 2) then bif (J r 3)==(J q 3) then bif (J r 4)==(J q 4) then bif (J r 5)==(J q 5) then true else false else false else false else false else false else false
def DH(a b:rM):Bool:=bif (len a) != (len b) then false else !(Pt (λi r=> !(jq r (V b i))) a 0)
def bW(r:List DC):List DC:=[.int (J r 3),.int (J r 2)]
def nAi(l:rM):rM:=aj (l.tail.map bW) (J (V l 0) 4) (J (V l 0) 5)
def dV(l:rM):Bool:=decide (l.length≤1000)
def DF(l:rM):rM×Int×Int×Bool:=bif bif decide (len l<2) then true else !(DH (nAi l) l) then ([],0,0,false) else (l.tail.map bW,J (V l 0) 4,J (V l 0) 5,true)
def dE(a:rM→Int→Int→Bool→α)(f:rM→Int→Int→rM→Int→Int→α)(Z x:rM)(g:Int)(h:Int→rM→α)(c:Int)(b:rM):α:=let d:rM:=aj b (J (V Z 0) 4) (J (V Z 0) 5);let e:Int:=len d;bif decide (c<g) then bif Bk true (idx c x) then bif Bk true (Pf 16 b ([[.int (J (V x (so c)) 3),.int (J (V x (so c)) 2)]])) then h (ZK (c+1)) (b++([[.int (J (V x (so c)) 3),.int (J (V x (so c)) 2)]])) else kW else kW else bif Bk (Bk true (idx 0 Z)) (idx 0 Z) then bif e != (len Z) then a [] 0 0 false else f b (J (V Z 0) 4) (J (V Z 0) 5) d e 0 else kW
def U1(a:rM→Int→Int→Bool→α)(Z d:rM)(size e:Int)(b:rM)(f:Int)(g:Int→α)(c:Int):α:=bif decide (c<f) then bif Bk (Bk true (idx c b)) (idx c Z) then bif !(bif (J (V b (so c)) 0)==(J (V Z (so c)) 0) then bif (J (V b (so c)) 1)==(J (V Z (so c)) 1) then bif (J (V b (so c)) 2)==(J (V Z (so c)) 2) then bif (J (V b (so c)) 3)==(J (V Z (so c)) 3) then bif (J (V b (so c)) 4)==(J (V Z (so c)) 4) then bif (J (V b (so c)) 5)==(J (V Z (so c)) 5) then true else false else false else false else false else false else false) then a [] 0 0 false else g (ZK (c+1)) else kW else a d size e true
def Vt(a:rM→Int→Int→Bool→α)(N:Nat)(Z b:rM)(size c:Int)(d:rM)(e:Int)(f:Nat):Int→α:=WS (λ_=>kW) (U1 kW a Z b size c d e) f
theorem nx4(a:rM→Int→Int→Bool→α)(N:Nat)(Z b:rM)(size c:Int)(d:rM)(e:Int)(f:Nat):Vt kW a N Z b size c d e (f+1)=U1 kW a Z b size c d e (Vt kW a N Z b size c d e f):=rfl
def Zb(a:rM→Int→Int→Bool→α)(N:Nat)(Z x:rM)(e:Int)(f:Nat):Int→rM→α:=WS (λ_ _=>kW) (dE kW a (λb size c d h=>Vt kW a N Z b size c d h N) Z x e) f
theorem nvh(a:rM→Int→Int→Bool→α)(N:Nat)(Z x:rM)(e:Int)(f:Nat)(g:Int)(b:rM):Zb kW a N Z x e (f+1) g b=dE kW a (λb size c d h=>Vt kW a N Z b size c d h N) Z x e (Zb kW a N Z x e f) g b:=rfl
def Od(a:rM→Int→Int→Bool→α)(b:rM→Int→Int→rM→α)(Z:rM):α:=bif decide (len Z<2) then a [] 0 0 false else bif Bk true (fD Z 1) then b (qg Z 1) (len (qg Z 1)) 0 [] else kW
def Yq(a:rM→Int→Int→Bool→α)(N:Nat)(Z:rM):α:=Od kW a (λx b=>Zb kW a N Z x b N) Z
theorem nzR(a:rM→Int→Int→Bool→α)(Z:rM)(f:Oj (.sl WT) (.sl Z))(g:dV Z=true):∃N,Yq kW a N Z=a (DF Z).1 (DF Z).2.1 (DF Z).2.2.1 (DF Z).2.2.2:=by
 obtain⟨j,_⟩:=jD f;have w:Z.length≤1000:=of_decide_eq_true g;refine⟨Z.length+2, ?_⟩;unfold Yq Od DF;by_cases e:len Z<2
 ·simp only[Tl e,HI]
 have h2':2≤Z.length:=by simp only[len] at e;omega
 have k:fD Z 1=true:=by simp only[fD,gF,kQ];omega
 have l:qg Z 1=Z.tail:=by simp[qg]
 have m:idx 0 Z=true:=by simp only[idx,gF,kQ];omega
 simp only[yF e,rl,k,l,cd,HI];have key:=vj Z.tail (λn i o=>Zb kW a (Z.length+2) Z Z.tail (len Z.tail) n i o) (λ_ r c o=>c (o++[bW r])) (λo=>bif !(DH (aj o (J (V Z 0) 4) (J (V Z 0) 5)) Z) then a [] 0 0 false else a o (J (V Z 0) 4) (J (V Z 0) 5) true) 0 (λi r c d s h=>h _ (by simp)) ?_ ?_ Z.tail.length 0 [] (Z.length+2) (by omega) (by rw[List.length_tail];omega) rfl
 ·refine key.trans ?_;rw[t_,uI,List.nil_append];exact cU (K:=λz:rM×Int×Int×Bool=>a z.1 z.2.1 z.2.2.1 z.2.2.2) rfl rfl
 ·intro n i o b p;have q:i<Z.length:=by rw[List.length_tail] at b;omega
  rw[nvh];have t:∀y:List DC,Pf 16 o [y]=true:=λy=>Q0 (by simp only[di,sS];omega) (by omega);simp only[dE,T9 b,uH b,Q8 q j,lN,t,cd,HI];rfl
 ·intro n o p;rw[nvh];simp only[dE,hO,m,cd,HI,rl];generalize aj o (J (V Z 0) 4) (J (V Z 0) 5)=W;unfold DH;cases u:(len W) != (len Z)
  ·have v:W.length=Z.length:=by
    have:len W=len Z:=by simpa using u
    simp only[len] at this;omega
   simp only[rl,Bool.not_not];refine (fT W (λn i=>Vt kW a (Z.length+2) Z o (J (V Z 0) 4) (J (V Z 0) 5) W (len W) n i) (λi r c=>bif !(jq r (V Z i)) then a [] 0 0 false else c) (a o (J (V Z 0) 4) (J (V Z 0) 5) true) ?_ ?_ (Z.length+2) (by omega)).trans ?_
   ·intro n i b;show Vt kW a (Z.length+2) Z o (J (V Z 0) 4) (J (V Z 0) 5) W (len W) (n+1) (i:Int)=_;rw[nx4];simp only[U1,T9 b,uH b,uH (show i<Z.length by omega),Q8 b (show W.length≤9223372036854775807 by omega),lN,cd,HI];rfl
   ·intro n;show Vt kW a (Z.length+2) Z o (J (V Z 0) 4) (J (V Z 0) 5) W (len W) (n+1) (W.length:Int)=_;rw[nx4];simp only[U1,hO,rl]
   ·exact NS (λi r=> !(jq r (V Z i))) (a [] 0 0 false) (a o (J (V Z 0) 4) (J (V Z 0) 5) true) W 0
  ·rfl
def vO(a:Y→Bool→α)(Z:rM)(c:Int)(b:rM)(h:Int)(i:rM)(j:Y→Int→α)(e:Y)(d:Int):α:=let f:Y×Bool:=vV Z (⟨i⟩:TV) c (J (V b (so d)) 0) (J (V b (so d)) 1);let g:Y:=f.1;bif decide (d<h) then bif Bk true (idx d b) then bif !f.2 then a [] false else bif Bk true (S_ e g) then j (e++g) (ZK (d+1)) else kW else kW else a e true
def RT(a:Y→Bool→α)(N:Nat)(Z:rM)(b:Int)(c:rM)(d:Int)(e:rM)(f:Nat):Y→Int→α:=WS (λ_ _=>kW) (vO kW a Z b c d e) f
theorem nb4(a:Y→Bool→α)(N:Nat)(Z:rM)(b:Int)(c:rM)(d:Int)(e:rM)(f:Nat):RT kW a N Z b c d e (f+1)=vO kW a Z b c d e (RT kW a N Z b c d e f):=rfl
def cO(kW:α)(a:Y→Bool→α)(d:Int→rM→Y→Int→α)(Z:rM)(m:TV)(c:Int)(b:rM):α:=bif !(b0 b) then a [] false else d (len b) m.nQ [] 0
def nrc(a:Y→Bool→α)(N:Nat)(Z:rM)(m:TV)(b:Int)(c:rM):α:=cO kW a (λd e=>RT kW a N Z b c d e N) Z m b c
def oF(Z:rM)(m:TV)(a:Int)(e:List DC)(s:Y):Bool:= !(vV Z m a (J e 0) (J e 1)).2
def bK(Z:rM)(m:TV)(a:Int)(e:List DC)(s:Y):Y:=s++(vV Z m a (J e 0) (J e 1)).1
def Wz(Z:rM)(m:TV)(a:Int)(b:rM):Y×Bool:=bif !(b0 b) then ([],false) else nY (oF Z m a) (bK Z m a) ([],false) (λs=>(s,true)) b []
theorem nra{l:rM}{m:TV}{d:Int}{pieces:rM}(b:Oj (.sl VB) (.sl m.nQ)):(Wz l m d pieces).1.length≤65536:=by
 unfold Wz;cases c:b0 pieces
 ·exact tI _
 have f:=n_ c;simp only[tk,rl];have key:∀(e:rM) (s:Y),s.length+e.length*4096≤65536→(nY (oF l m d) (bK l m d) ([],false) (λs=>(s,true)) e s).1.length≤65536:=by
  intro e
  induction e with
  | nil=>intro s a;simp only[nY];omega
  | cons x h g=>
   intro s a;simp only[nY];cases oF l m d x s
   ·refine g _ ?_;have:=(wY (Z:=l) (m:=m) (gp:=d) (gZ:=J x 0) (n:=J x 1) b).2;simp only[bK,Qe,di] at a ⊢;omega
   ·exact tI _
 exact key pieces [] (by simp only[sS];omega)
theorem ndB(a:Y→Bool→α)(Z:rM)(m:TV)(gp:Int)(b:rM)(f:i_ TV.ct m.enc)(g:Oj (.sl bG) (.sl b)):∃N,nrc kW a N Z m gp b=a (Wz Z m gp b).1 (Wz Z m gp b).2:=by
 obtain⟨h,_⟩:=jD g;have d:=TV.O1 f;unfold nrc cO Wz;refine⟨b.length+1, ?_⟩;refine oN (K:=λz:Y×Bool=>a z.1 z.2) (λ_=>rfl) (λj=>?_);have k:=n_ (ux j);refine (Y_ b (λn i (s:Y)=>RT kW a (b.length+1) Z gp b (len b) m.nQ n s i) (oF Z m gp) (bK Z m gp) (a [] false) (λs=>a s true) (λi s=>s.length≤i*4096) ?_ ?_ ?_ [] (by simp)).trans ?_
 ·intro i s c e _;have:=(wY (Z:=Z) (m:=m) (gp:=gp) (gZ:=J (V b i) 0) (n:=J (V b i) 1) d).2;unfold bK;rw[Qe];omega
 ·intro n i s c e;have p:=(wY (Z:=Z) (m:=m) (gp:=gp) (gZ:=J (V b i) 0) (n:=J (V b i) 1) d).2;have l:S_ s (vV Z m gp (J (V b i) 0) (J (V b i) 1)).1=true:=gh (by omega);show RT kW a (b.length+1) Z gp b (len b) m.nQ (n+1) s (i:Int)=_;rw[nb4];have o:(⟨m.nQ⟩:TV)=m:=rfl;simp only[vO,T9 c,uH c,o,l,Q8 c h,lN,cd,HI];rfl
 ·intro n s e;show RT kW a (b.length+1) Z gp b (len b) m.nQ (n+1) s (b.length:Int)=_;rw[nb4];simp only[vO,hO,rl]
 ·exact Dz (λz:Y×Bool=>a z.1 z.2) (oF Z m gp) (bK Z m gp) (x:=([],false)) (λs=>(s,true)) b []
def ntN(a:Ps→Bool→α)(s:Y):α:=let b:Ps:=(⟨0,0,0,0,[]⟩:Ps);let c:Int:=bits .or .i64 (Zl .i64 (tC s 0) 32) (N5 s 2);let d:Int:=bits .or .i64 (Zl .i64 (tC s 6) 32) (N5 s 8);let e:Ps:=(⟨c,d,tC s 14,tC s 16,qg s 18⟩:Ps);let f:Ps:=(⟨c,d,(-1),tC s 12,qg s 14⟩:Ps);bif decide (len s<14) then a b false else bif Bk true (fD s 14) then bif bif (tC s 12)==33024 then decide (18≤len s) else false then bif Bk true (fD s 18) then bif !(tf e) then a b false else a e true else kW else bif !(tf f) then a b false else a f true else kW
theorem RJ(a:Int):Zl .i64 a 32=ZK (a*4294967296):=rfl
theorem vF(s:Y)(a:Int): -1≤tC s a∧tC s a≤65535:=by have b:=fR s a;have c0:=V0 s a;have c:=fR s (a+1);have d:=V0 s (a+1);unfold tC;cases !(WU s a 2)<;>simp only[HI,rl]<;>omega
theorem mo{s:Y}{a:Int}(b:0≤a)(h:a+2≤len s)(c:s.length≤9223372036854775807):0≤tC s a:=by have d:=fR s a;have e:=fR s (a+1);unfold tC;rw[(within_iff c).2 ⟨b,by omega,h⟩];simp only[tk,rl];omega
theorem nbg{s:Y}{a:Int}(b:0≤a)(h:a+2≤len s)(c:s.length≤9223372036854775807):tC s a=nf s a*256+nf s (a+1):=by unfold tC;rw[(within_iff c).2 ⟨b,by omega,h⟩];rfl
theorem xt{s:Y}{a:Int}(b:0≤a)(h:a+4≤len s):0≤N5 s a:=by have c:=fR s a;have d:=fR s (a+1);have e:=fR s (a+2);have f:=fR s (a+3);unfold N5;rw[yF (show ¬a<0 by omega),yF (show ¬len s<a+4 by omega)];simp only[rl];omega
theorem xk(s:Y)(a:Int): -1≤N5 s a∧N5 s a≤4294967295:=by have b:=fR s a;have c0:=V0 s a;have c:=fR s (a+1);have d:=V0 s (a+1);have e:=fR s (a+2);have f:=V0 s (a+2);have g:=fR s (a+3);have h:=V0 s (a+3);unfold N5;cases (bif decide (a<0) then true else decide (len s<a+4))<;>simp only[HI,rl]<;>omega
def Y1(s:Y):Ps:=⟨tC s 0*4294967296+N5 s 2,tC s 6*4294967296+N5 s 8,bif (tC s 12)==33024 then tC s 14 else -1,bif (tC s 12)==33024 then tC s 16 else tC s 12,s.drop (E3 s).toNat⟩
def xV(s:Y):Ps×Bool:=bif decide (len s<18) then (⟨0,0,0,0,[]⟩,false) else bif !(tf (Y1 s)) then (⟨0,0,0,0,[]⟩,false) else (Y1 s,true)
theorem hfI{e:Ps}(h:tf e=true):46≤e.ed.length:=(nBt h).2.2.2.2
theorem ny3(b:Ps→Bool→α)(s:Y)(i:Oj .str (.str s)):ntN kW b s=b (xV s).1 (xV s).2:=by
 have g:=jU i;unfold ntN xV;dsimp only;by_cases d:len s<14
 ·rw[Tl d,Tl (show len s<18 by omega)];rfl
 rw[yF d,rl];by_cases c:len s<18
 ·have f:fD s 14=true:=by simp only[len] at d;simp only[fD,gF,kQ];omega
  have j:∀e:Ps,e.ed=qg s 14→tf e=false:=by
   intro e k;cases h:tf e
   ·rfl
   ·have:=hfI h;rw[k] at this;simp only[qg,uz,tt] at this;simp only[len] at c d;omega
  have l:(bif (tC s 12)==33024 then decide (18≤len s) else false)=false:=by rw[yF (show ¬18≤len s by omega)];cases (tC s 12)==33024<;>rfl
  rw[Tl c,l,f];simp only[cd,HI,rl];rw[j _ rfl];rfl
 have c:18≤len s:=by omega
 rw[Tl c,yF (show ¬len s<18 by omega),rl];have f:fD s 14=true:=by simp only[len] at c;simp only[fD,gF,kQ];omega
 have m:fD s 18=true:=by simp only[len] at c;simp only[fD,gF,kQ];omega
 have o:qg s 14=s.drop 14:=by simp[qg]
 have p:qg s 18=s.drop 18:=by simp[qg]
 have q:=vF s 0;have r:=vF s 6;have t:=mo (s:=s) (a:=0) (by omega) (by omega) g;have u:=mo (s:=s) (a:=6) (by omega) (by omega) g;have v:=xk s 2;have w:=xk s 8;have y:=xt (s:=s) (a:=2) (by omega) (by omega);have A:=xt (s:=s) (a:=8) (by omega) (by omega);rw[RJ,RJ,Ou (n:=tC s 0*4294967296),Ou (n:=tC s 6*4294967296)];rw[PV 32 (x:=tC s 0*4294967296) (by omega) (by omega) (by omega) (by omega) (by omega) (by omega),PV 32 (x:=tC s 6*4294967296) (by omega) (by omega) (by omega) (by omega) (by omega) (by omega)];rw[show (bif (tC s 12)==33024 then true else false)=((tC s 12)==33024) by cases (tC s 12)==33024<;>rfl];simp only[f,m,o,p,cd,HI];unfold Y1 E3;cases (tC s 12)==33024
 ·simp only[rl];exact cU (K:=λz:Ps×Bool=>b z.1 z.2) rfl rfl
 ·simp only[HI];exact cU (K:=λz:Ps×Bool=>b z.1 z.2) rfl rfl
def nie(a:Ps→Bool→α)(s:Y):α:=let b:Ps:=(⟨0,0,0,0,[]⟩:Ps);let c:Int:=ZK ((Zl .i64 (tC s 0) 32)+(N5 s 2));let d:Int:=ZK ((Zl .i64 (tC s 6) 32)+(N5 s 8));let e:Ps:=(⟨c,d,tC s 14,tC s 16,qg s 18⟩:Ps);let f:Ps:=(⟨c,d,(-1),tC s 12,qg s 14⟩:Ps);bif decide (len s<18) then a b false else bif Bk true (fD s 14) then bif (tC s 12)==33024 then bif Bk true (fD s 18) then bif !(tf e) then a b false else a e true else kW else bif !(tf f) then a b false else a f true else kW
theorem pF1(b:Ps→Bool→α)(s:Y)(e:Oj .str (.str s)):nie kW b s=b (xV s).1 (xV s).2:=by
 have d:=jU e;unfold nie xV;dsimp only;refine oN (K:=λz:Ps×Bool=>b z.1 z.2) (λ_=>rfl) (λf=>?_);have c:18≤len s:=by have:=of_decide_eq_false f;omega
 have g:fD s 14=true:=by simp only[len] at c;simp only[fD,gF,kQ];omega
 have h:fD s 18=true:=by simp only[len] at c;simp only[fD,gF,kQ];omega
 have i:qg s 14=s.drop 14:=by simp[qg]
 have j:qg s 18=s.drop 18:=by simp[qg]
 have k:=vF s 0;have l:=vF s 6;have m:=mo (s:=s) (a:=0) (by omega) (by omega) d;have o:=mo (s:=s) (a:=6) (by omega) (by omega) d;have p:=xk s 2;have q:=xk s 8;have r:=xt (s:=s) (a:=2) (by omega) (by omega);have t:=xt (s:=s) (a:=8) (by omega) (by omega);rw[RJ,RJ,Ou (n:=tC s 0*4294967296),Ou (n:=tC s 6*4294967296)];rw[Ou (n:=tC s 0*4294967296+N5 s 2),Ou (n:=tC s 6*4294967296+N5 s 8)];simp only[g,h,i,j,cd,HI];unfold Y1 E3;cases (tC s 12)==33024
 ·simp only[rl];exact cU (K:=λz:Ps×Bool=>b z.1 z.2) rfl rfl
 ·simp only[HI];exact cU (K:=λz:Ps×Bool=>b z.1 z.2) rfl rfl
def nDk(a:Tc→Bool→α)(s:Y):α:=let b:Tc:=(⟨0,0,0,0,0,0,[]⟩:Tc);let c:Tc:=(⟨ZK (nf s 1),tC s 4,ZK (nf s 8),ZK (nf s 9),N5 s 12,N5 s 16,Fl s 20 (tC s 2)⟩:Tc);let d:Y×Bool:=PA c;let e:Bool:= !d.2;bif bif decide (len s<20) then true else bif decide (tC s 2<20) then true else decide (len s<tC s 2) then a b false else bif Bk (Bk (Bk (Bk true (idx 1 s)) (idx 8 s)) (idx 9 s)) (XA s 20 (tC s 2)) then bif lV e true (Bk true (Oo s (tC s 2))) then bif bif e then true else !(d.1==(Xg s (tC s 2))) then a b false else a c true else kW else kW
def Ch(s:Y):Tc:=⟨ZK (nf s 1),tC s 4,ZK (nf s 8),ZK (nf s 9),N5 s 12,N5 s 16,Fl s 20 (tC s 2)⟩
def Xn(s:Y):Tc×Bool:=bif bif decide (len s<20) then true else bif decide (tC s 2<20) then true else decide (len s<tC s 2) then (⟨0,0,0,0,0,0,[]⟩,false) else bif bif !(PA (Ch s)).2 then true else !((PA (Ch s)).1==(Xg s (tC s 2))) then (⟨0,0,0,0,0,0,[]⟩,false) else (Ch s,true)
theorem ntD(a:Tc→Bool→α)(s:Y)(g:Oj .str (.str s)):nDk kW a s=a (Xn s).1 (Xn s).2:=by
 have l:=jU g;unfold nDk Xn;dsimp only;refine oN (K:=λz:Tc×Bool=>a z.1 z.2) (λ_=>rfl) (λb=>?_);have h:20≤len s∧20≤tC s 2∧tC s 2≤len s:=by
  by_cases c:len s<20
  ·rw[Tl c] at b;cases b
  by_cases e:tC s 2<20
  ·rw[yF c,Tl e] at b;cases b
  by_cases d:len s<tC s 2
  ·rw[yF c,yF e,Tl d] at b;cases b
  omega
 obtain⟨c,e,d⟩:=h;have f:∀j:Int,0≤j→j<20→idx j s=true:=by intro j m n;simp only[len] at c;simp only[idx,gF,kQ];omega
 have i:XA s 20 (tC s 2)=true:=by simp only[len] at d;simp only[XA,gF,kQ];omega
 have k:Oo s (tC s 2)=true:=by simp only[len] at d;simp only[Oo,gF,kQ];omega
 refine Bw (by rw[f 1 (by omega) (by omega),f 8 (by omega) (by omega),f 9 (by omega) (by omega),i];rfl) ?_;refine Bw (eE (λ_=>rfl) (λ_=>zL k)) ?_;exact cU (K:=λz:Tc×Bool=>a z.1 z.2) rfl rfl
def nwB(a:ch→Bool→α)(c d b:Int)(s:Y):α:=let f:ch:=(⟨b,tC s 0,tC s 2,N5 s 4,N5 s 8,ZK (nf s 13),tC s 14,qg s 20⟩:ch);let g:Y×Bool:=k8 c d f;let e:ch:=(⟨0,0,0,0,0,0,0,[]⟩:ch);let h:ch:=(⟨b,tC s 0,tC s 2,0,0,0,0,qg s 8⟩:ch);let i:Y×Bool:=k8 c d h;bif bif b==6 then decide (20≤len s) else false then bif Bk true (idx 13 s) then bif Bk true (fD s 20) then bif bif !g.2 then true else !(g.1==s) then a e false else a f true else kW else kW else bif bif b==17 then decide (8≤len s) else false then bif Bk true (fD s 8) then bif bif !i.2 then true else !(i.1==s) then a e false else a h true else kW else a e false
def nyT(a:Int)(s:Y):ch:=⟨a,tC s 0,tC s 2,N5 s 4,N5 s 8,ZK (nf s 13),tC s 14,qg s 20⟩
def nuD(a:Int)(s:Y):ch:=⟨a,tC s 0,tC s 2,0,0,0,0,qg s 8⟩
def nut(a b:Int)(s:Y)(q:ch):ch×Bool:=bif bif !(k8 a b q).2 then true else !((k8 a b q).1==s) then (⟨0,0,0,0,0,0,0,[]⟩,false) else (q,true)
def NZ(b c a:Int)(s:Y):ch×Bool:=bif bif a==6 then decide (20≤len s) else false then nut b c s (nyT a s) else bif bif a==17 then decide (8≤len s) else false then nut b c s (nuD a s) else (⟨0,0,0,0,0,0,0,[]⟩,false)
theorem ncd(a:ch→Bool→α)(c d b:Int)(s:Y)(i:Oj .str (.str s)):nwB kW a c d b s=a (NZ c d b s).1 (NZ c d b s).2:=by
 have l:=jU i;unfold nwB NZ;dsimp only;refine oN (K:=λz:ch×Bool=>a z.1 z.2) (λf=>?_) (λ_=>?_)
 ·have e:20≤len s:=by
   revert f;cases b==6
   ·intro h;cases h
   ·exact of_decide_eq_true
  have j:idx 13 s=true:=by simp only[len] at e;simp only[idx,gF,kQ];omega
  have g:fD s 20=true:=by simp only[len] at e;simp only[fD,gF,kQ];omega
  refine Bw (zL j) (Bw (zL g) ?_);exact cU (K:=λz:ch×Bool=>a z.1 z.2) rfl rfl
 ·refine oN (K:=λz:ch×Bool=>a z.1 z.2) (λf=>?_) (λ_=>rfl);have k:8≤len s:=by
   revert f;cases b==17
   ·intro h;cases h
   ·exact of_decide_eq_true
  have g:fD s 8=true:=by simp only[len] at k;simp only[fD,gF,kQ];omega
  refine Bw (zL g) ?_;exact cU (K:=λz:ch×Bool=>a z.1 z.2) rfl rfl
def X1(a:oY→Int→α)(s:Y):α:=let b:oY:=(⟨0,0,0,0,0,0,0,0,(⟨0,0,0,0,0,0,0,[]⟩:ch)⟩:oY);let c:ch×Bool:=NZ (((Xn (((xV s).1).ed)).1).e7) (((Xn (((xV s).1).ed)).1).W0) (((Xn (((xV s).1).ed)).1).nqh) (((Xn (((xV s).1).ed)).1).ed);let d:oY:=(⟨((xV s).1).W0,((xV s).1).e7,((xV s).1).rX,((Xn (((xV s).1).ed)).1).S9,((Xn (((xV s).1).ed)).1).Id,((Xn (((xV s).1).ed)).1).Ta,((Xn (((xV s).1).ed)).1).e7,((Xn (((xV s).1).ed)).1).W0,c.1⟩:oY);bif bif !((xV s).2) then true else (((xV s).1).PC) != 2048 then a b 2 else bif !((Xn (((xV s).1).ed)).2) then a b 3 else bif !c.2 then a b 4 else bif !(rZ d) then a b 5 else a d 0
def uN(s:Y):oY×Int:=X1 (λa b=>(a,b)) s
theorem nqE(a:oY→Int→α)(s:Y):X1 a s=a (uN s).1 (uN s).2:=by exact cU (K:=λr:oY×Int=>a r.1 r.2) rfl (cU (K:=λr:oY×Int=>a r.1 r.2) rfl (cU (K:=λr:oY×Int=>a r.1 r.2) rfl (cU (K:=λr:oY×Int=>a r.1 r.2) rfl rfl)))
def nc9(a:Y→α)(s:Y):α:=let b:Y:=toStr ([[.int (tJ .u8 (Qv s))],[.int (tJ .u8 (xu .i64 (Qv s) 8))],[.int (tJ .u8 (xu .i64 (Qv s) 16))],[.int (tJ .u8 (xu .i64 (Qv s) 24))]]);bif Bk true (S_ s b) then a (s++b) else kW
def iR(s:Y):Y:=s++toStr ([[.int (tJ .u8 (Qv s))],[.int (tJ .u8 (xu .i64 (Qv s) 8))],[.int (tJ .u8 (xu .i64 (Qv s) 16))],[.int (tJ .u8 (xu .i64 (Qv s) 24))]])
theorem ndJ(a:Y→α)(s:Y)(b:AK s=true):nc9 kW a s=a (iR s):=by have c:s.length≤4294967296:=of_decide_eq_true b;unfold nc9;exact Bw (zL (gh (by rw[kN];simp only[di,sS];omega))) rfl
def no3(a:Y→Bool→α)(p:oY):α:=bif !(yc p) then a [] false else bif !((dQ p).2) then a [] false else bif Bk true (AK ((dQ p).1)) then a (iR ((dQ p).1)) true else kW
def qL(p:oY):Y×Bool:=bif !(yc p) then ([],false) else (iR (dQ p).1,true)
theorem nnY{p:oY}(h:yc p=true):rZ p=true:=by unfold yc Ak at h;revert h;cases rZ p<;>simp
theorem nbr(a:Y→Bool→α)(p:oY):no3 kW a p=a (qL p).1 (qL p).2:=by have d:=Cg p;have b:AK (dQ p).1=true:=Tl (by omega);unfold no3 qL;refine oN (K:=λz:Y×Bool=>a z.1 z.2) (λ_=>rfl) (λc=>?_);rw[aJ,nnY (ux c)];simp only[tk,rl];exact Bw (zL b) rfl
def nge(a:Y→Bool→α)(p:oY):α:=bif !(yc p) then a [] false else bif Bk true (AK ((dQ p).1)) then a (iR ((dQ p).1)) true else kW
theorem nbB(a:Y→Bool→α)(p:oY):nge kW a p=a (qL p).1 (qL p).2:=by have c:=Cg p;have b:AK (dQ p).1=true:=Tl (by omega);unfold nge qL;refine oN (K:=λz:Y×Bool=>a z.1 z.2) (λ_=>rfl) (λd=>?_);exact Bw (zL b) rfl
def nh(a:rM→α)(Z:rM)(e:Int)(d:Int→rM→α)(b:Int)(c:rM):α:=bif decide (b<e) then bif Bk true (idx b Z) then bif (qL (oY.nd (V Z (so b)) 0)).2 then bif Bk true (Pf 16 c ([[.str ((qL (oY.nd (V Z (so b)) 0)).1)]])) then d (ZK (b+1)) (c++([[.str ((qL (oY.nd (V Z (so b)) 0)).1)]])) else kW else d (ZK (b+1)) c else kW else a c
def jF(a:rM→α)(N:Nat)(Z:rM)(b:Int)(c:Nat):Int→rM→α:=WS (λ_ _=>kW) (nh kW a Z b) c
theorem nef(a:rM→α)(N:Nat)(Z:rM)(b:Int)(c:Nat):jF kW a N Z b (c+1)=nh kW a Z b (jF kW a N Z b c):=rfl
def QB(kW:α)(a:rM→α)(b:Int→Int→rM→α)(Z:rM):α:=b (len Z) 0 []
def nr7(a:rM→α)(N:Nat)(Z:rM):α:=QB kW a (λb=>jF kW a N Z b N) Z
def xB(l:rM)(i:Nat)(o:rM):rM:=bif (qL (oY.nd (V l i) 0)).2 then o++[[.str (qL (oY.nd (V l i) 0)).1]] else o
def Rl(l:rM):Bool:=decide (l.length≤1000)
def AU(l:rM):rM:=Wc (xB l) l.length 0 []
theorem nfh(l:rM):∀(m i:Nat) (o:rM),(Wc (xB l) m i o).length≤o.length+m
 | 0,_,_=>tK _
 | m+1,i,o=>by
  have:=nfh l m (i+1) (xB l i o);have a:(xB l i o).length≤o.length+1:=by
   unfold xB;cases (qL (oY.nd (V l i) 0)).2
   ·simp only[rl];omega
   ·simp only[HI,Qe,di,sS];omega
  simp only[Wc];omega
theorem nfW(a:rM→α)(Z:rM)(d:Oj (.sl s_) (.sl Z))(e:Rl Z=true):∃N,nr7 kW a N Z=a (AU Z):=by
 obtain⟨f,_⟩:=jD d;have h:Z.length≤1000:=of_decide_eq_true e;refine⟨Z.length+1, ?_⟩;unfold nr7 QB AU;refine (Xb Z.length (λn i o=>jF kW a (Z.length+1) Z (len Z) n i o) (xB Z) a (λi o=>o.length≤i) ?_ ?_ ?_ (Z.length+1) [] (tI _) (by omega))
 ·intro i o b c;unfold xB;cases (qL (oY.nd (V Z i) 0)).2
  ·simp only[rl];omega
  ·simp only[HI,Qe,di,sS];omega
 ·intro n i o b c;show jF kW a (Z.length+1) Z (len Z) (n+1) (i:Int) o=_;rw[nef];have g:∀y:List DC,Pf 16 o [y]=true:=λy=>Q0 (by simp only[di,sS];omega) (by omega);simp only[nh,T9 b,uH b,Q8 b f,g,lN,cd,HI];unfold xB;cases (qL (oY.nd (V Z i) 0)).2<;>rfl
 ·intro n o c;show jF kW a (Z.length+1) Z (len Z) (n+1) (Z.length:Int) o=_;rw[nef];simp only[nh,hO,rl]
def hE(a:rM→α)(size:Int)(b:Y)(d e f g h i j l m n o p q r s:Int)(u:Int→rM→α)(k:Int)(c:rM):α:=let t:Int:=ZK ((ZK (k+1))*size);bif decide (ZK (k*size)<len b) then bif decide (t<len b) then bif Bk true (XA b (ZK (k*size)) t) then bif Bk true (Pf 136 c ([[.int d,.int e,.int f,.int g,.int (tj (ZK (h+k)) 65536),.int i,.int j,.int l,.int m,.int n,.int o,.int (tj (ZK (p+(ZK (k*size)))) 4294967296),.int q,.int (bits .andNot .i64 r 9),.int s,.str (Fl b (ZK (k*size)) t)]])) then u (ZK (k+1)) (c++([[.int d,.int e,.int f,.int g,.int (tj (ZK (h+k)) 65536),.int i,.int j,.int l,.int m,.int n,.int o,.int (tj (ZK (p+(ZK (k*size)))) 4294967296),.int q,.int (bits .andNot .i64 r 9),.int s,.str (Fl b (ZK (k*size)) t)]])) else kW else kW else bif Bk true (XA b (ZK (k*size)) (len b)) then bif Bk true (Pf 136 c ([[.int d,.int e,.int f,.int g,.int (tj (ZK (h+k)) 65536),.int i,.int j,.int l,.int m,.int n,.int o,.int (tj (ZK (p+(ZK (k*size)))) 4294967296),.int q,.int r,.int s,.str (Fl b (ZK (k*size)) (len b))]])) then u (ZK (k+1)) (c++([[.int d,.int e,.int f,.int g,.int (tj (ZK (h+k)) 65536),.int i,.int j,.int l,.int m,.int n,.int o,.int (tj (ZK (p+(ZK (k*size)))) 4294967296),.int q,.int r,.int s,.str (Fl b (ZK (k*size)) (len b))]])) else kW else kW else a c
def la(a:rM→α)(N:Nat)(size:Int)(b:Y)(c d e f g h i j k l m n o p q:Int)(r:Nat):Int→rM→α:=WS (λ_ _=>kW) (hE kW a size b c d e f g h i j k l m n o p q) r
theorem evQ(a:rM→α)(N:Nat)(size:Int)(b:Y)(c d e f g h i j k l m n o p q:Int)(r:Nat):la kW a N size b c d e f g h i j k l m n o p q (r+1)=hE kW a size b c d e f g h i j k l m n o p q (la kW a N size b c d e f g h i j k l m n o p q r):=rfl
def sq(kW:α)(a:rM→α)(b:Y→Int→Int→Int→Int→Int→Int→Int→Int→Int→Int→Int→Int→Int→Int→Int→Int→rM→α)(p:oY)(size:Int):α:=bif bif !(rZ p) then true else !(nn size 1 128) then a [] else bif bif p.pk.eh != 6 then true else decide (len p.pk.ed≤size) then a [oY.enc p] else b p.pk.ed p.rA p.rN p.rX p.S9 p.Id p.Ta p.py p.pN p.pk.eh p.pk.oC p.pk.oz p.pk.e4 p.pk.XY p.pk.ez p.pk.su 0 []
def nab(a:rM→α)(N:Nat)(p:oY)(size:Int):α:=sq kW a (λb c d e f g h i j k l m n o q r=>la kW a N size b c d e f g h i j k l m n o q r N) p size
theorem RP{p:oY}(h:rZ p=true):p.pk.ed.length≤320:=by
 have a:Xi p.pk=true:=by unfold rZ HG at h;revert h;cases nn p.rA 0 281474976710655<;>cases nn p.rN 0 281474976710655<;>cases nn p.rX (-1) 4095<;>cases nn p.S9 0 255<;>cases nn p.Ta 0 255<;>cases nn p.Id 0 65535<;>cases nn p.py 0 4294967295<;>cases nn p.pN 0 4294967295<;>cases Xi p.pk<;>simp
 exact tM a
def nkU(p:oY)(size:Int)(k:Nat):Y:=Fl p.pk.ed ((k:Int)*size) (kh (len p.pk.ed) (((k:Int)+1)*size))
def SN(p:oY)(size:Int)(k:Nat):List DC:=[.int p.rA,.int p.rN,.int p.rX,.int p.S9,.int (tj (ZK (p.Id+(k:Int))) 65536),.int p.Ta,.int p.py,.int p.pN,.int p.pk.eh,.int p.pk.oC,.int p.pk.oz,.int (tj (ZK (p.pk.e4+(k:Int)*size)) 4294967296),.int p.pk.XY,.int (bif decide (((k:Int)+1)*size<len p.pk.ed) then bits .andNot .i64 p.pk.ez 9 else p.pk.ez),.int p.pk.su,.str (nkU p size k)]
def OC(p:oY)(size:Int):Nat→Nat→rM→rM
 | 0,_,o=>o
 | m+1,k,o=>bif decide ((k:Int)*size<len p.pk.ed) then OC p size m (k+1) (o++[SN p size k]) else o
def Split(p:oY)(size:Int):rM:=bif bif !(rZ p) then true else !(nn size 1 128) then [] else bif bif p.pk.eh != 6 then true else decide (len p.pk.ed≤size) then [oY.enc p] else OC p size 330 0 []
theorem naB(p:oY)(size:Int):∀(m k:Nat) (o:rM),(OC p size m k o).length≤o.length+m
 | 0,_,_=>tK _
 | m+1,k,o=>by
  unfold OC;have:=naB p size m (k+1) (o++[SN p size k]);simp only[Qe,di,sS] at this;cases decide ((k:Int)*size<len p.pk.ed)
  ·simp only[rl];omega
  ·simp only[HI];omega
theorem nlM(p:oY)(size:Int):(Split p size).length≤330:=by
 unfold Split;have:=naB p size 330 0 [];simp only[sS] at this;cases (bif !(rZ p) then true else !(nn size 1 128))
 ·cases (bif p.pk.eh != 6 then true else decide (len p.pk.ed≤size))
  ·simp only[rl];omega
  ·simp
 ·simp
theorem nEd(a:rM→α)(p:oY)(size:Int):∃N,nab kW a N p size=a (Split p size):=by
 unfold nab sq Split;refine⟨400, ?_⟩;refine oN (λ_=>rfl) (λh=>?_);refine oN (λ_=>rfl) (λ_=>?_);have j:rZ p=true:=by revert h;cases rZ p<;>simp
 have l:nn size 1 128=true:=by revert h;rw[j];cases nn size 1 128<;>simp
 have C:=Wx.1 l;have D:=RP j;have key:∀(m i:Nat) (o:rM) (N:Nat),i+m=330→m<N→o.length≤i→
   la kW a 400 size p.pk.ed p.rA p.rN p.rX p.S9 p.Id p.Ta p.py p.pN p.pk.eh p.pk.oC p.pk.oz p.pk.e4 p.pk.XY p.pk.ez p.pk.su N (i:Int) o=a (OC p size m i o):=by
  intro m
  induction m with
  | zero=>
   intro i o N n r s;obtain⟨N,rfl⟩:=O4 N;have t:(i:Int)=330:=by omega
   rw[t,evQ];have d:ZK (330*size)=330*size:=Ou;have u:decide (330*size<len p.pk.ed)=false:=yF (by simp only[len];omega);simp only[hE,d,u,rl,OC]
  | succ m v=>
   intro i o N n r s;obtain⟨N,rfl⟩:=O4 N;rw[evQ];have e:0≤(i:Int)*size:=Int.mul_nonneg (by omega) (by omega);have w:(i:Int)*size≤330*128:=Int.mul_le_mul (by omega) (by omega) (by omega) (by omega);have E:((i:Int)+1)*size=(i:Int)*size+size:=by rw[Int.add_mul,Int.one_mul]
   have d:ZK ((i:Int)*size)=(i:Int)*size:=Ou;have x:ZK ((i:Int)+1)=(i:Int)+1:=Ou;have z:ZK (((i:Int)+1)*size)=((i:Int)+1)*size:=Ou;have A:∀y:List DC,Pf 136 o [y]=true:=λy=>Q0 (by simp only[di,sS];omega) (by omega);have this:=v (i+1) (o++[SN p size i]) N (by omega) (by omega) (by simp only[Qe,di,sS];omega);have B:((i+1:Nat):Int)=(i:Int)+1:=by omega
   rw[B] at this;simp only[hE,OC,d,x,z,A,cd,HI];refine oN (λb=>?_) (λ_=>rfl);have b:=of_decide_eq_true b;rw[←this];unfold SN nkU;cases k:decide (((i:Int)+1)*size<len p.pk.ed)
   ·have c:=of_decide_eq_false k;have f:kh (len p.pk.ed) (((i:Int)+1)*size)=len p.pk.ed:=by unfold kh;rw[if_neg c]
    have g:XA p.pk.ed ((i:Int)*size) (len p.pk.ed)=true:=by simp only[len] at b;simp only[XA,len,gF,kQ];exact⟨⟨e,Tl (Int.le_of_lt b)⟩,Tl (vl _)⟩
    simp only[f,g,cd,HI,rl]
   ·have c:=of_decide_eq_true k;have f:kh (len p.pk.ed) (((i:Int)+1)*size)=((i:Int)+1)*size:=by unfold kh;rw[if_pos c]
    have g:XA p.pk.ed ((i:Int)*size) (((i:Int)+1)*size)=true:=by simp only[len] at b c;simp only[XA,gF,kQ];omega
    simp only[f,g,cd,HI]
 exact key 330 0 [] 400 (by omega) (by omega) (tI _)
def naz(a:rM→α)(p:oY)(size:Int):α:=bif Bk true (Rl (Split p size)) then a (AU (Split p size)) else kW
def Ui(p:oY)(size:Int):rM:=AU (Split p size)
theorem nlZ(p:oY)(size:Int):(Ui p size).length≤330:=by have h:=nfh (Split p size) (Split p size).length 0 [];have a:=nlM p size;simp only[sS] at h;exact tl h (by omega)
theorem nkY(a:rM→α)(p:oY)(size:Int):naz kW a p size=a (Ui p size):=by unfold naz Ui;exact Bw (zL (Tl (tl (nlM p size) (by omega)))) rfl
def kj(a:Tj→Bool→α)(b c:Int):α:=let d:Tj:=(⟨b,c,0,0,false,false⟩:Tj);bif !(fm d) then a (⟨0,0,0,0,false,false⟩:Tj) false else a d true
def Xj(a b:Int):Tj×Bool:=kj (λc d=>(c,d)) a b
theorem nu3(a:Tj→Bool→α)(b c:Int):kj a b c=a (Xj b c).1 (Xj b c).2:=by exact cU (K:=λr:Tj×Bool=>a r.1 r.2) rfl rfl
def nBF(a:Cf→Bool→α)(b base size d:Int)(e:Int→rM→α)(k:Int)(c:rM):α:=bif bif decide (k<b) then decide (b≤16) else false then bif Bk true (Pf 8 c ([[.int k]])) then e (ZK (k+1)) (c++([[.int k]])) else kW else bif !(mK (⟨base,size,d,c⟩:Cf)) then a (⟨0,0,0,[]⟩:Cf) false else a (⟨base,size,d,c⟩:Cf) true
def nEr(a:Cf→Bool→α)(N:Nat)(b base size c:Int)(d:Nat):Int→rM→α:=WS (λ_ _=>kW) (nBF kW a b base size c) d
def Qh(kW:α)(a:Cf→Bool→α)(c:Int→Int→rM→α)(base size b:Int):α:=c b 0 []
def pgs(a:Cf→Bool→α)(N:Nat)(base size b:Int):α:=Qh kW a (λc=>nEr kW a N b base size c N) base size b
def W5(base size a:Int):Bool:=decide (a=8) || decide (a=4)
def QI(a:Int):rM:=bif decide (a=8) then [[.int 0],[.int 1],[.int 2],[.int 3],[.int 4],[.int 5],[.int 6],[.int 7]] else [[.int 0],[.int 1],[.int 2],[.int 3]]
def jl(base size a:Int):Cf×Bool:=bif !(mK ⟨base,size,a,[]⟩) then (⟨0,0,0,[]⟩,false) else (⟨base,size,a,QI a⟩,true)
theorem npN(base size:Int):mK ⟨base,size,8,QI 8⟩=mK ⟨base,size,8,[]⟩:=by unfold mK;cases nn base 0 130944<;>cases nn size 1 512<;>rfl
theorem niY(base size:Int):mK ⟨base,size,4,QI 4⟩=mK ⟨base,size,4,[]⟩:=by unfold mK;cases nn base 0 130944<;>cases nn size 1 512<;>rfl
theorem nAK(a:Cf→Bool→α)(base size b:Int)(c:W5 base size b=true):∃N,pgs kW a N base size b=a (jl base size b).1 (jl base size b).2:=by
 have d:b=8∨b=4:=by simpa [W5] using c
 refine⟨10, ?_⟩;unfold pgs Qh jl;rcases d with rfl | rfl
 ·rw[←npN];exact oN (K:=λz:Cf×Bool=>a z.1 z.2) (λ_=>rfl) (λ_=>rfl)
 ·rw[←niY];exact oN (K:=λz:Cf×Bool=>a z.1 z.2) (λ_=>rfl) (λ_=>rfl)
def Wl(a:TV→jW→Cf→Int→α)(Z:rM)(b:Int)(x:rM)(q r l s:Int)(d:rM)(t u v:Int)(w:fN α)(n c e f g h:Int)(i:rM):α:=let m:Y:=St (⟨3,0,l,zj (⟨r,l,s,d⟩:Cf) (J (V x (so c)) 0),0,J (V x (so c)) 0⟩:UJ);let k:TV×jW×Bool:=Xz Z (⟨i⟩:TV) b (⟨e,f,g,h⟩:jW) m;let o:Bool:=Bk (Bk true (fD d n)) (Of (qg d n));let p:Cf:=(⟨t,u,v,cp (qg d n)⟩:Cf);let j:jW:=k.2.1;bif decide (c<q) then bif Bk true (idx c x) then bif Bk true (bX Z (⟨i⟩:TV) b (⟨e,f,g,h⟩:jW) m) then bif !k.2.2 then bif o then a (⟨i⟩:TV) (⟨e,f,g,h⟩:jW) p n else kW else w (ZK (n+1)) (ZK (c+1)) j.nW j.nA j.ej j.pj k.1.nQ else kW else kW else bif o then a (⟨i⟩:TV) (⟨e,f,g,h⟩:jW) p n else kW
def xS(a:TV→jW→Cf→Int→α)(N:Nat)(Z:rM)(b:Int)(x:rM)(c d e f:Int)(g:rM)(h i j:Int)(k:Nat):fN α:=WS (λ_ _ _ _ _ _ _=>kW) (Wl kW a Z b x c d e f g h i j) k
theorem nrN(a:TV→jW→Cf→Int→α)(N:Nat)(Z:rM)(b:Int)(x:rM)(c d e f:Int)(g:rM)(h i j:Int)(k:Nat):xS kW a N Z b x c d e f g h i j (k+1)=Wl kW a Z b x c d e f g h i j (xS kW a N Z b x c d e f g h i j k):=rfl
def tw(a:TV→jW→Cf→Int→α)(c:rM→Int→Int→Int→Int→rM→Int→Int→Int→Int→Int→Int→Int→Int→Int→rM→α)(Z:rM)(m:TV)(b:Int)(r:jW)(p:Cf):α:=bif Bk (Bk true (zH m)) (ig p) then bif bif !(Wi r) then true else !(mK p) then a (cp m) r (cp p) 0 else c p.oq (len p.oq) p.nW p.nA p.d9 p.oq ((cp p).nW) ((cp p).nA) ((cp p).d9) 0 0 r.nW r.nA r.ej r.pj ((cp m).nQ) else kW
def ng0(a:TV→jW→Cf→Int→α)(N:Nat)(Z:rM)(m:TV)(b:Int)(r:jW)(p:Cf):α:=tw kW a (λx c d e f g h i j=>xS kW a N Z b x c d e f g h i j N) Z m b r p
def cE(Z:rM)(m:TV)(a:Int)(r:α)(p:Cf):Bool:=zH m && ig p
def pK(Z:rM)(a:Int)(p:Cf):rM→Int→TV→jW→TV×jW×Cf×Int
 | [],n,m,r=>(m,r,⟨p.nW,p.nA,p.d9,[]⟩,n)
 | k::ks,n,m,r=>
  bif !(Xz Z m a r (St ⟨3,0,p.nA,zj p (J k 0),0,J k 0⟩)).2.2 then (m,r,⟨p.nW,p.nA,p.d9,k::ks⟩,n)
  else pK Z a p ks (ZK (n+1)) (Xz Z m a r (St ⟨3,0,p.nA,zj p (J k 0),0,J k 0⟩)).1 (Xz Z m a r (St ⟨3,0,p.nA,zj p (J k 0),0,J k 0⟩)).2.1
def zw(Z:rM)(m:TV)(a:Int)(r:jW)(p:Cf):TV×jW×Cf×Int:=bif bif !(Wi r) then true else !(mK p) then (m,r,p,0) else pK Z a p p.oq 0 m r
theorem noZ(l:rM)(d:Int)(p:Cf):∀(a:rM) (n:Int) (m:TV) (r:jW),(pK l d p a n m r).1.nQ.length=m.nQ.length∧(pK l d p a n m r).2.2.1.oq.length≤a.length
 | [],_,_,_=>⟨rfl,tK _⟩
 | k::a,n,m,r=>by
  simp only[pK];cases (Xz l m d r (St ⟨3,0,p.nA,zj p (J k 0),0,J k 0⟩)).2.2
  ·exact⟨rfl,tK _⟩
  ·obtain⟨b,c⟩:=noZ l d p a (ZK (n+1)) (Xz l m d r (St ⟨3,0,p.nA,zj p (J k 0),0,J k 0⟩)).1 (Xz l m d r (St ⟨3,0,p.nA,zj p (J k 0),0,J k 0⟩)).2.1;rw[Q6] at b;exact⟨b,Nat.le_succ_of_le c⟩
theorem Yn(l:rM)(m:TV)(d:Int)(r:jW)(p:Cf):(zw l m d r p).1.nQ.length=m.nQ.length∧(zw l m d r p).2.2.1.oq.length≤p.oq.length:=by
 unfold zw;cases (bif !(Wi r) then true else !(mK p))
 ·exact noZ _ _ _ _ _ _ _
 ·exact⟨rfl,tK _⟩
theorem nuz{l:rM}{m:TV}{d:Int}{r:jW}{e:Y}(h:decide (0<P7 r)=false):(Xz l m d r e).2.2=false:=by
 have b:P7 r=0:=by
  have h:=of_decide_eq_false h;unfold P7 y_ at h ⊢;cases a:Wi r
  ·rfl
  ·obtain⟨c,f,g,i,j,k,n,o,p⟩:=cB a;have q:=ud (r.pj - r.ej) (show 2*r.nA≠0 by omega);rw[a] at h;simp only[tk,rl,id] at h ⊢;rw[Ou] at h ⊢;omega
 unfold Xz;rw[b];rfl
theorem nea(a:TV→jW→Cf→Int→α)(Z:rM)(m:TV)(b:Int)(r:jW)(p:Cf)(n:cE Z m b r p=true):∃N,ng0 kW a N Z m b r p=a (zw Z m b r p).1 (zw Z m b r p).2.1 (zw Z m b r p).2.2.1 (zw Z m b r p).2.2.2:=by
 have j:=n;simp only[cE,gF] at j;obtain⟨k,l⟩:=j;have A:=RG (show Of p.oq=true from l);unfold ng0 tw zw;refine⟨p.oq.length+1, ?_⟩;refine Bw (by rw[k,l];rfl) ?_;refine oN (K:=λz:TV×jW×Cf×Int=>a z.1 z.2.1 z.2.2.1 z.2.2.2) (λ_=>rfl) (λB=>?_);have key:∀(q i N:Nat) (r:jW) (m:TV),i+q=p.oq.length→q<N→Of m.nQ=true→
   xS kW a (p.oq.length+1) Z b p.oq (len p.oq) p.nW p.nA p.d9 p.oq p.nW p.nA p.d9 N (i:Int) (i:Int) r.nW r.nA r.ej r.pj m.nQ=(λz:TV×jW×Cf×Int=>a z.1 z.2.1 z.2.2.1 z.2.2.2) (pK Z b p (p.oq.drop i) (i:Int) m r):=by
  intro q
  induction q with
  | zero=>
   intro i N r m o s d;obtain⟨N,rfl⟩:=O4 N;have c:i=p.oq.length:=by omega
   subst c;rw[nrN,uk];have f:fD p.oq (p.oq.length:Int)=true:=by simp only[fD,gF,kQ];omega
   have g:qg p.oq (p.oq.length:Int)=[]:=by simp[qg]
   have h:Of ([]:rM)=true:=rfl;simp only[Wl,hO,f,g,h,cp,cd,HI,rl,pK]
  | succ q t=>
   intro i N r m o s d;obtain⟨N,rfl⟩:=O4 N;have c:i<p.oq.length:=by omega
   rw[nrN,drop_cons c];have u:∀(r:jW) (e:Y),bX Z (⟨m.nQ⟩:TV) b r e=true:=λ_ _=>d;have v:ZK ((i:Int)+1)=((i+1:Nat):Int):=by rw[Ou];omega
   have w:∀r:jW,(⟨r.nW,r.nA,r.ej,r.pj⟩:jW)=r:=λ_=>rfl;have x:(⟨m.nQ⟩:TV)=m:=rfl;have y:(⟨p.nW,p.nA,p.d9,p.oq⟩:Cf)=p:=rfl;have this:=t (i+1) N (Xz Z m b r (St ⟨3,0,p.nA,zj p (J (V p.oq i) 0),0,J (V p.oq i) 0⟩)).2.1 (Xz Z m b r (St ⟨3,0,p.nA,zj p (J (V p.oq i) 0),0,J (V p.oq i) 0⟩)).1 (by omega) (by omega) (Tl (by rw[Q6];exact RG d));have f:fD p.oq (i:Int)=true:=by simp only[fD,gF,kQ];omega
   have g:qg p.oq (i:Int)=V p.oq i::p.oq.drop (i+1):=by rw[←drop_cons c];simp[qg]
   have h:Of (V p.oq i::p.oq.drop (i+1))=true:=Tl (by rw[←drop_cons c,tt];omega);simp only[Wl,T9 c,uH c,u,v,w,x,y,f,g,h,cp,lN,cd,HI,pK];refine oN (K:=λz:TV×jW×Cf×Int=>a z.1 z.2.1 z.2.2.1 z.2.2.2) (λ_=>rfl) (λ_=>this)
 exact key p.oq.length 0 (p.oq.length+1) r m (by omega) (by omega) k
def cX(a:TV→jW→Cf→Int→α)(Z:rM)(b q k r:Int)(s:rM)(l m o:Int)(t:Int→Int→Int→Int→Int→rM→rM→α)(n d e f g:Int)(h c:rM):α:=let p:Y:=St (⟨3,0,k,zj (⟨q,k,r,s⟩:Cf) (J (V c 0) 0),0,J (V c 0) 0⟩:UJ);let j:TV×jW×Bool:=Xz Z (⟨h⟩:TV) b (⟨d,e,f,g⟩:jW) p;let i:jW:=j.2.1;bif bif decide (0<P7 (⟨d,e,f,g⟩:jW)) then decide (0<len c) else false then bif Bk (Bk true (idx 0 c)) (inl 0 c) then bif Bk true (bX Z (⟨h⟩:TV) b (⟨d,e,f,g⟩:jW) p) then bif !j.2.2 then a (⟨h⟩:TV) (⟨d,e,f,g⟩:jW) (⟨l,m,o,c⟩:Cf) n else bif Bk (Bk true (fD c 1)) (Pf 8 [] (qg c 1)) then t (ZK (n+1)) i.nW i.nA i.ej i.pj j.1.nQ (qg c 1) else kW else kW else kW else a (⟨h⟩:TV) (⟨d,e,f,g⟩:jW) (⟨l,m,o,c⟩:Cf) n
def Rk(a:TV→jW→Cf→Int→α)(N:Nat)(Z:rM)(b c d e:Int)(f:rM)(g h i:Int)(j:Nat):Int→Int→Int→Int→Int→rM→rM→α:=WS (λ_ _ _ _ _ _ _=>kW) (cX kW a Z b c d e f g h i) j
theorem naN(a:TV→jW→Cf→Int→α)(N:Nat)(Z:rM)(b c d e:Int)(f:rM)(g h i:Int)(j:Nat):Rk kW a N Z b c d e f g h i (j+1)=cX kW a Z b c d e f g h i (Rk kW a N Z b c d e f g h i j):=rfl
def HA(a:TV→jW→Cf→Int→α)(c:Int→Int→Int→rM→Int→Int→Int→Int→Int→Int→Int→Int→rM→rM→α)(Z:rM)(m:TV)(b:Int)(r:jW)(p:Cf):α:=bif Bk true (zH m) then bif Bk true (ig p) then bif bif !(Wi r) then true else !(mK p) then a (cp m) r (cp p) 0 else c p.nW p.nA p.d9 p.oq ((cp p).nW) ((cp p).nA) ((cp p).d9) 0 r.nW r.nA r.ej r.pj ((cp m).nQ) ((cp p).oq) else kW else kW
def njQ(a:TV→jW→Cf→Int→α)(N:Nat)(Z:rM)(m:TV)(b:Int)(r:jW)(p:Cf):α:=HA kW a (λc d e f g h i=>Rk kW a N Z b c d e f g h i N) Z m b r p
theorem nhs(a:TV→jW→Cf→Int→α)(Z:rM)(m:TV)(b:Int)(r:jW)(p:Cf)(n:cE Z m b r p=true):∃N,njQ kW a N Z m b r p=a (zw Z m b r p).1 (zw Z m b r p).2.1 (zw Z m b r p).2.2.1 (zw Z m b r p).2.2.2:=by
 have j:=n;simp only[cE,gF] at j;obtain⟨k,l⟩:=j;have G:=RG (show Of p.oq=true from l);unfold njQ HA zw;refine⟨p.oq.length+1, ?_⟩;refine Bw (zL k) (Bw (zL l) ?_);refine oN (K:=λz:TV×jW×Cf×Int=>a z.1 z.2.1 z.2.2.1 z.2.2.2) (λ_=>rfl) (λH=>?_);have key:∀(q i N:Nat) (r:jW) (m:TV),i+q=p.oq.length→q<N→Of m.nQ=true→
   Rk kW a (p.oq.length+1) Z b p.nW p.nA p.d9 p.oq p.nW p.nA p.d9 N (i:Int) r.nW r.nA r.ej r.pj m.nQ (p.oq.drop i)=(λz:TV×jW×Cf×Int=>a z.1 z.2.1 z.2.2.1 z.2.2.2) (pK Z b p (p.oq.drop i) (i:Int) m r):=by
  intro q
  induction q with
  | zero=>
   intro i N r m o s d;obtain⟨N,rfl⟩:=O4 N;have f:i=p.oq.length:=by omega
   subst f;rw[naN,uk];have g:(bif decide (0<P7 r) then decide ((0:Int)<len ([]:rM)) else false)=false:=by cases decide (0<P7 r)<;>rfl
   have h:(⟨r.nW,r.nA,r.ej,r.pj⟩:jW)=r:=rfl;simp only[cX,h,g,rl,pK]
  | succ q t=>
   intro i N r m o s d;obtain⟨N,rfl⟩:=O4 N;have f:i<p.oq.length:=by omega
   rw[naN,drop_cons f];have u:∀(r:jW) (e:Y),bX Z (⟨m.nQ⟩:TV) b r e=true:=λ_ _=>d;have v:ZK ((i:Int)+1)=((i+1:Nat):Int):=by rw[Ou];omega
   have h:∀r:jW,(⟨r.nW,r.nA,r.ej,r.pj⟩:jW)=r:=λ_=>rfl;have w:(⟨m.nQ⟩:TV)=m:=rfl;have x:(⟨p.nW,p.nA,p.d9,p.oq⟩:Cf)=p:=rfl;have this:=t (i+1) N (Xz Z m b r (St ⟨3,0,p.nA,zj p (J (V p.oq i) 0),0,J (V p.oq i) 0⟩)).2.1 (Xz Z m b r (St ⟨3,0,p.nA,zj p (J (V p.oq i) 0),0,J (V p.oq i) 0⟩)).1 (by omega) (by omega) (Tl (by rw[Q6];exact RG d));have y:qg (V p.oq i::p.oq.drop (i+1)) 1=p.oq.drop (i+1):=by unfold qg;rw[uz];rfl
   have A:fD (V p.oq i::p.oq.drop (i+1)) 1=true:=by simp only[fD,gF,kQ,di];omega
   have B:idx 0 (V p.oq i::p.oq.drop (i+1))=true:=by simp only[idx,gF,kQ,di];omega
   have C:inl 0 (V p.oq i::p.oq.drop (i+1))=true:=rfl;have D:Pf 8 [] (p.oq.drop (i+1))=true:=Q0 (by rw[tt];simp only[sS];omega) (by omega);have E:V (V p.oq i::p.oq.drop (i+1)) 0=V p.oq i:=rfl;have c:decide ((0:Int)<len (V p.oq i::p.oq.drop (i+1)))=true:=Tl (by simp only[len,di];omega);have F:(bif decide (0<P7 r) then true else false)=decide (0<P7 r):=by cases decide (0<P7 r)<;>rfl
   simp only[cX,h,w,x,u,v,y,E,A,B,C,D,c,F,cd,HI,pK];cases g:decide (0<P7 r)
   ·rw[nuz g];rfl
   ·simp only[HI];exact oN (K:=λz:TV×jW×Cf×Int=>a z.1 z.2.1 z.2.2.1 z.2.2.2) (λ_=>rfl) (λ_=>this)
 exact key p.oq.length 0 (p.oq.length+1) r m (by omega) (by omega) k
def nt7(a:Sx→α):α:=bif Bk true (W5 256 128 8) then a (⟨(⟨0,16,0,0⟩:jW),(jl 256 128 8).1,[],0⟩:Sx) else kW
def Y9:Sx:=⟨⟨0,16,0,0⟩,(jl 256 128 8).1,[],0⟩
theorem ngD(a:Sx→α):nt7 kW a=a Y9:=by unfold nt7;exact Bw (zL rfl) rfl
def gx(k:Int):Int:=ZK (1280+(ZK (k*1792)))
def O9(k:Int):QR:=⟨ZK (gx k+64),4,0⟩
def d_(k:Int):jW:=⟨gx k,4,0,0⟩
def hP(k:Int):Cf:=(jl (ZK (gx k+128)) 384 4).1
def cJ(k:Int)(r:jW)(a:Int):pE:=⟨r,O9 k,O9 k,⟨⟨0,0,0,0,0,0,0,0,⟨0,0,0,0,0,0,0,[]⟩⟩,0,0⟩,false,a⟩
theorem nAu(k:Int):ig (hP k)=true:=by unfold hP jl;cases mK (⟨ZK (gx k+128),384,4,[]⟩:Cf)<;>rfl
def no9(a:QP→α)(h:QP)(k:Int):α:=let e:Bool:=Bk (Bk true (idx k h.Rx)) (inl (so k) h.Rx);let b:Int:=ZK (1280+(ZK (k*1792)));let f:Int:=ZK (b+128);let g:TV:=(wD h.ei h.oa 0 b (Vu 128 0)).1;let i:jW:=(⟨b,4,0,0⟩:jW);let j:Cf:=(jl f 384 4).1;let d:TV×jW×Cf×Int:=zw h.ei g 0 i j;let c:jW:=d.2.1;let l:Int:=ZK (b+64);let m:Cf:=d.2.2.1;bif e then bif Bk true (W5 f 384 4) then bif Bk (Bk true (ie 128 0)) (au h.ei h.oa 0 b (Vu 128 0)) then bif Bk true (cE h.ei g 0 i j) then bif e then bif Bk (Bk true (idx k h.oh)) ((inl (so k) h.oh) && true) then a (⟨d.1,h.ei,h.Tx,sI h.Rx (so k) (CI (V h.Rx (so k)) 0 ([.int c.nW,.int c.nA,.int c.ej,.int c.pj,.int l,.int 4,.int 0,.int l,.int 4,.int 0,.int 0,.int 0,.int 0,.int 0,.int 0,.int 0,.int 0,.int 0,.int 0,.int 0,.int 0,.int 0,.int 0,.int 0,.int 0,.str [],.int 0,.int 0,.bool false,.int (J (V h.Rx (so k)) 29)])),sI h.oh (so k) (CI (V h.oh (so k)) 0 (Cf.enc m)),h.nL,h.n8,h.ec,h.ni,h.oI,h.oU,h.tB,h.ox,h.oV,h.d4⟩:QP) else kW else kW else kW else kW else kW else kW
def evN(h:QP)(k:Int):TV:=(wD h.ei h.oa 0 (gx k) (Vu 128 0)).1
def zT(h:QP)(k:Int):TV×jW×Cf×Int:=zw h.ei (evN h k) 0 (d_ k) (hP k)
def jz(h:QP)(k:Int):Bool:=(decide (0≤k) && (decide (k<len h.Rx) && decide (k<len h.oh))) && (Of h.ei && Of h.oa.nQ)
def QA(h:QP)(k:Int):QP:= {h with oa:=(zT h k).1,Rx:=sI h.Rx k.toNat (pE.enc (cJ k (zT h k).2.1 (J (V h.Rx k.toNat) 29))),oh:=sI h.oh k.toNat (Cf.enc (zT h k).2.2.1)}
theorem nxY(b:QP→α)(h:QP)(k:Int)(d:i_ QP.ct h.enc)(p:jz h k=true):no9 kW b h k=b (QA h k):=by
 obtain⟨D,t⟩:=jD (QP.nzL d);obtain⟨E,e⟩:=jD (QP.noc d);have n:=p;simp only[jz,gF,kQ] at n;obtain⟨⟨F,u,v⟩,w,o⟩:=n;obtain⟨c,rfl⟩:∃c:Nat,k=(c:Int):=⟨k.toNat,by omega⟩;have f:c<h.Rx.length:=by simp only[len] at u;omega
 have g:c<h.oh.length:=by simp only[len] at v;omega
 have x:=congrArg t3 (pE.eta (t _ (oA f)));have y:=congrArg t3 (Cf.eta (e _ (oA g)));have i:∀q:pE,CI (V h.Rx c) 0 (pE.enc q)=pE.enc q:=λq=>YS (x.symm.trans rfl);have j:∀q:Cf,CI (V h.oh c) 0 (Cf.enc q)=Cf.enc q:=λq=>YS (y.symm.trans rfl);have l:W5 (ZK (gx (c:Int)+128)) 384 4=true:=rfl;have z:ie 128 0=true:=rfl;have m:∀(a:Int) (s:Y),au h.ei h.oa 0 a s=true:=λa s=>by simp only[au,gF];exact⟨w,o⟩
 have A:∀r:jW,cE h.ei (evN h (c:Int)) 0 r (hP (c:Int))=true:=λr=>by simp only[cE,gF];refine⟨Tl ?_,nAu _⟩;exact tl (Nat.le_of_eq (qh _ _ _ _ _ _)) (RG o)
 have B:(Bk (Bk true (idx (c:Int) h.Rx)) (inl c h.Rx))=true:=by rw[uH f,SG f];rfl
 have C:(Bk (Bk true (idx (c:Int) h.oh)) ((inl c h.oh) && true))=true:=by rw[uH g,SG g];rfl
 unfold no9;simp only[lN];rw[B,C];simp only[HI];refine Bw (zL l) (Bw (by rw[z];exact zL (m _ _)) (Bw (zL (A _)) ?_));rw[j];exact congrArg b (congrArg (λr=>({h with oa:=(zT h (c:Int)).1,Rx:=sI h.Rx c r,oh:=sI h.oh c (Cf.enc (zT h (c:Int)).2.2.1)} :QP)) (i (cJ (c:Int) (zT h (c:Int)).2.1 (J (V h.Rx c) 29))))
def bQ(a:QP→Bool→α)(e:Int→Int→Int→Int→Int→Int→Int→Int→Int→Int→Bool→Y→Bool→Int→Int→Int→Int→Int→rM→rM→rM→rM→rM→rM→rM→rM→rM→rM→rM→rM→rM→rM→rM→rM→α)(E v F G H:Int)(I K:Bool)(h f b g i j k l m:Int)(n:Bool)(o:Y)(q:Bool)(r s t u w:Int)(c x y z A B C:rM)(D:Int→rM→α)(p:Int)(d:rM):α:=bif decide (p<38) then bif Bk true (Pf 32 d ([[.int 0,.int p,.int (ZK (37 - p)),.bool (!(nn p 2 9))]])) then D (ZK (p+1)) (d++([[.int 0,.int p,.int (ZK (37 - p)),.bool (!(nn p 2 9))]])) else kW else e 0 h f b g i j k l m n o q r s t u w c d x y [] [] [] [] z A B C [] [] [] []
def cj(a:QP→Bool→α)(N v r s t:Int)(u w:Bool)(O:Int→Int→Int→Int→Int→Int→Int→Int→Int→Int→Bool→Y→Bool→Int→Int→Int→Int→Int→rM→rM→rM→rM→rM→rM→rM→rM→rM→rM→rM→rM→rM→rM→rM→rM→α)(k P Q R S T U W X x:Int)(y:Bool)(Z:Y)(z:Bool)(tU g h i j:Int)(A B Z4 Td l m n o C Te Tf Tg D E F G:rM):α:=let H:Sx:=(⟨(⟨P,Q,R,S⟩:jW),(⟨T,U,W,Z4⟩:Cf),Td,X⟩:Sx);let I:nJ:=(⟨Te,(⟨Tf⟩:W4),(⟨Z,Tg⟩:aV)⟩:nJ);let K:SI:=(⟨tU,g,h,i,j⟩:SI);let L:QP:=(⟨(⟨A⟩:TV),B,H,l++([[.int 0,.int 0,.int 0,.int 0,.int 0,.int 0,.int 0,.int 0,.int 0,.int 0,.int 0,.int 0,.int 0,.int 0,.int 0,.int 0,.int 0,.int 0,.int 0,.int 0,.int 0,.int 0,.int 0,.int 0,.int 0,.str [],.int 0,.int 0,.bool false,.int 0]]),m++([[.int 0,.int 0,.int 0,.sl []]]),n++([[.int v,.int r,.int s,.int t,.bool u,.bool w]]),o++([[.bool false]]),(⟨x,y,C⟩:AP),I,D,z,E,F,G,K⟩:QP);let b:QP:=QA L k;let d:Sx:=b.Tx;let e:jW:=d.d5;let f:Cf:=d.nM;let p:AP:=b.ec;let q:nJ:=b.ni;let M:aV:=q.nV;let c:SI:=b.d4;bif decide (k<N) then bif Bk true (Pf 248 l ([[.int 0,.int 0,.int 0,.int 0,.int 0,.int 0,.int 0,.int 0,.int 0,.int 0,.int 0,.int 0,.int 0,.int 0,.int 0,.int 0,.int 0,.int 0,.int 0,.int 0,.int 0,.int 0,.int 0,.int 0,.int 0,.str [],.int 0,.int 0,.bool false,.int 0]])) then bif Bk true (Pf 48 m ([[.int 0,.int 0,.int 0,.sl []]])) then bif Bk true (Pf 40 n ([[.int v,.int r,.int s,.int t,.bool u,.bool w]])) then bif Bk true (Pf 1 o ([[.bool false]])) then bif Bk true (jz L k) then O (ZK (k+1)) e.nW e.nA e.ej e.pj f.nW f.nA f.d9 d.en p.N8 p.n9 M.eJ b.oU c.ek c.zN c.oB c.oZ c.qE b.oa.nQ b.ei f.oq d.nx b.Rx b.oh b.nL b.n8 p.pO q.oQ q.eb.nO M.eb b.oI b.tB b.ox b.oV else kW else kW else kW else kW else kW else a (⟨(⟨A⟩:TV),B,H,l,m,n,o,(⟨x,y,C⟩:AP),I,D,z,E,F,G,K⟩:QP) true
def wI(a:QP→Bool→α)(N:Nat)(b v c d e:Int)(f g:Bool)(h:Nat):Int→Int→Int→Int→Int→Int→Int→Int→Int→Int→Bool→Y→Bool→Int→Int→Int→Int→Int→rM→rM→rM→rM→rM→rM→rM→rM→rM→rM→rM→rM→rM→rM→rM→rM→α:=WS (λ_ _ _ _ _ _ _ _ _ _ _ _ _ _ _ _ _ _ _ _ _ _ _ _ _ _ _ _ _ _ _ _ _ _=>kW) (cj kW a b v c d e f g) h
theorem nbD(a:QP→Bool→α)(N:Nat)(b v c d e:Int)(f g:Bool)(h:Nat):wI kW a N b v c d e f g (h+1)=cj kW a b v c d e f g (wI kW a N b v c d e f g h):=rfl
def ah(a:QP→Bool→α)(N:Nat)(d v e f g:Int)(i j:Bool)(h k b l m n o p q:Int)(r:Bool)(s:Y)(t:Bool)(u w x y z:Int)(c A B C D E F:rM)(G:Nat):Int→rM→α:=WS (λ_ _=>kW) (bQ kW a (wI kW a N d v e f g i j N) d v e f g i j h k b l m n o p q r s t u w x y z c A B C D E F) G
theorem nqG(a:QP→Bool→α)(N:Nat)(d v e f g:Int)(i j:Bool)(h k b l m n o q r:Int)(s:Bool)(t:Y)(u:Bool)(w x y z A:Int)(c B C D E F G:rM)(H:Nat)(p:Int)(I:rM):ah kW a N d v e f g i j h k b l m n o q r s t u w x y z A c B C D E F G (H+1) p I=bQ kW a (wI kW a N d v e f g i j N) d v e f g i j h k b l m n o q r s t u w x y z A c B C D E F G (ah kW a N d v e f g i j h k b l m n o q r s t u w x y z A c B C D E F G H) p I:=rfl
def EC(a:QP→Bool→α)(g:Int→Int→Int→Int→Bool→Bool→Int→Int→Int→Int→Int→Int→Int→Int→Int→Bool→Y→Int→Int→Int→Int→Int→rM→rM→rM→rM→rM→rM→rM→Int→rM→α)(f:Int)(c:AP)(e:nJ)(h:Bool)(b d:Int):α:=bif bif !(nn f 1 2) then true else bif !(mG c) then true else bif !(F_ e f) then true else !((Xj b d).2) then a (⟨(⟨[]⟩:TV),[],(⟨(⟨0,0,0,0⟩:jW),(⟨0,0,0,[]⟩:Cf),[],0⟩:Sx),[],[],[],[],(⟨0,false,[]⟩:AP),(⟨[],(⟨[]⟩:W4),(⟨[],[]⟩:aV)⟩:nJ),[],false,[],[],[],(⟨0,0,0,0,0⟩:SI)⟩:QP) false else bif Bk (Bk true (C5 c)) (ai e) then g (((Xj b d).1).rp) (((Xj b d).1).sF) (((Xj b d).1).d9) (((Xj b d).1).e6) (((Xj b d).1).tv) (((Xj b d).1).u5) Y9.d5.nW Y9.d5.nA Y9.d5.ej Y9.d5.pj Y9.nM.nW Y9.nM.nA Y9.nM.d9 Y9.en ((cp c).N8) ((cp c).n9) (((cp e).nV).eJ) 0 0 0 0 0 ((C_ 38).nQ) Y9.nM.oq Y9.nx ((cp c).pO) ((cp e).oQ) (((cp e).eb).nO) (((cp e).nV).eb) 0 [] else kW
def YH(a:QP→Bool→α)(N:Nat)(g:Int)(b:AP)(j:nJ)(i:Bool)(c d:Int):α:=EC kW a (λv k l m n o h p e q r s t u w x y z A B C D f E F G H I K=>ah kW a N g v k l m n o h p e q r s t u w x y i z A B C D f E F G H I K N) g b j i c d
def na8(i:Nat):List DC:=[.int 0,.int (i:Int),.int (ZK (37 - (i:Int))),.bool (!(nn (i:Int) 2 9))]
def n7:rM:=Wc (λi o=>o++[na8 i]) 38 0 []
def R0:QP:=⟨⟨[]⟩,[],⟨⟨0,0,0,0⟩,⟨0,0,0,[]⟩,[],0⟩,[],[],[],[],⟨0,false,[]⟩,⟨[],⟨[]⟩,⟨[],[]⟩⟩,[],false,[],[],[],⟨0,0,0,0,0⟩⟩
def uE(a:AP)(b:nJ)(c:Bool):QP:=⟨C_ 38,n7,Y9,[],[],[],[],a,b,[],c,[],[],[],⟨0,0,0,0,0⟩⟩
def Ex(m:TV)(k:Int):TV×jW×Cf×Int:=zw n7 m 0 (d_ k) (hP k)
def mq:Nat→TV
 | 0=>C_ 38
 | i+1=>(Ex (mq i) (i:Int)).1
def Yc(v:Tj)(i:Nat)(h:QP):QP:= {h with oa:=(Ex h.oa (i:Int)).1,Rx:=h.Rx++[pE.enc (cJ (i:Int) (Ex h.oa (i:Int)).2.1 0)],oh:=h.oh++[Cf.enc (Ex h.oa (i:Int)).2.2.1],nL:=h.nL++[Tj.enc v],n8:=h.n8++[[.bool false]]}
def ib(e:Int)(a:AP)(d:nJ)(f:Bool)(b c:Int):Bool:=C5 a && ai d
def mJ(d:Int)(a:AP)(e:nJ)(f:Bool)(b c:Int):QP×Bool:=bif bif !(nn d 1 2) then true else bif !(mG a) then true else bif !(F_ e d) then true else !((Xj b c).2) then (R0,false) else (Wc (Yc (Xj b c).1) d.toNat 0 (uE a e f),true)
theorem nmh{a b:Bool}(h:(bif a then true else b)=false):a=false∧b=false:=by cases a<;>simp_all
theorem ntG(k:Int):(hP k).oq.length≤4:=by
 unfold hP jl;cases mK (⟨ZK (gx k+128),384,4,[]⟩:Cf)
 ·exact tI _
 ·exact tK _
theorem nll:∀i,(mq i).nQ.length=38
 | 0=>by kernel_rfl
 | i+1=>(Yn _ _ _ _ _).1.trans (nll i)
theorem nae:n7.length=38:=by kernel_rfl
def ic(a:AP)(b:nJ)(c:Bool)(i:Nat)(o:QP):Prop:=o= {uE a b c with oa:=o.oa,Rx:=o.Rx,oh:=o.oh,nL:=o.nL,n8:=o.n8} ∧o.oa=mq i∧o.Rx.length=i∧o.oh.length=i∧o.nL.length=i∧o.n8.length=i∧∀r∈o.oh,ig (Cf.nd r 0)=true
theorem nny(a:AP)(b:nJ)(c:Bool):ic a b c 0 (uE a b c):=⟨rfl,rfl,rfl,rfl,rfl,rfl,by intro r d;cases d⟩
theorem nfl{a:AP}{c:nJ}{d:Bool}(v:Tj){i:Nat}{o:QP}(n:i<2)(e:ic a c d i o):ic a c d (i+1) (Yc v i o):=by
 obtain⟨f,g,h,j,k,l,m⟩:=e;refine⟨?_, ?_, ?_, ?_, ?_, ?_, ?_⟩
 ·have this:=congrArg (λx:QP=>({x with oa:=(Yc v i o).oa,Rx:=(Yc v i o).Rx,oh:=(Yc v i o).oh,nL:=(Yc v i o).nL,n8:=(Yc v i o).n8} :QP)) f;exact this
 ·show (Ex o.oa (i:Int)).1=(Ex (mq i) (i:Int)).1;rw[g]
 ·show (o.Rx++[_]).length=_;rw[Qe,h];rfl
 ·show (o.oh++[_]).length=_;rw[Qe,j];rfl
 ·show (o.nL++[_]).length=_;rw[Qe,k];rfl
 ·show (o.n8++[_]).length=_;rw[Qe,l];rfl
 ·intro r b;have b:r∈o.oh++[Cf.enc (Ex o.oa (i:Int)).2.2.1]:=b;rcases uW.1 b with b | b
  ·exact m r b
  ·rw[u1.1 b];have p:=(Yn n7 o.oa 0 (d_ (i:Int)) (hP (i:Int))).2;have q:=ntG (i:Int);exact Tl (by show (Ex o.oa (i:Int)).2.2.1.oq.length≤_;unfold Ex;omega)
def Xp(v:Tj)(o:QP):QP:= {o with Rx:=o.Rx++[[.int 0,.int 0,.int 0,.int 0,.int 0,.int 0,.int 0,.int 0,.int 0,.int 0,.int 0,.int 0,.int 0,.int 0,.int 0,.int 0,.int 0,.int 0,.int 0,.int 0,.int 0,.int 0,.int 0,.int 0,.int 0,.str [],.int 0,.int 0,.bool false,.int 0]],oh:=o.oh++[[.int 0,.int 0,.int 0,.sl []]],nL:=o.nL++[Tj.enc v],n8:=o.n8++[[.bool false]]}
theorem nAA:(wD n7 (mq 0) 0 (gx 0) (Vu 128 0)).1=mq 0:=by kernel_rfl
theorem nsA:(wD n7 (mq 1) 0 (gx 1) (Vu 128 0)).1=mq 1:=by kernel_rfl
theorem nmV{i:Nat}(h:i<2):(wD n7 (mq i) 0 (gx (i:Int)) (Vu 128 0)).1=mq i:=by
 rcases (show i=0∨i=1 by omega) with rfl | rfl
 ·exact nAA
 ·exact nsA
theorem nua{l:rM}{i:Nat}(h:l.length=i)(x y:List DC):sI (l++[x]) i y=l++[y]:=by subst h;simp
theorem nno{l:rM}{i:Nat}(h:l.length=i)(x:List DC):V (l++[x]) i=x:=by subst h;simp[V]
theorem nkD{a:AP}{d:nJ}{e:Bool}(v:Tj){i:Nat}{o:QP}(f:i<2)(g:ic a d e i o):QA (Xp v o) (i:Int)=Yc v i o:=by
 obtain⟨h,j,c,k,q,r,s⟩:=g;have b:=congrArg QP.ei h;replace b:o.ei=n7:=b;have l:zT (Xp v o) (i:Int)=Ex o.oa (i:Int):=by show zw o.ei (wD o.ei o.oa 0 (gx (i:Int)) (Vu 128 0)).1 0 (d_ (i:Int)) (hP (i:Int))=zw n7 o.oa 0 (d_ (i:Int)) (hP (i:Int));rw[b,j,nmV f]
 unfold QA;rw[l,lN];have m:∀x,sI (Xp v o).Rx i x=o.Rx++[x]:=λx=>nua c _ x;have n:∀x,sI (Xp v o).oh i x=o.oh++[x]:=λx=>nua k _ x;have p:V (Xp v o).Rx i=[.int 0,.int 0,.int 0,.int 0,.int 0,.int 0,.int 0,.int 0,.int 0,.int 0,.int 0,.int 0,.int 0,.int 0,.int 0,.int 0,.int 0,.int 0,.int 0,.int 0,.int 0,.int 0,.int 0,.int 0,.int 0,.str [],.int 0,.int 0,.bool false,.int 0]:=nno c _;rw[m,n,p];rfl
theorem nmp{a:AP}{c:nJ}{d:Bool}(v:Tj){i:Nat}{o:QP}(h:i<2)(e:ic a c d i o):jz (Xp v o) (i:Int)=true:=by
 obtain⟨f,g,j,k,l,m,n⟩:=e;have b:=congrArg QP.ei f;replace b:o.ei=n7:=b;have p:=nll i;simp only[jz,gF,kQ];refine⟨⟨by omega, ?_, ?_⟩,Tl ?_,Tl ?_⟩
 ·show (i:Int)<len (o.Rx++[_]);simp only[len,Qe,di,sS];omega
 ·show (i:Int)<len (o.oh++[_]);simp only[len,Qe,di,sS];omega
 ·show o.ei.length≤_;rw[b,nae];omega
 ·show o.oa.nQ.length≤_;rw[g];omega
theorem noG(a:QP→Bool→α)(j:Int)(b:AP)(d:nJ)(e:Bool)(f g:Int)(q:ib j b d e f g=true):∃N,YH kW a N j b d e f g=a (mJ j b d e f g).1 (mJ j b d e f g).2:=by
 have p:=q;simp only[ib,gF] at p;obtain⟨r,s⟩:=p;refine⟨40, ?_⟩;unfold YH EC mJ;refine oN (K:=λz:QP×Bool=>a z.1 z.2) (λ_=>rfl) (λt=>?_);refine Bw (by rw[r,s];rfl) ?_;obtain⟨H,I⟩:1≤j∧j≤2:=Wx.1 (ux (nmh t).1);obtain⟨c,rfl⟩:∃c:Nat,j=(c:Int):=⟨j.toNat,by omega⟩;generalize (Xj f g).1=v;have l:wI kW a 40 (c:Int) v.rp v.sF v.d9 v.e6 v.tv v.u5 40 0 (uE b d e).Tx.d5.nW (uE b d e).Tx.d5.nA (uE b d e).Tx.d5.ej (uE b d e).Tx.d5.pj (uE b d e).Tx.nM.nW (uE b d e).Tx.nM.nA (uE b d e).Tx.nM.d9 (uE b d e).Tx.en (uE b d e).ec.N8 (uE b d e).ec.n9 (uE b d e).ni.nV.eJ (uE b d e).oU (uE b d e).d4.ek (uE b d e).d4.zN (uE b d e).d4.oB (uE b d e).d4.oZ (uE b d e).d4.qE (uE b d e).oa.nQ (uE b d e).ei (uE b d e).Tx.nM.oq (uE b d e).Tx.nx (uE b d e).Rx (uE b d e).oh (uE b d e).nL (uE b d e).n8 (uE b d e).ec.pO (uE b d e).ni.oQ (uE b d e).ni.eb.nO (uE b d e).ni.nV.eb (uE b d e).oI (uE b d e).tB (uE b d e).ox (uE b d e).oV=a (Wc (Yc v) c 0 (uE b d e)) true:=by
  refine Xb c (λn i (o:QP)=>wI kW a 40 (c:Int) v.rp v.sF v.d9 v.e6 v.tv v.u5 n i o.Tx.d5.nW o.Tx.d5.nA o.Tx.d5.ej o.Tx.d5.pj o.Tx.nM.nW o.Tx.nM.nA o.Tx.nM.d9 o.Tx.en o.ec.N8 o.ec.n9 o.ni.nV.eJ o.oU o.d4.ek o.d4.zN o.d4.oB o.d4.oZ o.d4.qE o.oa.nQ o.ei o.Tx.nM.oq o.Tx.nx o.Rx o.oh o.nL o.n8 o.ec.pO o.ni.oQ o.ni.eb.nO o.ni.nV.eb o.oI o.tB o.ox o.oV) (Yc v) (λo=>a o true) (ic b d e) ?_ ?_ ?_ 40 (uE b d e) (nny _ _ _) (by omega)
  ·intro i o k h;exact nfl v (by omega) h
  ·intro n i o k h;have u:=h;obtain⟨L,M,O,P,Q,R,S⟩:=u;have w:decide ((i:Int)<(c:Int))=true:=Tl (by omega);have y:ZK ((i:Int)+1)=(i:Int)+1:=Ou;have A:∀x:List DC,Pf 248 o.Rx [x]=true:=λx=>Q0 (by simp only[di,sS];omega) (by omega);have B:∀x:List DC,Pf 48 o.oh [x]=true:=λx=>Q0 (by simp only[di,sS];omega) (by omega);have C:∀x:List DC,Pf 40 o.nL [x]=true:=λx=>Q0 (by simp only[di,sS];omega) (by omega);have D:∀x:List DC,Pf 1 o.n8 [x]=true:=λx=>Q0 (by simp only[di,sS];omega) (by omega);show wI kW a 40 (c:Int) v.rp v.sF v.d9 v.e6 v.tv v.u5 (n+1) (i:Int) o.Tx.d5.nW o.Tx.d5.nA o.Tx.d5.ej o.Tx.d5.pj o.Tx.nM.nW o.Tx.nM.nA o.Tx.nM.d9 o.Tx.en o.ec.N8 o.ec.n9 o.ni.nV.eJ o.oU o.d4.ek o.d4.zN o.d4.oB o.d4.oZ o.d4.qE o.oa.nQ o.ei o.Tx.nM.oq o.Tx.nx o.Rx o.oh o.nL o.n8 o.ec.pO o.ni.oQ o.ni.eb.nO o.ni.nV.eb o.oI o.tB o.ox o.oV=_;rw[nbD];have E:=nmp v (by omega) h;have F:=nkD v (by omega) h;unfold cj;refine (O3 w).trans ?_;refine Bw (zL (A _)) (Bw (zL (B _)) (Bw (zL (C _)) (Bw (zL (D _)) (Bw (zL E) ?_))));rw[y];exact congrArg (λx:QP=>wI kW a 40 (c:Int) v.rp v.sF v.d9 v.e6 v.tv v.u5 n ((i:Int)+1) x.Tx.d5.nW x.Tx.d5.nA x.Tx.d5.ej x.Tx.d5.pj x.Tx.nM.nW x.Tx.nM.nA x.Tx.nM.d9 x.Tx.en x.ec.N8 x.ec.n9 x.ni.nV.eJ x.oU x.d4.ek x.d4.zN x.d4.oB x.d4.oZ x.d4.qE x.oa.nQ x.ei x.Tx.nM.oq x.Tx.nx x.Rx x.oh x.nL x.n8 x.ec.pO x.ni.oQ x.ni.eb.nO x.ni.nV.eb x.oI x.tB x.ox x.oV) F
  ·intro n o h;show wI kW a 40 (c:Int) v.rp v.sF v.d9 v.e6 v.tv v.u5 (n+1) (c:Int) o.Tx.d5.nW o.Tx.d5.nA o.Tx.d5.ej o.Tx.d5.pj o.Tx.nM.nW o.Tx.nM.nA o.Tx.nM.d9 o.Tx.en o.ec.N8 o.ec.n9 o.ni.nV.eJ o.oU o.d4.ek o.d4.zN o.d4.oB o.d4.oZ o.d4.qE o.oa.nQ o.ei o.Tx.nM.oq o.Tx.nx o.Rx o.oh o.nL o.n8 o.ec.pO o.ni.oQ o.ni.eb.nO o.ni.nV.eb o.oI o.tB o.ox o.oV=_;rw[nbD];unfold cj;refine (Ym (yF (by omega))).trans ?_;rfl
 have G:∀(i:Nat) (o:rM) (x:List DC),i<38→o.length≤i→Pf 32 o [x]=true:=λi o x T U=>Q0 (by simp only[di,sS];omega) (by omega);have m:ah kW a 40 (c:Int) v.rp v.sF v.d9 v.e6 v.tv v.u5 Y9.d5.nW Y9.d5.nA Y9.d5.ej Y9.d5.pj Y9.nM.nW Y9.nM.nA Y9.nM.d9 Y9.en b.N8 b.n9 d.nV.eJ e 0 0 0 0 0 (C_ 38).nQ Y9.nM.oq Y9.nx b.pO d.oQ d.eb.nO d.nV.eb 40 0 []=wI kW a 40 (c:Int) v.rp v.sF v.d9 v.e6 v.tv v.u5 40 0 (uE b d e).Tx.d5.nW (uE b d e).Tx.d5.nA (uE b d e).Tx.d5.ej (uE b d e).Tx.d5.pj (uE b d e).Tx.nM.nW (uE b d e).Tx.nM.nA (uE b d e).Tx.nM.d9 (uE b d e).Tx.en (uE b d e).ec.N8 (uE b d e).ec.n9 (uE b d e).ni.nV.eJ (uE b d e).oU (uE b d e).d4.ek (uE b d e).d4.zN (uE b d e).d4.oB (uE b d e).d4.oZ (uE b d e).d4.qE (uE b d e).oa.nQ (uE b d e).ei (uE b d e).Tx.nM.oq (uE b d e).Tx.nx (uE b d e).Rx (uE b d e).oh (uE b d e).nL (uE b d e).n8 (uE b d e).ec.pO (uE b d e).ni.oQ (uE b d e).ni.eb.nO (uE b d e).ni.nV.eb (uE b d e).oI (uE b d e).tB (uE b d e).ox (uE b d e).oV:=by
  refine Xb 38 (λn i o=>ah kW a 40 (c:Int) v.rp v.sF v.d9 v.e6 v.tv v.u5 Y9.d5.nW Y9.d5.nA Y9.d5.ej Y9.d5.pj Y9.nM.nW Y9.nM.nA Y9.nM.d9 Y9.en b.N8 b.n9 d.nV.eJ e 0 0 0 0 0 (C_ 38).nQ Y9.nM.oq Y9.nx b.pO d.oQ d.eb.nO d.nV.eb n i o) (λi o=>o++[na8 i]) (λo=>wI kW a 40 (c:Int) v.rp v.sF v.d9 v.e6 v.tv v.u5 40 0 ({uE b d e with ei:=o} :QP).Tx.d5.nW ({uE b d e with ei:=o} :QP).Tx.d5.nA ({uE b d e with ei:=o} :QP).Tx.d5.ej ({uE b d e with ei:=o} :QP).Tx.d5.pj ({uE b d e with ei:=o} :QP).Tx.nM.nW ({uE b d e with ei:=o} :QP).Tx.nM.nA ({uE b d e with ei:=o} :QP).Tx.nM.d9 ({uE b d e with ei:=o} :QP).Tx.en ({uE b d e with ei:=o} :QP).ec.N8 ({uE b d e with ei:=o} :QP).ec.n9 ({uE b d e with ei:=o} :QP).ni.nV.eJ ({uE b d e with ei:=o} :QP).oU ({uE b d e with ei:=o} :QP).d4.ek ({uE b d e with ei:=o} :QP).d4.zN ({uE b d e with ei:=o} :QP).d4.oB ({uE b d e with ei:=o} :QP).d4.oZ ({uE b d e with ei:=o} :QP).d4.qE ({uE b d e with ei:=o} :QP).oa.nQ ({uE b d e with ei:=o} :QP).ei ({uE b d e with ei:=o} :QP).Tx.nM.oq ({uE b d e with ei:=o} :QP).Tx.nx ({uE b d e with ei:=o} :QP).Rx ({uE b d e with ei:=o} :QP).oh ({uE b d e with ei:=o} :QP).nL ({uE b d e with ei:=o} :QP).n8 ({uE b d e with ei:=o} :QP).ec.pO ({uE b d e with ei:=o} :QP).ni.oQ ({uE b d e with ei:=o} :QP).ni.eb.nO ({uE b d e with ei:=o} :QP).ni.nV.eb ({uE b d e with ei:=o} :QP).oI ({uE b d e with ei:=o} :QP).tB ({uE b d e with ei:=o} :QP).ox ({uE b d e with ei:=o} :QP).oV) (λi o=>o.length≤i) ?_ ?_ ?_ 40 [] (by simp) (by omega)
  ·intro i o k h;simp only[Qe,di,sS];omega
  ·intro n i o k h;show ah kW a 40 (c:Int) v.rp v.sF v.d9 v.e6 v.tv v.u5 Y9.d5.nW Y9.d5.nA Y9.d5.ej Y9.d5.pj Y9.nM.nW Y9.nM.nA Y9.nM.d9 Y9.en b.N8 b.n9 d.nV.eJ e 0 0 0 0 0 (C_ 38).nQ Y9.nM.oq Y9.nx b.pO d.oQ d.eb.nO d.nV.eb (n+1) (i:Int) o=_;rw[nqG];unfold bQ;refine (O3 (Tl (by omega))).trans ?_;refine Bw (zL (G i o _ k h)) ?_;rw[Ou (n:=(i:Int)+1)];rfl
  ·intro n o h;show ah kW a 40 (c:Int) v.rp v.sF v.d9 v.e6 v.tv v.u5 Y9.d5.nW Y9.d5.nA Y9.d5.ej Y9.d5.pj Y9.nM.nW Y9.nM.nA Y9.nM.d9 Y9.en b.N8 b.n9 d.nV.eJ e 0 0 0 0 0 (C_ 38).nQ Y9.nM.oq Y9.nx b.pO d.oQ d.eb.nO d.nV.eb (n+1) 38 o=_;rw[nqG];unfold bQ;exact Ym (yF (by omega))
 exact m.trans l
structure F1 where
 sr:Int
 e8:Int
 nA:Int
 d9:Int
 nAV:Int
def F1.enc(x:F1):List DC:=[.int x.sr,.int x.e8,.int x.nA,.int x.d9,.int x.nAV]
def F1.nd(r:List DC)(o:Nat):F1:=⟨J r (o+0),J r (o+1),J r (o+2),J r (o+3),J r (o+4)⟩
def F1.ct:List CT:=[.i,.i,.i,.i,.i]
theorem F1.eta{r:List DC}(h:i_ F1.ct r):(F1.nd r 0).enc=r:=(show (F1.nd r 0).enc=nK F1.ct r 0 from by kernel_rfl).trans (DG h)
theorem F1.nX{r:List CT}{b:List DC}(h:i_ (F1.ct++r) b):∃(x:F1) (c:List DC),b=x.enc++c∧i_ F1.ct x.enc∧i_ r c:=by obtain⟨d,e,rfl,a,f⟩:=Vi h;exact⟨F1.nd d 0,e,by rw[F1.eta a],by rw[F1.eta a];exact a,f⟩
theorem F1.nxA{x:F1}(h:i_ F1.ct x.enc):Oj .i (.int x.sr):=Fh 0 h rfl rfl
theorem F1.nDY{x:F1}(h:i_ F1.ct x.enc):Oj .i (.int x.e8):=Fh 1 h rfl rfl
theorem F1.niT{x:F1}(h:i_ F1.ct x.enc):Oj .i (.int x.nA):=Fh 2 h rfl rfl
theorem F1.noa{x:F1}(h:i_ F1.ct x.enc):Oj .i (.int x.d9):=Fh 3 h rfl rfl
theorem WY{q:QR}(h:xn q=true):Uo q.nA=true∧2≤q.nA∧q.nA≤16∧0≤q.d9∧q.d9<2*q.nA∧0≤q.nW∧q.nW≤130944:=by
 unfold xn Qx at h;simp only[id] at h;cases a:nn q.nW 0 130944
 case false=>rw[a] at h;cases h
 cases b:Uo q.nA
 case false=>rw[a,b] at h;cases h
 rw[a,b] at h;have d:2≤q.nA∧q.nA≤16:=by rcases W1 b with h | h | h | h<;>omega
 rw[Ou (n:=2*q.nA),Ou (n:=2*q.nA - 1)] at h;have e:=Wx.1 (show nn q.d9 0 (2*q.nA - 1)=true from h);have c:=Wx.1 a;exact⟨rfl,by omega,by omega,by omega,by omega,c.1,c.2⟩
theorem nyZ{q:QR}(h:xn q=true):xn ⟨q.nW,q.nA,tj (ZK (q.d9+1)) (ZK (2*q.nA))⟩=true:=by
 obtain⟨a,f,g,i,j,b,c⟩:=WY h;have e:tj (ZK (q.d9+1)) (ZK (2*q.nA))=(q.d9+1) % (2*q.nA):=by rw[Ou (n:=q.d9+1),Ou (n:=2*q.nA)];exact u2 (by omega)
 have d:=ud (q.d9+1) (show 2*q.nA≠0 by omega);have k:=uq (q.d9+1) (show 0<2*q.nA by omega);rw[e];unfold xn Qx;simp only[id];rw[Ou (n:=2*q.nA),Ou (n:=2*q.nA - 1),a,show nn q.nW 0 130944=true from Wx.2 ⟨b,c⟩,show nn ((q.d9+1) % (2*q.nA)) 0 (2*q.nA - 1)=true from Wx.2 ⟨d,by omega⟩];rfl
theorem fh{q:pE}(h:iy q=true):xn q.eo=true∧xn q.eU=true∧Wi q.d5=true∧(q.uc=true→rZ q.qo.nP=true):=by
 unfold iy Q5 at h;cases a:Wi q.d5
 case false=>rw[a] at h;cases h
 cases b:xn q.eo
 case false=>rw[a,b] at h;cases h
 cases c:xn q.eU
 case false=>rw[a,b,c] at h;cases h
 refine⟨rfl,rfl,rfl,λd=>?_⟩;rw[a,b,c,d] at h;cases e:rZ q.qo.nP
 ·rw[e] at h;revert h;cases (q.eo.nW != q.eU.nW)<;>cases (q.eo.nA != q.eU.nA)<;>cases nn q.qj 0 1000000000000<;>simp
 ·rfl
def nvM(a:Bool→α)(x:F1):α:=a (bif nn x.sr 0 65535 then bif nn x.e8 0 65535 then bif nn x.nA 0 65535 then bif nn x.d9 0 65535 then nn x.nAV 0 4294967295 else false else false else false else false)
def YW(x:F1):Bool:=nvM id x
theorem nvm(a:Bool→α)(x:F1):nvM a x=a (YW x):=by rfl
def nb5(a:Y→α)(x:F1)(b:Int):α:=let c:Y:=(Ro x.sr)++(Ro x.e8);let d:Y:=c++(Ro x.nA);let e:Y:=d++(Ro x.d9);let f:Y:=e++(v7 x.nAV);bif bif !(YW x) then true else !(nn b 0 1) then a [] else bif Bk (Bk (Bk (Bk (Bk true (S_ (Ro x.sr) (Ro x.e8))) (S_ c (Ro x.nA))) (S_ d (Ro x.d9))) (S_ e (v7 x.nAV))) (S_ f (v7 b)) then a (f++(v7 b)) else kW
def Po(x:F1)(a:Int):Y:=bif bif !(YW x) then true else !(nn a 0 1) then [] else Ro x.sr++Ro x.e8++Ro x.nA++Ro x.d9++v7 x.nAV++v7 a
theorem nvT(g:Y→α)(x:F1)(h:Int):nb5 kW g x h=g (Po x h):=by have a:=Xa x.sr;have b:=Xa x.e8;have c:=Xa x.nA;have d:=Xa x.d9;have e:=Qm x.nAV;have f:=Qm h;unfold nb5 Po;refine oN (λ_=>rfl) (λi=>?_);refine Bw (by simp only[DT,S_,AK,Qe,kN,di,sS,kQ,true_and,and_true];omega) rfl
def nhy(a:SA→α)(p:oY):α:=a (⟨p.pk.eh,p.py,p.pN,p.pk.oC,p.pk.oz⟩:SA)
def sM(p:oY):SA:=nhy id p
theorem ndE(a:SA→α)(p:oY):nhy a p=a (sM p):=by rfl
def nac(a:Y→α)(f:SA):α:=let b:Y:=(v7 f.py)++(v7 f.pN);let c:Y:=b++(Ro f.oC);bif Bk (Bk (Bk true (S_ (v7 f.py) (v7 f.pN))) (S_ b (Ro f.oC))) (S_ c (Ro f.oz)) then a (c++(Ro f.oz)) else kW
def zk(f:SA):Y:=v7 f.py++v7 f.pN++Ro f.oC++Ro f.oz
theorem nxm(e:Y→α)(f:SA):nac kW e f=e (zk f):=by have a:=Qm f.py;have b:=Qm f.pN;have c:=Xa f.oC;have d:=Xa f.oz;unfold nac;refine Bw (by simp only[DT,S_,AK,Qe,kN,di,sS,kQ,true_and,and_true];omega) rfl
def uv(a:Tj→α)(v:Tj):α:=bif !(fm v) then a v else a (Ok (⟨v.rp,v.sF,kh (ZK (v.d9+1)) 1000000,v.e6,v.tv,v.u5⟩:Tj))
def Tv(v:Tj):Tj:=uv id v
theorem nlC(a:Tj→α)(v:Tj):uv a v=a (Tv v):=by exact cU rfl rfl
def nhv(a:Int→α)(s:Y)(i:Int):α:=let b:Int:=ZK (7 - (tj i 8));bif Bk (Bk true (idx (ZK (t0 i 8)) s)) (decide (0≤b)) then a (bits .and .i64 (ZK (xu .u8 (nf s (ZK (t0 i 8))) b)) 1) else kW
theorem nyg{x n:Int}(a:0≤x)(e:x<256)(f:0≤n)(n1:n≤7):xu .u8 x n=xu .i64 x n∧ZK (xu .i64 x n)=xu .i64 x n:=by
 have d:xu .u8 x n=Int.fdiv x (2 ^ n.toNat):=by unfold xu;rw[show min n.toNat IntKind.u8.bits=n.toNat from uC (by show n.toNat≤8;omega)]
 have b:xu .i64 x n=Int.fdiv x (2 ^ n.toNat):=by unfold xu;rw[show min n.toNat IntKind.i64.bits=n.toNat from uC (by show n.toNat≤64;omega)]
 refine⟨d.trans b.symm, ?_⟩;rw[b];have c:(0:Int)≤2 ^ n.toNat:=Int.pow_nonneg (by omega);rw[vm x c];exact Ou (by have:=Int.ediv_nonneg a c;omega) (by have:=Int.ediv_le_self (2 ^ n.toNat:Int) a;omega)
def eI(s:Y)(i:Int):Bool:=decide (0≤i) && decide (i<8*len s)
def tA(s:Y)(i:Int):Int:=bits .and .i64 (xu .i64 (nf s (t0 i 8)) (7 - tj i 8)) 1
theorem naM(s:Y)(i:Int):0≤tA s i∧tA s i<2:=by unfold tA;rw[show bits .and .i64 (xu .i64 (nf s (t0 i 8)) (7 - tj i 8)) 1=xu .i64 (nf s (t0 i 8)) (7 - tj i 8) % 2 from ja 1 (by decide) _];omega
theorem nqr(a:Int→α)(s:Y)(i:Int)(d:Oj .str (.str s))(b:Oj .i (.int i))(c:eI s i=true):nhv kW a s i=a (tA s i):=by
 have q:=jU d;have r:=ka b;simp only[eI,gF,kQ] at c;simp only[len] at c;have e:t0 i 8=i / 8:=Int.tdiv_eq_ediv_of_nonneg (by omega);have f:tj i 8=i % 8:=u2 (by omega);have g:=fR s (i / 8);have c0:=V0 s (i / 8);have h:ZK (i / 8)=i / 8:=Ou;have j:ZK (7 - i % 8)=7 - i % 8:=Ou;have k:ZK (nf s (i / 8))=nf s (i / 8):=Ou;obtain⟨l,m⟩:=nyg g c0 (n:=7 - i % 8) (by omega) (by omega);have o:idx (i / 8) s=true:=by simp only[idx,gF,kQ];omega
 have p:decide (0≤7 - i % 8)=true:=Tl (by omega);unfold nhv tA;simp only[e,f,h,j,k,l,m,o,p,cd,HI]
def tR(a:Int→α)(key:Y)(b:Int)(c:Int→Int→α)(n i:Int):α:=bif decide (i<ZK (b+32)) then bif Bk true (eI key i) then c (bits .or .i64 (Zl .i64 n 1) (tA key i)) (ZK (i+1)) else kW else a n
def NJ(a:Int→α)(N:Nat)(key:Y)(b:Int)(c:Nat):Int→Int→α:=WS (λ_ _=>kW) (tR kW a key b) c
theorem cj1(a:Int→α)(N:Nat)(key:Y)(b:Int)(c:Nat):NJ kW a N key b (c+1)=tR kW a key b (NJ kW a N key b c):=rfl
def DD(kW:α)(a:Int→α)(c:Int→Int→α)(key:Y)(b:Int):α:=bif bif (len key) != 16 then true else !(nn b 0 96) then a (-1) else c 0 b
def nbz(a:Int→α)(N:Nat)(key:Y)(b:Int):α:=DD kW a (NJ kW a N key b N) key b
theorem nym:∀j:Nat,j<33→(2:Int) ^ j≤4294967296:=by decide
def nzr(key:Y)(a:Int)(j:Nat)(n:Int):Int:=n*2+tA key (a+(j:Int))
def NM(key:Y)(a:Int):Int:=bif bif (len key) != 16 then true else !(nn a 0 96) then -1 else Wc (nzr key a) 32 0 0
theorem no8(a:Int→α)(key:Y)(b:Int):∃N,nbz kW a N key b=a (NM key b):=by
 unfold nbz DD NM;refine⟨33, ?_⟩;refine oN (λ_=>rfl) (λd=>?_);have f:len key=16:=by
  revert d;cases h:(len key) != 16
  ·intro _;simpa using h
  ·intro h;cases h
 have e:nn b 0 96=true:=by revert d;cases (len key) != 16<;>cases nn b 0 96<;>simp
 have e:=Wx.1 e;have key:∀(m j:Nat) (n:Int) (N:Nat),j+m=32→m<N→0≤n→n<2 ^ j→NJ kW a 33 key b N n (b+(j:Int))=a (Wc (nzr key b) m j n):=by
  intro m
  induction m with
  | zero=>
   intro j n N g i k l;obtain⟨N,rfl⟩:=O4 N;have v:(j:Int)=32:=by omega
   rw[cj1];have c:ZK (b+32)=b+32:=Ou;have o:decide (b+(j:Int)<b+32)=false:=yF (by omega);simp only[tR,c,o,rl,Wc]
  | succ m p=>
   intro j n N g i k l;obtain⟨N,rfl⟩:=O4 N;have w:=naM key (b+(j:Int));have x:=nym j (by omega);have y:=nym (j+1) (by omega);have z:(2:Int) ^ (j+1)=2 ^ j*2:=Int.pow_succ 2 j;have r:eI key (b+(j:Int))=true:=by simp only[eI,gF,kQ];omega
   have this:=p (j+1) (n*2+tA key (b+(j:Int))) N (by omega) (by omega) (by omega) (by omega);rw[cj1];have c:ZK (b+32)=b+32:=Ou;have s:ZK (b+(j:Int)+1)=b+((j+1:Nat):Int):=by rw[Ou];omega
   have t:decide (b+(j:Int)<b+32)=true:=Tl (by omega);have u:bits .or .i64 (Zl .i64 n 1) (tA key (b+(j:Int)))=n*2+tA key (b+(j:Int)):=by rw[show Zl .i64 n 1=ZK (n*2) from rfl,Ou (n:=n*2)];exact PV 1 (by omega) (by omega) (by omega) (by omega) (by omega) (by omega)
   simp only[tR,c,s,t,u,r,cd,HI];exact this
 have:=key 32 0 0 33 (by omega) (by omega) (by omega) (by decide);exact (by rw[show b+((0:Nat):Int)=b by omega] at this;exact this)
def wS(a:Int→α)(key b:Y)(c:Int→Int→α)(h i:Int):α:=bif decide (i<ZK (8*(len b))) then bif Bk true (eI b i) then c (bif (tA b i)==1 then bits .xor .i64 h (NM key i) else h) (ZK (i+1)) else kW else a h
def uT(a:Int→α)(N:Nat)(key b:Y)(c:Nat):Int→Int→α:=WS (λ_ _=>kW) (wS kW a key b) c
theorem nAe(a:Int→α)(N:Nat)(key b:Y)(c:Nat):uT kW a N key b (c+1)=wS kW a key b (uT kW a N key b c):=rfl
def TH(kW:α)(a:Int→α)(c:Int→Int→α)(key b:Y):α:=bif bif (len key) != 16 then true else decide (12<len b) then a (-1) else c 0 0
def nhf(a:Int→α)(N:Nat)(key b:Y):α:=TH kW a (uT kW a N key b N) key b
def nrB(key a:Y)(i:Nat)(h:Int):Int:=bif (tA a (i:Int))==1 then bits .xor .i64 h (NM key (i:Int)) else h
def W2(key a:Y):Int:=bif bif (len key) != 16 then true else decide (12<len a) then -1 else Wc (nrB key a) (8*a.length) 0 0
theorem nd8(a:Int→α)(key b:Y)(c:Oj .str (.str b)):∃N,nhf kW a N key b=a (W2 key b):=by
 have m:=jU c;unfold nhf TH W2;refine⟨8*b.length+1, ?_⟩;refine oN (λ_=>rfl) (λe=>?_);have f:b.length≤12:=by
  revert e;cases (len key) != 16
  ·intro h;have:=of_decide_eq_false h;simp only[len] at this;omega
  ·intro h;cases h
 have d:ZK (8*(len b))=((8*b.length:Nat):Int):=by rw[Ou (by simp only[len];omega) (by simp only[len];omega)];simp only[len];omega
 refine (Xb (8*b.length) (λn i (h:Int)=>uT kW a (8*b.length+1) key b n h i) (nrB key b) a (λ_ _=>True) (λ_ _ _ _=>trivial) ?_ ?_ (8*b.length+1) 0 trivial (by omega))
 ·intro n i h o _;show uT kW a (8*b.length+1) key b (n+1) h (i:Int)=_;rw[nAe];have g:eI b (i:Int)=true:=by simp only[eI,gF,kQ];simp only[len];omega
  have j:ZK ((i:Int)+1)=(i:Int)+1:=Ou;have k:decide ((i:Int)<((8*b.length:Nat):Int))=true:=Tl (by omega);simp only[wS,d,j,k,g,cd,HI];rfl
 ·intro n h _;show uT kW a (8*b.length+1) key b (n+1) h ((8*b.length:Nat):Int)=_;rw[nAe];have l:decide (((8*b.length:Nat):Int)<((8*b.length:Nat):Int))=false:=yF (by omega);simp only[wS,d,l,rl]
def nvB(a:Int→α)(key:Y)(f:SA):α:=a (W2 key (zk f))
def XE(key:Y)(f:SA):Int:=nvB id key f
theorem nxD(a:Int→α)(key:Y)(f:SA):nvB a key f=a (XE key f):=by rfl
def nx5(a:Int→α)(q:QR):α:=bif decide (q.d9<q.nA) then a 1 else a 0
def LX(q:QR):Int:=nx5 id q
theorem njq(a:Int→α)(q:QR):nx5 a q=a (LX q):=by exact cU rfl rfl
def nzX(a:Int→α)(q:QR):α:=bif Bk true (!(q.nA==0)) then a (ZK (q.nW+(ZK ((tj q.d9 q.nA)*16)))) else kW
def Ek(q:QR):Int:=ZK (q.nW+ZK (tj q.d9 q.nA*16))
theorem nDI(a:Int→α)(q:QR)(b:xn q=true):nzX kW a q=a (Ek q):=by
 obtain⟨d,e,f,g,h,i,j⟩:=WY b;have c:(!(q.nA==0))=true:=by simp;omega
 unfold nzX;exact Bw (zL c) rfl
def noB(a:TV→QR→Bool→α)(Z:rM)(m:TV)(b:Int)(q:QR)(x:F1):α:=let c:TV×Bool:=Y2 Z m b (Ek q) (Po x (LX q));bif bif !(xn q) then true else !(YW x) then bif Bk true (zH m) then a (cp m) q false else kW else bif Bk (Bk true (xn q)) (zm Z m b (Ek q) (Po x (LX q))) then bif !c.2 then a c.1 q false else bif Bk true (!((ZK (2*q.nA))==0)) then a c.1 (⟨q.nW,q.nA,tj (ZK (q.d9+1)) (ZK (2*q.nA))⟩:QR) true else kW else kW
def c_(Z:rM)(m:TV)(a:Int)(q:QR)(x:F1):TV×QR×Bool:=bif bif !(xn q) then true else !(YW x) then (m,q,false) else bif !(Y2 Z m a (Ek q) (Po x (LX q))).2 then (m,q,false) else ((Y2 Z m a (Ek q) (Po x (LX q))).1,⟨q.nW,q.nA,tj (ZK (q.d9+1)) (ZK (2*q.nA))⟩,true)
def qx{α β:Type}(Z:rM)(m:TV)(a:Int)(q:α)(x:β):Bool:=zH m
theorem nrZ(l:rM)(m:TV)(d:Int)(q:QR)(x:F1):(c_ l m d q x).1.nQ.length=m.nQ.length:=by
 unfold c_;cases (bif !(xn q) then true else !(YW x))
 ·cases (Y2 l m d (Ek q) (Po x (LX q))).2
  ·rfl
  ·exact qh _ _ _ _ _ _
 ·rfl
theorem nuC{l:rM}{m:TV}{d:Int}{q:QR}{x:F1}(h:xn q=true):xn (c_ l m d q x).2.1=true:=by
 unfold c_;cases (bif !(xn q) then true else !(YW x))
 ·cases (Y2 l m d (Ek q) (Po x (LX q))).2
  ·exact h
  ·exact nyZ h
 ·exact h
theorem nvI(b:TV→QR→Bool→α)(Z:rM)(m:TV)(c:Int)(q:QR)(x:F1)(f:qx Z m c q x=true):noB kW b Z m c q x=b (c_ Z m c q x).1 (c_ Z m c q x).2.1 (c_ Z m c q x).2.2:=by
 have h:zH m=true:=f;have d:∀a s,zm Z m c a s=true:=λa s=>f;unfold noB c_;dsimp only;refine oN (K:=λr:TV×QR×Bool=>b r.1 r.2.1 r.2.2) (λ_=>by rw[h];rfl) (λi=>?_);have g:xn q=true:=by revert i;cases xn q<;>simp
 obtain⟨k,l,n,o,p,t,u⟩:=WY g;have j:(!((ZK (2*q.nA))==0))=true:=by rw[Ou];simp;omega
 have v:(!(q.nA==0))=true:=by simp;omega
 refine Bw (by rw[g,d];rfl) ?_;refine oN (K:=λr:TV×QR×Bool=>b r.1 r.2.1 r.2.2) (λe=>?_) (λ_=>Bw (zL j) rfl);have e:(Y2 Z m c (Ek q) (Po x (LX q))).2=false:=by simpa using e
 rw[show (Y2 Z m c (Ek q) (Po x (LX q))).1=m from ndK e]
def pG(Z:rM)(m:TV)(b:Int)(q:pE)(a key:Y):TV×QR×Bool:=bif bif !(lS a).2 then true else bif (lS a).1.Op != 3 then true else decide ((lS a).1.e8<len (dQ q.qo.nP).1) then (m,q.eo,false) else bif !(Y2 Z m b (lS a).1.At (dQ q.qo.nP).1).2 then (m,q.eo,false) else c_ Z (Y2 Z m b (lS a).1.At (dQ q.qo.nP).1).1 b q.eo ⟨(lS a).1.sr,len (dQ q.qo.nP).1,q.qo.nA,q.qo.d9,XE key (sM q.qo.nP)⟩
def nI{α β d:Type}(Z:rM)(m:TV)(c:Int)(q:α)(a:β)(b:d):Bool:=zH m
theorem nb2(l:rM)(m:TV)(d:Int)(q:pE)(e key:Y):(pG l m d q e key).1.nQ.length=m.nQ.length:=by
 unfold pG;cases (bif !(lS e).2 then true else bif (lS e).1.Op != 3 then true else decide ((lS e).1.e8<len (dQ q.qo.nP).1))
 ·cases (Y2 l m d (lS e).1.At (dQ q.qo.nP).1).2
  ·rfl
  ·exact (nrZ _ _ _ _ _).trans (qh _ _ _ _ _ _)
 ·rfl
theorem nvd{l:rM}{m:TV}{d:Int}{q:pE}{e key:Y}(h:xn q.eo=true):xn (pG l m d q e key).2.1=true:=by
 unfold pG;cases (bif !(lS e).2 then true else bif (lS e).1.Op != 3 then true else decide ((lS e).1.e8<len (dQ q.qo.nP).1))
 ·cases (Y2 l m d (lS e).1.At (dQ q.qo.nP).1).2
  ·exact h
  ·exact nuC h
 ·exact h
def SU(Z:rM)(m:TV)(a:Int)(q:pE)(key b:Y):TV×QR×Bool:=bif !(dQ q.qo.nP).2 then (m,q.eo,false) else pG Z m a q b key
def nhN(a:TV→QR→Bool→α)(Z:rM)(m:TV)(c:Int)(q:pE)(key b:Y):α:=let e:Int:=len ((dQ q.qo.nP).1);let f:TV×Bool:=Y2 Z m c (((lS b).1).At) ((dQ q.qo.nP).1);let g:TV:=f.1;let h:F1:=(⟨((lS b).1).sr,e,q.qo.nA,q.qo.d9,XE key (sM q.qo.nP)⟩:F1);let d:TV×QR×Bool:=c_ Z g c q.eo h;bif bif !((lS b).2) then true else bif !((dQ q.qo.nP).2) then true else bif (((lS b).1).Op) != 3 then true else decide (((lS b).1).e8<e) then a m q.eo false else bif Bk true (zm Z m c (((lS b).1).At) ((dQ q.qo.nP).1)) then bif !f.2 then a m q.eo false else bif Bk true (qx Z g c q.eo h) then a d.1 d.2.1 d.2.2 else kW else kW
theorem npd(d:TV→QR→Bool→α)(Z:rM)(m:TV)(e:Int)(q:pE)(key f:Y)(g:nI Z m e q key f=true):nhN kW d Z m e q key f=d (SU Z m e q key f).1 (SU Z m e q key f).2.1 (SU Z m e q key f).2.2:=by
 have k:zH m=true:=g;have h:∀a s,zm Z m e a s=true:=λa s=>g;have i:∀a s (x:F1),qx Z (Y2 Z m e a s).1 e q.eo x=true:=λa s x=>Tl (by show (put Z m e a s true).1.nQ.length≤16777216;rw[qh];exact RG g)
 unfold nhN SU;dsimp only;have j:∀a b c:Bool,(bif a then true else bif !(dQ q.qo.nP).2 then true else bif b then true else c)=(bif !(dQ q.qo.nP).2 then true else bif a then true else bif b then true else c):=by intro a b c;cases a<;>cases (dQ q.qo.nP).2<;>rfl
 rw[j];cases (dQ q.qo.nP).2
 ·rfl
 simp only[tk,rl];unfold pG;refine oN (K:=λr:TV×QR×Bool=>d r.1 r.2.1 r.2.2) (λ_=>rfl) (λl=>?_);refine Bw (zL (h _ _)) ?_;refine oN (K:=λr:TV×QR×Bool=>d r.1 r.2.1 r.2.2) (λ_=>rfl) (λ_=>?_);exact Bw (zL (i _ _ _)) rfl
def pgm(a:TV→QR→Bool→α)(Z:rM)(m:TV)(c:Int)(q:pE)(key b:Y):α:=let e:Int:=len ((dQ q.qo.nP).1);let f:TV×Bool:=Y2 Z m c (((lS b).1).At) ((dQ q.qo.nP).1);let g:TV:=f.1;let h:F1:=(⟨((lS b).1).sr,e,q.qo.nA,q.qo.d9,XE key (sM q.qo.nP)⟩:F1);let d:TV×QR×Bool:=c_ Z g c q.eo h;bif bif !((lS b).2) then true else bif !((dQ q.qo.nP).2) then true else bif (((lS b).1).Op) != 3 then true else decide (((lS b).1).e8<e) then bif false then a m q.eo false else kW else bif Bk true (zm Z m c (((lS b).1).At) ((dQ q.qo.nP).1)) then bif !f.2 then bif false then a m q.eo false else kW else bif Bk true (qx Z g c q.eo h) then a d.1 d.2.1 d.2.2 else kW else kW
def Vj(Z:rM)(m:TV)(a:Int)(q:pE)(key b:Y):Bool:=nI Z m a q key b && (SU Z m a q key b).2.2
theorem nCR(d:TV→QR→Bool→α)(Z:rM)(m:TV)(e:Int)(q:pE)(key f:Y)(h:Vj Z m e q key f=true):pgm kW d Z m e q key f=d (SU Z m e q key f).1 (SU Z m e q key f).2.1 (SU Z m e q key f).2.2:=by
 obtain⟨h,g⟩:nI Z m e q key f=true∧(SU Z m e q key f).2.2=true:=by simpa only[Vj,gF] using h
 unfold SU pG at g;have p:zH m=true:=h;have i:∀a s,zm Z m e a s=true:=λa s=>h;have j:∀a s (x:F1),qx Z (Y2 Z m e a s).1 e q.eo x=true:=λa s x=>Tl (by show (put Z m e a s true).1.nQ.length≤16777216;rw[qh];exact RG h)
 unfold pgm SU;dsimp only;have n:∀a b c:Bool,(bif a then true else bif !(dQ q.qo.nP).2 then true else bif b then true else c)=(bif !(dQ q.qo.nP).2 then true else bif a then true else bif b then true else c):=by intro a b c;cases a<;>cases (dQ q.qo.nP).2<;>rfl
 rw[n];cases l:(dQ q.qo.nP).2
 ·rw[l] at g;cases g
 rw[l] at g;simp only[tk,rl] at g ⊢;unfold pG;refine oN (K:=λr:TV×QR×Bool=>d r.1 r.2.1 r.2.2) (λk=>?_) (λk=>?_)
 ·rw[k] at g;cases g
 rw[k,rl] at g;refine Bw (zL (i _ _)) ?_;refine oN (K:=λr:TV×QR×Bool=>d r.1 r.2.1 r.2.2) (λo=>?_) (λ_=>?_)
 ·rw[o] at g;cases g
 exact Bw (zL (j _ _ _)) rfl
def nEo(a:TV→pE→α)(Z:rM)(m:TV)(b:Int)(q:pE)(key:Y):α:=let c:Y×jW×Bool:=TZ Z m b q.d5;let d:TV×QR×Bool:=SU Z m b q key c.1;let e:jf:=(⟨(⟨0,0,0,0,0,0,0,0,(⟨0,0,0,0,0,0,0,[]⟩:ch)⟩:oY),0,0⟩:jf);let f:Int:=ZK (q.qj+q.qo.d9);bif bif !(iy q) then true else bif !q.uc then true else (len key) != 16 then bif Bk true (zH m) then a (cp m) q else kW else bif c.2.2 then bif Bk true (Vj Z m b q key c.1) then bif d.2.2 then a d.1 (⟨c.2.1,d.2.1,q.eU,e,false,q.qj⟩:pE) else bif Bk true (zH m) then a (cp m) (⟨c.2.1,q.eo,q.eU,e,false,f⟩:pE) else kW else kW else bif Bk true (zH m) then a (cp m) (⟨q.d5,q.eo,q.eU,e,false,f⟩:pE) else kW
def tZ:jf:=⟨⟨0,0,0,0,0,0,0,0,⟨0,0,0,0,0,0,0,[]⟩⟩,0,0⟩
def Xm{α β:Type}(Z:rM)(m:TV)(a:Int)(q:α)(key:β):Bool:=zH m
def OW(Z:rM)(m:TV)(a:Int)(q:pE)(key:Y):TV×pE:=bif bif !(iy q) then true else bif !q.uc then true else (len key) != 16 then (m,q) else bif bif (TZ Z m a q.d5).2.2 then (pG Z m a q (TZ Z m a q.d5).1 key).2.2 else false then ((pG Z m a q (TZ Z m a q.d5).1 key).1,⟨(TZ Z m a q.d5).2.1,(pG Z m a q (TZ Z m a q.d5).1 key).2.1,q.eU,tZ,false,q.qj⟩) else (m,⟨(TZ Z m a q.d5).2.1,q.eo,q.eU,tZ,false,ZK (q.qj+q.qo.d9)⟩)
theorem nkj(l:rM)(m:TV)(d:Int)(q:pE)(key:Y):(OW l m d q key).1.nQ.length=m.nQ.length:=by
 unfold OW;cases (bif !(iy q) then true else bif !q.uc then true else (len key) != 16)
 ·cases (bif (TZ l m d q.d5).2.2 then (pG l m d q (TZ l m d q.d5).1 key).2.2 else false)
  ·rfl
  ·exact nb2 _ _ _ _ _ _
 ·rfl
theorem ZL{l:rM}{m:TV}{d:Int}{q:pE}{key:Y}(h:xn q.eo=true):xn (OW l m d q key).2.eo=true:=by
 unfold OW;cases (bif !(iy q) then true else bif !q.uc then true else (len key) != 16)
 ·cases (bif (TZ l m d q.d5).2.2 then (pG l m d q (TZ l m d q.d5).1 key).2.2 else false)
  ·exact h
  ·exact nvd h
 ·exact h
def Zp(Z:rM)(m:TV)(a:Int)(q:pE)(key:Y):Bool:=bif bif !(iy q) then true else bif !q.uc then true else (len key) != 16 then true else bif (TZ Z m a q.d5).2.2 then (SU Z m a q key (TZ Z m a q.d5).1).2.2 else true
def TF(Z:rM)(m:TV)(a:Int)(q:pE)(key:Y):Bool:=Xm Z m a q key && Zp Z m a q key
def UH(Z:rM)(m:TV)(a:Int)(q:pE)(key:Y):Bool:=Xm Z m a q key && !(Zp Z m a q key)
theorem nnn(a:TV→pE→α)(Z:rM)(m:TV)(b:Int)(q:pE)(key:Y)(c:TF Z m b q key=true):nEo kW a Z m b q key=a (OW Z m b q key).1 (OW Z m b q key).2:=by
 obtain⟨c,d⟩:Xm Z m b q key=true∧Zp Z m b q key=true:=by simpa only[TF,gF] using c
 have i:zH m=true:=c;have t:∀e:Y,nI Z m b q key e=true:=λe=>c;have l:∀e:Y,nI Z m b q e key=true:=λe=>c;unfold nEo OW;dsimp only;refine oN (K:=λr:TV×pE=>a r.1 r.2) (λ_=>Bw (zL i) rfl) (λf=>?_);have n:(dQ q.qo.nP).2=true:=by
  rw[aJ];have o:iy q=true:=by revert f;cases iy q<;>simp
  have p:q.uc=true:=by revert f;cases iy q<;>cases q.uc<;>simp
  exact (fh o).2.2.2 p
 have j:∀e,SU Z m b q key e=pG Z m b q e key:=λe=>by unfold SU;rw[n];rfl
 have g:(TZ Z m b q.d5).2.2=false→(TZ Z m b q.d5).2.1=q.d5:=by
  unfold TZ;cases (bif !(Wi q.d5) then true else (UU q.d5)==0)
  ·cases (vV Z m b (bn q.d5 q.d5.ej) 16).2
   ·intro _;rfl
   ·intro h;cases h
  ·intro _;rfl
 unfold Zp at d;rw[f,rl] at d;cases k:(TZ Z m b q.d5).2.2
 ·rw[g k];simp only[rl];exact Bw (zL i) rfl
 ·rw[k,HI] at d;have s:Vj Z m b q key (TZ Z m b q.d5).1=true:=by simp only[Vj,gF];exact⟨c,d⟩
  rw[j] at d;simp only[HI,s,j,d,cd];rfl
def nr6(a:TV→pE→α)(Z:rM)(m:TV)(b:Int)(q:pE)(key:Y):α:=let c:Y×jW×Bool:=TZ Z m b q.d5;let d:TV×QR×Bool:=SU Z m b q key c.1;let e:jf:=(⟨(⟨0,0,0,0,0,0,0,0,(⟨0,0,0,0,0,0,0,[]⟩:ch)⟩:oY),0,0⟩:jf);let f:Int:=ZK (q.qj+q.qo.d9);bif bif !(iy q) then true else bif !q.uc then true else (len key) != 16 then bif Bk true (zH m) then a (cp m) q else kW else bif c.2.2 then bif Bk true (nI Z m b q key c.1) then bif d.2.2 then bif false then a d.1 (⟨c.2.1,d.2.1,q.eU,e,false,q.qj⟩:pE) else kW else bif Bk true (zH m) then a (cp m) (⟨c.2.1,q.eo,q.eU,e,false,f⟩:pE) else kW else kW else bif Bk true (zH m) then a (cp m) (⟨q.d5,q.eo,q.eU,e,false,f⟩:pE) else kW
theorem nhz(a:TV→pE→α)(Z:rM)(m:TV)(b:Int)(q:pE)(key:Y)(d:UH Z m b q key=true):nr6 kW a Z m b q key=a (OW Z m b q key).1 (OW Z m b q key).2:=by
 obtain⟨d,c⟩:Xm Z m b q key=true∧(!(Zp Z m b q key))=true:=by simpa only[UH,gF] using d
 have g:zH m=true:=d;have k:∀e:Y,nI Z m b q key e=true:=λe=>d;have l:∀e:Y,nI Z m b q e key=true:=λe=>d;unfold nr6 OW;dsimp only;refine oN (K:=λr:TV×pE=>a r.1 r.2) (λ_=>Bw (zL g) rfl) (λf=>?_);have n:(dQ q.qo.nP).2=true:=by
  rw[aJ];have o:iy q=true:=by revert f;cases iy q<;>simp
  have p:q.uc=true:=by revert f;cases iy q<;>cases q.uc<;>simp
  exact (fh o).2.2.2 p
 have i:∀e,SU Z m b q key e=pG Z m b q e key:=λe=>by unfold SU;rw[n];rfl
 have s:(TZ Z m b q.d5).2.2=false→(TZ Z m b q.d5).2.1=q.d5:=by
  unfold TZ;cases (bif !(Wi q.d5) then true else (UU q.d5)==0)
  ·cases (vV Z m b (bn q.d5 q.d5.ej) 16).2
   ·intro _;rfl
   ·intro h;cases h
  ·intro _;rfl
 have c:Zp Z m b q key=false:=by simpa using c
 unfold Zp at c;rw[f,rl] at c;cases j:(TZ Z m b q.d5).2.2
 ·rw[j] at c;cases c
 ·rw[j,HI,i] at c;simp only[HI,k,i,c,cd,rl];exact Bw g rfl
def F5(a:QP→α)(k c d e f g h i j l:Int)(m:Bool)(o:Y)(p:Bool)(q r s t u:Int)(v w x y z A B C D E F G H I K:rM)(L:Int→rM→α)(n:Int)(b:rM):α:=bif decide (0<n) then bif Bk (Bk (Bk (Bk true (idx k b)) (inl (so k) b)) (idx k b)) (inl (so k) b) then L (ZK (n - 1)) (sI b (so k) (CI (V b (so k)) 0 (Tj.enc (Tv (Tj.nd (V b (so k)) 0))))) else kW else a (⟨(⟨v⟩:TV),w,(⟨(⟨c,d,e,f⟩:jW),(⟨g,h,i,x⟩:Cf),y,j⟩:Sx),z,A,b,B,(⟨l,m,C⟩:AP),(⟨D,(⟨E⟩:W4),(⟨o,F⟩:aV)⟩:nJ),G,p,H,I,K,(⟨q,r,s,t,u⟩:SI)⟩:QP)
def Bn(a:QP→α)(N:Nat)(k b c d e f g h i j:Int)(l:Bool)(m:Y)(n:Bool)(o p q r s:Int)(t u v w x y z A B C D E F G H:rM)(I:Nat):Int→rM→α:=WS (λ_ _=>kW) (F5 kW a k b c d e f g h i j l m n o p q r s t u v w x y z A B C D E F G H) I
theorem nwP(a:QP→α)(N:Nat)(k b c d e f g h i j:Int)(l:Bool)(m:Y)(n:Bool)(o p q r s:Int)(t u v w x y z A B C D E F G H:rM)(I:Nat):Bn kW a N k b c d e f g h i j l m n o p q r s t u v w x y z A B C D E F G H (I+1)=F5 kW a k b c d e f g h i j l m n o p q r s t u v w x y z A B C D E F G H (Bn kW a N k b c d e f g h i j l m n o p q r s t u v w x y z A B C D E F G H I):=rfl
def mN(a:QP→α)(e:Int→Int→Int→Int→Int→Int→Int→Int→Int→Bool→Y→Bool→Int→Int→Int→Int→Int→rM→rM→rM→rM→rM→rM→rM→rM→rM→rM→rM→rM→rM→rM→rM→Int→rM→α)(h:QP)(k b:Int):α:=let c:Int:=ZK ((J (V h.Rx (so k)) 6) - b);let d:Int:=ZK (2*(J (V h.Rx (so k)) 5));bif Bk (Bk true (idx k h.Rx)) (inl (so k) h.Rx) then bif Bk true (DZ c d) then e h.Tx.d5.nW h.Tx.d5.nA h.Tx.d5.ej h.Tx.d5.pj h.Tx.nM.nW h.Tx.nM.nA h.Tx.nM.d9 h.Tx.en h.ec.N8 h.ec.n9 h.ni.nV.eJ h.oU h.d4.ek h.d4.zN h.d4.oB h.d4.oZ h.d4.qE h.oa.nQ h.ei h.Tx.nM.oq h.Tx.nx h.Rx h.oh h.n8 h.ec.pO h.ni.oQ h.ni.eb.nO h.ni.nV.eb h.oI h.tB h.ox h.oV (NU c d) h.nL else kW else kW
def nkB(a:QP→α)(N:Nat)(h:QP)(k b:Int):α:=mN kW a (λc d e f g i j l m n o p q r s t u v w x y z A B C D E F G H I K=>Bn kW a N k c d e f g i j l m n o p q r s t u v w x y z A B C D E F G H I K N) h k b
def HC(r:List DC):List DC:=Tj.enc (Tv (Tj.nd r 0))
def cq(h:QP)(k:Int):QR:=(pE.nd (V h.Rx k.toNat) 0).eo
def Wf(h:QP)(k a:Int):Nat:=(((cq h k).d9 - a) % (2*(cq h k).nA)).toNat
def lJ(h:QP)(k a:Int):Bool:=decide (0≤k) && (decide (k<len h.Rx) && (decide (k<len h.nL) && (xn (cq h k) && nn a 0 31)))
def mL(h:QP)(k a:Int):QP:= {h with nL:=Wc (λ_ v=>sI v k.toNat (HC (V v k.toNat))) (Wf h k a) 0 h.nL}
theorem nlp(a:QP→α)(h:QP)(k b:Int)(f:i_ QP.ct h.enc)(l:lJ h k b=true):∃N,nkB kW a N h k b=a (mL h k b):=by
 have s:=(jD (QP.nmg f)).2;simp only[lJ,gF,kQ] at l;obtain⟨P,t,u,w,y⟩:=l;obtain⟨c,rfl⟩:∃c:Nat,k=(c:Int):=⟨k.toNat,by omega⟩;have o:c<h.Rx.length:=by simp only[len] at t;omega
 have z:c<h.nL.length:=by simp only[len] at u;omega
 obtain⟨Q,R,S,T,U,W,X⟩:=WY w;have Z:=Wx.1 y;have g:J (V h.Rx c) 5=(cq h (c:Int)).nA:=rfl;have j:J (V h.Rx c) 6=(cq h (c:Int)).d9:=rfl;have n0:=ud ((cq h (c:Int)).d9 - b) (show 2*(cq h (c:Int)).nA≠0 by omega);have n1:=uq ((cq h (c:Int)).d9 - b) (show 0<2*(cq h (c:Int)).nA by omega);have A:((cq h (c:Int)).d9 - b) % (2*(cq h (c:Int)).nA)=((Wf h (c:Int) b:Nat):Int):=by unfold Wf;omega
 have hN:Wf h (c:Int) b≤32:=by unfold Wf;omega
 have B:ZK ((cq h (c:Int)).d9 - b)=(cq h (c:Int)).d9 - b:=Ou;have C:ZK (2*(cq h (c:Int)).nA)=2*(cq h (c:Int)).nA:=Ou;unfold nkB mN mL;refine⟨40, ?_⟩;simp only[g,j,lN,uH o,SG o,cd,HI];rw[B,C];obtain⟨D,E⟩:=vP (x:=(cq h (c:Int)).d9 - b) (n:=2*(cq h (c:Int)).nA) (by omega) (by omega) (by omega) (by omega);simp only[D,E,A,cd,HI];have key:∀(m:Nat) (i:Nat) (v:rM) (N:Nat),m<N→i+m=Wf h (c:Int) b→v.length=h.nL.length→(∃x:Tj,V v c=x.enc)→
   Bn kW a 40 (c:Int) h.Tx.d5.nW h.Tx.d5.nA h.Tx.d5.ej h.Tx.d5.pj h.Tx.nM.nW h.Tx.nM.nA h.Tx.nM.d9 h.Tx.en h.ec.N8 h.ec.n9 h.ni.nV.eJ h.oU h.d4.ek h.d4.zN h.d4.oB h.d4.oZ h.d4.qE h.oa.nQ h.ei h.Tx.nM.oq h.Tx.nx h.Rx h.oh h.n8 h.ec.pO h.ni.oQ h.ni.eb.nO h.ni.nV.eb h.oI h.tB h.ox h.oV N ((m:Nat):Int) v=a {h with nL:=Wc (λ_ v=>sI v c (HC (V v c))) m i v} :=by
  intro m
  induction m with
  | zero=>
   intro i v N F G p r;obtain⟨N,rfl⟩:=O4 N;rw[nwP];have H:decide ((0:Int)<((0:Nat):Int))=false:=yF (by omega);simp only[F5,H,rl,Wc]
  | succ m I=>
   intro i v N F G p r;obtain⟨N,rfl⟩:=O4 N;rw[nwP];have d:c<v.length:=by omega
   have K:decide ((0:Int)<((m+1:Nat):Int))=true:=Tl (by omega);have e:(Tj.nd (V v c) 0).enc=V v c:=by obtain⟨x,L⟩:=r;rw[L];rfl
   have M:CI (V v c) 0 (Tj.enc (Tv (Tj.nd (V v c) 0)))=HC (V v c):=YS (by rw[←e];rfl);have this:=I (i+1) (sI v c (HC (V v c))) N (by omega) (by omega) (by rw[t5];exact p) ⟨Tv (Tj.nd (V v c) 0),Y4 d _⟩;have O:ZK (((m+1:Nat):Int) - 1)=((m:Nat):Int):=by rw[Ou];omega
   simp only[F5,K,O,M,lN,uH d,SG d,cd,HI];exact this
 have:=key (Wf h (c:Int) b) 0 h.nL 40 (by omega) (by omega) rfl ⟨Tj.nd (V h.nL c) 0,(Tj.eta (s _ (oA z))).symm⟩;exact this
theorem Uk{a b:Bool}(h:(bif a then true else b)=false):a=false∧b=false:=by cases a<;>simp_all
theorem Zd{h:QP}(c:sN h=true):1≤h.Rx.length∧h.Rx.length≤2∧h.oh.length=h.Rx.length∧h.nL.length=h.Rx.length∧h.n8.length=h.Rx.length∧
  ∀i,i<h.Rx.length→iy (pE.nd (V h.Rx i) 0)=true∧mK (Cf.nd (V h.oh i) 0)=true∧fm (Tj.nd (V h.nL i) 0)=true:=by
 unfold sN at c;cases a:X5 h
 case true=>rw[a] at c;cases c
 rw[a,rl] at c;cases g:F_ h.ni (len h.Rx)
 case false=>rw[g] at c;cases c
 rw[g,HI] at c;cases j:ZO (λi=>bif !(iy (pE.nd (V h.Rx i) 0)) then true else bif !(mK (Cf.nd (V h.oh i) 0)) then true else !(fm (Tj.nd (V h.nL i) 0))) h.Rx.length 0
 case true=>rw[j] at c;cases c
 unfold X5 at a;obtain⟨_,a⟩:=Uk a;obtain⟨_,a⟩:=Uk a;obtain⟨_,a⟩:=Uk a;obtain⟨_,a⟩:=Uk a;obtain⟨b,a⟩:=Uk a;obtain⟨d,a⟩:=Uk a;obtain⟨e,f⟩:=Uk a;have b:=Wx.1 (ux b);have d:len h.oh=len h.Rx:=by simpa using d
 have e:len h.nL=len h.Rx:=by simpa using e
 have f:len h.n8=len h.Rx:=by simpa using f
 simp only[len] at b d e f;refine⟨by omega,by omega,by omega,by omega,by omega,λi n=>?_⟩;have:=Ud.1 j i (by omega) (by omega);obtain⟨k,this⟩:=Uk this;obtain⟨l,m⟩:=Uk this;exact⟨ux k,ux l,ux m⟩
def Nl(a:QP→α)(x:Int)(l:rM)(F:Int→Int→Int→Int→Int→Int→Int→Int→Int→Int→Bool→Y→Bool→Int→Int→Int→Int→Int→rM→rM→rM→rM→rM→rM→rM→rM→rM→rM→rM→rM→rM→rM→rM→rM→α)(b G H I K L M N O o:Int)(p:Bool)(g:Y)(q:Bool)(P Q R S T:Int)(h e U W d r s t u X Z qc v w y z:rM):α:=let A:Sx:=(⟨(⟨G,H,I,K⟩:jW),(⟨L,M,N,U⟩:Cf),W,O⟩:Sx);let B:nJ:=(⟨X,(⟨Z⟩:W4),(⟨g,qc⟩:aV)⟩:nJ);let C:SI:=(⟨P,Q,R,S,T⟩:SI);let D:QP:=(⟨(OW e (⟨h⟩:TV) 0 (pE.nd (V d (so b)) 0) g).1,e,A,sI d (so b) (CI (V d (so b)) 0 (pE.enc ((OW e (⟨h⟩:TV) 0 (pE.nd (V d (so b)) 0) g).2))),r,s,t,(⟨o,p,u⟩:AP),B,v,q,w,y,z,C⟩:QP);let c:QP:=mL D b (J (V l (so b)) 6);let i:Sx:=c.Tx;let j:jW:=i.d5;let k:Cf:=i.nM;let m:AP:=c.ec;let n:nJ:=c.ni;let E:aV:=n.nV;let f:SI:=c.d4;bif decide (b<x) then bif Bk (Bk (Bk (Bk (Bk true (idx b d)) (inl (so b) d)) (Xm e (⟨h⟩:TV) 0 (pE.nd (V d (so b)) 0) g)) (idx b d)) (inl (so b) d) then bif Bk (Bk true (idx b l)) (lJ D b (J (V l (so b)) 6)) then F (ZK (b+1)) j.nW j.nA j.ej j.pj k.nW k.nA k.d9 i.en m.N8 m.n9 E.eJ c.oU f.ek f.zN f.oB f.oZ f.qE c.oa.nQ c.ei k.oq i.nx c.Rx c.oh c.nL c.n8 m.pO n.oQ n.eb.nO E.eb c.oI c.tB c.ox c.oV else kW else kW else a (⟨(⟨h⟩:TV),e,A,d,r,s,t,(⟨o,p,u⟩:AP),B,v,q,w,y,z,C⟩:QP)
def aq(a:QP→α)(N:Nat)(x:Int)(b:rM)(c:Nat):Int→Int→Int→Int→Int→Int→Int→Int→Int→Int→Bool→Y→Bool→Int→Int→Int→Int→Int→rM→rM→rM→rM→rM→rM→rM→rM→rM→rM→rM→rM→rM→rM→rM→rM→α:=WS (λ_ _ _ _ _ _ _ _ _ _ _ _ _ _ _ _ _ _ _ _ _ _ _ _ _ _ _ _ _ _ _ _ _ _=>kW) (Nl kW a x b) c
theorem nzj(a:QP→α)(N:Nat)(x:Int)(b:rM)(c:Nat):aq kW a N x b (c+1)=Nl kW a x b (aq kW a N x b c):=rfl
def J3(a:QP→α)(b:Int→rM→Int→Int→Int→Int→Int→Int→Int→Int→Int→Int→Bool→Y→Bool→Int→Int→Int→Int→Int→rM→rM→rM→rM→rM→rM→rM→rM→rM→rM→rM→rM→rM→rM→rM→rM→α)(h:QP):α:=bif Bk true (eW h) then bif Bk true (jV h) then bif !(sN h) then a (cp h) else b (len ((cp h).Rx)) h.Rx 0 ((((cp h).Tx).d5).nW) ((((cp h).Tx).d5).nA) ((((cp h).Tx).d5).ej) ((((cp h).Tx).d5).pj) ((((cp h).Tx).nM).nW) ((((cp h).Tx).nM).nA) ((((cp h).Tx).nM).d9) (((cp h).Tx).en) (((cp h).ec).N8) (((cp h).ec).n9) ((((cp h).ni).nV).eJ) ((cp h).oU) (((cp h).d4).ek) (((cp h).d4).zN) (((cp h).d4).oB) (((cp h).d4).oZ) (((cp h).d4).qE) (((cp h).oa).nQ) ((cp h).ei) ((((cp h).Tx).nM).oq) (((cp h).Tx).nx) ((cp h).Rx) ((cp h).oh) ((cp h).nL) ((cp h).n8) (((cp h).ec).pO) (((cp h).ni).oQ) ((((cp h).ni).eb).nO) ((((cp h).ni).nV).eb) ((cp h).oI) ((cp h).tB) ((cp h).ox) ((cp h).oV) else kW else kW
def Bf(a:QP→α)(N:Nat)(h:QP):α:=J3 kW a (λx b=>aq kW a N x b N) h
def jm(h o:QP)(i:Nat):TV×pE:=OW h.ei o.oa 0 (pE.nd (V h.Rx i) 0) h.ni.nV.eJ
def xY(h o:QP)(i:Nat):QP:= {o with oa:=(jm h o i).1,Rx:=sI o.Rx i (pE.enc (jm h o i).2)}
def eG(h:QP)(i:Nat)(o:QP):QP:=mL (xY h o i) (i:Int) (J (V h.Rx i) 6)
def gA(h:QP):Bool:=eW h && jV h
def NL(h:QP):QP:=bif sN h then Wc (eG h) h.Rx.length 0 h else h
def Up(h:QP)(i:Nat)(o:QP):Prop:=o= {h with oa:=o.oa,Rx:=o.Rx,nL:=o.nL} ∧o.oa.nQ.length=h.oa.nQ.length∧o.Rx.length=h.Rx.length∧o.nL.length=h.nL.length∧∀j,i≤j→V o.Rx j=V h.Rx j
theorem nm7(c:Nat):∀(m i:Nat) (v:rM),(Wc (λ_ v=>sI v c (HC (V v c))) m i v).length=v.length
 | 0,_,_=>rfl
 | m+1,i,v=>(nm7 c m (i+1) _).trans (t5 ..)
theorem nxU{l:rM}{i j:Nat}(h:i≠j)(x:List DC):V (sI l i x) j=V l j:=by simp only[V,tL,vp h]
theorem tY{h o:QP}{i:Nat}(a:Up h i o):Up h (i+1) (eG h i o):=by
 obtain⟨b,c,d,e,f⟩:=a;refine⟨?_, ?_, ?_, ?_, ?_⟩
 ·have this:=congrArg (λx:QP=>({x with oa:=(eG h i o).oa,Rx:=(eG h i o).Rx,nL:=(eG h i o).nL} :QP)) b;exact this
 ·exact (nkj _ _ _ _ _).trans c
 ·exact (t5 ..).trans d
 ·exact (nm7 _ _ _ _).trans e
 ·intro j g;exact (nxU (by omega) _).trans (f j (by omega))
theorem nj5{h o:QP}{i:Nat}(b:sN h=true)(c:i<h.Rx.length)(d:Up h i o):lJ (xY h o i) (i:Int) (J (V h.Rx i) 6)=true:=by
 obtain⟨_,n2,j,k,l,e⟩:=Zd b;obtain⟨m,n,p,q,r⟩:=d;have a:=(fh (e i c).1).1;obtain⟨s,t,u,f,v,w,x⟩:=WY a;have g:cq (xY h o i) (i:Int)=(jm h o i).2.eo:=by show (pE.nd (V (sI o.Rx i (pE.enc (jm h o i).2)) (so (i:Int))) 0).eo=_;rw[lN,Y4 (by omega)];rfl
 simp only[lJ,gF,kQ];refine⟨by omega, ?_, ?_, ?_, ?_⟩
 ·show (i:Int)<len (sI o.Rx i _);simp only[len,t5];omega
 ·show (i:Int)<len o.nL;simp only[len];omega
 ·rw[g];exact ZL a
 ·exact Wx.2 ⟨f,by show (pE.nd (V h.Rx i) 0).eo.d9≤31;omega⟩
theorem nrT{h:QP} :∃i,Up h i (NL h):=by
 unfold NL;cases sN h
 ·exact⟨0,rfl,rfl,rfl,rfl,λ_ _=>rfl⟩
 ·have:∀(m i:Nat) (o:QP),Up h i o→Up h (i+m) (Wc (eG h) m i o):=by
   intro m
   induction m with
   | zero=>intro i o a;exact a
   | succ m b=>intro i o a;have:=b (i+1) _ (tY a);rw[show i+(m+1)=i+1+m by omega];exact this
  exact⟨_,this h.Rx.length 0 h ⟨rfl,rfl,rfl,rfl,λ_ _=>rfl⟩⟩
theorem nnD(a:QP→α)(h:QP)(f:i_ QP.ct h.enc)(v:gA h=true):∃N,Bf kW a N h=a (NL h):=by
 obtain⟨w,y⟩:=jD (QP.nzL f);have p:(eW h && jV h)=true:=v;simp only[gF] at p;obtain⟨s,b⟩:=p;have s':=s;simp only[eW,gF] at s';have G:=RG s'.1;have b':jV (⟨(⟨h.oa.nQ⟩:TV),h.ei,(⟨(⟨h.Tx.d5.nW,h.Tx.d5.nA,h.Tx.d5.ej,h.Tx.d5.pj⟩:jW),(⟨h.Tx.nM.nW,h.Tx.nM.nA,h.Tx.nM.d9,h.Tx.nM.oq⟩:Cf),h.Tx.nx,h.Tx.en⟩:Sx),h.Rx,h.oh,h.nL,h.n8,(⟨h.ec.N8,h.ec.n9,h.ec.pO⟩:AP),(⟨h.ni.oQ,(⟨h.ni.eb.nO⟩:W4),(⟨h.ni.nV.eJ,h.ni.nV.eb⟩:aV)⟩:nJ),h.oI,h.oU,h.tB,h.ox,h.oV,(⟨h.d4.ek,h.d4.zN,h.d4.oB,h.d4.oZ,h.d4.qE⟩:SI)⟩:QP)=true:=b;refine⟨h.Rx.length+1, ?_⟩;unfold Bf J3 NL;simp only[s,b,cp,cd,HI];cases g:sN h
 ·rfl
 ·have H:sN (⟨(⟨h.oa.nQ⟩:TV),h.ei,(⟨(⟨h.Tx.d5.nW,h.Tx.d5.nA,h.Tx.d5.ej,h.Tx.d5.pj⟩:jW),(⟨h.Tx.nM.nW,h.Tx.nM.nA,h.Tx.nM.d9,h.Tx.nM.oq⟩:Cf),h.Tx.nx,h.Tx.en⟩:Sx),h.Rx,h.oh,h.nL,h.n8,(⟨h.ec.N8,h.ec.n9,h.ec.pO⟩:AP),(⟨h.ni.oQ,(⟨h.ni.eb.nO⟩:W4),(⟨h.ni.nV.eJ,h.ni.nV.eb⟩:aV)⟩:nJ),h.oI,h.oU,h.tB,h.ox,h.oV,(⟨h.d4.ek,h.d4.zN,h.d4.oB,h.d4.oZ,h.d4.qE⟩:SI)⟩:QP)=true:=g;obtain⟨_,n2,I,K,L,M⟩:=Zd g;have key:aq kW a (h.Rx.length+1) (len h.Rx) h.Rx (h.Rx.length+1) 0 h.Tx.d5.nW h.Tx.d5.nA h.Tx.d5.ej h.Tx.d5.pj h.Tx.nM.nW h.Tx.nM.nA h.Tx.nM.d9 h.Tx.en h.ec.N8 h.ec.n9 h.ni.nV.eJ h.oU h.d4.ek h.d4.zN h.d4.oB h.d4.oZ h.d4.qE h.oa.nQ h.ei h.Tx.nM.oq h.Tx.nx h.Rx h.oh h.nL h.n8 h.ec.pO h.ni.oQ h.ni.eb.nO h.ni.nV.eb h.oI h.tB h.ox h.oV=a (Wc (eG h) h.Rx.length 0 h):=by
   refine Xb h.Rx.length (λn i (o:QP)=>aq kW a (h.Rx.length+1) (len h.Rx) h.Rx n i o.Tx.d5.nW o.Tx.d5.nA o.Tx.d5.ej o.Tx.d5.pj o.Tx.nM.nW o.Tx.nM.nA o.Tx.nM.d9 o.Tx.en o.ec.N8 o.ec.n9 o.ni.nV.eJ o.oU o.d4.ek o.d4.zN o.d4.oB o.d4.oZ o.d4.qE o.oa.nQ o.ei o.Tx.nM.oq o.Tx.nx o.Rx o.oh o.nL o.n8 o.ec.pO o.ni.oQ o.ni.eb.nO o.ni.nV.eb o.oI o.tB o.ox o.oV) (eG h) (λo=>a o) (Up h) ?_ ?_ ?_ (h.Rx.length+1) h ⟨rfl,rfl,rfl,rfl,λ_ _=>rfl⟩ (by omega)
   ·intro i o c d;exact tY d
   ·intro n i o c d;have z:lJ (⟨(jm h o i).1,o.ei,(⟨(⟨o.Tx.d5.nW,o.Tx.d5.nA,o.Tx.d5.ej,o.Tx.d5.pj⟩:jW),(⟨o.Tx.nM.nW,o.Tx.nM.nA,o.Tx.nM.d9,o.Tx.nM.oq⟩:Cf),o.Tx.nx,o.Tx.en⟩:Sx),sI o.Rx i (pE.enc (jm h o i).2),o.oh,o.nL,o.n8,(⟨o.ec.N8,o.ec.n9,o.ec.pO⟩:AP),(⟨o.ni.oQ,(⟨o.ni.eb.nO⟩:W4),(⟨o.ni.nV.eJ,o.ni.nV.eb⟩:aV)⟩:nJ),o.oI,o.oU,o.tB,o.ox,o.oV,(⟨o.d4.ek,o.d4.zN,o.d4.oB,o.d4.oZ,o.d4.qE⟩:SI)⟩:QP) (i:Int) (J (V h.Rx i) 6)=true:=nj5 g c d;obtain⟨r,O,P,Q,A⟩:=d;have j:=congrArg QP.ei r;have k:=congrArg (λx:QP=>x.ni.nV.eJ) r;replace j:o.ei=h.ei:=j;replace k:o.ni.nV.eJ=h.ni.nV.eJ:=k;have t:V o.Rx i=V h.Rx i:=A i (tK _);show aq kW a (h.Rx.length+1) (len h.Rx) h.Rx (n+1) (i:Int) o.Tx.d5.nW o.Tx.d5.nA o.Tx.d5.ej o.Tx.d5.pj o.Tx.nM.nW o.Tx.nM.nA o.Tx.nM.d9 o.Tx.en o.ec.N8 o.ec.n9 o.ni.nV.eJ o.oU o.d4.ek o.d4.zN o.d4.oB o.d4.oZ o.d4.qE o.oa.nQ o.ei o.Tx.nM.oq o.Tx.nx o.Rx o.oh o.nL o.n8 o.ec.pO o.ni.oQ o.ni.eb.nO o.ni.nV.eb o.oI o.tB o.ox o.oV=_;rw[nzj];have e:=congrArg t3 (pE.eta (y _ (oA c)));have u:∀q:pE,CI (V h.Rx i) 0 (pE.enc q)=pE.enc q:=λq=>YS (e.symm.trans rfl);have B:∀q:pE,CI (V o.Rx i) 0 (pE.enc q)=pE.enc q:=λq=>by rw[t];exact u q
    have C:idx (i:Int) o.Rx=true:=uH (by omega);have D:inl i o.Rx=true:=SG (by omega);have E:zH (⟨o.oa.nQ⟩:TV)=true:=Tl (by show o.oa.nQ.length≤_;omega);have m:∀(l:rM) (q:pE) (key:Y),Xm l (⟨o.oa.nQ⟩:TV) 0 q key=true:=λ_ _ _=>E;have F:OW o.ei (⟨o.oa.nQ⟩:TV) 0 (pE.nd (V h.Rx i) 0) o.ni.nV.eJ=jm h o i:=by rw[j,k];rfl
    simp only[Nl,lN,t,F,u,T9 c,uH c,C,D,m,z,Q8 c w,cd,TK,HI];rfl
   ·intro n o d;show aq kW a (h.Rx.length+1) (len h.Rx) h.Rx (n+1) (h.Rx.length:Int) o.Tx.d5.nW o.Tx.d5.nA o.Tx.d5.ej o.Tx.d5.pj o.Tx.nM.nW o.Tx.nM.nA o.Tx.nM.d9 o.Tx.en o.ec.N8 o.ec.n9 o.ni.nV.eJ o.oU o.d4.ek o.d4.zN o.d4.oB o.d4.oZ o.d4.qE o.oa.nQ o.ei o.Tx.nM.oq o.Tx.nx o.Rx o.oh o.nL o.n8 o.ec.pO o.ni.oQ o.ni.eb.nO o.ni.nV.eb o.oI o.tB o.ox o.oV=_;rw[nzj];simp only[Nl,hO,b',cd,CC,HI,rl]
  exact key
theorem nL3{t part:Y}{a j:Int}(b:t.length≤9223372036854775807)(e:0≤j)(h:j<a):nf (iU t a part) j=nf t j:=by
 unfold iU;cases c:WU t a (len part)
 ·rfl
 ·have d:=(within_iff b).1 c;simp only[len] at d;simp only[tk,rl,nf,tL];rw[uj,List.getElem?_append_left (by rw[tr];omega),vq (by omega)]
def zh(s t:Y):Prop:=s.length=t.length∧∀j:Int,0≤j→j<24→nf s j=nf t j
theorem V8{s t:Y}(h:zh s t){a:Int}(b:0≤a)(d:a<23):tC s a=tC t a:=by
 have c:len s=len t:=by simp only[len,h.1]
 unfold tC WU aI;rw[c,h.2 a b (by omega),h.2 (a+1) (by omega) (by omega)]
theorem ngI{s t:Y}(h:zh s t){a:Int}(b:0≤a)(d:a<21):N5 s a=N5 t a:=by
 have c:len s=len t:=by simp only[len,h.1]
 unfold N5;rw[c,h.2 a b (by omega),h.2 (a+1) (by omega) (by omega),h.2 (a+2) (by omega) (by omega),h.2 (a+3) (by omega) (by omega)]
theorem nc0{e f:Ps}(a:e.W0=f.W0)(b:e.e7=f.e7)(c:e.rX=f.rX)(d:e.PC=f.PC)(g:e.ed.length=f.ed.length):tf e=tf f:=by unfold tf fy;simp only[len,a,b,c,d,g]
theorem nfN{s t:Y}(h:zh s t):(xV s).2=(xV t).2:=by
 have c:tf (Y1 s)=tf (Y1 t):=by
  have b:=V8 h (a:=12) (by omega) (by omega);refine nc0 ?_ ?_ ?_ ?_ ?_
  ·simp only[Y1,V8 h (a:=0) (by omega) (by omega),ngI h (a:=2) (by omega) (by omega)]
  ·simp only[Y1,V8 h (a:=6) (by omega) (by omega),ngI h (a:=8) (by omega) (by omega)]
  ·simp only[Y1,b,V8 h (a:=14) (by omega) (by omega)]
  ·simp only[Y1,b,V8 h (a:=16) (by omega) (by omega)]
  ·simp only[Y1,E3,b,tt,h.1]
 have d:len s=len t:=by simp only[len,h.1]
 unfold xV;rw[d,c];cases decide (len t<18)<;>cases !(tf (Y1 t))<;>rfl
theorem nff{s:Y}(h:((uN s).2 != 0)=false):(xV s).2=true∧rZ (uN s).1=true:=by
 unfold uN X1 at h ⊢;cases a:(xV s).2
 ·rw[a] at h;cases h
 rw[a] at h;refine⟨rfl, ?_⟩;revert h;simp only[tk,rl];cases ((xV s).1.PC != 2048)
 case true=>intro h;cases h
 cases (Xn (xV s).1.ed).2
 case false=>intro h;cases h
 generalize NZ (Xn (xV s).1.ed).1.e7 (Xn (xV s).1.ed).1.W0 (Xn (xV s).1.ed).1.nqh (Xn (xV s).1.ed).1.ed=g;cases g.2
 case false=>intro h;cases h
 simp only[tk,rl];generalize c:(⟨(xV s).1.W0,(xV s).1.e7,(xV s).1.rX,(Xn (xV s).1.ed).1.S9,(Xn (xV s).1.ed).1.Id,(Xn (xV s).1.ed).1.Ta,(Xn (xV s).1.ed).1.e7,(Xn (xV s).1.ed).1.W0,g.1⟩:oY)=p;cases b:rZ p
 case false=>intro h;cases h
 intro _;exact b
def Ov(t:Y):Int:=tC t (E3 t+2)
def me(t:Y):Int:=nf t (E3 t+9)
def XC(t:Y):Int:=E3 t+10
def Um(t:Y):Int:=E3 t+20+wj (me t)
def cR(t:Y):Bool:=decide (E3 t+46≤len t) && (decide (22+wj (me t)≤Ov t) && decide (Ov t≤len t - E3 t))
def mS(t:Y):Y:=Fl t (E3 t) (E3 t+20)
def Vx(t:Y):Y:=(aO (N5 t (E3 t+12)) (N5 t (E3 t+16)) (me t) (Ov t - 20)).1++Fl t (E3 t+20) (E3 t+Ov t)
def SX(t:Y):Int:=bif bif (rf (Vx t))==0 then me t==17 else false then 65535 else rf (Vx t)
def Uf(t:Y):Y:=iU (iU t (XC t) (Ro (rf (mS t)))) (Um t) (Ro (SX t))
def wW(t:Y):Bool:=bif (uN (Uf t)).2 != 0 then true else !((B0 (uN (Uf t)).1).1==t)
def ij(t:Y):Y×Bool:=bif !(cR t) then ([],false) else bif wW t then ([],false) else dQ (uN (Uf t)).1
theorem KI(k:Int):wj k=6∨wj k=16:=by rw[RF];cases k==6<;>simp
theorem np0{t:Y}(c:t.length≤4294967296)(h:((uN (Uf t)).2 != 0)=false):(xV t).2=true:=by
 rw[←nfN (s:=Uf t) ?_]
 ·exact (nff h).1
 have d:=SQ t;have e:=KI (me t);have b:(iU t (XC t) (Ro (rf (mS t)))).length=t.length:=TA (by omega);refine⟨by unfold Uf;rw[TA (by omega),b],λj a f=>?_⟩;unfold Uf;rw[nL3 (by omega) a (by unfold Um;omega),nL3 (by omega) a (by unfold XC;omega)]
theorem nCr{t:Y}(j:t.length≤4294967296)(h:cR t=true):(aO (N5 t (E3 t+12)) (N5 t (E3 t+16)) (me t) (Ov t - 20)).2=true∧(Vx t).length≤100000∧(mS t).length≤20:=by
 have k:=SQ t;simp only[cR,gF,kQ] at h;obtain⟨l,m,n⟩:=h;have o:=KI (me t);have b:=vF t (E3 t+2);have c:=xk t (E3 t+12);have d:=xk t (E3 t+16);have e:=xt (s:=t) (a:=E3 t+12) (by omega) (by omega);have f:=xt (s:=t) (a:=E3 t+16) (by omega) (by omega);have g:=fR t (E3 t+9);have i:=V0 t (E3 t+9);have r1':Ov t≤65535:=b.2;have k0':0≤me t:=g;have k1':me t<256:=i;refine⟨?_, ?_, ?_⟩
 ·unfold aO;rw[show nn (N5 t (E3 t+12)) 0 4294967295=true from Wx.2 ⟨e,c.2⟩,show nn (N5 t (E3 t+16)) 0 4294967295=true from Wx.2 ⟨f,d.2⟩,show nn (me t) 0 255=true from Wx.2 ⟨k0',by omega⟩,show nn (Ov t - 20) 0 65535=true from Wx.2 ⟨by omega,by omega⟩];rfl
 ·have:=CS (N5 t (E3 t+12)) (N5 t (E3 t+16)) (me t) (Ov t - 20);simp only[Vx,Qe,Fl,tt,tr];omega
 ·simp only[mS,Fl,tt,tr];omega
def ns4(a:Y→Bool→α)(t:Y):α:=let f:Int:=tC (((xV t).1).ed) 2;let g:Int:=ZK (nf (((xV t).1).ed) 9);let h:Y:=Fl (((xV t).1).ed) 20 f;let i:Int:=len h;let j:Y×Bool:=aO (N5 (((xV t).1).ed) 12) (N5 (((xV t).1).ed) 16) g i;let k:Y:=j.1;let l:Y:=k++h;let m:Y:=Xg (((xV t).1).ed) 20;let n:Y:=Ro (rf m);let o:Y:=iU t ((ue t).1) n;let p:Int:=rf l;let q:Y:=Ro (bif bif g==17 then p==0 else false then 65535 else p);let b:oY×Int:=uN (iU o ((ue t).2) q);let c:oY:=b.1;let d:Y×Bool:=B0 c;let e:Y×Bool:=dQ c;bif bif !((xV t).2) then true else bif decide (f<20) then true else decide (len (((xV t).1).ed)<f) then a [] false else bif Bk true (XA (((xV t).1).ed) 20 f) then bif Bk true (idx 9 (((xV t).1).ed)) then bif bif !j.2 then true else decide (i<ZK ((wj g)+2)) then a [] false else bif Bk (Bk true (S_ k h)) (AK l) then bif Bk (Bk (Bk (Bk true (Oo (((xV t).1).ed) 20)) (AK m)) (Ei t ((ue t).1) n)) (Ei o ((ue t).2) q) then bif bif b.2 != 0 then true else bif !d.2 then true else !(d.1==t) then a [] false else a e.1 e.2 else kW else kW else kW else kW
theorem nk3(b:Y→Bool→α)(t:Y)(I:AK t=true):ns4 kW b t=b (ij t).1 (ij t).2:=by
 have C:t.length≤4294967296:=of_decide_eq_true I;have K:len t≤4294967296:=by simp only[len];omega
 have ha:=SQ t;unfold ns4 ij;dsimp only;cases d:(xV t).2
 ·have L:(bif !(cR t) then (([],false):Y×Bool) else bif wW t then ([],false) else dQ (uN (Uf t)).1)=([],false):=by
   cases cR t
   ·rfl
   ·cases g:wW t
    ·have:=np0 C (show ((uN (Uf t)).2 != 0)=false by
      unfold wW at g;cases h:((uN (Uf t)).2 != 0)
      ·rfl
      ·rw[h] at g;cases g)
     rw[d] at this;cases this
    ·rfl
  rw[L];rfl
 have l:(xV t).1=Y1 t∧tf (Y1 t)=true∧18≤len t:=by
  unfold xV at d ⊢;by_cases e:len t<18
  ·rw[Tl e] at d;cases d
  rw[yF e] at d ⊢;cases l:tf (Y1 t)
  ·rw[l] at d;cases d
  ·exact⟨rfl,rfl,by omega⟩
 obtain⟨M,N,e3⟩:=l;have D:(Y1 t).ed=t.drop (E3 t).toNat:=rfl;have O:(t.drop (E3 t).toNat).length=t.length - (E3 t).toNat:=tt;have P:46≤t.length - (E3 t).toNat:=by have:=hfI N;rw[D,O] at this;exact this
 have Q:len (t.drop (E3 t).toNat)=len t - E3 t:=by simp only[len];omega
 have m:E3 t+46≤len t:=by simp only[len];omega
 have c:∀j:Int,0≤j→nf (t.drop (E3 t).toNat) j=nf t (E3 t+j):=by
  intro j E;simp only[nf,tL,List.getElem?_drop]
  congr 4
  omega
 have n:tC (t.drop (E3 t).toNat) 2=Ov t:=by rw[nbg (by omega) (by omega) (by omega),c 2 (by omega),c (2+1) (by omega)];unfold Ov;rw[nbg (by omega) (by omega) (by omega)];rw[Int.add_assoc]
 have f:∀j:Int,0≤j→j+4≤46→N5 (t.drop (E3 t).toNat) j=N5 t (E3 t+j):=by intro j E h1;unfold N5;rw[c j E,c (j+1) (by omega),c (j+2) (by omega),c (j+3) (by omega)];rw[yF (show ¬j<0 by omega),yF (show ¬E3 t+j<0 by omega),yF (show ¬len (t.drop (E3 t).toNat)<j+4 by omega),yF (show ¬len t<E3 t+j+4 by omega)];simp only[rl,Int.add_assoc]
 have R:ZK (nf (t.drop (E3 t).toNat) 9)=me t:=by rw[c 9 (by omega)];have F:=fR t (E3 t+9);have S:=V0 t (E3 t+9);exact Ou
 have T:Fl (t.drop (E3 t).toNat) 20 (Ov t)=Fl t (E3 t+20) (E3 t+Ov t):=by
  by_cases g:0≤Ov t
  ·simp only[Fl];rw[List.take_drop,List.drop_drop]
   congr 2<;>omega
  ·have i:=vF t (E3 t+2);have U:Ov t= -1:=by have: -1≤Ov t:=i.1;omega
   rw[U];simp only[Fl];rw[show so (-1)=0 by rfl,List.take_zero,List.drop_nil,uB (by rw[tr];omega)]
 have W:Xg (t.drop (E3 t).toNat) 20=mS t:=by
  simp only[Xg,mS,Fl,t_];rw[List.take_drop]
  congr 2;omega
 have sp:ue t=(XC t,Um t):=by unfold ue;rw[Tl (show E3 t+9<len t by omega)];rfl
 simp only[M,D,n,R,T,W,sp,Q,f 12 (by omega) (by omega),f 16 (by omega) (by omega),tk];have hq:=KI (me t);have i:=vF t (E3 t+2);have r1':Ov t≤65535∧ -1≤Ov t:=⟨i.2,i.1⟩;have X:ZK (wj (me t)+2)=wj (me t)+2:=Ou;have o:ij t=bif !(cR t) then ([],false) else bif wW t then ([],false) else dQ (uN (Uf t)).1:=rfl;rw[←o,X,rl];have p:cR t=false→ij t=([],false):=λh=>by rw[o,h];rfl
 by_cases q:Ov t<20
 ·rw[Tl q,p (by unfold cR;rw[yF (show ¬22+wj (me t)≤Ov t by omega)];cases decide (E3 t+46≤len t)<;>rfl)];rfl
 by_cases k:len t - E3 t<Ov t
 ·rw[yF q,Tl k,p (by unfold cR;rw[yF (show ¬Ov t≤len t - E3 t by omega)];cases decide (E3 t+46≤len t)<;>cases decide (22+wj (me t)≤Ov t)<;>rfl)];rfl
 rw[yF q,yF k];simp only[rl];have lT:t.length=(len t).toNat:=by simp only[len];omega
 have Z:XA (t.drop (E3 t).toNat) 20 (Ov t)=true:=by simp only[len] at k;simp only[XA,gF,kQ];omega
 have g2:idx 9 (t.drop (E3 t).toNat)=true:=by simp only[idx,gF,kQ];omega
 refine Bw (zL Z) (Bw (zL g2) ?_);have lg:len (Fl t (E3 t+20) (E3 t+Ov t))=Ov t - 20:=by simp only[len] at k ⊢;simp only[Fl,tt,tr];omega
 have r:(aO (N5 t (E3 t+12)) (N5 t (E3 t+16)) (me t) (Ov t - 20)).2=true:=by have r2:=xk t (E3 t+12);have r3:=xk t (E3 t+16);have p2:=xt (s:=t) (a:=E3 t+12) (by omega) (by omega);have p3:=xt (s:=t) (a:=E3 t+16) (by omega) (by omega);have F:0≤me t:=fR t (E3 t+9);have S:me t<256:=V0 t (E3 t+9);unfold aO;rw[show nn (N5 t (E3 t+12)) 0 4294967295=true from Wx.2 ⟨p2,r2.2⟩,show nn (N5 t (E3 t+16)) 0 4294967295=true from Wx.2 ⟨p3,r3.2⟩,show nn (me t) 0 255=true from Wx.2 ⟨F,by omega⟩,show nn (Ov t - 20) 0 65535=true from Wx.2 ⟨by omega,by omega⟩];rfl
 rw[lg,r];simp only[tk,rl];by_cases G:Ov t - 20<wj (me t)+2
 ·rw[Tl G,p (by unfold cR;rw[yF (show ¬22+wj (me t)≤Ov t by omega)];cases decide (E3 t+46≤len t)<;>rfl)];rfl
 rw[yF G,rl];have H:cR t=true:=by unfold cR;rw[Tl m,Tl (show 22+wj (me t)≤Ov t by omega),Tl (show Ov t≤len t - E3 t by omega)];rfl
 obtain⟨f1,f2,f3⟩:=nCr C H;have g3:AK (mS t)=true:=Tl (by omega);have g4:AK (Vx t)=true:=Tl (by omega);have g5:S_ (aO (N5 t (E3 t+12)) (N5 t (E3 t+16)) (me t) (Ov t - 20)).1 (Fl t (E3 t+20) (E3 t+Ov t))=true:=by refine gh ?_;rw[←Qe];exact tl f2 (by omega)
 have g6:∀v,Ei t (XC t) (Ro v)=true:=λv=>by have:=Xa v;simp only[Ei,gF,kQ];omega
 have g7:∀v u,Ei (iU t (XC t) (Ro u)) (Um t) (Ro v)=true:=λv u=>by have:=Xa v;simp only[Ei,gF,kQ];rw[TA (by omega)];omega
 have g8:Oo (t.drop (E3 t).toNat) 20=true:=by simp only[Oo,gF,kQ];omega
 refine Bw (by rw[g5];exact zL g4) ?_;refine Bw (by rw[g6,g7,g8,g3];rfl) ?_;have hY:(bif bif me t==17 then (rf (Vx t))==0 else false then 65535 else rf (Vx t))=SX t:=by unfold SX;cases me t==17<;>cases (rf (Vx t))==0<;>rfl
 have w:∀(x y z:Bool) (B:Y×Bool),(x=false→y=true)→(bif bif x then true else bif !y then true else !z then b [] false else b B.1 B.2)=(λz:Y×Bool=>b z.1 z.2) (bif !true then ([],false) else bif (bif x then true else !z) then ([],false) else B):=by
  intro x y z B h;cases x
  ·rw[h rfl];cases z<;>rfl
  ·rfl
 have hZ:ij t=bif !true then ([],false) else bif (bif (uN (Uf t)).2 != 0 then true else !((B0 (uN (Uf t)).1).1==t)) then ([],false) else dQ (uN (Uf t)).1:=by rw[o,H];rfl
 rw[hZ];have A:iU (iU t (XC t) (Ro (rf (mS t)))) (Um t) (Ro (bif bif me t==17 then (rf (Vx t))==0 else false then 65535 else rf (Vx t)))=Uf t:=by rw[hY];rfl
 refine Eq.trans ?_ (w ((uN (Uf t)).2 != 0) (B0 (uN (Uf t)).1).2 ((B0 (uN (Uf t)).1).1==t) _ (λh=>by rw[nib];exact (nff h).2));rw[←A];rfl
def nhx(a:jW→rM→Int→α)(Z:rM)(m:TV)(b:Int)(r:jW):α:=let c:rM×Int×Int×Bool:=DF ((V7 Z m b r).1);let d:Y×Bool:=Wz Z m b c.1;let e:Y:=d.1;let f:Y×Bool:=ij e;let g:oY×Int:=uN f.1;bif bif !(Wi r) then true else (UU r)==0 then a r [] 0 else bif !((V7 Z m b r).2.2) then a ((V7 Z m b r).2.1) [] 2 else bif Bk true (dV ((V7 Z m b r).1)) then bif !c.2.2.2 then a ((V7 Z m b r).2.1) [] 2 else bif !d.2 then a ((V7 Z m b r).2.1) [] 2 else bif Bk true (AK e) then bif !f.2 then a ((V7 Z m b r).2.1) [] 2 else bif g.2 != 0 then a ((V7 Z m b r).2.1) [] 2 else a ((V7 Z m b r).2.1) (Ui g.1 c.2.1) 1 else kW else kW
def OB(T:rM×jW×Bool)(P:rM×Int×Int×Bool)(G F:Y×Bool)(I:oY×Int):jW×rM×Int:=bif T.2.2 && (P.2.2.2 && (G.2 && (F.2 && !(I.2 != 0)))) then (T.2.1,Ui I.1 P.2.1,1) else (T.2.1,[],2)
def l7(Z:rM)(m:TV)(a:Int)(r:jW):jW×rM×Int:=bif bif !(Wi r) then true else (UU r)==0 then (r,[],0) else OB (V7 Z m a r) (DF (V7 Z m a r).1) (Wz Z m a (DF (V7 Z m a r).1).1) (ij (Wz Z m a (DF (V7 Z m a r).1).1).1) (uN (ij (Wz Z m a (DF (V7 Z m a r).1).1).1).1)
theorem nq_(T:rM×jW×Bool)(P:rM×Int×Int×Bool)(G F:Y×Bool)(I:oY×Int):(OB T P G F I).1=T.2.1∧(OB T P G F I).2.1.length≤330∧((OB T P G F I).2.2=1∨(OB T P G F I).2.2=2):=by
 unfold OB;cases (T.2.2 && (P.2.2.2 && (G.2 && (F.2 && !(I.2 != 0)))))
 ·exact⟨rfl,tI _,.inr rfl⟩
 ·exact⟨rfl,nlZ _ _,.inl rfl⟩
theorem nqK(a:jW→rM→Int→α)(Z:rM)(m:TV)(b:Int)(r:jW)(f:i_ TV.ct m.enc):nhx kW a Z m b r=a (l7 Z m b r).1 (l7 Z m b r).2.1 (l7 Z m b r).2.2:=by
 have g:=TV.O1 f;unfold nhx l7;dsimp only;refine oN (K:=λz:jW×rM×Int=>a z.1 z.2.1 z.2.2) (λ_=>rfl) (λh=>?_);have e:Wi r=true∧UU r≠0:=by revert h;cases Wi r<;>simp
 obtain⟨k,n,o⟩:=nru (l:=Z) (m:=m) (d:=b) e.1 e.2;have i:dV (V7 Z m b r).1=true:=Tl (by omega);have j:=nra (l:=Z) (d:=b) (pieces:=(DF (V7 Z m b r).1).1) g;have c:AK (Wz Z m b (DF (V7 Z m b r).1).1).1=true:=Tl (by omega);generalize V7 Z m b r=T at*;generalize DF T.1=P at*;generalize Wz Z m b P.1=G at*;rw[i,c];generalize ij G.1=F at*;generalize uN F.1=I at*;unfold OB;cases T.2.2<;>cases P.2.2.2<;>cases G.2<;>cases F.2<;>cases I.2 != 0<;>rfl
def vg(a:jW→rM→Int→Int→α)(Z:rM)(c:Int)(h:rM)(i:fN α)(b e j k l m:Int)(f:rM):α:=let d:jW×rM×Int:=l7 Z (⟨h⟩:TV) c (⟨j,k,l,m⟩:jW);let g:Bool:=d.2.2==1;bif d.2.2==0 then a d.1 f b e else bif Bk true (Pf 16 f d.2.1) then i (bif g then ZK (b+1) else b) (bif g then e else ZK (e+1)) d.1.nW d.1.nA d.1.ej d.1.pj (f++d.2.1) else kW
def TW(a:jW→rM→Int→Int→α)(N:Nat)(Z:rM)(b:Int)(c:rM)(d:Nat):fN α:=WS (λ_ _ _ _ _ _ _=>kW) (vg kW a Z b c) d
theorem nbQ(a:jW→rM→Int→Int→α)(N:Nat)(Z:rM)(b:Int)(c:rM)(d:Nat):TW kW a N Z b c (d+1)=vg kW a Z b c (TW kW a N Z b c d):=rfl
def Sr(kW:α)(a:jW→rM→Int→Int→α)(c:rM→Int→Int→Int→Int→Int→Int→rM→α)(Z:rM)(m:TV)(b:Int)(r:jW):α:=c m.nQ 0 0 r.nW r.nA r.ej r.pj []
def nh4(a:jW→rM→Int→Int→α)(N:Nat)(Z:rM)(m:TV)(b:Int)(r:jW):α:=Sr kW a (λc=>TW kW a N Z b c N) Z m b r
theorem S0{l:rM}{m:TV}{d:Int}(x:jW):(l7 l m d x).2.1.length≤330∧((l7 l m d x).2.2=0→(l7 l m d x).1=x)∧
  ((l7 l m d x).2.2≠0→Wi x=true∧Wi (l7 l m d x).1=true∧UU (l7 l m d x).1<UU x):=by
 unfold l7;cases f:(bif !(Wi x) then true else (UU x)==0)
 ·have b:Wi x=true∧UU x≠0:=by revert f;cases Wi x<;>simp
  simp only[rl];have c:=nru (l:=l) (m:=m) (d:=d) b.1 b.2;have a:=nq_ (V7 l m d x) (DF (V7 l m d x).1) (Wz l m d (DF (V7 l m d x).1).1) (ij (Wz l m d (DF (V7 l m d x).1).1).1) (uN (ij (Wz l m d (DF (V7 l m d x).1).1).1).1);refine⟨a.2.1,λh=>?_,λ_=>⟨b.1, ?_, ?_⟩⟩
  ·rcases a.2.2 with e | e<;>rw[e] at h<;>cases h
  ·rw[a.1];exact c.1
  ·rw[a.1];exact c.2.1
 ·exact⟨tI _,λ_=>rfl,λh=>absurd rfl h⟩
def Gf(Z:rM)(m:TV)(a:Int):Nat→jW→rM→Int→Int→jW×rM×Int×Int
 | 0,r,o,dn,bd=>(r,o,dn,bd)
 | n+1,r,o,dn,bd=>bif (l7 Z m a r).2.2==0 then (r,o,dn,bd)
  else Gf Z m a n (l7 Z m a r).1 (o++(l7 Z m a r).2.1) (bif (l7 Z m a r).2.2==1 then ZK (dn+1) else dn) (bif (l7 Z m a r).2.2==1 then bd else ZK (bd+1))
def xI(Z:rM)(m:TV)(a:Int)(r:jW):jW×rM×Int×Int:=Gf Z m a 40 r [] 0 0
theorem nCi{l:rM}{m:TV}{d:Int} :∀(n:Nat) (x:jW) (o:rM) (a b:Int),(Gf l m d n x o a b).2.1.length≤o.length+n*330
 | 0,_,_,_,_=>by simp[Gf]
 | n+1,x,o,a,b=>by
  unfold Gf;have h:=(S0 (l:=l) (m:=m) (d:=d) x).1;have c:=nCi (l:=l) (m:=m) (d:=d) n (l7 l m d x).1 (o++(l7 l m d x).2.1) (bif (l7 l m d x).2.2==1 then ZK (a+1) else a) (bif (l7 l m d x).2.2==1 then b else ZK (b+1));rw[Qe] at c;cases (l7 l m d x).2.2==0
  ·simp only[rl];omega
  ·simp only[HI];omega
theorem np6(l:rM)(m:TV)(d:Int)(x:jW):(xI l m d x).2.1.length≤13200:=by have:=nCi (l:=l) (m:=m) (d:=d) 40 x [] 0 0;simp only[sS] at this;exact tl this (by omega)
theorem nwU(a:jW→rM→Int→Int→α)(Z:rM)(m:TV)(b:Int)(r:jW):∃N,nh4 kW a N Z m b r=a (xI Z m b r).1 (xI Z m b r).2.1 (xI Z m b r).2.2.1 (xI Z m b r).2.2.2:=by
 unfold nh4 Sr xI;refine⟨40, ?_⟩;have key:∀(n:Nat) (x:jW) (o:rM) (c e:Int) (N:Nat),(Wi x=true→UU x<n)→0<n→n≤N→o.length+n*330≤20000→n≤40→
   TW kW a 40 Z b m.nQ N c e x.nW x.nA x.ej x.pj o=(λz:jW×rM×Int×Int=>a z.1 z.2.1 z.2.2.1 z.2.2.2) (Gf Z m b n x o c e):=by
  intro n
  induction n with
  | zero=>intro x o c e N f j;omega
  | succ n k=>
   intro x o c e N f j I L M;obtain⟨N,rfl⟩:=O4 N;rw[nbQ];have p:(⟨x.nW,x.nA,x.ej,x.pj⟩:jW)=x:=rfl;have s:(⟨m.nQ⟩:TV)=m:=rfl;obtain⟨O,t,u⟩:=S0 (l:=Z) (m:=m) (d:=b) x;have v:Pf 16 o (l7 Z m b x).2.1=true:=Q0 (by omega) (by omega);simp only[vg,Gf,p,s,v,cd,HI];refine oN (K:=λz:jW×rM×Int×Int=>a z.1 z.2.1 z.2.2.1 z.2.2.2) (λg=>by rw[t (beq_iff_eq.1 g)]) (λg=>?_);obtain⟨w,y,P⟩:=u (beq_eq_false_iff_ne.1 g);have f:=f w;have Q:0≤UU (l7 Z m b x).1:=by obtain⟨A,i,B,C,D,E,F,G,H⟩:=cB y;rw[i];exact ud _ (by omega)
   exact k _ _ _ _ N (λ_=>by omega) (by omega) (by omega) (by rw[Qe];omega) (by omega)
 refine key 40 r [] 0 0 40 (λh=>?_) (by omega) (by omega) (by simp) (by omega);obtain⟨A,i,B,C,D,E,F,G,H⟩:=cB h;omega
def pb(a:Sx→rM→α)(n:Int)(x:rM)(j:Int)(b:rM)(k l m o p:Int)(q:Int→Int→Int→Int→rM→rM→α)(c f g h:Int)(d i:rM):α:=let e:Cf:=(Ni (⟨f,g,h,i⟩:Cf) (Zc (V x (so c)) 2)).1;bif decide (c<j) then bif Bk true (idx c x) then bif Bk true (Z6 (⟨f,g,h,i⟩:Cf) (Zc (V x (so c)) 2)) then bif Bk true (Pf 8 d ([[.int (J (V x (so c)) 0)]])) then q (ZK (c+1)) e.nW e.nA e.d9 (d++([[.int (J (V x (so c)) 0)]])) e.oq else kW else kW else kW else bif Bk (Bk true (fD b n)) (wB (qg b n)) then a (⟨(⟨k,l,m,o⟩:jW),(⟨f,g,h,i⟩:Cf),cp (qg b n),p⟩:Sx) d else kW
def sn(a:Sx→rM→α)(N:Nat)(n:Int)(x:rM)(c:Int)(b:rM)(d e f g h:Int)(i:Nat):Int→Int→Int→Int→rM→rM→α:=WS (λ_ _ _ _ _ _=>kW) (pb kW a n x c b d e f g h) i
theorem ntj(a:Sx→rM→α)(N:Nat)(n:Int)(x:rM)(c:Int)(b:rM)(d e f g h:Int)(i:Nat):sn kW a N n x c b d e f g h (i+1)=pb kW a n x c b d e f g h (sn kW a N n x c b d e f g h i):=rfl
def sE(a:Sx→rM→α)(b:rM→Int→rM→Int→Int→Int→Int→Int→Int→Int→Int→Int→rM→rM→α)(q:Sx)(n:Int):α:=bif Bk true (nG q) then bif lV (!(Yo q)) (Bk true (TC q)) (Bk true (TC q)) then bif bif !(Yo q) then true else !(nn n 0 (len q.nx)) then a (cp q) [] else bif Bk true (Oo q.nx n) then b (Xg q.nx n) (len (Xg q.nx n)) q.nx (((cp q).d5).nW) (((cp q).d5).nA) (((cp q).d5).ej) (((cp q).d5).pj) ((cp q).en) 0 (((cp q).nM).nW) (((cp q).nM).nA) (((cp q).nM).d9) [] (((cp q).nM).oq) else kW else kW else kW
def nxp(a:Sx→rM→α)(N:Nat)(q:Sx)(n:Int):α:=sE kW a (λx c b d e f g h=>sn kW a N n x c b d e f g h N) q n
def N_(q:Sx)(i:Nat)(s:Cf×rM):Cf×rM:=((Ni s.1 (Zc (V q.nx i) 2)).1,s.2++[[.int (J (V q.nx i) 0)]])
def U_(q:Sx)(n:Int):Bool:=nG q && TC q
def Vr(q:Sx)(n:Int):Sx×rM:=bif bif !(Yo q) then true else !(nn n 0 (len q.nx)) then (q,[]) else (⟨q.d5,(Wc (N_ q) n.toNat 0 (q.nM,[])).1,q.nx.drop n.toNat,q.en⟩,(Wc (N_ q) n.toNat 0 (q.nM,[])).2)
theorem nDW(a:Sx→rM→α)(q:Sx)(n:Int)(p:U_ q n=true):∃N,nxp kW a N q n=a (Vr q n).1 (Vr q n).2:=by
 have g:=p;simp only[U_,gF] at g;obtain⟨j,k⟩:=g;have s1':=j;simp only[nG,wB,gF,t6] at s1';have s2':=k;simp only[TC,gF,kQ] at s2';have t:=RG s1'.2.1;unfold nxp sE Vr;refine⟨q.nx.length+1, ?_⟩;refine Bw (zL j) ?_;refine Bw (by simp only[k,cd,CC]) ?_;refine oN (K:=λz:Sx×rM=>a z.1 z.2) (λ_=>rfl) (λu=>?_);have v:0≤n∧n≤len q.nx:=by
  revert u;cases Yo q
  ·intro h;cases h
  ·intro h;exact Wx.1 (ux h)
 simp only[len] at v;obtain⟨c,rfl⟩:∃c:Nat,n=(c:Int):=⟨n.toNat,by omega⟩;have b:Xg q.nx (c:Int)=q.nx.take c:=by simp[Xg]
 have l:len (q.nx.take c)=(c:Int):=by simp only[len,tr];omega
 have w:Oo q.nx (c:Int)=true:=by simp only[Oo,gF,kQ];omega
 refine Bw (zL w) ?_;refine (Xb c (λN i (s:Cf×rM)=>sn kW a (q.nx.length+1) (c:Int) (Xg q.nx (c:Int)) (len (Xg q.nx (c:Int))) q.nx q.d5.nW q.d5.nA q.d5.ej q.d5.pj q.en N i s.1.nW s.1.nA s.1.d9 s.2 s.1.oq) (N_ q) (λs=>a (⟨q.d5,s.1,q.nx.drop c,q.en⟩:Sx) s.2)
  (λi s=>s.2.length≤i∧s.1.oq.length+ke (q.nx.drop i)≤q.nM.oq.length+ke q.nx) ?_ ?_ ?_ (q.nx.length+1) (q.nM,[]) ⟨tI _,by simp⟩ (by omega)).trans ?_
 ·intro i s m o;have x:=ir (show i<q.nx.length by omega);refine⟨?_, ?_⟩
  ·simp only[N_,Qe,di,sS];omega
  ·simp only[N_];have A:(Ni s.1 (Zc (V q.nx i) 2)).1.oq.length≤s.1.oq.length+(Zc (V q.nx i) 2).length:=by
    unfold Ni;cases (bif !(mK s.1) then true else !(mK (⟨s.1.nW,s.1.nA,s.1.d9,s.1.oq++Zc (V q.nx i) 2⟩:Cf)))
    ·simp only[rl,Qe];omega
    ·simp only[HI];omega
   omega
 ·intro N i s m o;have x:=ir (show i<q.nx.length by omega);have I:i<q.nx.length:=by omega
  have d:Z6 (⟨s.1.nW,s.1.nA,s.1.d9,s.1.oq⟩:Cf) (Zc (V q.nx i) 2)=true:=by simp only[Z6,gF,kQ];exact⟨Tl (by omega),by omega⟩
  have B:∀y:List DC,Pf 8 s.2 [y]=true:=λy=>Q0 (by simp only[di,sS];omega) (by omega);have C:ZK ((i:Int)+1)=(i:Int)+1:=Ou;show sn kW a (q.nx.length+1) (c:Int) (Xg q.nx (c:Int)) (len (Xg q.nx (c:Int))) q.nx q.d5.nW q.d5.nA q.d5.ej q.d5.pj q.en (N+1) (i:Int) s.1.nW s.1.nA s.1.d9 s.2 s.1.oq=_;rw[ntj];have D:idx (i:Int) (Xg q.nx (c:Int))=true:=by rw[b];exact uH (by rw[tr];omega)
  have E:V (Xg q.nx (c:Int)) i=V q.nx i:=by rw[b];simp only[V,tL];rw[vq m]
  have e:decide ((i:Int)<len (Xg q.nx (c:Int)))=true:=Tl (by rw[b,l];omega);simp only[pb,e,D,d,B,C,E,lN,cd,HI];rfl
 ·intro N s o;show sn kW a (q.nx.length+1) (c:Int) (Xg q.nx (c:Int)) (len (Xg q.nx (c:Int))) q.nx q.d5.nW q.d5.nA q.d5.ej q.d5.pj q.en (N+1) (c:Int) s.1.nW s.1.nA s.1.d9 s.2 s.1.oq=_;rw[ntj];have F:fD q.nx (c:Int)=true:=by simp only[fD,gF,kQ];omega
  have G:qg q.nx (c:Int)=q.nx.drop c:=by simp[qg]
  have e:decide ((c:Int)<len (Xg q.nx (c:Int)))=false:=yF (by rw[b,l];omega);have f:wB (q.nx.drop c)=true:=by simp only[wB,gF,t6];exact⟨Tl (by rw[tt];omega),λr H=>s1'.2.2 r (List.mem_of_mem_drop H)⟩
  simp only[pb,e,F,G,f,cd,HI,rl];rfl
 ·rfl
def nkE(a:QP→α)(h:QP):α:=let b:jW×rM×Int×Int:=xI h.ei h.oa 0 h.Tx.d5;let c:Sx:=(⟨b.1,((cp h).Tx).nM,((cp h).Tx).nx,((cp h).Tx).en⟩:Sx);let d:Int:=kh (ZK (b.2.2.1+b.2.2.2)) (len h.Tx.nx);let e:Sx×rM:=Vr c d;let f:rM:=e.2;bif Bk true (eW h) then bif Bk true (jV h) then bif !(sN h) then a (cp h) else bif Bk true (Pf 16 ((cp h).tB) b.2.1) then bif Bk true (U_ c d) then bif Bk true (Pf 8 ((cp h).ox) f) then a (⟨(cp h).oa,(cp h).ei,e.1,(cp h).Rx,(cp h).oh,(cp h).nL,(cp h).n8,(cp h).ec,(cp h).ni,(cp h).oI,(cp h).oU,((cp h).tB)++b.2.1,((cp h).ox)++f,(cp h).oV,(cp h).d4⟩:QP) else kW else kW else kW else kW else kW
theorem nvb(q:Sx):∀(m i:Nat) (s:Cf×rM),(Wc (N_ q) m i s).2.length=s.2.length+m∧(Wc (N_ q) m i s).1.oq.length≤s.1.oq.length+ke (q.nx.drop i)∨q.nx.length<i+m
 | 0,i,s=> .inl ⟨rfl,ui _ _⟩
 | m+1,i,s=>by
  by_cases a:i<q.nx.length
  ·rcases nvb q m (i+1) (N_ q i s) with h | h
   ·refine .inl ?_;have c:=ir a;have b:(Ni s.1 (Zc (V q.nx i) 2)).1.oq.length≤s.1.oq.length+(Zc (V q.nx i) 2).length:=by
     unfold Ni;cases (bif !(mK s.1) then true else !(mK (⟨s.1.nW,s.1.nA,s.1.d9,s.1.oq++Zc (V q.nx i) 2⟩:Cf)))
     ·simp only[rl,Qe];omega
     ·simp only[HI];omega
    simp only[N_,Qe,di,sS] at h;simp only[Wc,N_];exact⟨by omega,by omega⟩
   ·exact .inr (by omega)
  ·exact .inr (by omega)
theorem ntn(q:Sx)(n:Int):(Vr q n).2.length≤q.nx.length∧(Vr q n).1.nM.oq.length≤q.nM.oq.length+ke q.nx∧∃c,(Vr q n).1.nx=q.nx.drop c:=by
 unfold Vr;cases a:(bif !(Yo q) then true else !(nn n 0 (len q.nx)))
 ·have b:0≤n∧n≤len q.nx:=by
   revert a;cases Yo q
   ·intro h;cases h
   ·intro h;exact Wx.1 (ux h)
  simp only[len] at b;rcases nvb q n.toNat 0 (q.nM,[]) with h | h
  ·simp only[t_,sS] at h;simp only[rl];exact⟨by omega,h.2,n.toNat,rfl⟩
  ·omega
 ·exact⟨tI _,ui _ _,0,rfl⟩
theorem nBN(q:Sx)(n:Int):(Vr q n).2.length≤q.nx.length:=(ntn q n).1
def Vb(h:QP):jW×rM×Int×Int:=xI h.ei h.oa 0 h.Tx.d5
def vh(h:QP):Sx×rM:=Vr (⟨(Vb h).1,h.Tx.nM,h.Tx.nx,h.Tx.en⟩:Sx) (kh (ZK ((Vb h).2.2.1+(Vb h).2.2.2)) (len h.Tx.nx))
def zD(h:QP):Bool:=eW h && jV h
def N3(h:QP):QP:=bif !(sN h) then h else ⟨h.oa,h.ei,(vh h).1,h.Rx,h.oh,h.nL,h.n8,h.ec,h.ni,h.oI,h.oU,h.tB++(Vb h).2.1,h.ox++(vh h).2,h.oV,h.d4⟩
theorem frF(a:QP→α)(h:QP)(k:zD h=true):nkE kW a h=a (N3 h):=by
 have j:(eW h && jV h)=true:=k;simp only[gF] at j;obtain⟨s,b⟩:=j;have s':=s;simp only[eW,gF] at s';obtain⟨m,o,l,c,_,_,_,_,_,_,_,_,_,d,e,_⟩:=s';have f:∀(r:jW) (n:Int),U_ (⟨r,h.Tx.nM,h.Tx.nx,h.Tx.en⟩:Sx) n=true:=by intro r n;simp only[U_,nG,gF];exact⟨⟨l,c⟩,b⟩
 have p:=np6 h.ei h.oa 0 h.Tx.d5;have g:Pf 16 h.tB (xI h.ei h.oa 0 h.Tx.d5).2.1=true:=Q0 (by have:=RG d;omega) (by omega);have i:∀(r:jW) (n:Int),Pf 8 h.ox (Vr (⟨r,h.Tx.nM,h.Tx.nx,h.Tx.en⟩:Sx) n).2=true:=by intro r n;have q:(Vr (⟨r,h.Tx.nM,h.Tx.nx,h.Tx.en⟩:Sx) n).2.length≤h.Tx.nx.length:=nBN _ n;have t:=RG e;simp only[wB,gF] at c;have u:=RG c.1;exact Q0 (by omega) (by omega)
 unfold nkE N3;dsimp only;refine Bw (zL s) ?_;refine Bw (zL b) ?_;refine oN (K:=λz:QP=>a z) (λ_=>rfl) (λ_=>?_);refine Bw (zL g) (Bw (zL (f _ _)) (Bw (zL (i _ _)) rfl))
def Yh(a:Tj→Bool→α)(v:Tj):α:=bif bif !(fm v) then true else !v.u5 then a v false else a (⟨v.rp,v.sF,0,0,true,false⟩:Tj) true
def Uj(v:Tj):Tj×Bool:=Yh (λa b=>(a,b)) v
theorem nud(a:Tj→Bool→α)(v:Tj):Yh a v=a (Uj v).1 (Uj v).2:=by exact cU (K:=λr:Tj×Bool=>a r.1 r.2) rfl rfl
def WX(a:Tj→α)(v:Tj):α:=bif !(fm v) then a v else a (Ok (⟨v.rp,v.sF,v.d9,v.e6,false,v.u5⟩:Tj))
def Gi(v:Tj):Tj:=WX id v
theorem nbl(a:Tj→α)(v:Tj):WX a v=a (Gi v):=by exact cU rfl rfl
theorem ngE(a b:Bool)(x y:α):(bif a then x else bif b then x else y)=bif (bif a then true else b) then x else y:=by cases a<;>rfl
theorem neF(p:Nat→List DC→Bool):∀(l:rM) (s:Nat),findIdx p l s= -1∨∃i,i<l.length∧findIdx p l s=((s+i:Nat):Int)
 | [],s=> .inl rfl
 | r::l,s=>by
  simp only[findIdx];cases p s r
  ·rcases neF p l (s+1) with h | ⟨i,b,a⟩
   ·exact .inl h
   ·exact .inr ⟨i+1,by simp only[di];omega,by simp only[rl];rw[a];congr 1;omega⟩
  ·exact .inr ⟨0,by simp,rfl⟩
def ndS(a:F1→Int→Bool→α)(s:Y):α:=let b:F1:=(⟨0,0,0,0,0⟩:F1);bif (len s) != 16 then a b 0 false else bif decide (1<N5 s 12) then a b 0 false else a (⟨tC s 0,tC s 2,tC s 4,tC s 6,N5 s 8⟩:F1) (N5 s 12) true
def Zr(s:Y):F1×Int×Bool:=bif bif (len s) != 16 then true else decide (1<N5 s 12) then (⟨0,0,0,0,0⟩,0,false) else (⟨tC s 0,tC s 2,tC s 4,tC s 6,N5 s 8⟩,N5 s 12,true)
theorem nwx(a:F1→Int→Bool→α)(s:Y):ndS a s=a (Zr s).1 (Zr s).2.1 (Zr s).2.2:=by unfold ndS Zr;dsimp only;rw[ngE];exact oN (K:=λr:F1×Int×Bool=>a r.1 r.2.1 r.2.2) (λ_=>rfl) (λ_=>rfl)
def nAv(a:F1→QR→Bool→α)(Z:rM)(m:TV)(b:Int)(q:QR):α:=let c:F1:=(⟨0,0,0,0,0⟩:F1);let e:Y×Bool:=vV Z m b (Ek q) 16;let d:F1×Int×Bool:=Zr e.1;bif !(xn q) then a c q false else bif Bk true (xn q) then bif !e.2 then a c q false else bif bif !d.2.2 then true else d.2.1 != (LX q) then a c q false else bif Bk true (!((ZK (2*q.nA))==0)) then a d.1 (⟨q.nW,q.nA,tj (ZK (q.d9+1)) (ZK (2*q.nA))⟩:QR) true else kW else kW
def Qo(Z:rM)(m:TV)(a:Int)(q:QR):F1×Int×Bool:=Zr (vV Z m a (Ek q) 16).1
def Zj(Z:rM)(m:TV)(a:Int)(q:QR):Bool:=bif !(vV Z m a (Ek q) 16).2 then true else bif !(Qo Z m a q).2.2 then true else (Qo Z m a q).2.1 != LX q
def Tt(Z:rM)(m:TV)(a:Int)(q:QR):F1×QR×Bool:=bif !(xn q) then (⟨0,0,0,0,0⟩,q,false) else bif Zj Z m a q then (⟨0,0,0,0,0⟩,q,false) else ((Qo Z m a q).1,⟨q.nW,q.nA,tj (ZK (q.d9+1)) (ZK (2*q.nA))⟩,true)
theorem ntW{l:rM}{m:TV}{d:Int}{q:QR}(h:xn q=true):xn (Tt l m d q).2.1=true:=by
 unfold Tt;rw[h];cases Zj l m d q
 ·exact nyZ h
 ·exact h
theorem nCW(l:rM)(m:TV)(d:Int)(q:QR):(Tt l m d q).2.1.nW=q.nW∧(Tt l m d q).2.1.nA=q.nA:=by
 unfold Tt;cases (!(xn q))
 ·cases Zj l m d q<;>exact⟨rfl,rfl⟩
 ·exact⟨rfl,rfl⟩
theorem nrg(a:F1→QR→Bool→α)(Z:rM)(m:TV)(b:Int)(q:QR):nAv kW a Z m b q=a (Tt Z m b q).1 (Tt Z m b q).2.1 (Tt Z m b q).2.2:=by
 unfold nAv Tt;dsimp only;refine oN (K:=λr:F1×QR×Bool=>a r.1 r.2.1 r.2.2) (λ_=>rfl) (λd=>?_);have c:xn q=true:=ux d;obtain⟨f,g,h,i,j,k,l⟩:=WY c;have e:(!((ZK (2*q.nA))==0))=true:=by rw[Ou];simp;omega
 have n:(!(q.nA==0))=true:=by simp;omega
 refine Bw (zL c) ?_;rw[ngE];exact oN (K:=λr:F1×QR×Bool=>a r.1 r.2.1 r.2.2) (λ_=>rfl) (λ_=>Bw (zL e) rfl)
def VO(a:Int→α)(Z:rM)(c d e f g h:Int)(i:Int→α)(b:Int):α:=bif decide (b<c) then bif Bk true (idx b Z) then bif bif (J (V Z (so b)) 0)==d then bif (J (V Z (so b)) 1)==e then bif (J (V Z (so b)) 2)==f then bif (J (V Z (so b)) 3)==g then bif (J (V Z (so b)) 4)==h then true else false else false else false else false else false then a b else i (ZK (b+1)) else kW else a (-1)
def V9(a:Int→α)(N:Nat)(Z:rM)(b c d e f g:Int)(h:Nat):Int→α:=WS (λ_=>kW) (VO kW a Z b c d e f g) h
theorem nCl(a:Int→α)(N:Nat)(Z:rM)(b c d e f g:Int)(h:Nat):V9 kW a N Z b c d e f g (h+1)=VO kW a Z b c d e f g (V9 kW a N Z b c d e f g h):=rfl
def zz(kW:α)(a:Int→α)(b:Int→Int→Int→Int→Int→Int→Int→α)(Z:rM)(f:SA):α:=b (len Z) f.eh f.py f.pN f.oC f.oz 0
def nz8(a:Int→α)(N:Nat)(Z:rM)(f:SA):α:=zz kW a (λb c d e g h=>V9 kW a N Z b c d e g h N) Z f
def yy(f:SA)(r:List DC):Bool:=(bif (J r 0)==f.eh then bif (J r 1)==f.py then bif (J r 2)==f.pN then bif (J r 3)==f.oC then bif (J r 4)==f.oz then true else false else false else false else false else false)
def El(Z:rM)(f:SA):Int:=findIdx (λ_ r=>yy f r) Z 0
theorem nqY(a:Int→α)(Z:rM)(f:SA)(b:Oj (.sl Qn) (.sl Z)):∃N,nz8 kW a N Z f=a (El Z f):=by
 obtain⟨d,_⟩:=jD b;refine⟨Z.length+1, ?_⟩;unfold nz8 zz El;have key:V9 kW a (Z.length+1) Z (len Z) f.eh f.py f.pN f.oC f.oz (Z.length+1) 0=a (findIdx (λ_ r=>yy f r) Z 0):=by
  refine (P6 Z (V9 kW a (Z.length+1) Z (len Z) f.eh f.py f.pN f.oC f.oz) (λi r c=>bif yy f r then a (i:Int) else c) (a (-1)) ?_ ?_).trans ?_
  ·intro n i h;rw[nCl];simp only[VO,T9 h,uH h,Q8 h d,lN,cd,TK,HI];rfl
  ·intro n;rw[nCl];simp only[VO,hO,rl]
  ·exact om (λ_ r=>yy f r) a Z 0
 exact key
def SL(a:Int→α)(Z:rM)(b c d e f:Int)(g:Int→α)(k:Int):α:=bif decide (k<len Z) then bif Bk true (idx k Z) then bif bif (J (V Z (so k)) 0)==b then bif (J (V Z (so k)) 1)==c then bif (J (V Z (so k)) 2)==d then bif (J (V Z (so k)) 3)==e then bif (J (V Z (so k)) 4)==f then true else false else false else false else false else false then a k else g (ZK (k+1)) else kW else a (-1)
def DK(a:Int→α)(N:Nat)(Z:rM)(b c d e f:Int)(g:Nat):Int→α:=WS (λ_=>kW) (SL kW a Z b c d e f) g
theorem nbi(a:Int→α)(N:Nat)(Z:rM)(b c d e f:Int)(g:Nat):DK kW a N Z b c d e f (g+1)=SL kW a Z b c d e f (DK kW a N Z b c d e f g):=rfl
def Yu(kW:α)(a:Int→α)(b:Int→Int→Int→Int→Int→Int→α)(Z:rM)(f:SA):α:=b f.eh f.py f.pN f.oC f.oz 0
def nj8(a:Int→α)(N:Nat)(Z:rM)(f:SA):α:=Yu kW a (λb c d e g=>DK kW a N Z b c d e g N) Z f
theorem npX(a:Int→α)(Z:rM)(f:SA)(b:Oj (.sl Qn) (.sl Z)):∃N,nj8 kW a N Z f=a (El Z f):=by
 obtain⟨d,_⟩:=jD b;refine⟨Z.length+1, ?_⟩;unfold nj8 Yu El;have key:DK kW a (Z.length+1) Z f.eh f.py f.pN f.oC f.oz (Z.length+1) 0=a (findIdx (λ_ r=>yy f r) Z 0):=by
  refine (P6 Z (DK kW a (Z.length+1) Z f.eh f.py f.pN f.oC f.oz) (λi r c=>bif yy f r then a (i:Int) else c) (a (-1)) ?_ ?_).trans ?_
  ·intro n i h;rw[nbi];simp only[SL,T9 h,uH h,Q8 h d,lN,cd,TK,HI];rfl
  ·intro n;rw[nbi];simp only[SL,hO,rl]
  ·exact om (λ_ r=>yy f r) a Z 0
 exact key
theorem nkH(x:Int):ZK x % 4294967296=x % 4294967296:=by rw[Vl];omega
theorem nAC(a b:Int):(ZK a - b) % 4294967296=(a - b) % 4294967296:=by rw[Vl];omega
def nqy(a:rM→α)(Z:rM)(p:oY):α:=let l:Bool:=decide (El (cp Z) (sM p)<0);let s:Bool:=idx (len (cp Z)) ((cp Z)++([[.int ((sM p).eh),.int ((sM p).py),.int ((sM p).pN),.int ((sM p).oC),.int ((sM p).oz),.int 0,.str [],.bool false]]));let t:Bool:=inl (so (len (cp Z))) ((cp Z)++([[.int ((sM p).eh),.int ((sM p).py),.int ((sM p).pN),.int ((sM p).oC),.int ((sM p).oz),.int 0,.str [],.bool false]]));let u:Bool:=S_ (Ro (len p.pk.ed)) p.pk.ed;let o:List DC:=V ((cp Z)++([[.int ((sM p).eh),.int ((sM p).py),.int ((sM p).pN),.int ((sM p).oC),.int ((sM p).oz),.int 0,.str [],.bool false]])) (so (len (cp Z)));let m:Y:=(Ro (len p.pk.ed))++p.pk.ed;let v:Bool:=idx (El (cp Z) (sM p)) (cp Z);let w:Bool:=Bk true v;let b:Nat:=so (El (cp Z) (sM p));let n:Bool:=inl b (cp Z);let q:Bool:=Bk w n;let c:List DC:=V (cp Z) b;let f:Bool:=Bk true n;let g:Int:=ZK ((J c 5) - p.pk.e4);let d:Int:=NU g 4294967296;let h:Y:=qg p.pk.ed d;let r:rM:=sI (cp Z) b (CI c 6 [.str ((fJ c 6)++h)]);let i:Bool:=inl b r;let j:List DC:=V r b;let k:Int:=ZK ((ZK ((J j 5)+(len p.pk.ed))) - d);let e:rM:=sI r b (CI j 5 [.int (NU k 4294967296)]);bif Bk true (Of Z) then bif !(rZ p) then a (cp Z) else bif p.pk.eh==17 then bif l then bif Bk true (Pf 72 (cp Z) ([[.int ((sM p).eh),.int ((sM p).py),.int ((sM p).pN),.int ((sM p).oC),.int ((sM p).oz),.int 0,.str [],.bool false]])) then bif Bk (Bk (Bk (Bk (Bk (Bk true s) t) u) (S_ (fJ o 6) m)) s) t then a (sI ((cp Z)++([[.int ((sM p).eh),.int ((sM p).py),.int ((sM p).pN),.int ((sM p).oC),.int ((sM p).oz),.int 0,.str [],.bool false]])) (so (len (cp Z))) (CI o 6 [.str ((fJ o 6)++m)])) else kW else kW else bif Bk (Bk (Bk (Bk q u) (S_ (fJ c 6) m)) v) n then a (sI (cp Z) b (CI c 6 [.str ((fJ c 6)++m)])) else kW else bif (bits .and .i64 p.pk.ez 2) != 0 then bif l then bif Bk true (Pf 72 (cp Z) ([[.int ((sM p).eh),.int ((sM p).py),.int ((sM p).pN),.int ((sM p).oC),.int ((sM p).oz),.int (tj (ZK (p.pk.e4+1)) 4294967296),.str [],.bool false]])) then a ((cp Z)++([[.int ((sM p).eh),.int ((sM p).py),.int ((sM p).pN),.int ((sM p).oC),.int ((sM p).oz),.int (tj (ZK (p.pk.e4+1)) 4294967296),.str [],.bool false]])) else kW else a (cp Z) else bif lV l true (lV (yz c 7) q q) then bif bif l then true else bif yz c 7 then true else (bits .and .i64 p.pk.ez 4) != 0 then a (cp Z) else bif w then bif Bk f (DZ g 4294967296) then bif decide (d≤len p.pk.ed) then bif Bk (Bk (Bk f (fD p.pk.ed d)) (S_ (fJ c 6) h)) n then bif Bk (Bk (Bk true i) (DZ k 4294967296)) i then bif Bk true (inl b e) then a (sI e b (CI (V e b) 7 [.bool ((bits .and .i64 p.pk.ez 1) != 0)])) else kW else kW else kW else a (cp Z) else kW else kW else kW else kW
def hrM(f:SA)(next:Int)(a:Y):List DC:=XM.enc ⟨f,next,a,false⟩
def iF(s:XM)(p:oY):Int:=(s.en - p.pk.e4) % 4294967296
def nsw(s:XM)(p:oY):XM:=⟨s.na1,(s.en+len p.pk.ed - iF s p) % 4294967296,s.f0++qg p.pk.ed (iF s p),(bits .and .i64 p.pk.ez 1) != 0⟩
def nmc(s:XM)(p:oY):XM:=⟨s.na1,s.en,s.f0++(Ro (len p.pk.ed)++p.pk.ed),s.nta⟩
def OA(Z:rM)(p:oY):Bool:=decide (Z.length≤16777216) && Z.all (λr=>decide ((fJ r 6).length≤1000000000000))
def yE(Z:rM)(p:oY):rM:=bif !(rZ p) then Z else bif p.pk.eh==17 then bif decide (El Z (sM p)<0) then Z++[hrM (sM p) 0 (Ro (len p.pk.ed)++p.pk.ed)] else sI Z (El Z (sM p)).toNat (XM.enc (nmc (XM.nd (V Z (El Z (sM p)).toNat) 0) p)) else bif (bits .and .i64 p.pk.ez 2) != 0 then bif decide (El Z (sM p)<0) then Z++[hrM (sM p) (tj (ZK (p.pk.e4+1)) 4294967296) []] else Z else bif bif decide (El Z (sM p)<0) then true else bif (XM.nd (V Z (El Z (sM p)).toNat) 0).nta then true else (bits .and .i64 p.pk.ez 4) != 0 then Z else bif decide (iF (XM.nd (V Z (El Z (sM p)).toNat) 0) p≤len p.pk.ed) then sI Z (El Z (sM p)).toNat (XM.enc (nsw (XM.nd (V Z (El Z (sM p)).toNat) 0) p)) else Z
theorem nyb(e:rM→α)(Z:rM)(p:oY)(M:Oj (.sl Qn) (.sl Z))(z:i_ oY.ct p.enc)(D:OA Z p=true):nqy kW e Z p=e (yE Z p):=by
 obtain⟨hl,A⟩:=jD M;have N:=ka (ch.nD0 (oY.nDZ z));simp only[OA,gF,t6,kQ] at D;obtain⟨B,O⟩:=D;have B:Z.length≤16777216:=B;unfold nqy yE;dsimp only;rw[show cp Z=Z from rfl];refine Bw (zL (Tl B)) ?_;refine oN (λ_=>rfl) (λP=>?_);have hb:=RP (ux P);have Q:=Xa (len p.pk.ed);have m:∀x:List DC,Pf 72 Z [x]=true:=λx=>Q0 (by simp only[di,sS];omega) (by omega);have g:∀a b:Y,a.length≤2000000000000→b.length≤2000000000000→S_ a b=true:=λa b h1 h2=>Tl (by omega);generalize hf:sM p=f;rcases neF (λ_ r=>yy f r) Z 0 with u | ⟨c,j,u⟩
 ·have o:El Z f= -1:=u;generalize El Z f=X at o ⊢;subst o;have k:decide ((-1:Int)<0)=true:=rfl;simp only[k,HI];refine oN (λ_=>?_) (λ_=>?_)
  ·refine Bw (zL (m _)) ?_;have q:∀x:List DC,idx (len Z) (Z++[x])=true:=λx=>uH (i:=Z.length) (by simp);have t:∀x:List DC,inl (so (len Z)) (Z++[x])=true:=λx=>SG (by simp[len]);have R:∀x:List DC,V (Z++[x]) (so (len Z))=x:=λx=>by simp[V,len]
   have S:∀x y:List DC,sI (Z++[x]) (so (len Z)) y=Z++[y]:=λx y=>by simp[len]
   have C:S_ (Ro (len p.pk.ed)) p.pk.ed=true:=g _ _ (by omega) (by omega);simp only[q,t,R,S,C,cd,TK];exact Bw (g _ _ (tI _) (by rw[Qe];omega)) rfl
  ·refine oN (λ_=>Bw (zL (m _)) rfl) (λ_=>?_);exact Bw (eE (λ_=>rfl) (λh=>by cases h)) rfl
 ·have o:El Z f=(c:Int):=by rw[Nat.zero_add] at u;exact u
  generalize El Z f=X at o ⊢;subst o;have k:decide ((c:Int)<0)=false:=yF (by omega);have q:idx (c:Int) Z=true:=uH j;have t:inl c Z=true:=SG j;have v:=O _ (oA j);have T:=ka (XM.nAT (x:=XM.nd (V Z c) 0) (by rw[XM.eta (A _ (oA j))];exact A _ (oA j)));have w:=(XM.eta (A _ (oA j))).symm;generalize XM.nd (V Z c) 0=s at w T;have v:s.f0.length≤1000000000000:=by rw[w] at v;exact v
  rw[k,lN];simp only[rl];refine oN (λ_=>?_) (λ_=>?_)
  ·rw[w];have C:S_ (Ro (len p.pk.ed)) p.pk.ed=true:=g _ _ (by omega) (by omega);simp only[q,t,C,cd,TK];exact Bw (g _ _ (tl v (by omega)) (by rw[Qe];omega)) rfl
  ·refine oN (λ_=>rfl) (λ_=>?_);rw[w];have E:J (XM.enc s) 5=s.en:=rfl;have U:fJ (XM.enc s) 6=s.f0:=rfl;have W:yz (XM.enc s) 7=s.nta:=rfl;have F:∀d:Y,CI (XM.enc s) 6 [.str d]=XM.enc ⟨s.na1,s.en,d,s.nta⟩:=λ_=>rfl;have G:∀d:Y,J (XM.enc ⟨s.na1,s.en,d,s.nta⟩) 5=s.en:=λ_=>rfl;have p5:∀(d:Y) (n:Int),CI (XM.enc ⟨s.na1,s.en,d,s.nta⟩) 5 [.int n]=XM.enc ⟨s.na1,n,d,s.nta⟩:=λ_ _=>rfl;have p7:∀(d:Y) (n:Int) (b:Bool),CI (XM.enc ⟨s.na1,n,d,s.nta⟩) 7 [.bool b]=XM.enc ⟨s.na1,n,d,b⟩:=λ_ _ _=>rfl;have hB:0≤len p.pk.ed∧len p.pk.ed≤320:=by simp only[len];omega
   have ho:0≤iF s p∧iF s p<4294967296:=by unfold iF;omega
   obtain⟨a1,H⟩:=vP (x:=ZK (s.en - p.pk.e4)) (n:=4294967296) (nyE _) (xA _) (by omega) (by omega);rw[nkH] at H;have m1:NU (ZK (s.en - p.pk.e4)) 4294967296=iF s p:=H;simp only[E,a1];simp only[q,t,E,U,W,m1,cd,TK,CC,HI,rl];refine oN (λ_=>rfl) (λ_=>?_);refine oN (λl=>?_) (λ_=>rfl);have l:=of_decide_eq_true l;have ll:(qg p.pk.ed (iF s p)).length≤p.pk.ed.length:=by unfold qg;rw[tt,tr];omega
   have I:fD p.pk.ed (iF s p)=true:=by simp only[fD,gF,kQ];exact⟨ho.1,l⟩
   have K:S_ s.f0 (qg p.pk.ed (iF s p))=true:=g _ _ (by omega) (by omega);obtain⟨b1,L⟩:=vP (x:=ZK (ZK (s.en+len p.pk.ed) - iF s p)) (n:=4294967296) (nyE _) (xA _) (by omega) (by omega);rw[nkH,nAC] at L;have m2:=L;have m3:=b1;simp only[I,K,F,G,Gg,Y4 j,m3];simp only[I,K,F,q,t,rS,Gg,List.set_set,Y4 j,G,p5,p7,m2,cd,TK,HI];rfl
def zu(a:TV→pE→Cf→rM→Int→α)(Z:rM)(c i j k l m r s t u v w x y z A B C D E F G H I:Int)(K:Y)(L M:Int)(N:Bool)(O:Int)(q:rM)(P:Int→Int→Int→Int→Int→Int→Int→rM→rM→α)(n o p S d e f:Int)(h g:rM):α:=let b:F1×QR×Bool:=Tt Z (⟨q⟩:TV) c (⟨o,p,S⟩:QR);let T:Bool:=Bk true (cE Z (⟨q⟩:TV) c (⟨j,k,l,m⟩:jW) (⟨d,e,f,g⟩:Cf));let Q:TV×jW×Cf×Int:=zw Z (⟨q⟩:TV) c (⟨j,k,l,m⟩:jW) (⟨d,e,f,g⟩:Cf);let U:TV:=Q.1;let W:pE:=(⟨Q.2.1,(⟨r,s,t⟩:QR),(⟨o,p,S⟩:QR),(⟨(⟨u,v,w,x,y,z,A,B,(⟨C,D,E,F,G,H,I,K⟩:ch)⟩:oY),L,M⟩:jf),N,O⟩:pE);let X:Cf:=Q.2.2.1;let z6:Y×Bool:=vV Z (⟨q⟩:TV) c (zj (⟨d,e,f,g⟩:Cf) b.1.sr) b.1.e8;let z7:oY×Int:=uN z6.1;let z8:oY:=z7.1;let R:Bool:=Bk true (Z6 (⟨d,e,f,g⟩:Cf) ([[.int b.1.sr]]));bif decide (n<i) then bif !b.2.2 then bif T then a U W X h n else kW else bif z6.2 then bif z7.2==0 then bif Bk true (OA h z8) then bif R then P (ZK (n+1)) b.2.1.nW b.2.1.nA b.2.1.d9 (((Ni (⟨d,e,f,g⟩:Cf) ([[.int b.1.sr]])).1).nW) (((Ni (⟨d,e,f,g⟩:Cf) ([[.int b.1.sr]])).1).nA) (((Ni (⟨d,e,f,g⟩:Cf) ([[.int b.1.sr]])).1).d9) (yE h z8) (((Ni (⟨d,e,f,g⟩:Cf) ([[.int b.1.sr]])).1).oq) else kW else kW else bif R then P (ZK (n+1)) b.2.1.nW b.2.1.nA b.2.1.d9 (((Ni (⟨d,e,f,g⟩:Cf) ([[.int b.1.sr]])).1).nW) (((Ni (⟨d,e,f,g⟩:Cf) ([[.int b.1.sr]])).1).nA) (((Ni (⟨d,e,f,g⟩:Cf) ([[.int b.1.sr]])).1).d9) h (((Ni (⟨d,e,f,g⟩:Cf) ([[.int b.1.sr]])).1).oq) else kW else bif R then P (ZK (n+1)) b.2.1.nW b.2.1.nA b.2.1.d9 (((Ni (⟨d,e,f,g⟩:Cf) ([[.int b.1.sr]])).1).nW) (((Ni (⟨d,e,f,g⟩:Cf) ([[.int b.1.sr]])).1).nA) (((Ni (⟨d,e,f,g⟩:Cf) ([[.int b.1.sr]])).1).d9) h (((Ni (⟨d,e,f,g⟩:Cf) ([[.int b.1.sr]])).1).oq) else kW else bif T then a U W X h n else kW
def iH(a:TV→pE→Cf→rM→Int→α)(N:Nat)(Z:rM)(b c d e f g h i j k l m n o p q r s t u v w x y:Int)(z:Y)(A B:Int)(C:Bool)(D:Int)(E:rM)(F:Nat):Int→Int→Int→Int→Int→Int→Int→rM→rM→α:=WS (λ_ _ _ _ _ _ _ _ _=>kW) (zu kW a Z b c d e f g h i j k l m n o p q r s t u v w x y z A B C D E) F
theorem byH(a:TV→pE→Cf→rM→Int→α)(N:Nat)(Z:rM)(b c d e f g h i j k l m n o p q r s t u v w x y:Int)(z:Y)(A B:Int)(C:Bool)(D:Int)(E:rM)(F:Nat):iH kW a N Z b c d e f g h i j k l m n o p q r s t u v w x y z A B C D E (F+1)=zu kW a Z b c d e f g h i j k l m n o p q r s t u v w x y z A B C D E (iH kW a N Z b c d e f g h i j k l m n o p q r s t u v w x y z A B C D E F):=rfl
def Yw(a:TV→pE→Cf→rM→Int→α)(e:Int→Int→Int→Int→Int→Int→Int→Int→Int→Int→Int→Int→Int→Int→Int→Int→Int→Int→Int→Int→Int→Int→Y→Int→Int→Bool→Int→rM→Int→Int→Int→Int→Int→Int→Int→rM→rM→α)(Z:rM)(m:TV)(d:Int)(q:pE)(p:Cf)(b:rM)(c:Int):α:=bif Bk (Bk (Bk true (zH m)) (ig p)) (Of b) then bif bif !(iy q) then true else bif !(mK p) then true else !(nn c 0 1000) then a (cp m) q (cp p) (cp b) 0 else e q.d5.nW q.d5.nA q.d5.ej q.d5.pj q.eo.nW q.eo.nA q.eo.d9 q.qo.nP.rA q.qo.nP.rN q.qo.nP.rX q.qo.nP.S9 q.qo.nP.Id q.qo.nP.Ta q.qo.nP.py q.qo.nP.pN q.qo.nP.pk.eh q.qo.nP.pk.oC q.qo.nP.pk.oz q.qo.nP.pk.e4 q.qo.nP.pk.XY q.qo.nP.pk.ez q.qo.nP.pk.su q.qo.nP.pk.ed q.qo.nA q.qo.d9 q.uc q.qj ((cp m).nQ) 0 q.eU.nW q.eU.nA q.eU.d9 ((cp p).nW) ((cp p).nA) ((cp p).d9) (cp b) ((cp p).oq) else kW
def nkR(a:TV→pE→Cf→rM→Int→α)(N:Nat)(Z:rM)(m:TV)(b:Int)(q:pE)(p:Cf)(d:rM)(c:Int):α:=Yw kW a (λe f g h i j k l n o r s t u v w x y z A B C D E F G H I=>iH kW a N Z b c e f g h i j k l n o r s t u v w x y z A B C D E F G H I N) Z m b q p d c
def YB(Z:rM)(m:TV)(a:Int)(p:Cf)(x:F1):Y×Bool:=vV Z m a (zj p x.sr) x.e8
def YC(Z:rM)(m:TV)(b:Int)(p:Cf)(x:F1)(a:rM):rM:=bif (YB Z m b p x).2 then bif (uN (YB Z m b p x).1).2==0 then yE a (uN (YB Z m b p x).1).1 else a else a
def UA(Z:rM)(m:TV)(b:Int):Nat→QR→Cf→rM→Int→QR×Cf×rM×Int
 | 0,d,p,a,n=>(d,p,a,n)
 | f+1,d,p,a,n=>bif !(Tt Z m b d).2.2 then (d,p,a,n)
  else UA Z m b f (Tt Z m b d).2.1 (Ni p [[.int (Tt Z m b d).1.sr]]).1 (YC Z m b p (Tt Z m b d).1 a) (ZK (n+1))
def Ww(Z:rM)(m:TV)(a:Int)(q:pE)(s:QR×Cf×rM×Int):TV×pE×Cf×rM×Int:=((zw Z m a q.d5 s.2.1).1, {q with d5:=(zw Z m a q.d5 s.2.1).2.1,eU:=s.1},(zw Z m a q.d5 s.2.1).2.2.1,s.2.2.1,s.2.2.2)
def Nx(Z:rM)(m:TV)(b:Int)(q:pE)(p:Cf)(a:rM)(c:Int):Bool:=zH m && (decide (p.oq.length≤8000000) && (decide (a.length≤8000000) && a.all (λr=>decide ((fJ r 6).length≤500000000000))))
def nz(Z:rM)(m:TV)(b:Int)(q:pE)(p:Cf)(a:rM)(c:Int):TV×pE×Cf×rM×Int:=bif bif !(iy q) then true else bif !(mK p) then true else !(nn c 0 1000) then (m,q,p,a,0) else Ww Z m b q (UA Z m b c.toNat q.eU p a 0)
theorem npV{l:rM}{i:Nat}{x r:List DC}(h:r∈sI l i x):r∈l∨r=x:=by
 rcases List.mem_or_eq_of_mem_set h with h | h
 ·exact .inl h
 ·exact .inr h
theorem nzd(l:rM)(p:oY):(yE l p).length≤l.length+1:=by
 unfold yE;cases (!(rZ p))<;>cases (p.pk.eh==17)<;>cases decide (El l (sM p)<0)<;>cases ((bits .and .i64 p.pk.ez 2) != 0)<;>simp only[HI,rl,Qe,t5,di,sS]<;>try omega
 all_goals
  cases (XM.nd (V l (El l (sM p)).toNat) 0).nta<;>cases ((bits .and .i64 p.pk.ez 4) != 0)<;>cases decide (iF (XM.nd (V l (El l (sM p)).toNat) 0) p≤len p.pk.ed)<;>simp only[HI,rl,t5]<;>omega
theorem nwD{l:rM}{p:oY}{D:Nat}(h:∀r∈l,(fJ r 6).length≤D):∀r∈yE l p,(fJ r 6).length≤D+400:=by
 have a:∀r∈l,(fJ r 6).length≤D+400:=λr b=>tl (h r b) (by omega);have i:(fJ (V l (El l (sM p)).toNat) 6).length≤D:=by
  by_cases f:(El l (sM p)).toNat<l.length
  ·exact h _ (oA f)
  ·rw[show V l (El l (sM p)).toNat=[] by simp[V,tL,vr (Nat.le_of_not_lt f)]];exact tI _
 cases d:rZ p
 ·unfold yE;rw[d];exact a
 have j:=RP d;have k:=Xa (len p.pk.ed);have m:(qg p.pk.ed (iF (XM.nd (V l (El l (sM p)).toNat) 0) p)).length≤p.pk.ed.length:=by unfold qg;rw[tt,tr];omega
 have g:∀x:List DC,(fJ x 6).length≤D+400→∀r∈sI l (El l (sM p)).toNat x,(fJ r 6).length≤D+400:=λx e r b=>by
  rcases npV b with h | rfl
  ·exact a r h
  ·exact e
 have c:∀x:List DC,(fJ x 6).length≤D+400→∀r∈l++[x],(fJ r 6).length≤D+400:=λx e r b=>by
  rcases uW.1 b with h | h
  ·exact a r h
  ·rw[u1.1 h];exact e
 unfold yE;rw[d];simp only[tk,rl];cases (p.pk.eh==17)
 ·simp only[rl];cases ((bits .and .i64 p.pk.ez 2) != 0)
  ·simp only[rl];cases (bif decide (El l (sM p)<0) then true else bif (XM.nd (V l (El l (sM p)).toNat) 0).nta then true else (bits .and .i64 p.pk.ez 4) != 0)
   ·simp only[rl];cases decide (iF (XM.nd (V l (El l (sM p)).toNat) 0) p≤len p.pk.ed)
    ·exact a
    ·exact g _ (by show (fJ (V l (El l (sM p)).toNat) 6++_).length≤_;rw[Qe];omega)
   ·exact a
  ·simp only[HI];cases decide (El l (sM p)<0)
   ·exact a
   ·exact c _ (tI _)
 ·simp only[HI];cases decide (El l (sM p)<0)
  ·exact g _ (by show (fJ (V l (El l (sM p)).toNat) 6++_).length≤_;rw[Qe,Qe];omega)
  ·exact c _ (by show (_++_:Y).length≤_;rw[Qe];omega)
theorem nqZ(b:TV→pE→Cf→rM→Int→α)(Z:rM)(m:TV)(c:Int)(q:pE)(p:Cf)(e:rM)(g:Int)(v:Nx Z m c q p e g=true):∃N,nkR kW b N Z m c q p e g=b (nz Z m c q p e g).1 (nz Z m c q p e g).2.1 (nz Z m c q p e g).2.2.1 (nz Z m c q p e g).2.2.2.1 (nz Z m c q p e g).2.2.2.2:=by
 simp only[Nx,gF,t6,kQ] at v;obtain⟨k,S,T,y⟩:=v;have A:Of e=true:=Tl (by omega);have l:ig p=true:=Tl (show p.oq.length≤16777216 by omega);unfold nkR Yw nz;rw[show cp p=p from rfl,show cp m=m from rfl];refine⟨1002, ?_⟩;rw[show cp e=e from rfl];refine Bw (by rw[k,l,A];rfl) ?_;refine oN (K:=(λz:TV×pE×Cf×rM×Int=>b z.1 z.2.1 z.2.2.1 z.2.2.2.1 z.2.2.2.2)) (λ_=>rfl) (λC=>?_);have U:=Wx.1 (ux (Uk (Uk C).2).2);obtain⟨B,rfl⟩:∃B:Nat,g=(B:Int):=⟨g.toNat,by omega⟩;rw[lN];have w:(⟨m.nQ⟩:TV)=m:=rfl;have h:(⟨q.d5.nW,q.d5.nA,q.d5.ej,q.d5.pj⟩:jW)=q.d5:=rfl;have key:∀(f n N:Nat) (d:QR) (p:Cf) (a:rM),n+f=B→f<N→p.oq.length≤8000000+n→a.length≤8000000+n→(∀r∈a,(fJ r 6).length≤500000000000+400*n)→
   iH kW b 1002 Z c (B:Int) q.d5.nW q.d5.nA q.d5.ej q.d5.pj q.eo.nW q.eo.nA q.eo.d9 q.qo.nP.rA q.qo.nP.rN q.qo.nP.rX q.qo.nP.S9 q.qo.nP.Id q.qo.nP.Ta q.qo.nP.py q.qo.nP.pN q.qo.nP.pk.eh q.qo.nP.pk.oC q.qo.nP.pk.oz q.qo.nP.pk.e4 q.qo.nP.pk.XY q.qo.nP.pk.ez q.qo.nP.pk.su q.qo.nP.pk.ed q.qo.nA q.qo.d9 q.uc q.qj m.nQ N (n:Int) d.nW d.nA d.d9 p.nW p.nA p.d9 a p.oq=(λz:TV×pE×Cf×rM×Int=>b z.1 z.2.1 z.2.2.1 z.2.2.2.1 z.2.2.2.2) (Ww Z m c q (UA Z m c f d p a (n:Int))):=by
  intro f
  induction f with
  | zero=>
   intro n N d p a D E F G i;obtain⟨N,rfl⟩:=O4 N;rw[byH];have H:decide ((n:Int)<(B:Int))=false:=yF (by omega);have o:∀(r:jW),cE Z m c r (⟨p.nW,p.nA,p.d9,p.oq⟩:Cf)=true:=λr=>by simp only[cE,gF];exact⟨k,Tl (show p.oq.length≤16777216 by omega)⟩
   simp only[zu,H,w,h,o,cd,HI,rl];rfl
  | succ f I=>
   intro n N d p a D E F G i;obtain⟨N,rfl⟩:=O4 N;rw[byH];have L:decide ((n:Int)<(B:Int))=true:=Tl (by omega);have M:(⟨d.nW,d.nA,d.d9⟩:QR)=d:=rfl;have O:(⟨p.nW,p.nA,p.d9,p.oq⟩:Cf)=p:=rfl;have o:∀(r:jW),cE Z m c r p=true:=λr=>by simp only[cE,gF];exact⟨k,Tl (show p.oq.length≤16777216 by omega)⟩
   have P:∀x:List DC,Z6 p [x]=true:=λx=>by simp only[Z6,gF,kQ];exact⟨Tl (by omega),by simp only[di,sS];omega⟩
   have s:∀x:oY,OA a x=true:=λx=>by simp only[OA,gF,t6,kQ];exact⟨by omega,λr h=>tl (i r h) (by omega)⟩
   have Q:ZK ((n:Int)+1)=((n+1:Nat):Int):=by rw[Ou];omega
   have t:∀x:List DC,(Ni p [x]).1.oq.length≤p.oq.length+1:=λx=>by
    unfold Ni;cases (bif !(mK p) then true else !(mK (⟨p.nW,p.nA,p.d9,p.oq++[x]⟩:Cf)))
    ·simp
    ·simp
   simp only[zu,L,w,h,M,O,o,P,s,Q,cd,HI,UA];cases W:(Tt Z m c d).2.2
   ·simp only[uy,HI];rfl
   ·simp only[tk,rl];have u:∀j:rM,j.length≤a.length+1→(∀r∈j,(fJ r 6).length≤500000000000+400*n+400)→_:=λj X R=>I (n+1) N (Tt Z m c d).2.1 (Ni p [[.int (Tt Z m c d).1.sr]]).1 j (by omega) (by omega) (tl (t _) (by omega)) (by omega) (λr h=>tl (R r h) (by omega));unfold YC YB;cases hR:(vV Z m c (zj p (Tt Z m c d).1.sr) (Tt Z m c d).1.e8).2
    ·exact u a (by omega) (λr h=>tl (i r h) (by omega))
    ·simp only[HI];cases hC:((uN (vV Z m c (zj p (Tt Z m c d).1.sr) (Tt Z m c d).1.e8).1).2==0)
     ·exact u a (by omega) (λr h=>tl (i r h) (by omega))
     ·exact u _ (nzd _ _) (nwD i)
 have:=key B 0 1002 q.eU p e (by omega) (by omega) (by omega) (by omega) (λr h=>y r h);exact this
def nhA(a:Int→QP→α)(h:QP)(k b:Int):α:=let c:TV×pE×Cf×rM×Int:=nz h.ei h.oa 0 (pE.nd (V h.Rx (so k)) 0) (Cf.nd (V h.oh (so k)) 0) h.oI b;let d:pE:=c.2.1;let i:jW:=d.d5;let j:QR:=d.eo;let l:QR:=d.eU;let e:jf:=d.qo;let f:oY:=e.nP;let m:ch:=f.pk;let g:Cf:=c.2.2.1;bif Bk (Bk (Bk (Bk (Bk (Bk (Bk (Bk (Bk true (idx k h.Rx)) (inl (so k) h.Rx)) (idx k h.oh)) (inl (so k) h.oh)) (Nx h.ei h.oa 0 (pE.nd (V h.Rx (so k)) 0) (Cf.nd (V h.oh (so k)) 0) h.oI b)) (idx k h.Rx)) (inl (so k) h.Rx)) (idx k h.oh)) ((inl (so k) h.oh) && (Nat.beq (so k) (so k))) then a c.2.2.2.2 (⟨c.1,h.ei,h.Tx,sI h.Rx (so k) (CI (V h.Rx (so k)) 0 (pE.enc d)),sI h.oh (so k) (CI (V h.oh (so k)) 0 (Cf.enc g)),h.nL,h.n8,h.ec,h.ni,c.2.2.2.1,h.oU,h.tB,h.ox,h.oV,h.d4⟩:QP) else kW
def nk(h:QP)(k a:Int):TV×pE×Cf×rM×Int:=nz h.ei h.oa 0 (pE.nd (V h.Rx k.toNat) 0) (Cf.nd (V h.oh k.toNat) 0) h.oI a
def kV(h:QP)(k a:Int):Bool:=(decide (0≤k) && (decide (k<len h.Rx) && decide (k<len h.oh))) && Nx h.ei h.oa 0 (pE.nd (V h.Rx k.toNat) 0) (Cf.nd (V h.oh k.toNat) 0) h.oI a
def YK(h:QP)(k a:Int):Int×QP:=((nk h k a).2.2.2.2, {h with oa:=(nk h k a).1,Rx:=sI h.Rx k.toNat (pE.enc (nk h k a).2.1),oh:=sI h.oh k.toNat (Cf.enc (nk h k a).2.2.1),oI:=(nk h k a).2.2.2.1})
theorem nfD(a:Int→QP→α)(h:QP)(k b:Int)(d:i_ QP.ct h.enc)(n:kV h k b=true):nhA kW a h k b=a (YK h k b).1 (YK h k b).2:=by
 obtain⟨u,o⟩:=jD (QP.nzL d);obtain⟨v,e⟩:=jD (QP.noc d);have l:=n;simp only[kV,gF,kQ] at l;obtain⟨⟨w,p,r⟩,m⟩:=l;obtain⟨c,rfl⟩:∃c:Nat,k=(c:Int):=⟨k.toNat,by omega⟩;rw[lN] at m;have f:c<h.Rx.length:=by simp only[len] at p;omega
 have g:c<h.oh.length:=by simp only[len] at r;omega
 have s:=congrArg t3 (pE.eta (o _ (oA f)));have t:=congrArg t3 (Cf.eta (e _ (oA g)));have i:∀q:pE,CI (V h.Rx c) 0 (pE.enc q)=pE.enc q:=λq=>YS (s.symm.trans rfl);have j:∀q:Cf,CI (V h.oh c) 0 (Cf.enc q)=Cf.enc q:=λq=>YS (t.symm.trans rfl);unfold nhA YK nk;rw[lN];refine Bw (by simp only[uH f,SG f,uH g,SG g,m,Nat.beq_refl,cd,uF]) ?_;rw[i,j]
def WZ(a:QP→Int→α)(c x:Int)(w:Int→Int→Int→Int→Int→Int→Int→Int→Int→Int→Int→Bool→Y→Bool→Int→Int→Int→Int→Int→rM→rM→rM→rM→rM→rM→rM→rM→rM→rM→rM→rM→rM→rM→rM→rM→α)(e b oe qz qA qB qk ql qm qC y:Int)(z:Bool)(qY:Y)(A:Bool)(rC rD rE rF rG:Int)(B C pD o7 D E r q F rH rJ qc G H I K:rM):α:=let z0:Bool:=Bk (Bk true (idx b r)) (inl (so b) r);let z1:Bool:=Bk (Bk true (idx b q)) (inl (so b) q);let L:rM:=sI q (so b) (CI (V q (so b)) 0 [.bool true]);let z3:rM:=sI r (so b) (CI (V r (so b)) 0 (Tj.enc ((Uj (Tj.nd (V r (so b)) 0)).1)));let z4:Sx:=(⟨(⟨oe,qz,qA,qB⟩:jW),(⟨qk,ql,qm,pD⟩:Cf),o7,qC⟩:Sx);let z5:nJ:=(⟨rH,(⟨rJ⟩:W4),(⟨qY,qc⟩:aV)⟩:nJ);let z6:SI:=(⟨rC,rD,rE,rF,rG⟩:SI);let z7:QP:=(⟨(⟨B⟩:TV),C,z4,D,E,z3,L,(⟨y,z,F⟩:AP),z5,G,A,H,I,K,z6⟩:QP);let z8:Int×QP:=YK z7 b c;let z9:Int:=z8.1;let f:QP:=z8.2;let M:rM:=f.n8;let g:rM:=f.nL;let N:Bool:=idx b g;let O:Bool:=inl (so b) g;let P:Int:=ZK (e+z9);let Nd:Sx:=f.Tx;let l:jW:=Nd.d5;let Q:Int:=l.nW;let R:Int:=l.nA;let S:Int:=l.ej;let T:Int:=l.pj;let m:Cf:=Nd.nM;let U:Int:=m.nW;let W:Int:=m.nA;let X:Int:=m.d9;let Z:Int:=Nd.en;let s:AP:=f.ec;let z28:Int:=s.N8;let z29:Bool:=s.n9;let t:nJ:=f.ni;let z31:aV:=t.nV;let z32:Y:=z31.eJ;let z33:Bool:=f.oU;let h:SI:=f.d4;let z35:Int:=h.ek;let z36:Int:=h.zN;let z37:Int:=h.oB;let z38:Int:=h.oZ;let z39:Int:=h.qE;let z40:rM:=f.oa.nQ;let z41:rM:=f.ei;let z42:rM:=m.oq;let z43:rM:=Nd.nx;let z44:rM:=f.Rx;let z45:rM:=f.oh;let z46:List DC:=V g (so b);let z47:Tj:=Gi (Tj.nd z46 0);let z48:rM:=s.pO;let z49:rM:=t.oQ;let z50:rM:=t.eb.nO;let z51:rM:=z31.eb;let z52:rM:=f.oI;let z53:rM:=f.tB;let z54:rM:=f.ox;let z55:rM:=f.oV;let z56:QP:=(⟨(⟨B⟩:TV),C,z4,D,E,z3,q,(⟨y,z,F⟩:AP),z5,G,A,H,I,K,z6⟩:QP);let z57:Int×QP:=YK z56 b c;let z58:Int:=z57.1;let d:QP:=z57.2;let i:rM:=d.n8;let j:rM:=d.nL;let z62:Bool:=idx b j;let z63:Bool:=inl (so b) j;let z64:Int:=ZK (e+z58);let n:Sx:=d.Tx;let o:jW:=n.d5;let z67:Int:=o.nW;let z68:Int:=o.nA;let z69:Int:=o.ej;let z70:Int:=o.pj;let p:Cf:=n.nM;let z72:Int:=p.nW;let z73:Int:=p.nA;let z74:Int:=p.d9;let z75:Int:=n.en;let u:AP:=d.ec;let z77:Int:=u.N8;let z78:Bool:=u.n9;let v:nJ:=d.ni;let z80:aV:=v.nV;let z81:Y:=z80.eJ;let z82:Bool:=d.oU;let k:SI:=d.d4;let z84:Int:=k.ek;let z85:Int:=k.zN;let z86:Int:=k.oB;let z87:Int:=k.oZ;let z88:Int:=k.qE;let z89:rM:=d.oa.nQ;let z90:rM:=d.ei;let z91:rM:=p.oq;let z92:rM:=n.nx;let z93:rM:=d.Rx;let z94:rM:=d.oh;let z95:List DC:=V j (so b);let z96:Tj:=Gi (Tj.nd z95 0);let z97:rM:=u.pO;let z98:rM:=v.oQ;let z99:rM:=v.eb.nO;let nEu:rM:=z80.eb;let nEv:rM:=d.oI;let nEw:rM:=d.tB;let nEx:rM:=d.ox;let nEy:rM:=d.oV;bif decide (b<x) then bif z0 then bif z0 then bif (Uj (Tj.nd (V r (so b)) 0)).2 then bif z1 then bif Bk (Bk true (idx b L)) (inl (so b) L) then bif !(yz (V L (so b)) 0) then w e (ZK (b+1)) oe qz qA qB qk ql qm qC y z qY A rC rD rE rF rG B C pD o7 D E z3 L F rH rJ qc G H I K else bif Bk true (kV z7 b c) then bif decide (z9<c) then bif Bk (Bk true (idx b M)) (inl (so b) M) then bif Bk (Bk (Bk (Bk true N) O) N) O then w P (ZK (b+1)) Q R S T U W X Z z28 z29 z32 z33 z35 z36 z37 z38 z39 z40 z41 z42 z43 z44 z45 (sI g (so b) (CI z46 0 (Tj.enc z47))) (sI M (so b) (CI (V M (so b)) 0 [.bool false])) z48 z49 z50 z51 z52 z53 z54 z55 else kW else kW else w P (ZK (b+1)) Q R S T U W X Z z28 z29 z32 z33 z35 z36 z37 z38 z39 z40 z41 z42 z43 z44 z45 g M z48 z49 z50 z51 z52 z53 z54 z55 else kW else kW else kW else bif z1 then bif !(yz (V q (so b)) 0) then w e (ZK (b+1)) oe qz qA qB qk ql qm qC y z qY A rC rD rE rF rG B C pD o7 D E z3 q F rH rJ qc G H I K else bif Bk true (kV z56 b c) then bif decide (z58<c) then bif Bk (Bk true (idx b i)) (inl (so b) i) then bif Bk (Bk (Bk (Bk true z62) z63) z62) z63 then w z64 (ZK (b+1)) z67 z68 z69 z70 z72 z73 z74 z75 z77 z78 z81 z82 z84 z85 z86 z87 z88 z89 z90 z91 z92 z93 z94 (sI j (so b) (CI z95 0 (Tj.enc z96))) (sI i (so b) (CI (V i (so b)) 0 [.bool false])) z97 z98 z99 nEu nEv nEw nEx nEy else kW else kW else w z64 (ZK (b+1)) z67 z68 z69 z70 z72 z73 z74 z75 z77 z78 z81 z82 z84 z85 z86 z87 z88 z89 z90 z91 z92 z93 z94 j i z97 z98 z99 nEu nEv nEw nEx nEy else kW else kW else kW else kW else a (⟨(⟨B⟩:TV),C,z4,D,E,r,q,(⟨y,z,F⟩:AP),z5,G,A,H,I,K,z6⟩:QP) e
def RV(a:QP→Int→α)(N:Nat)(b x:Int)(c:Nat):Int→Int→Int→Int→Int→Int→Int→Int→Int→Int→Int→Bool→Y→Bool→Int→Int→Int→Int→Int→rM→rM→rM→rM→rM→rM→rM→rM→rM→rM→rM→rM→rM→rM→rM→rM→α:=WS (λ_ _ _ _ _ _ _ _ _ _ _ _ _ _ _ _ _ _ _ _ _ _ _ _ _ _ _ _ _ _ _ _ _ _ _=>kW) (WZ kW a b x) c
theorem nnI(a:QP→Int→α)(N:Nat)(b x:Int)(c:Nat):RV kW a N b x (c+1)=WZ kW a b x (RV kW a N b x c):=rfl
def Hh(a:QP→Int→α)(c:Int→Int→Int→Int→Int→Int→Int→Int→Int→Int→Int→Int→Bool→Y→Bool→Int→Int→Int→Int→Int→rM→rM→rM→rM→rM→rM→rM→rM→rM→rM→rM→rM→rM→rM→rM→rM→α)(h:QP)(b:Int):α:=bif Bk true (eW h) then bif lV (!(sN h)) (Bk true (jV h)) (Bk true (jV h)) then bif bif !(sN h) then true else !(nn b 1 1000) then a (cp h) 0 else c (len ((cp h).Rx)) 0 0 ((((cp h).Tx).d5).nW) ((((cp h).Tx).d5).nA) ((((cp h).Tx).d5).ej) ((((cp h).Tx).d5).pj) ((((cp h).Tx).nM).nW) ((((cp h).Tx).nM).nA) ((((cp h).Tx).nM).d9) (((cp h).Tx).en) (((cp h).ec).N8) (((cp h).ec).n9) ((((cp h).ni).nV).eJ) ((cp h).oU) (((cp h).d4).ek) (((cp h).d4).zN) (((cp h).d4).oB) (((cp h).d4).oZ) (((cp h).d4).qE) (((cp h).oa).nQ) ((cp h).ei) ((((cp h).Tx).nM).oq) (((cp h).Tx).nx) ((cp h).Rx) ((cp h).oh) ((cp h).nL) ((cp h).n8) (((cp h).ec).pO) (((cp h).ni).oQ) ((((cp h).ni).eb).nO) ((((cp h).ni).nV).eb) ((cp h).oI) ((cp h).tB) ((cp h).ox) ((cp h).oV) else kW else kW
def xv(a:QP→Int→α)(N:Nat)(h:QP)(b:Int):α:=Hh kW a (λx=>RV kW a N b x N) h b
def US(o:QP)(i:Nat)(a:Int):TV×pE×Cf×rM×Int:=nz o.ei o.oa 0 (pE.nd (V o.Rx i) 0) (Cf.nd (V o.oh i) 0) o.oI a
def sO(o:QP)(i:Nat):Tj×Bool:=Uj (Tj.nd (V o.nL i) 0)
def Ru(gq:Int)(i:Nat)(s:QP×Int):QP×Int:=bif !(bif (sO s.1 i).2 then true else yz (V s.1.n8 i) 0) then ({s.1 with nL:=sI s.1.nL i (Tj.enc (sO s.1 i).1),n8:=bif (sO s.1 i).2 then sI s.1.n8 i [.bool true] else s.1.n8},s.2) else bif decide ((US s.1 i gq).2.2.2.2<gq) then ({s.1 with oa:=(US s.1 i gq).1,Rx:=sI s.1.Rx i (pE.enc (US s.1 i gq).2.1),oh:=sI s.1.oh i (Cf.enc (US s.1 i gq).2.2.1),oI:=(US s.1 i gq).2.2.2.1,nL:=sI s.1.nL i (Tj.enc (Gi (sO s.1 i).1)),n8:=sI s.1.n8 i [.bool false]},ZK (s.2+(US s.1 i gq).2.2.2.2)) else ({s.1 with oa:=(US s.1 i gq).1,Rx:=sI s.1.Rx i (pE.enc (US s.1 i gq).2.1),oh:=sI s.1.oh i (Cf.enc (US s.1 i gq).2.2.1),oI:=(US s.1 i gq).2.2.2.1,nL:=sI s.1.nL i (Tj.enc (sO s.1 i).1),n8:=bif (sO s.1 i).2 then sI s.1.n8 i [.bool true] else s.1.n8},ZK (s.2+(US s.1 i gq).2.2.2.2))
def Z5(h:QP):Bool:=h.oh.all (λr=>decide ((Zc r 3).length≤8000000)) && (decide (h.oI.length≤4000000) && h.oI.all (λr=>decide ((fJ r 6).length≤400000000000)))
def fe(h:QP)(a:Int):Bool:=eW h && (jV h && Z5 h)
def ua(h:QP)(a:Int):QP×Int:=bif bif !(sN h) then true else !(nn a 1 1000) then (h,0) else Wc (Ru a) h.Rx.length 0 (h,0)
theorem nbI{l:rM}{i:Nat}(h:i<l.length):sI l i (V l i)=l:=by simp[V,tL,h]
theorem mH{l:rM}{i j:Nat}(h:i≠j)(x:List DC):V (sI l i x) j=V l j:=by simp only[V,tL,vp h]
theorem ncJ(l:rM)(m:TV)(d:Int):∀(f:Nat) (q:QR) (p:Cf) (a:rM) (n:Int) (D:Nat),(∀r∈a,(fJ r 6).length≤D)→
  (UA l m d f q p a n).2.1.oq.length≤p.oq.length+f∧(UA l m d f q p a n).2.2.1.length≤a.length+f∧∀r∈(UA l m d f q p a n).2.2.1,(fJ r 6).length≤D+400*f
 | 0,_,_,_,_,_,h=>⟨tK _,tK _,λr b=>tl (h r b) (by omega)⟩
 | f+1,q,p,a,n,D,h=>by
  simp only[UA];cases (Tt l m d q).2.2
  ·exact⟨ui _ _,ui _ _,λr b=>tl (h r b) (by omega)⟩
  ·have c:∀x:List DC,(Ni p [x]).1.oq.length≤p.oq.length+1:=λx=>by
    unfold Ni;cases (bif !(mK p) then true else !(mK (⟨p.nW,p.nA,p.d9,p.oq++[x]⟩:Cf)))
    ·simp
    ·simp
   have e:(YC l m d p (Tt l m d q).1 a).length≤a.length+1∧∀r∈YC l m d p (Tt l m d q).1 a,(fJ r 6).length≤D+400:=by
    unfold YC;cases (YB l m d p (Tt l m d q).1).2
    ·exact⟨Nat.le_succ _,λr b=>tl (h r b) (by omega)⟩
    ·cases ((uN (YB l m d p (Tt l m d q).1).1).2==0)
     ·exact⟨Nat.le_succ _,λr b=>tl (h r b) (by omega)⟩
     ·exact⟨nzd _ _,nwD h⟩
   obtain⟨i,j,g⟩:=ncJ l m d f (Tt l m d q).2.1 (Ni p [[.int (Tt l m d q).1.sr]]).1 (YC l m d p (Tt l m d q).1 a) (ZK (n+1)) (D+400) e.2;have:=c [.int (Tt l m d q).1.sr];simp only[tk,rl];exact⟨by omega,by omega,λr b=>tl (g r b) (by omega)⟩
theorem nwW(l:rM)(m:TV)(d:Int)(q:pE)(p:Cf)(a:rM)(b:Int)(D:Nat)(h:∀r∈a,(fJ r 6).length≤D):
  (nz l m d q p a b).1.nQ.length=m.nQ.length∧(nz l m d q p a b).2.2.1.oq.length≤p.oq.length+1000∧(nz l m d q p a b).2.2.2.1.length≤a.length+1000∧∀r∈(nz l m d q p a b).2.2.2.1,(fJ r 6).length≤D+400000:=by
 unfold nz;cases e:(bif !(iy q) then true else bif !(mK p) then true else !(nn b 0 1000))
 ·have i:=Wx.1 (ux (Uk (Uk e).2).2);simp only[rl,Ww];obtain⟨j,k,f⟩:=ncJ l m d b.toNat q.eU p a 0 D h;obtain⟨g,n⟩:=Yn l m d q.d5 (UA l m d b.toNat q.eU p a 0).2.1;exact⟨g,by omega,by omega,λr c=>tl (f r c) (by omega)⟩
 ·exact⟨rfl,ui _ _,ui _ _,λr c=>tl (h r c) (by omega)⟩
def Pm(h:QP)(i:Nat)(o:QP):Prop:=o= {h with oa:=o.oa,Rx:=o.Rx,oh:=o.oh,nL:=o.nL,n8:=o.n8,oI:=o.oI} ∧o.oa.nQ.length=h.oa.nQ.length∧o.Rx.length=h.Rx.length∧o.oh.length=h.oh.length∧o.nL.length=h.nL.length∧o.n8.length=h.n8.length∧ (∀j,i≤j→V o.Rx j=V h.Rx j∧V o.oh j=V h.oh j∧V o.nL j=V h.nL j∧V o.n8 j=V h.n8 j)∧(∀r∈o.oh,(Zc r 3).length≤8000000+1000*i)∧o.oI.length≤4000000+1000*i∧∀r∈o.oI,(fJ r 6).length≤400000000000+400000*i
theorem On{h:QP}(a:Z5 h=true):Pm h 0 h:=by simp only[Z5,gF,t6,kQ] at a;exact⟨rfl,rfl,rfl,rfl,rfl,rfl,λ_ _=>⟨rfl,rfl,rfl,rfl⟩,a.1,a.2.1,a.2.2⟩
theorem nwn(l:rM)(i B:Nat)(h:∀r∈l,(Zc r 3).length≤B):(Cf.nd (V l i) 0).oq.length≤B:=by
 show (Zc (V l i) 3).length≤B;by_cases a:i<l.length
 ·exact h _ (oA a)
 ·rw[show V l i=[] by simp[V,tL,vr (Nat.le_of_not_lt a)]];exact tI _
theorem opF{h:QP}{c:Int}{i:Nat}{o:QP}{t:Int}(z:Pm h i o):Pm h (i+1) (Ru c i (o,t)).1:=by
 obtain⟨A,B,C,D,E,F,G,k,X,g⟩:=z;obtain⟨m,Z,k3,H⟩:=nwW o.ei o.oa 0 (pE.nd (V o.Rx i) 0) (Cf.nd (V o.oh i) 0) o.oI c _ g;have k5:=nwn o.oh i _ k;have n:∀(b:Bool) (x:List DC),(bif b then sI o.n8 i x else o.n8).length=o.n8.length∧∀j,i+1≤j→V (bif b then sI o.n8 i x else o.n8) j=V o.n8 j:=λb x=>by
  cases b
  ·exact⟨rfl,λ_ _=>rfl⟩
  ·exact⟨t5 ..,λj f=>mH (by omega) _⟩
 have d:∀(l:rM) (x:List DC),(sI l i x).length=l.length∧∀j,i+1≤j→V (sI l i x) j=V l j:=λl x=>⟨t5 ..,λj f=>mH (by omega) _⟩;have fin:∀(M:TV) (R P a L T:rM),M.nQ.length=o.oa.nQ.length→(R.length=o.Rx.length∧∀j,i+1≤j→V R j=V o.Rx j)→(P.length=o.oh.length∧∀j,i+1≤j→V P j=V o.oh j)→(a.length=o.nL.length∧∀j,i+1≤j→V a j=V o.nL j)→(L.length=o.n8.length∧∀j,i+1≤j→V L j=V o.n8 j)→(∀r∈P,(Zc r 3).length≤8000000+1000*(i+1))→T.length≤4000000+1000*(i+1)→(∀r∈T,(fJ r 6).length≤400000000000+400000*(i+1))→
   Pm h (i+1) {o with oa:=M,Rx:=R,oh:=P,nL:=a,n8:=L,oI:=T} :=by
  intro M R P a L T I p q s u K N O;refine⟨?_,I.trans B,p.1.trans C,q.1.trans D,s.1.trans E,u.1.trans F,λj f=>?_,K,N,O⟩
  ·have this:=congrArg (λx:QP=>({x with oa:=M,Rx:=R,oh:=P,nL:=a,n8:=L,oI:=T} :QP)) A;exact this
  ·obtain⟨Q,S,U,W⟩:=G j (by omega);exact⟨(p.2 j f).trans Q,(q.2 j f).trans S,(s.2 j f).trans U,(u.2 j f).trans W⟩
 have v:∀r∈sI o.oh i (Cf.enc (US o i c).2.2.1),(Zc r 3).length≤8000000+1000*(i+1):=λr e=>by
  rcases npV e with h | rfl
  ·exact tl (k r h) (by omega)
  ·show (US o i c).2.2.1.oq.length≤_;unfold US;omega
 have w:(US o i c).2.2.2.1.length≤4000000+1000*(i+1):=by unfold US;omega
 have y:∀r∈(US o i c).2.2.2.1,(fJ r 6).length≤400000000000+400000*(i+1):=λr e=>tl (H r e) (by omega);unfold Ru;simp only[];cases (!(bif (sO o i).2 then true else yz (V o.n8 i) 0))
 ·cases decide ((US o i c).2.2.2.2<c)
  ·exact fin _ _ _ _ _ _ m (d _ _) (d _ _) (d _ _) (n _ _) v w y
  ·exact fin _ _ _ _ _ _ m (d _ _) (d _ _) (d _ _) (d _ _) v w y
 ·exact fin o.oa o.Rx o.oh _ _ o.oI rfl ⟨rfl,λ_ _=>rfl⟩ ⟨rfl,λ_ _=>rfl⟩ (d _ _) (n _ _) (λr e=>tl (k r e) (by omega)) (by omega) (λr e=>tl (g r e) (by omega))
theorem nqm{h:QP}(e:sN h=true)(s:eW h=true)(d:Z5 h=true){i:Nat}{o:QP}(k:i<h.Rx.length)(f:Pm h i o)(b:Int):∀(a P:rM),kV (⟨(⟨o.oa.nQ⟩:TV),o.ei,(⟨(⟨o.Tx.d5.nW,o.Tx.d5.nA,o.Tx.d5.ej,o.Tx.d5.pj⟩:jW),(⟨o.Tx.nM.nW,o.Tx.nM.nA,o.Tx.nM.d9,o.Tx.nM.oq⟩:Cf),o.Tx.nx,o.Tx.en⟩:Sx),o.Rx,o.oh,a,P,(⟨o.ec.N8,o.ec.n9,o.ec.pO⟩:AP),(⟨o.ni.oQ,(⟨o.ni.eb.nO⟩:W4),(⟨o.ni.nV.eJ,o.ni.nV.eb⟩:aV)⟩:nJ),o.oI,o.oU,o.tB,o.ox,o.oV,(⟨o.d4.ek,o.d4.zN,o.d4.oB,o.d4.oZ,o.d4.qE⟩:SI)⟩:QP) (i:Int) b=true:=by
 intro a P;obtain⟨_,n2,l,m,n,p⟩:=Zd e;obtain⟨q,t,u,v,w,x,g,y,z,c⟩:=f;simp only[eW,gF] at s;have A:=RG s.1;simp only[Z5,gF,t6,kQ] at d;have B:(Cf.nd (V o.oh i) 0).oq.length≤8000000:=by rw[(g i (tK _)).2.1];exact nwn h.oh i _ d.1
 simp only[kV,Nx,gF,kQ,t6,lN,zH,Of,len];exact⟨⟨by omega,Tl (show (i:Int)<(o.Rx.length:Int) by omega),Tl (show (i:Int)<(o.oh.length:Int) by omega)⟩,by omega,by omega,by omega,λr j=>tl (c r j) (by omega)⟩
theorem njO{h:QP}{gq:Int}(b:Z5 h=true):∃i,i≤2∧Pm h i (ua h gq).1:=by
 unfold ua;cases c:(bif !(sN h) then true else !(nn gq 1 1000))
 ·have:=(Zd (ux (Uk c).1)).2.1;have:∀(m i:Nat) (o:QP×Int),Pm h i o.1→Pm h (i+m) (Wc (Ru gq) m i o).1:=by
   intro m
   induction m with
   | zero=>intro i o a;exact a
   | succ m d=>intro i ⟨o,t⟩ a;have:=d (i+1) (Ru gq i (o,t)) (opF (t:=t) a);rw[show i+(m+1)=i+1+m by omega];exact this
  exact⟨_,by omega,this h.Rx.length 0 (h,0) (On b)⟩
 ·exact⟨0,by omega,On b⟩
theorem nCx(a:QP→Int→α)(h:QP)(d:Int)(f:i_ QP.ct h.enc)(E:fe h d=true):∃N,xv kW a N h d=a (ua h d).1 (ua h d).2:=by
 obtain⟨hl,Q⟩:=jD (QP.nzL f);have r:=(jD (QP.noc f)).2;have u:=(jD (QP.nmg f)).2;have x:=(jD (QP.nAl f)).2;simp only[fe,gF] at E;obtain⟨s,b,F⟩:=E;have s':=s;simp only[eW,gF] at s';have s0:=RG s'.1;refine⟨h.Rx.length+1, ?_⟩;unfold xv Hh ua;rw[show cp h=h from rfl];refine Bw (zL s) ?_;refine Bw (by rw[b];exact eE (λ_=>rfl) (λ_=>rfl)) ?_;refine oN (K:=λz:QP×Int=>a z.1 z.2) (λ_=>rfl) (λR=>?_);obtain⟨S,T⟩:=Uk R;have G:=ux S;have U:=Wx.1 (ux T);obtain⟨_,n2,r1,r2,r3,r4⟩:=Zd G;have key:RV kW a (h.Rx.length+1) d (len h.Rx) (h.Rx.length+1) 0 0 h.Tx.d5.nW h.Tx.d5.nA h.Tx.d5.ej h.Tx.d5.pj h.Tx.nM.nW h.Tx.nM.nA h.Tx.nM.d9 h.Tx.en h.ec.N8 h.ec.n9 h.ni.nV.eJ h.oU h.d4.ek h.d4.zN h.d4.oB h.d4.oZ h.d4.qE h.oa.nQ h.ei h.Tx.nM.oq h.Tx.nx h.Rx h.oh h.nL h.n8 h.ec.pO h.ni.oQ h.ni.eb.nO h.ni.nV.eb h.oI h.tB h.ox h.oV=(λz:QP×Int=>a z.1 z.2) (Wc (Ru d) h.Rx.length 0 (h,0)):=by
  refine Xb h.Rx.length (λn i (o:QP×Int)=>RV kW a (h.Rx.length+1) d (len h.Rx) n o.2 i o.1.Tx.d5.nW o.1.Tx.d5.nA o.1.Tx.d5.ej o.1.Tx.d5.pj o.1.Tx.nM.nW o.1.Tx.nM.nA o.1.Tx.nM.d9 o.1.Tx.en o.1.ec.N8 o.1.ec.n9 o.1.ni.nV.eJ o.1.oU o.1.d4.ek o.1.d4.zN o.1.d4.oB o.1.d4.oZ o.1.d4.qE o.1.oa.nQ o.1.ei o.1.Tx.nM.oq o.1.Tx.nx o.1.Rx o.1.oh o.1.nL o.1.n8 o.1.ec.pO o.1.ni.oQ o.1.ni.eb.nO o.1.ni.nV.eb o.1.oI o.1.tB o.1.ox o.1.oV) (Ru d) (λz:QP×Int=>a z.1 z.2) (λi o=>Pm h i o.1) ?_ ?_ ?_ (h.Rx.length+1) (h,0) (On F) (by omega)
  ·rintro i ⟨o,t⟩ p g
   exact opF g
  ·rintro n i ⟨o,t⟩ p g
   replace g:Pm h i o:=g;have k:=nqm G s F p g d;obtain⟨H,m2,m3,m4,m5,m6,W,_,_,_⟩:=g;have I:=congrArg QP.ei H;replace I:o.ei=h.ei:=I;obtain⟨X,Z,g3,g4⟩:=W i (tK _);have L:i<o.Rx.length:=by omega
   have l:i<o.oh.length:=by omega
   have j:i<o.nL.length:=by omega
   have e:i<o.n8.length:=by omega
   show RV kW a (h.Rx.length+1) d (len h.Rx) (n+1) t (i:Int) o.Tx.d5.nW o.Tx.d5.nA o.Tx.d5.ej o.Tx.d5.pj o.Tx.nM.nW o.Tx.nM.nA o.Tx.nM.d9 o.Tx.en o.ec.N8 o.ec.n9 o.ni.nV.eJ o.oU o.d4.ek o.d4.zN o.d4.oB o.d4.oZ o.d4.qE o.oa.nQ o.ei o.Tx.nM.oq o.Tx.nx o.Rx o.oh o.nL o.n8 o.ec.pO o.ni.oQ o.ni.eb.nO o.ni.nV.eb o.oI o.tB o.ox o.oV=_;rw[nnI];have y:∀q:pE,CI (V o.Rx i) 0 (pE.enc q)=pE.enc q:=λq=>by rw[X];exact YS ((congrArg t3 (pE.eta (Q _ (oA p)))).symm.trans rfl)
   have A:∀q:Cf,CI (V o.oh i) 0 (Cf.enc q)=Cf.enc q:=λq=>by rw[Z];exact YS ((congrArg t3 (Cf.eta (r _ (oA (show i<h.oh.length by omega))))).symm.trans rfl)
   have B:∀q:Tj,CI (V o.nL i) 0 (Tj.enc q)=Tj.enc q:=λq=>by rw[g3];exact YS ((congrArg t3 (Tj.eta (u _ (oA (show i<h.nL.length by omega))))).symm.trans rfl)
   have C:∀v w:Tj,CI (Tj.enc v) 0 (Tj.enc w)=Tj.enc w:=λ_ _=>rfl;have dv:∀v:Tj,Tj.nd (Tj.enc v) 0=v:=λ_=>rfl;have m:∃b,V o.n8 i=[DC.bool b]:=⟨yz (V h.n8 i) 0,by rw[g4];exact (ngs (x _ (oA (show i<h.n8.length by omega)))).symm⟩;obtain⟨M,m⟩:=m;have D:sI o.n8 i [DC.bool M]=o.n8:=by rw[←m];exact nbI e
   have w1:ZK ((i:Int)+1)=(i:Int)+1:=Ou;have O:∀c P:rM,nk (⟨(⟨o.oa.nQ⟩:TV),o.ei,(⟨(⟨o.Tx.d5.nW,o.Tx.d5.nA,o.Tx.d5.ej,o.Tx.d5.pj⟩:jW),(⟨o.Tx.nM.nW,o.Tx.nM.nA,o.Tx.nM.d9,o.Tx.nM.oq⟩:Cf),o.Tx.nx,o.Tx.en⟩:Sx),o.Rx,o.oh,c,P,(⟨o.ec.N8,o.ec.n9,o.ec.pO⟩:AP),(⟨o.ni.oQ,(⟨o.ni.eb.nO⟩:W4),(⟨o.ni.nV.eJ,o.ni.nV.eb⟩:aV)⟩:nJ),o.oI,o.oU,o.tB,o.ox,o.oV,(⟨o.d4.ek,o.d4.zN,o.d4.oB,o.d4.oZ,o.d4.qE⟩:SI)⟩:QP) (i:Int) d=US o i d:=λc P=>rfl;simp only[WZ,T9 p,uH L,SG L,uH l,SG l,uH j,SG j,uH e,SG e,rS,Gg,lN,Nat.beq_refl,uF,y,A,B,w1,m,wc,CC,cd,TK,HI,Ru,sO,k,YK,O];cases hT:(Uj (Tj.nd (V o.nL i) 0)).2<;>cases M<;>simp only[D,Y4 e,Y4 j,List.set_set,uH e,SG e,rS,Gg,CC,TK,no0,wc,C,dv,m,k,YK,O,tk,uy,HI,rl,cd]
   all_goals first
    | rfl
    | (cases decide ((US o i d).2.2.2.2<d)<;>rfl)
  ·rintro n ⟨o,t⟩ g
   have H:=g.1;show RV kW a (h.Rx.length+1) d (len h.Rx) (n+1) t (h.Rx.length:Int) o.Tx.d5.nW o.Tx.d5.nA o.Tx.d5.ej o.Tx.d5.pj o.Tx.nM.nW o.Tx.nM.nA o.Tx.nM.d9 o.Tx.en o.ec.N8 o.ec.n9 o.ni.nV.eJ o.oU o.d4.ek o.d4.zN o.d4.oB o.d4.oZ o.d4.qE o.oa.nQ o.ei o.Tx.nM.oq o.Tx.nx o.Rx o.oh o.nL o.n8 o.ec.pO o.ni.oQ o.ni.eb.nO o.ni.nV.eb o.oI o.tB o.ox o.oV=_;rw[nnI];simp only[WZ,hO,rl]
 exact key
def naQ(a:Y→Bool→α)(s:Y):α:=let c:Bool:=decide (ZK ((len s) - 4)<0);let d:Bool:=Bk true (Oo s (ZK ((len s) - 4)));let b:Y:=Xg s (ZK ((len s) - 4));bif lV c true (Bk d (AK b)) then bif bif c then true else !((iR b)==s) then a [] false else bif d then a b true else kW else kW
def E_(s:Y):Bool:=decide (s.length≤1000000000)
def bE(s:Y):Y×Bool:=bif bif decide (len s<4) then true else !((iR (Xg s (len s - 4)))==s) then ([],false) else (Xg s (len s - 4),true)
theorem nnu(a:Y→Bool→α)(s:Y)(c:E_ s=true):naQ kW a s=a (bE s).1 (bE s).2:=by
 have g:s.length≤1000000000:=of_decide_eq_true c;have d:ZK (len s - 4)=len s - 4:=Ou (by simp only[len];omega) (by simp only[len];omega);have i:(Xg s (len s - 4)).length≤s.length:=by unfold Xg;rw[tt,tr];omega
 have e:AK (Xg s (len s - 4))=true:=Tl (by omega);unfold naQ bE;dsimp only;rw[d];rw[show decide (len s - 4<0)=decide (len s<4) from decide_eq_decide.2 (by omega)];rw[e];by_cases b:len s<4
 ·rw[Tl b];refine Bw (eE (λ_=>rfl) (λh=>by cases h)) rfl
 ·have f:Oo s (len s - 4)=true:=by simp only[len] at b;simp only[Oo,gF,kQ];simp only[len];omega
  rw[yF b,f];refine Bw rfl ?_;exact oN (K:=λr:Y×Bool=>a r.1 r.2) (λ_=>rfl) (λ_=>Bw rfl rfl)
def nku(a:Y→Bool→α)(s:Y):α:=let c:Bool:=Bk true (Oo s (ZK ((len s) - 4)));let b:Y:=Xg s (ZK ((len s) - 4));bif lV (decide (len s<4)) true (Bk c (AK b)) then bif bif decide (len s<4) then true else !((iR b)==s) then a [] false else bif c then a b true else kW else kW
theorem nng(a:Y→Bool→α)(s:Y)(c:E_ s=true):nku kW a s=a (bE s).1 (bE s).2:=by
 have g:s.length≤1000000000:=of_decide_eq_true c;have d:ZK (len s - 4)=len s - 4:=Ou (by simp only[len];omega) (by simp only[len];omega);have i:(Xg s (len s - 4)).length≤s.length:=by unfold Xg;rw[tt,tr];omega
 have e:AK (Xg s (len s - 4))=true:=Tl (by omega);unfold nku bE;dsimp only;rw[d];rw[e];by_cases b:len s<4
 ·rw[Tl b];refine Bw (eE (λ_=>rfl) (λh=>by cases h)) rfl
 ·have f:Oo s (len s - 4)=true:=by simp only[len] at b;simp only[Oo,gF,kQ];simp only[len];omega
  rw[yF b,f];refine Bw rfl ?_;exact oN (K:=λr:Y×Bool=>a r.1 r.2) (λ_=>rfl) (λ_=>Bw rfl rfl)
def nmS(a:Bool→α)(f:AP)(p:oY):α:=let b:Bool:=bif p.rX==(-1) then true else eD f.pO p.rX;a (bif mG f then bif p.rA==f.N8 then b else bif p.rA==281474976710655 then b else bif f.n9 then b else false else false)
def yf(f:AP)(p:oY):Bool:=nmS id f p
theorem njd(a:Bool→α)(f:AP)(p:oY):nmS a f p=a (yf f p):=by rfl
def ngT(c:Bool→α)(a b d:Int):α:=let e:Bool:=decide (0≤ZK (32 - d));bif Bk (Bk true e) e then c ((xu .i64 a (ZK (32 - d)))==(xu .i64 b (ZK (32 - d)))) else kW
def mv(a b c:Int):Bool:=decide (0≤ZK (32 - c))
def Gh(a b c:Int):Bool:=(xu .i64 a (ZK (32 - c)))==(xu .i64 b (ZK (32 - c)))
theorem nAB(c:Bool→α)(a b d:Int)(e:mv a b d=true):ngT kW c a b d=c (Gh a b d):=by have f:decide (0≤ZK (32 - d))=true:=e;unfold ngT;dsimp only;rw[f];rfl
def ncm(r:sY)(p:oY):Bool:=bif bif r.eh==0 then true else r.eh==p.pk.eh then bif Gh r.py p.py r.S7 then bif nn p.pk.oz r.UF r.X0 then bif r.rX==(-2) then true else r.rX==p.rX else false else false else false
def nzU(c:Bool→α)(a b:oY):α:=c (bif a.rA==b.rA then bif a.rN==b.rN then bif a.rX==b.rX then bif a.S9==b.S9 then bif a.Id==a.Id then bif a.Ta==b.Ta then bif a.py==b.py then bif a.pN==b.pN then bif bif a.pk.eh==b.pk.eh then bif a.pk.oC==b.pk.oC then bif a.pk.oz==b.pk.oz then bif a.pk.e4==a.pk.e4 then bif a.pk.XY==b.pk.XY then bif a.pk.ez==a.pk.ez then bif a.pk.su==b.pk.su then bif a.pk.ed==a.pk.ed then true else false else false else false else false else false else false else false else false then true else false else false else false else false else false else false else false else false else false)
def q_(a b:oY):Bool:=nzU id a b
theorem nfS(c:Bool→α)(a b:oY):nzU c a b=c (q_ a b):=by rfl
def nBG(a:jf→α)(p:oY):α:=a (⟨p,len p.pk.ed,1⟩:jf)
def Q7(p:oY):jf:=nBG id p
theorem nB_(a:jf→α)(p:oY):nBG a p=a (Q7 p):=by rfl
def ipz(a:Int→α)(s:aV)(f:SA):α:=bif bif (len s.eb)==0 then true else decide (XE s.eJ f<0) then a (-1) else bif Bk true (!((len s.eb)==0)) then a (tj (XE s.eJ f) (len s.eb)) else kW
def yN(s:aV)(f:SA):Int:=bif bif (len s.eb)==0 then true else decide (XE s.eJ f<0) then -1 else tj (XE s.eJ f) (len s.eb)
theorem nlN(a:Int→α)(s:aV)(f:SA):ipz kW a s f=a (yN s f):=by unfold ipz yN;refine oN (λ_=>rfl) (λb=>?_);exact Bw (by rw[(Uk b).1];rfl) rfl
end
end Go.Proofs.YteffpikahopfoaaGreat.Pl
