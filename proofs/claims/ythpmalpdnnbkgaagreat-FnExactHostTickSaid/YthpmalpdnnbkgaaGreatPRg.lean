/- What functions of the program compute, in plain Lean, as the value machine runs them. Conditions: none. -/
import Derived.Test.YthpmalpdnnbkgaaGreatPMo
set_option linter.unusedVariables false
set_option linter.unusedSimpArgs false
set_option maxRecDepth 100000
namespace Go.Proofs.YthpmalpdnnbkgaaGreat.Pl
open Vm
noncomputable section
def AM {α:Type} (k_:Bool→α) (n:Int):α:=
 k_ (bif n==2 then true else bif n==4 then true else bif n==8 then true else n==16)
def jG (n:Int):Bool:=AM id n
theorem aeY {α:Type} (k_:Bool→α) (n:Int):AM k_ n=k_ (jG n):=by
 rfl
def Pn {α:Type} (k_:Bool→α) (n:Int):α:=
 k_ (bif n==2 then true else bif n==4 then true else bif n==8 then true else n==16)
theorem ahV {α:Type} (k_:Bool→α) (n:Int) (h_n:WtC (.int .i64) (.int n)):Pn k_ n=k_ (jG n):=by
 exact rfl
def Ep {α:Type} (k_:Bool→α) (n:Int):α:=
 k_ (bif n==1 then true else bif n==2 then true else bif n==4 then true else bif n==8 then true else n==16)
def Eo (n:Int):Bool:=Ep id n
theorem aaK {α:Type} (k_:Bool→α) (n:Int):Ep k_ n=k_ (Eo n):=by
 rfl
def Pq {α:Type} (k_:Bool→α) (n:Int):α:=
 k_ (bif n==1 then true else bif n==2 then true else bif n==4 then true else bif n==8 then true else n==16)
theorem ahY {α:Type} (k_:Bool→α) (n:Int) (h_n:WtC (.int .i64) (.int n)):Pq k_ n=k_ (Eo n):=by
 exact rfl
def uV {α:Type} (bad:α) (k_:Int→α) (x:Int) (n:Int):α:=
 bif ak true (!(n==0)) then
  k_ (bif decide (Int.tmod x n<0) then w64 ((Int.tmod x n)+n) else Int.tmod x n)
 else bad
def Bi (x:Int) (n:Int):Bool:=uV false (fun _=>true) x n
def MO (x:Int) (n:Int):Int:=(uV none (fun r0=>some (r0)) x n).getD 0
theorem akR {α:Type} (bad:α) (k_:Int→α) (x:Int) (n:Int) (hok:Bi x n=true):uV bad k_ x n=k_ (MO x n):=by
 exact part_all (K:=fun r:Int=>k_ r) (part_guard part_leaf) hok
def GJ {α:Type} (bad:α) (k_:Int→α) (r:cf):α:=
 let z0:Int:=w64 ((MO r.fk (w64 (2*r.bB))) - (MO r.Head (w64 (2*r.bB))))
 bif !(jG r.bB) then k_ 0
 else bif ak (ak (ak true (Bi r.fk (w64 (2*r.bB)))) (Bi r.Head (w64 (2*r.bB)))) (Bi z0 (w64 (2*r.bB))) then
   k_ (MO z0 (w64 (2*r.bB)))
  else bad
theorem XF (k:Nat) (hk:k≤62) (a:Int):bits .and .i64 a ((2 ^ k - 1:Nat):Int)=a % ((2 ^ k:Nat):Int):=by
 have hp:2 ^ k≤2 ^ 62:=Nat.pow_le_pow_right (by decide) hk
 have h62:(2:Nat) ^ 62=4611686018427387904:=by decide
 have hd:2 ^ k ∣ (18446744073709551616:Nat):=by
  rw[show (18446744073709551616:Nat)=2 ^ 64 by decide]
  exact Nat.pow_dvd_pow 2 (by omega)
 have hc:(BitVec.ofInt 64 ((2 ^ k - 1:Nat):Int)).toNat=2 ^ k - 1:=by
  rw[BitVec.ofInt_natCast,BitVec.toNat_ofNat]
  exact Nat.mod_eq_of_lt (by omega)
 have hn:(BitVec.ofInt 64 a &&& BitVec.ofInt 64 ((2 ^ k - 1:Nat):Int)).toNat=(a % 18446744073709551616).toNat % 2 ^ k:=by
  rw[BitVec.toNat_and,hc,Nat.and_two_pow_sub_one_eq_mod,BitVec.toNat_ofInt]
  rfl
 have hlt:(a % 18446744073709551616).toNat % 2 ^ k<2 ^ k:=Nat.mod_lt _ (Nat.pos_of_ne_zero (by intro h;have:=Nat.two_pow_pos k;omega))
 have h63:(((BitVec.ofInt 64 a &&& BitVec.ofInt 64 ((2 ^ k - 1:Nat):Int)).toNat:Nat):Int)<2 ^ 63:=by
  rw[hn]
  have:(2:Int) ^ 63=9223372036854775808:=by decide
  rw[this]
  omega
 have e:bits .and .i64 a ((2 ^ k - 1:Nat):Int)=(((BitVec.ofInt 64 a &&& BitVec.ofInt 64 ((2 ^ k - 1:Nat):Int)).toNat:Nat):Int):=
  wraps_i64 (((BitVec.ofInt 64 a &&& BitVec.ofInt 64 ((2 ^ k - 1:Nat):Int)).toNat:Nat):Int) (Int.natCast_nonneg _) h63
 rw[e,hn,Int.natCast_emod,Int.toNat_of_nonneg (Int.emod_nonneg _ (by decide)),Int.emod_emod_of_dvd]
 exact Int.natCast_dvd_natCast.2 hd
theorem and_3 (a:Int):bits .and .i64 a 3=a % 4:=XF 2 (by decide) a
theorem arJ (a:Int):bits .and .i64 a 7=a % 8:=XF 3 (by decide) a
theorem ase (a:Int):bits .and .i64 a 15=a % 16:=XF 4 (by decide) a
theorem asf (a:Int):bits .and .i64 a 31=a % 32:=XF 5 (by decide) a
theorem Jb {n:Int} (h:jG n=true):n=2∨n=4∨n=8∨n=16:=by
 unfold jG AM at h
 by_cases h2:n=2
 ·exact .inl h2
 by_cases h4:n=4
 ·exact .inr (.inl h4)
 by_cases h8:n=8
 ·exact .inr (.inr (.inl h8))
 by_cases h16:n=16
 ·exact .inr (.inr (.inr h16))
 simp [h2,h4,h8,h16] at h
theorem MV {x n:Int} (hx: -9223372036854775808≤x) (hx':x≤9223372036854775807) (h:0<n) (h':n≤1000000):Bi x n=true∧MO x n=x % n:=by
 have hn:(n==0)=false:=by simp;omega
 have e:MO x n=bif decide (Int.tmod x n<0) then w64 ((Int.tmod x n)+n) else Int.tmod x n:=by
  unfold MO uV
  rw[hn]
  rfl
 refine⟨by unfold Bi uV;rw[hn];rfl, ?_⟩
 rw[e]
 have h1:=Int.tmod_eq_emod (a:=x) (b:=n)
 have h2:=Int.emod_nonneg x (show n≠0 by omega)
 have h3:=Int.emod_lt_of_pos x h
 by_cases hl:Int.tmod x n<0
 ·rw[decide_eq_true hl,cond_true]
  split at h1
  ·omega
  ·have hna:((n.natAbs:Nat):Int)=n:=by omega
   rw[hna] at h1
   rw[d8 (by omega) (by omega)]
   omega
 ·rw[decide_eq_false hl,cond_false]
  split at h1
  ·omega
  ·have hna:((n.natAbs:Nat):Int)=n:=by omega
   rw[hna] at h1
   omega
def FF (r:cf):Int:=bif jG r.bB then (r.fk - r.Head) % (2*r.bB) else 0
theorem ae2 {α:Type} (bad:α) (k_:Int→α) (r:cf) (h_r:WtL cf.ct r.enc):GJ bad k_ r=k_ (FF r):=by
 have ht:=Ex (cf.aq7 h_r)
 have hh:=Ex (cf.aq6 h_r)
 unfold GJ FF
 cases hs:jG r.bB
 ·rfl
 ·have h2:w64 (2*r.bB)=2*r.bB∧0<2*r.bB∧2*r.bB≤32:=by
   rcases Jb hs with h | h | h | h<;>rw[h]<;>exact⟨rfl,by decide,by decide⟩
  obtain⟨h2,h3,h4⟩:=h2
  obtain⟨a1,a2⟩:=MV ht.1 ht.2 h3 (by omega)
  obtain⟨b1,b2⟩:=MV hh.1 hh.2 h3 (by omega)
  have n1:=Int.emod_nonneg r.fk (show 2*r.bB≠0 by omega)
  have n2:=Int.emod_lt_of_pos r.fk h3
  have m1:=Int.emod_nonneg r.Head (show 2*r.bB≠0 by omega)
  have m2:=Int.emod_lt_of_pos r.Head h3
  have hw:w64 (r.fk % (2*r.bB) - r.Head % (2*r.bB))=r.fk % (2*r.bB) - r.Head % (2*r.bB):=d8 (by omega) (by omega)
  obtain⟨c1,c2⟩:=MV (x:=r.fk % (2*r.bB) - r.Head % (2*r.bB)) (by omega) (by omega) h3 (by omega)
  simp only[h2,a1,a2,b1,b2,hw,c1,c2,ah,ao,cond_true,Bool.not_true,cond_false]
  rw[←Int.sub_emod]
def GL {α:Type} (k_:Int→α) (r:cf):α:=
 bif !(jG r.bB) then k_ 0
 else k_ (bits .and .i64 (w64 (r.fk - r.Head)) (w64 ((w64 (2*r.bB)) - 1)))
theorem ae6 {α:Type} (k_:Int→α) (r:cf) (h_r:WtL cf.ct r.enc):GL k_ r=k_ (FF r):=by
 unfold GL FF
 cases hs:jG r.bB
 ·rfl
 ·have key:bits .and .i64 (w64 (r.fk - r.Head)) (w64 ((w64 (2*r.bB)) - 1))=(r.fk - r.Head) % (2*r.bB):=by
   rcases Jb hs with h | h | h | h<;>rw[h]
   ·exact (and_3 _).trans (by rw[aiu];show _=(r.fk - r.Head) % 4;omega)
   ·exact (arJ _).trans (by rw[aiu];show _=(r.fk - r.Head) % 8;omega)
   ·exact (ase _).trans (by rw[aiu];show _=(r.fk - r.Head) % 16;omega)
   ·exact (asf _).trans (by rw[aiu];show _=(r.fk - r.Head) % 32;omega)
  simp only[key,Bool.not_true,cond_false,cond_true]
def Ff {α:Type} (k_:Bool→α) (r:cf):α:=
 let z0:Int:=w64 ((w64 (2*r.bB)) - 1)
 k_ (bif aA r.cP 0 130944 then bif jG r.bB then bif aA r.Head 0 z0 then bif aA r.fk 0 z0 then decide (FF r≤r.bB) else false else false else false else false)
def Er (r:cf):Bool:=Ff id r
theorem akU {α:Type} (k_:Bool→α) (r:cf):Ff k_ r=k_ (Er r):=by
 rfl
def SN {α:Type} (k_:Bool→α) (r:cf):α:=
 let z0:Int:=w64 ((w64 (2*r.bB)) - 1)
 k_ (bif aA r.cP 0 130944 then bif jG r.bB then bif aA r.Head 0 z0 then bif aA r.fk 0 z0 then decide (FF r≤r.bB) else false else false else false else false)
theorem akX {α:Type} (k_:Bool→α) (r:cf) (h_r:WtL cf.ct r.enc):SN k_ r=k_ (Er r):=by
 exact rfl
def Ix {α:Type} (k_:Bool→α) (q:ay):α:=
 k_ (bif aA q.cP 0 130944 then bif jG q.bB then aA q.Count 0 (w64 ((w64 (2*q.bB)) - 1)) else false else false)
def J6 (q:ay):Bool:=Ix id q
theorem ah2 {α:Type} (k_:Bool→α) (q:ay):Ix k_ q=k_ (J6 q):=by
 rfl
def Pv {α:Type} (k_:Bool→α) (q:ay):α:=
 k_ (bif aA q.cP 0 130944 then bif jG q.bB then aA q.Count 0 (w64 ((w64 (2*q.bB)) - 1)) else false else false)
theorem ah6 {α:Type} (k_:Bool→α) (q:ay) (h_q:WtL ay.ct q.enc):Pv k_ q=k_ (J6 q):=by
 exact rfl
def Uv {α:Type} (k_:Bool→α) (v:aC):α:=
 k_ (bif decide (1≤v.Count) then bif decide (v.sM≤v.Count) then true else decide (v.yE≤v.Time) else false)
def due (v:aC):Bool:=Uv id v
theorem anX {α:Type} (k_:Bool→α) (v:aC):Uv k_ v=k_ (due v):=by
 rfl
def SS {α:Type} (k_:Bool→α) (v:aC):α:=
 k_ (bif decide (1≤v.Count) then bif decide (v.sM≤v.Count) then true else decide (v.yE≤v.Time) else false)
theorem ak0 {α:Type} (k_:Bool→α) (v:aC) (h_v:WtL aC.ct v.enc):SS k_ v=k_ (due v):=by
 exact rfl
def GM {α:Type} (k_:Bool→α) (v:aC):α:=
 let z0:Bool:=bif due v then v.Ba== !v.Dz else v.Ba==false
 bif bif !(aA v.sM 1 64) then true else bif !(aA v.yE 0 64) then true else bif !(aA v.Count 0 1000000) then true else !(aA v.Time 0 1000000) then k_ false
 else k_ (bif decide (0<v.Count) then z0 else bif v.Time==0 then z0 else false)
def il (v:aC):Bool:=GM id v
theorem ae9 {α:Type} (k_:Bool→α) (v:aC):GM k_ v=k_ (il v):=by
 exact cT rfl rfl
def Oe {α:Type} (k_:Bool→α) (v:aC):α:=
 let z0:Bool:=bif due v then v.Ba== !v.Dz else v.Ba==false
 bif bif !(aA v.sM 1 64) then true else bif !(aA v.yE 0 64) then true else bif !(aA v.Count 0 1000000) then true else !(aA v.Time 0 1000000) then k_ false
 else k_ (bif decide (0<v.Count) then z0 else bif v.Time==0 then z0 else false)
theorem afb {α:Type} (k_:Bool→α) (v:aC) (h_v:WtL aC.ct v.enc):Oe k_ v=k_ (il v):=by
 exact cT rfl rfl
def Pw {α:Type} (k_:Bool→α) (q:aS):α:=
 bif bif !(Er q.Ring) then true else bif !(J6 q.Device) then true else bif !(J6 q.Driver) then true else bif q.Device.cP != q.Driver.cP then true else bif q.Device.bB != q.Driver.bB then true else !(aA q.Qr 0 1000000000000) then k_ false
 else bif !q.Qq then k_ (bif bif q.fh.cN.I2==0 then bif q.fh.cN.I3==0 then bif q.fh.cN.MY==0 then bif q.fh.cN.Tos==0 then bif q.fh.cN.Id==0 then bif q.fh.cN.Ttl==0 then bif q.fh.cN.eb==0 then bif q.fh.cN.fb==0 then bif bif q.fh.cN.Bj.Kind==0 then bif q.fh.cN.Bj.dt==0 then bif q.fh.cN.Bj.du==0 then bif q.fh.cN.Bj.Seq==0 then bif q.fh.cN.Bj.Ack==0 then bif q.fh.cN.Bj.Flags==0 then bif q.fh.cN.Bj.GP==0 then bif q.fh.cN.Bj.Body==[] then true else false else false else false else false else false else false else false else false then true else false else false else false else false else false else false else false else false else false then bif q.fh.bB==0 then bif q.fh.Count==0 then true else false else false else false)
 else k_ (bif MP q.fh.cN then bif aA q.fh.bB 0 320 then aA q.fh.Count 1 320 else false else false)
def RE (q:aS):Bool:=Pw id q
theorem amP {α:Type} (k_:Bool→α) (q:aS):Pw k_ q=k_ (RE q):=by
 exact cT rfl (cT rfl rfl)
def abx {α:Type} (k_:Bool→α) (q:aS):α:=
 bif bif !(Er q.Ring) then true else bif !(J6 q.Device) then true else bif !(J6 q.Driver) then true else bif q.Device.cP != q.Driver.cP then true else bif q.Device.bB != q.Driver.bB then true else !(aA q.Qr 0 1000000000000) then k_ false
 else bif !q.Qq then k_ (bif bif q.fh.cN.I2==0 then bif q.fh.cN.I3==0 then bif q.fh.cN.MY==0 then bif q.fh.cN.Tos==0 then bif q.fh.cN.Id==0 then bif q.fh.cN.Ttl==0 then bif q.fh.cN.eb==0 then bif q.fh.cN.fb==0 then bif bif q.fh.cN.Bj.Kind==0 then bif q.fh.cN.Bj.dt==0 then bif q.fh.cN.Bj.du==0 then bif q.fh.cN.Bj.Seq==0 then bif q.fh.cN.Bj.Ack==0 then bif q.fh.cN.Bj.Flags==0 then bif q.fh.cN.Bj.GP==0 then bif q.fh.cN.Bj.Body==[] then true else false else false else false else false else false else false else false else false then true else false else false else false else false else false else false else false else false else false then bif q.fh.bB==0 then bif q.fh.Count==0 then true else false else false else false)
 else k_ (bif MP q.fh.cN then bif aA q.fh.bB 0 320 then aA q.fh.Count 1 320 else false else false)
theorem amS {α:Type} (k_:Bool→α) (q:aS) (h_q:WtL aS.ct q.enc):abx k_ q=k_ (RE q):=by
 exact cT rfl (cT rfl rfl)
def Fh {α:Type} (k_:Bool→α) (r:cZ):α:=
 let z0:Bool:=bif !(aA r.eb 0 4294967295) then true else !(aA r.XA 0 32)
 let z1:Bool:=bif r.Action==1 then r.Queue==0 else false
 bif bif !(aA r.Priority 0 1000) then true else bif r.Kind != 0 then bif r.Kind != 6 then bif r.Kind != 17 then true else z0 else z0 else z0 then k_ false
 else bif bif decide (r.EA<0) then true else bif decide (r.I5<r.EA) then true else bif decide (65535<r.I5) then true else !(aA r.MY (-2) 4095) then k_ false
 else k_ (bif r.Action==0 then bif aA r.Queue 0 3 then true else z1 else z1)
def A4 (r:cZ):Bool:=Fh id r
theorem ak4 {α:Type} (k_:Bool→α) (r:cZ):Fh k_ r=k_ (A4 r):=by
 exact cT rfl (cT rfl rfl)
def SZ {α:Type} (k_:Bool→α) (r:cZ):α:=
 let z0:Bool:=bif !(aA r.eb 0 4294967295) then true else !(aA r.XA 0 32)
 let z1:Bool:=bif r.Action==1 then r.Queue==0 else false
 bif bif !(aA r.Priority 0 1000) then true else bif r.Kind != 0 then bif r.Kind != 6 then bif r.Kind != 17 then true else z0 else z0 else z0 then k_ false
 else bif bif decide (r.EA<0) then true else bif decide (r.I5<r.EA) then true else bif decide (65535<r.I5) then true else !(aA r.MY (-2) 4095) then k_ false
 else k_ (bif r.Action==0 then bif aA r.Queue 0 3 then true else z1 else z1)
theorem ak8 {α:Type} (k_:Bool→α) (r:cZ) (h_r:WtL cZ.ct r.enc):SZ k_ r=k_ (A4 r):=by
 exact cT rfl (cT rfl rfl)
def uN {α:Type} (bad:α) (k_:Bool→α) (af:Rows) (x:Rows) (bl:Int) (bZ:Int→α) (bz:Int):α:=
 bif decide (bz<bl) then
  bif ak true (idx bz x) then
   bif !(A4 (cZ.ae (nth x (Int.toNat bz)) 0)) then k_ false
   else bZ (w64 (bz+1))
  else bad
 else k_ (decide (len af≤12))
def pK {α:Type} (bad:α) (k_:Bool→α) (N:Nat) (af:Rows) (x:Rows) (bl:Int) (m_:Nat):Int→α:=
 Nat.rec (motive:=fun _=>Int→α) (fun _=>bad) (fun _ bZ=>uN bad k_ af x bl bZ) m_
theorem KA {α:Type} (bad:α) (k_:Bool→α) (N:Nat) (af:Rows) (x:Rows) (bl:Int) (m_:Nat) (bz:Int):pK bad k_ N af x bl (m_+1) bz=uN bad k_ af x bl (pK bad k_ N af x bl m_) bz:=rfl
def Dh {α:Type} (bad:α) (k_:Bool→α) (l0:Rows→Int→Int→α) (af:Rows):α:=
 l0 af (len af) 0
def Dg {α:Type} (bad:α) (k_:Bool→α) (N:Nat) (af:Rows):α:=Dh bad k_ (fun x bl=>pK bad k_ N af x bl N) af
def Fi (af:Rows):Bool:=bif af.all (fun r=>A4 (cZ.ae r 0)) then decide (len af≤12) else false
theorem aic {α:Type} (bad:α) (k_:Bool→α) (af:Rows) (dZ:WtC (.sl [.int .i64,.int .i64,.int .i64,.int .i64,.int .i64,.int .i64,.int .i64,.int .i64,.int .i64]) (.sl af)):∃N,Dg bad k_ N af=k_ (Fi af):=by
 obtain⟨hl,_⟩:=cU dZ
 refine⟨af.length+1, ?_⟩
 unfold Dg Dh
 refine (dQ af (pK bad k_ (af.length+1) af af (len af)) (fun i r c=>bif !(A4 (cZ.ae r 0)) then k_ false else c) (k_ (decide (len af≤12))) ?_ ?_).trans ?_
 ·intro n i h
  rw[KA]
  simp only[uN,ch h,bw h,bu h hl,Int.toNat_natCast,ah,ao,cond_true]
 ·intro n
  rw[KA]
  simp only[uN,aQ,cond_false]
 ·refine (Ft (fun r=>A4 (cZ.ae r 0)) _ _ af 0).trans ?_
  exact cT rfl rfl
def uO {α:Type} (bad:α) (k_:Bool→α) (af:Rows) (bZ:Int→α) (k:Int):α:=
 bif decide (k<len af) then
  bif ak true (idx k af) then
   bif !(A4 (cZ.ae (nth af (Int.toNat k)) 0)) then k_ false
   else bZ (w64 (k+1))
  else bad
 else k_ (decide (len af≤12))
def pN {α:Type} (bad:α) (k_:Bool→α) (N:Nat) (af:Rows) (m_:Nat):Int→α:=
 Nat.rec (motive:=fun _=>Int→α) (fun _=>bad) (fun _ bZ=>uO bad k_ af bZ) m_
theorem KB {α:Type} (bad:α) (k_:Bool→α) (N:Nat) (af:Rows) (m_:Nat) (k:Int):pN bad k_ N af (m_+1) k=uO bad k_ af (pN bad k_ N af m_) k:=rfl
def Dl {α:Type} (bad:α) (k_:Bool→α) (l0:Int→α) (af:Rows):α:=
 l0 0
def Dk {α:Type} (bad:α) (k_:Bool→α) (N:Nat) (af:Rows):α:=Dl bad k_ (pN bad k_ N af N) af
theorem aif {α:Type} (bad:α) (k_:Bool→α) (af:Rows) (dZ:WtC (.sl [.int .i64,.int .i64,.int .i64,.int .i64,.int .i64,.int .i64,.int .i64,.int .i64,.int .i64]) (.sl af)):∃N,Dk bad k_ N af=k_ (Fi af):=by
 obtain⟨hl,_⟩:=cU dZ
 refine⟨af.length+1, ?_⟩
 unfold Dk Dl
 refine (dQ af (pN bad k_ (af.length+1) af) (fun i r c=>bif !(A4 (cZ.ae r 0)) then k_ false else c) (k_ (decide (len af≤12))) ?_ ?_).trans ?_
 ·intro n i h
  rw[KB]
  simp only[uO,ch h,bw h,bu h hl,Int.toNat_natCast,ah,ao,cond_true]
 ·intro n
  rw[KB]
  simp only[uO,aQ,cond_false]
 ·refine (Ft (fun r=>A4 (cZ.ae r 0)) _ _ af 0).trans ?_
  exact cT rfl rfl
def GN {α:Type} (bad:α) (k_:Rows→α) (l:Rows):α:=
 bif ak true (room2 8 [] l) then
  k_ l
 else bad
theorem afi {α:Type} (bad:α) (k_:Rows→α) (l:Rows) (h_l:WtC (.sl [.int .i64]) (.sl l)) (hok:sm l=true):GN bad k_ l=k_ (ca l):=by
 unfold GN
 rw[d3 hok (show 8≤8388608 by omega)]
 rfl
def GO {α:Type} (bad:α) (k_:aJ→α) (p:aJ):α:=
 bif ak true (sm p.dn) then
  k_ (⟨p.cP,p.bB,p.Count,ca p.dn⟩:aJ)
 else bad
def uZ (p:aJ):Bool:=sm p.dn
theorem afl {α:Type} (bad:α) (k_:aJ→α) (p:aJ) (h_p:WtL aJ.ct p.enc) (hok:uZ p=true):GO bad k_ p=k_ (ca p):=by
 have h:sm p.dn=true:=hok
 unfold GO
 simp only[h,ah,cond_true]
 rfl
def IB {α:Type} (bad:α) (k_:aJ→α) (p:aJ):α:=
 bif ak true (room2 8 [] p.dn) then
  k_ p
 else bad
theorem aij {α:Type} (bad:α) (k_:aJ→α) (p:aJ) (h_p:WtL aJ.ct p.enc) (hok:uZ p=true):IB bad k_ p=k_ (ca p):=by
 have h:sm p.dn=true:=hok
 unfold IB
 rw[d3 h (show 8≤8388608 by omega)]
 rfl
def wK {α:Type} (bad:α) (k_:Bool→α) (x:Rows) (bl:Int) (DN:Int) (bZ:Int→Rows→α) (bz:Int) (seen:Rows):α:=
 let z0:Bool:= !(aA (rI (nth x (Int.toNat bz)) 0) 0 (w64 (DN - 1)))
 let z1:Nat:=Int.toNat (rI (nth x (Int.toNat bz)) 0)
 let z2:Bool:=ak (ak true (idx (rI (nth x (Int.toNat bz)) 0) seen)) (inl z1 seen)
 let z3:List DC:=nth seen z1
 bif decide (bz<bl) then
  bif ak true (idx bz x) then
   bif RF z0 true z2 then
    bif bif z0 then true else rB z3 0 then k_ false
    else bif z2 then
      bZ (w64 (bz+1)) (List.set seen z1 (aD z3 0 [.bool true]))
     else bad
   else bad
  else bad
 else k_ true
def sF {α:Type} (bad:α) (k_:Bool→α) (N:Nat) (x:Rows) (bl:Int) (DN:Int) (m_:Nat):Int→Rows→α:=
 Nat.rec (motive:=fun _=>Int→Rows→α) (fun _ _=>bad) (fun _ bZ=>wK bad k_ x bl DN bZ) m_
theorem Mn {α:Type} (bad:α) (k_:Bool→α) (N:Nat) (x:Rows) (bl:Int) (DN:Int) (m_:Nat) (bz:Int) (seen:Rows):sF bad k_ N x bl DN (m_+1) bz seen=wK bad k_ x bl DN (sF bad k_ N x bl DN m_) bz seen:=rfl
def Fm {α:Type} (bad:α) (k_:Bool→α) (l0:Rows→Int→Int→Int→Rows→α) (p:aJ):α:=
 bif bif !(aA p.cP 0 130944) then true else bif !(aA p.bB 1 512) then true else !(aA p.Count 0 16) then k_ false
 else bif ak true (makeOk 1 p.Count p.Count) then
   l0 p.dn (len p.dn) p.Count 0 (List.replicate (Int.toNat p.Count) ([.bool false]:List DC))
  else bad
def Fl {α:Type} (bad:α) (k_:Bool→α) (N:Nat) (p:aJ):α:=Fm bad k_ (fun x bl DN=>sF bad k_ N x bl DN N) p
def Hq {α σ:Type} (P:List DC→σ→Bool) (f:List DC→σ→σ) (x:α) (fin:σ→α):Rows→σ→α
 | [],s=>fin s
 | r::rs,s=>bif P r s then x else Hq P f x fin rs (f r s)
theorem S1 {α σ:Type} (list:Rows) (L:Nat→Int→σ→α) (P:List DC→σ→Bool) (f:List DC→σ→σ) (x:α) (fin:σ→α) (I:Nat→σ→Prop) (hI:∀i s,i<list.length→I i s→P (nth list i) s=false→I (i+1) (f (nth list i) s))
  (hs:∀n i s,i<list.length→I i s→L (n+1) (i:Int) s=bif P (nth list i) s then x else L n ((i:Int)+1) (f (nth list i) s))
  (hz:∀n s,I list.length s→L (n+1) (list.length:Int) s=fin s):∀(m i:Nat) (s:σ),i+m=list.length→I i s→L (m+1) (i:Int) s=Hq P f x fin (list.drop i) s
 | 0,i,s,h,hi=>by
  have:i=list.length:=by omega
  subst this
  rw[hz 0 s hi,List.drop_length]
  rfl
 | m+1,i,s,h,hi=>by
  have hlt:i<list.length:=by omega
  rw[hs (m+1) i s hlt hi,List.drop_eq_getElem_cons hlt]
  have hn:nth list i=list[i]:=by simp [nth,List.getD_eq_getElem?_getD,hlt]
  show _=bif P list[i] s then x else Hq P f x fin (list.drop (i+1)) (f list[i] s)
  rw[←hn]
  cases hp:P (nth list i) s
  ·rw[cond_false,cond_false]
   have:=S1 list L P f x fin I hI hs hz m (i+1) (f (nth list i) s) (by omega) (hI i s hlt hi hp)
   rw[←this]
   rfl
  ·rfl
theorem XG {α σ:Type} (list:Rows) (L:Nat→Int→σ→α) (P:List DC→σ→Bool) (f:List DC→σ→σ) (x:α) (fin:σ→α) (I:Nat→σ→Prop) (hI:∀i s,i<list.length→I i s→P (nth list i) s=false→I (i+1) (f (nth list i) s))
  (hs:∀n i s,i<list.length→I i s→L (n+1) (i:Int) s=bif P (nth list i) s then x else L n ((i:Int)+1) (f (nth list i) s))
  (hz:∀n s,I list.length s→L (n+1) (list.length:Int) s=fin s) (s:σ) (h:I 0 s):L (list.length+1) 0 s=Hq P f x fin list s:=
 S1 list L P f x fin I hI hs hz list.length 0 s (by omega) h
theorem an5 {α β σ:Type} (k:β→α) (P:List DC→σ→Bool) (f:List DC→σ→σ) {x:β} (fin:σ→β):∀(list:Rows) (s:σ),Hq P f (k x) (fun s=>k (fin s)) list s=k (Hq P f x fin list s)
 | [],s=>rfl
 | r::rs,s=>by
  simp only[Hq]
  cases P r s
  ·exact an5 k P f fin rs _
  ·rfl
theorem cond_congr {α:Type} {c d:Bool} {x y u v:α} (h:c=d) (h1:c=true→x=u) (h2:c=false→y=v):(bif c then x else y)=(bif d then u else v):=by
 subst h
 cases c
 ·exact h2 rfl
 ·exact h1 rfl
def anb (n:Int) (r:List DC) (s:Rows):Bool:=bif !(aA (rI r 0) 0 (n - 1)) then true else rB (nth s (Int.toNat (rI r 0))) 0
def aiL (r:List DC) (s:Rows):Rows:=List.set s (Int.toNat (rI r 0)) (aD (nth s (Int.toNat (rI r 0))) 0 [.bool true])
theorem XH (r:List DC) (s:Rows):(aiL r s).length=s.length:=by simp [aiL]
def fY (p:aJ):Bool:=bif bif !(aA p.cP 0 130944) then true else bif !(aA p.bB 1 512) then true else !(aA p.Count 0 16) then false
 else Hq (anb p.Count) aiL false (fun _=>true) p.dn (List.replicate (Int.toNat p.Count) [.bool false])
theorem ala {α:Type} (bad:α) (k_:Bool→α) (p:aJ) (h_p:WtL aJ.ct p.enc):∃N,Fl bad k_ N p=k_ (fY p):=by
 obtain⟨hl,hw⟩:=cU (aJ.amd h_p)
 refine⟨p.dn.length+1, ?_⟩
 unfold Fl Fm fY
 refine II (fun _=>rfl) (fun hg=> ?_)
 have hc:0≤p.Count∧p.Count≤16:=by
  cases h1:aA p.cP 0 130944
  ·rw[h1] at hg;cases hg
  cases h2:aA p.bB 1 512
  ·rw[h1,h2] at hg;cases hg
  cases h3:aA p.Count 0 16
  ·rw[h1,h2,h3] at hg;cases hg
  exact qA.1 h3
 have hmk:makeOk 1 p.Count p.Count=true:=by
  simp only[makeOk,Bool.and_eq_true,decide_eq_true_eq]
  omega
 rw[hmk,ah,cond_true]
 refine (XG p.dn (sF bad k_ (p.dn.length+1) p.dn (len p.dn) p.Count) (anb p.Count) aiL (k_ false) (fun _=>k_ true) (fun _ s=>(s.length:Int)=p.Count) (fun i s _ h _=> ?_) ?_ ?_ (List.replicate (Int.toNat p.Count) [.bool false]) ?_).trans ?_
 ·show ((aiL (nth p.dn i) s).length:Int)=p.Count
  rw[XH,h]
 ·intro n i s h hs
  rw[Mn]
  have hw1:w64 (p.Count - 1)=p.Count - 1:=d8 (by omega) (by omega)
  have hx:aA (rI (nth p.dn i) 0) 0 (p.Count - 1)=true→idx (rI (nth p.dn i) 0) s=true∧inl (Int.toNat (rI (nth p.dn i) 0)) s=true:=by
   intro hb
   have:=qA.1 hb
   refine⟨?_, ?_⟩
   ·simp only[idx,Bool.and_eq_true,decide_eq_true_eq];omega
   ·simp only[inl,decide_eq_true_eq];omega
  unfold anb
  simp only[wK,ch h,bw h,bu h hl,Int.toNat_natCast,ah,ao,cond_true,hw1]
  cases hb:aA (rI (nth p.dn i) 0) 0 (p.Count - 1)
  ·rw[alr (g:= !false) (x:=true) (fun _=>rfl) (fun h=>by cases h)]
   rfl
  ·obtain⟨x1,x2⟩:=hx hb
   rw[x1,x2]
   rfl
 ·intro n s _
  rw[Mn]
  simp only[wK,aQ,cond_false]
 ·simp only[List.length_replicate];omega
 ·exact an5 k_ _ _ (fun _=>true) p.dn _
def wL {α:Type} (bad:α) (k_:Bool→α) (DN:Int) (J7:Rows) (bZ:Int→Rows→α) (k:Int) (seen:Rows):α:=
 let z0:Bool:= !(aA (rI (nth J7 (Int.toNat k)) 0) 0 (w64 (DN - 1)))
 let z1:Bool:=idx (rI (nth J7 (Int.toNat k)) 0) seen
 let z2:Nat:=Int.toNat (rI (nth J7 (Int.toNat k)) 0)
 let z3:Bool:=inl z2 seen
 let z4:List DC:=nth seen z2
 bif decide (k<len J7) then
  bif RF z0 (ak true (idx k J7)) (ak (ak (ak (ak true (idx k J7)) (idx k J7)) z1) z3) then
   bif bif z0 then true else rB z4 0 then k_ false
   else bif ak (ak (ak true (idx k J7)) z1) z3 then
     bZ (w64 (k+1)) (List.set seen z2 (aD z4 0 [.bool true]))
    else bad
  else bad
 else k_ true
def sJ {α:Type} (bad:α) (k_:Bool→α) (N:Nat) (DN:Int) (J7:Rows) (m_:Nat):Int→Rows→α:=
 Nat.rec (motive:=fun _=>Int→Rows→α) (fun _ _=>bad) (fun _ bZ=>wL bad k_ DN J7 bZ) m_
theorem Mo {α:Type} (bad:α) (k_:Bool→α) (N:Nat) (DN:Int) (J7:Rows) (m_:Nat) (k:Int) (seen:Rows):sJ bad k_ N DN J7 (m_+1) k seen=wL bad k_ DN J7 (sJ bad k_ N DN J7 m_) k seen:=rfl
def Fs {α:Type} (bad:α) (k_:Bool→α) (l0:Int→Rows→Int→Rows→α) (p:aJ):α:=
 bif bif !(aA p.cP 0 130944) then true else bif !(aA p.bB 1 512) then true else !(aA p.Count 0 16) then k_ false
 else bif ak true (makeOk 1 p.Count p.Count) then
   l0 p.Count p.dn 0 (List.replicate (Int.toNat p.Count) ([.bool false]:List DC))
  else bad
def Fq {α:Type} (bad:α) (k_:Bool→α) (N:Nat) (p:aJ):α:=Fs bad k_ (fun DN J7=>sJ bad k_ N DN J7 N) p
theorem ald {α:Type} (bad:α) (k_:Bool→α) (p:aJ) (h_p:WtL aJ.ct p.enc):∃N,Fq bad k_ N p=k_ (fY p):=by
 obtain⟨hl,hw⟩:=cU (aJ.amd h_p)
 refine⟨p.dn.length+1, ?_⟩
 unfold Fq Fs fY
 refine II (fun _=>rfl) (fun hg=> ?_)
 have hc:0≤p.Count∧p.Count≤16:=by
  cases h1:aA p.cP 0 130944
  ·rw[h1] at hg;cases hg
  cases h2:aA p.bB 1 512
  ·rw[h1,h2] at hg;cases hg
  cases h3:aA p.Count 0 16
  ·rw[h1,h2,h3] at hg;cases hg
  exact qA.1 h3
 have hmk:makeOk 1 p.Count p.Count=true:=by
  simp only[makeOk,Bool.and_eq_true,decide_eq_true_eq]
  omega
 rw[hmk,ah,cond_true]
 refine (XG p.dn (sJ bad k_ (p.dn.length+1) p.Count p.dn) (anb p.Count) aiL (k_ false) (fun _=>k_ true) (fun _ s=>(s.length:Int)=p.Count) (fun i s _ h _=> ?_) ?_ ?_ (List.replicate (Int.toNat p.Count) [.bool false]) ?_).trans ?_
 ·show ((aiL (nth p.dn i) s).length:Int)=p.Count
  rw[XH,h]
 ·intro n i s h hs
  rw[Mo]
  have hw1:w64 (p.Count - 1)=p.Count - 1:=d8 (by omega) (by omega)
  have hx:aA (rI (nth p.dn i) 0) 0 (p.Count - 1)=true→idx (rI (nth p.dn i) 0) s=true∧inl (Int.toNat (rI (nth p.dn i) 0)) s=true:=by
   intro hb
   have:=qA.1 hb
   refine⟨?_, ?_⟩
   ·simp only[idx,Bool.and_eq_true,decide_eq_true_eq];omega
   ·simp only[inl,decide_eq_true_eq];omega
  unfold anb
  simp only[wL,ch h,bw h,bu h hl,Int.toNat_natCast,ah,ao,cond_true,hw1]
  cases hb:aA (rI (nth p.dn i) 0) 0 (p.Count - 1)
  ·rw[alr (g:= !false) (x:=true) (fun _=>rfl) (fun h=>by cases h)]
   rfl
  ·obtain⟨x1,x2⟩:=hx hb
   rw[x1,x2]
   rfl
 ·intro n s _
  rw[Mo]
  simp only[wL,aQ,cond_false]
 ·simp only[List.length_replicate];omega
 ·exact an5 k_ _ _ (fun _=>true) p.dn _
def A6 {α:Type} (bad:α) (k_:aJ→Bool→α) (p:aJ) (af:Rows):α:=
 let z0:aJ:=(⟨(ca p).cP,(ca p).bB,(ca p).Count,((ca p).dn)++af⟩:aJ)
 bif ak true (uZ p) then
  bif ak true (room2 8 ((ca p).dn) af) then
   bif bif !(fY p) then true else !(fY z0) then
    bif ak true (uZ p) then
     k_ (ca p) false
    else bad
   else k_ z0 true
  else bad
 else bad
def G8 (p:aJ) (af:Rows):Bool:=sm p.dn && decide (p.dn.length+af.length≤134217728)
theorem anc {p:aJ} {af:Rows} (h:G8 p af=true):sm p.dn=true∧p.dn.length+af.length≤134217728:=by
 simpa [G8] using h
def dJ (p:aJ) (af:Rows):aJ×Bool:=bif bif !(fY p) then true else !(fY (⟨p.cP,p.bB,p.Count,p.dn++af⟩:aJ)) then (p,false) else ((⟨p.cP,p.bB,p.Count,p.dn++af⟩:aJ),true)
theorem Uz {α:Type} (bad:α) (k_:aJ→Bool→α) (p:aJ) (af:Rows) (h_p:WtL aJ.ct p.enc) (dZ:WtC (.sl [.int .i64]) (.sl af)) (hok:G8 p af=true):A6 bad k_ p af=k_ (dJ p af).1 (dJ p af).2:=by
 have h:G8 p af=true:=hok
 obtain⟨h1,h2⟩:=anc h
 have hp:uZ p=true:=h1
 unfold A6 dJ
 simp only[ca,hp,Du h2 (show 8≤1048576 by omega),ah,cond_true]
 generalize (bif !(fY p) then true else !(fY (⟨p.cP,p.bB,p.Count,p.dn++af⟩:aJ)))=b
 cases b<;>rfl
def A8 {α:Type} (bad:α) (k_:aJ→Bool→α) (p:aJ) (af:Rows):α:=
 let z0:aJ:=(⟨(ca p).cP,(ca p).bB,(ca p).Count,((ca p).dn)++af⟩:aJ)
 bif ak true (uZ p) then
  bif ak true (room2 8 ((ca p).dn) af) then
   bif bif !(fY p) then true else !(fY z0) then
    bif ak true (uZ p) then
     k_ (ca p) false
    else bad
   else k_ z0 true
  else bad
 else bad
theorem UD {α:Type} (bad:α) (k_:aJ→Bool→α) (p:aJ) (af:Rows) (h_p:WtL aJ.ct p.enc) (dZ:WtC (.sl [.int .i64]) (.sl af)) (hok:G8 p af=true):A8 bad k_ p af=k_ (dJ p af).1 (dJ p af).2:=by
 have h:G8 p af=true:=hok
 obtain⟨h1,h2⟩:=anc h
 have hp:uZ p=true:=h1
 unfold A8 dJ
 simp only[ca,hp,Du h2 (show 8≤1048576 by omega),ah,cond_true]
 generalize (bif !(fY p) then true else !(fY (⟨p.cP,p.bB,p.Count,p.dn++af⟩:aJ)))=b
 cases b<;>rfl
end
end Go.Proofs.YthpmalpdnnbkgaaGreat.Pl
