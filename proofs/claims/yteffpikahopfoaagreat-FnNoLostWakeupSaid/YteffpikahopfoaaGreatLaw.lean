/- The frame of a law: what is left to show is that true is returned and that nothing below the old heap has turned. No conditions. -/
import Derived.WalkKit
import Derived.ProofKit
import Derived.OpenShut
import Derived.Carry
namespace Go.Proofs.YteffpikahopfoaaGreat.Law
open Go.ChangeShapes Go.WideShapes Go.ChangeAt Go.RowKit
theorem nx1 {H:Type} {enc:TypeId×Value→H} {P:Program} (hl:laidOutB P=true) {W W':World}
  (hb:Below W.heap.size W W'):
  ∀ {ts:List TypeId} {vs:List Value} {ds:List (DataW H)} {ps:List MemPlace},
   (∀t∈ts,P.readableRec t=true∧t<P.types.size)→(∀x∈ps,x.block<W.heap.size)→
   DataW.TrodAll enc P W 0 (fun _=>true) true ts vs ds ps→
   DataW.TrodAll enc P W' 0 (fun b=>decide (b<W.heap.size)) true ts vs ds ps:=by
 intro ts
 induction ts with
 | nil=>
  intro vs ds ps _ _ h
  obtain⟨rfl,rfl,rfl⟩:=trodAll_nil h
  exact h
 | cons t ts ih=>
  intro vs ds ps hr cA h
  obtain⟨v,c9,d,bf,p,q,rfl,rfl,rfl,h1,h2⟩:=trodAll_cons h
  exact trodAll_cons_mk (Below.trod hl (hr t (by simp)).1 (hr t (by simp)).2 h1 hb (fun x hx=>cA x (by simp [hx])))
   (ih (fun t ht=>hr t (by simp [ht])) (fun x hx=>cA x (by simp [hx])) h2)
theorem nDK {H:Type} {enc:TypeId×Value→H} {P:Program} {f:Func} {s:ChangeSpec} {W W':World} {args:Array Value}
  {ds gs:List (DataW H)} {before:List MemPlace} {t4:TypeId} (hl:laidOutB P=true) (hv:s.vars=[])
  (nFF:∀t∈f.params.toList,P.readableRec t=true∧t<P.types.size) (hrt:f.resultTypes= #[t4]) (hu:P.underlying t4=some .bool)
  (hW:DataW.Whole enc P f.params.toList s.vars false W args.toList ds gs before)
  (BP:(s.fn H ds).results=[.lit (.bool true)]) (cr:(s.fn H ds).args=ds) (nDE:(s.fn H ds).vars=[])
  (hb:Below W.heap.size W W'):
  s.post enc P f false true false false W args (.bool true) W':=by
 have cA:=hW.lt
 have hW0:=hW
 obtain⟨p,q,hA,hV,rfl,hz,hn⟩:=hW
 rw[hv] at hV
 obtain⟨rfl,rfl⟩:=trodVars_none hV
 refine⟨ds,[],p++[],[],p,[],hW0, ?_, ?_, ?_, ?_,fun h=>by cases h⟩
 ·rw[hrt,List.append_nil,BP]
  exact trodAll_cons_mk (shut_bool hu _) trodAll_mk0
 ·rw[List.append_nil,cr]
  exact nx1 hl hb nFF (fun x hx=>cA x (by simp [hx])) hA
 ·rw[List.append_nil,nDE,hv]
  rfl
 ·exact hb.frame _
end Go.Proofs.YteffpikahopfoaaGreat.Law
