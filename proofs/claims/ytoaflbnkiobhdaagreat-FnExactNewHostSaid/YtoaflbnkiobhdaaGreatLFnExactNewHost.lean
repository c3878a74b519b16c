/- For every input the law FnExactNewHost returns true, and its arguments read as they did. Conditions: none. -/
import Derived.Test.YtoaflbnkiobhdaaGreatBr
import Derived.Test.YtoaflbnkiobhdaaGreatB0
namespace Go.Proofs.YtoaflbnkiobhdaaGreat.LFnExactNewHost
open Go.ChangeShapes Go.WideShapes Go.ChangeAt Go.RowKit Vm Pl
theorem own:ownKnob Tryz.prog.godebug=none:=by kernel_rfl
set_option maxRecDepth 100000 in
theorem lifted (os:Os) (started:os.Started) (H:Type) (enc:TypeId×Value→H):
  ReturnsInHanded {} Tryz.checked os 3 .any (Rows.fnExactNewHostSpec.pre6 enc Tryz.prog Tryz.f3 Rows.fnExactNewHostRow.domain false) (Rows.fnExactNewHostSpec.post enc Tryz.prog Tryz.f3 false true false false):=by
 refine returnsInHanded_of_change_sized (C:=Tryz.checked) own started (by kernel_rfl) Tryz.func3
  (ChangeSpec.witness6 (enc:=enc) (C:=Tryz.checked) false ⟨#[], #[.int .i64 0,.agg #[.int .i64 0,.bool false,.slice none 0 0],.agg #[.slice none 0 0,.slice none 0 0,.string ⟨#[]⟩,.slice none 0 0],.bool false,.int .i64 0,.int .i64 0],[]⟩ 8 (by kernel_rfl) (by kernel_rfl) (by kernel_rfl) (by kernel_rfl)) ?_
 intro W base args ds gs before hval hW _ hz _
 have hW2:=hW
 obtain⟨p,q,hA,hV,_,_,_⟩:=hW2
 obtain⟨rfl,rfl⟩:=trodVars_none hV
 have e0:Rows.fnExactNewHostSpec.plain.varTypes Tryz.checked.prog=[]:=rfl
 rw[e0] at hz
 simp only[List.append_nil] at hz
 have hd:∃d0 d1 d2 d3 d4 d5,ds=[d0,d1,d2,d3,d4,d5]:=by
  have hA2:DataW.TrodAll enc Tryz.prog W 0 (fun _=>true) true Tryz.f3.params.toList args.toList ds p:=hA
  rw[Tryz.params3] at hA2
  obtain⟨_,_,d0,_,_,_,_,rfl,_,_,hA2⟩:=trodAll_cons hA2
  obtain⟨_,_,d1,_,_,_,_,rfl,_,_,hA2⟩:=trodAll_cons hA2
  obtain⟨_,_,d2,_,_,_,_,rfl,_,_,hA2⟩:=trodAll_cons hA2
  obtain⟨_,_,d3,_,_,_,_,rfl,_,_,hA2⟩:=trodAll_cons hA2
  obtain⟨_,_,d4,_,_,_,_,rfl,_,_,hA2⟩:=trodAll_cons hA2
  obtain⟨_,_,d5,_,_,_,_,rfl,_,_,hA2⟩:=trodAll_cons hA2
  obtain⟨_,rfl,_⟩:=trodAll_nil hA2
  exact⟨_,_,_,_,_,_,rfl⟩
 obtain⟨d0,d1,d2,d3,d4,d5,rfl⟩:=hd
 refine Br.nja (t4:=4) (sp:=Rows.fnExactNewHostSpec) (by kernel_rfl) U1 (by kernel_rfl) rfl rfl (by kernel_rfl) rfl ?_ (by kernel_rfl) Tryz.underlying4 hval hW rfl rfl rfl ?_
 ·rw[Tryz.params3]
  intro t ht
  simp only[List.mem_cons,List.not_mem_nil,or_false] at ht
  rcases ht with rfl | rfl | rfl | rfl | rfl | rfl<;>exact⟨by kernel_rfl,of_decide_eq_true (by kernel_rfl)⟩
 ·intro dcs _ hf
  exact congrArg (fun b=>(b,[DC.bool true])) (hf hz)
theorem njR:(Rows.fnExactNewHostRow.wf (OpenSpec.ofChange Rows.fnExactNewHostSpec) && laidOutB Tryz.pinned.checked.prog && mapsRowed Tryz.pinned.checked.prog && Tryz.f3.params.all (Tryz.pinned.checked.prog.readableRec ·) && namedTie Tryz.pinned.checked.prog Rows.fnExactNewHostRow.named Rows.fnExactNewHostSpec.vars && (Rows.fnExactNewHostRow.stops==[]) && (Tryz.pinned.checked.prog.stops==[]) && (Rows.fnExactNewHostRow.knobs==[]) && (Tryz.pinned.checked.prog.stopKnobs==[]))=true:=by kernel_rfl
theorem njS:((Rows.fnExactNewHostRow.inPlace==Tryz.pinned.checked.prog.inPlace 3) && (Rows.fnExactNewHostRow.unfollowed==Tryz.pinned.checked.prog.unfollowed 3) && (Rows.fnExactNewHostRow.recurses==Tryz.pinned.checked.prog.recurses 3) && (Rows.fnExactNewHostRow.named==Tryz.pinned.checked.prog.varsNamed 3))=true:=by kernel_rfl
theorem njT:((Rows.fnExactNewHostRow.maps==(Tryz.f3.params.toList++Rows.fnExactNewHostSpec.plain.varTypes Tryz.pinned.checked.prog).any (Tryz.pinned.checked.prog.mapsRec ·)) && (Rows.fnExactNewHostRow.ifaces==(Tryz.f3.params.toList++Rows.fnExactNewHostSpec.plain.varTypes Tryz.pinned.checked.prog).any (Tryz.pinned.checked.prog.ifacesRec ·)) && (Rows.fnExactNewHostRow.mapsOut==Tryz.pinned.checked.prog.mapsAmong Tryz.f3.resultTypes.toList) && (Rows.fnExactNewHostRow.loops==(Tryz.f3.params.toList++Rows.fnExactNewHostSpec.plain.varTypes Tryz.pinned.checked.prog).any (Tryz.pinned.checked.prog.loopsFrom ·)) && (Rows.fnExactNewHostRow.wideKeys==(Tryz.f3.params.toList++Rows.fnExactNewHostSpec.plain.varTypes Tryz.pinned.checked.prog++Tryz.f3.resultTypes.toList).any (Tryz.pinned.checked.prog.wideKeysFrom ·)) && Rows.fnExactNewHostSpec.vars.all (Tryz.pinned.checked.prog.varReadable ·) && Tryz.f3.resultTypes.all (fun t=>Tryz.pinned.checked.prog.readableRec t && decide (t<Tryz.pinned.checked.prog.types.size)) && (Rows.fnExactNewHostRow.ifacesOut==Tryz.f3.resultTypes.toList.any (Tryz.pinned.checked.prog.ifacesRec ·)) && (Rows.fnExactNewHostRow.loopsOut==Tryz.f3.resultTypes.toList.any (Tryz.pinned.checked.prog.loopsFrom ·)))=true:=by kernel_rfl
theorem njU:((Rows.fnExactNewHostRow.plainKeys==Tryz.pinned.checked.prog.plainKeys) && Rows.fnExactNewHostRow.shortTexts.isNone && Tryz.pinned.checked.prog.stopsHeard && Tryz.pinned.checked.prog.mayEnter && (Rows.fnExactNewHostRow.lifted==Tryz.pinned.checked.prog.liftsFinal) && (Tryz.pinned.checked.prog.make==some Rows.fnExactNewHostRow.make) && (Rows.fnExactNewHostRow.pinned==Rows.fnExactNewHostRow.pinnedBy) && (Rows.fnExactNewHostRow.veiled==(Tryz.f3.params.toList++Rows.fnExactNewHostSpec.plain.varTypes Tryz.pinned.checked.prog++Tryz.f3.resultTypes.toList).any (Tryz.pinned.checked.prog.veiledRec ·)) && Rows.fnExactNewHostRow.veiledFits Tryz.pinned.checked.prog Tryz.f3.params.toList (Tryz.f3.params.toList++Rows.fnExactNewHostSpec.plain.varTypes Tryz.pinned.checked.prog++Tryz.f3.resultTypes.toList))=true:=by kernel_rfl
theorem closed:joinedFacts Tryz.pinned.checked.prog 3 Tryz.f3 Rows.fnExactNewHostSpec Rows.fnExactNewHostRow=true:=by
 have g:=njR
 simp only[Bool.and_eq_true,and_assoc] at g
 obtain⟨h0,h1,h2,h3,h4,h5,h6,h7,h8⟩:=g
 have g:=njS
 simp only[Bool.and_eq_true,and_assoc] at g
 obtain⟨h9,h10,h11,h12⟩:=g
 have g:=njT
 simp only[Bool.and_eq_true,and_assoc] at g
 obtain⟨h13,h14,h15,h16,h17,h18,h19,h20,h21⟩:=g
 have g:=njU
 simp only[Bool.and_eq_true,and_assoc] at g
 obtain⟨h22,h23,h24,h25,h26,h27,h28,h29,h30⟩:=g
 unfold joinedFacts
 simp only[Bool.and_eq_true,and_assoc]
 exact⟨h0,h1,h2,h3,h4,h5,h6,h7,h8,h9,h10,h11,h12,h13,h14,h15,h16,h17,h18,h19,h20,h21,h22,h23,h24,h25,h26,h27,(by as_aux_lemma=>kernel_rfl),h28,h29,h30⟩
theorem over:Rows.fnExactNewHostRow.holds Tryz.pinned (OpenSpec.ofChange Rows.fnExactNewHostSpec):=
 OpenClaim.holds_of_wide 3 Tryz.f3 rfl rfl rfl rfl rfl rfl rfl ⟨rfl,rfl,rfl,rfl,rfl⟩ rfl rfl rfl rfl rfl (by kernel_rfl) Tryz.func3 (by exact closed)
  (of_decide_eq_true (by kernel_rfl)) (by unfold Func.isWrapper;first | (rw[if_pos (by decide+kernel)];kernel_rfl) | (rw[if_neg (by decide+kernel)];exact⟨rfl,rfl⟩))
  (fun os started H enc _=>lifted os started H enc)
theorem proved:Rows.FnExactNewHostSaid:=over
#print axioms proved
end Go.Proofs.YtoaflbnkiobhdaaGreat.LFnExactNewHost
