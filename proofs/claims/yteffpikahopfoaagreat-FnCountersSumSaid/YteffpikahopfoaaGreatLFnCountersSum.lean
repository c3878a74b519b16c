/- For every input the law FnCountersSum returns true, and its arguments read as they did. Conditions: none. -/
import Derived.Test.YteffpikahopfoaaGreatBr
import Derived.Test.YteffpikahopfoaaGreatB0
namespace Go.Proofs.YteffpikahopfoaaGreat.LFnCountersSum
open Go.ChangeShapes Go.WideShapes Go.ChangeAt Go.RowKit Vm Pl
theorem own:ownKnob Tryz.prog.godebug=none:=by kernel_rfl
set_option maxRecDepth 100000 in
theorem lifted (os:Os) (started:os.Started) (H:Type) (enc:TypeId×Value→H):
  ReturnsInHanded {} Tryz.checked os 3 .any (Rows.fnCountersSumSpec.pre6 enc Tryz.prog Tryz.f3 Rows.fnCountersSumRow.domain false) (Rows.fnCountersSumSpec.post enc Tryz.prog Tryz.f3 false true false false):=by
 refine returnsInHanded_of_change_sized (C:=Tryz.checked) own started (by kernel_rfl) Tryz.func3
  (ChangeSpec.witness6 (enc:=enc) (C:=Tryz.checked) false ⟨#[], #[.slice none 0 0],[]⟩ 8 (by kernel_rfl) (by kernel_rfl) (by kernel_rfl) (by kernel_rfl)) ?_
 intro W base args ds gs before hval hW _ hz _
 have hW2:=hW
 obtain⟨p,q,hA,hV,_,_,_⟩:=hW2
 obtain⟨rfl,rfl⟩:=trodVars_none hV
 have e0:Rows.fnCountersSumSpec.plain.varTypes Tryz.checked.prog=[]:=rfl
 rw[e0] at hz
 simp only[List.append_nil] at hz
 have hd:∃d0,ds=[d0]:=by
  have hA2:DataW.TrodAll enc Tryz.prog W 0 (fun _=>true) true Tryz.f3.params.toList args.toList ds p:=hA
  rw[Tryz.params3] at hA2
  obtain⟨_,_,d0,_,_,_,_,rfl,_,_,hA2⟩:=trodAll_cons hA2
  obtain⟨_,rfl,_⟩:=trodAll_nil hA2
  exact⟨_,rfl⟩
 obtain⟨d0,rfl⟩:=hd
 refine Br.nBf (t4:=4) (sp:=Rows.fnCountersSumSpec) (by kernel_rfl) nhh (by kernel_rfl) rfl rfl (by kernel_rfl) rfl ?_ (by kernel_rfl) Tryz.underlying4 hval hW rfl rfl rfl ?_
 ·rw[Tryz.params3]
  intro t ht
  simp only[List.mem_cons,List.not_mem_nil,or_false] at ht
  subst ht
  exact⟨by kernel_rfl,of_decide_eq_true (by kernel_rfl)⟩
 ·intro dcs _ hf
  exact congrArg (fun b=>(b,[DC.bool true])) (hf hz)
theorem nCE:(Rows.fnCountersSumRow.wf (OpenSpec.ofChange Rows.fnCountersSumSpec) && laidOutB Tryz.pinned.checked.prog && mapsRowed Tryz.pinned.checked.prog && Tryz.f3.params.all (Tryz.pinned.checked.prog.readableRec ·) && namedTie Tryz.pinned.checked.prog Rows.fnCountersSumRow.named Rows.fnCountersSumSpec.vars && (Rows.fnCountersSumRow.stops==[]) && (Tryz.pinned.checked.prog.stops==[]) && (Rows.fnCountersSumRow.knobs==[]) && (Tryz.pinned.checked.prog.stopKnobs==[]))=true:=by kernel_rfl
theorem nCF:((Rows.fnCountersSumRow.inPlace==Tryz.pinned.checked.prog.inPlace 3) && (Rows.fnCountersSumRow.unfollowed==Tryz.pinned.checked.prog.unfollowed 3) && (Rows.fnCountersSumRow.recurses==Tryz.pinned.checked.prog.recurses 3) && (Rows.fnCountersSumRow.named==Tryz.pinned.checked.prog.varsNamed 3))=true:=by kernel_rfl
theorem nCG:((Rows.fnCountersSumRow.maps==(Tryz.f3.params.toList++Rows.fnCountersSumSpec.plain.varTypes Tryz.pinned.checked.prog).any (Tryz.pinned.checked.prog.mapsRec ·)) && (Rows.fnCountersSumRow.ifaces==(Tryz.f3.params.toList++Rows.fnCountersSumSpec.plain.varTypes Tryz.pinned.checked.prog).any (Tryz.pinned.checked.prog.ifacesRec ·)) && (Rows.fnCountersSumRow.mapsOut==Tryz.pinned.checked.prog.mapsAmong Tryz.f3.resultTypes.toList) && (Rows.fnCountersSumRow.loops==(Tryz.f3.params.toList++Rows.fnCountersSumSpec.plain.varTypes Tryz.pinned.checked.prog).any (Tryz.pinned.checked.prog.loopsFrom ·)) && (Rows.fnCountersSumRow.wideKeys==(Tryz.f3.params.toList++Rows.fnCountersSumSpec.plain.varTypes Tryz.pinned.checked.prog++Tryz.f3.resultTypes.toList).any (Tryz.pinned.checked.prog.wideKeysFrom ·)) && Rows.fnCountersSumSpec.vars.all (Tryz.pinned.checked.prog.varReadable ·) && Tryz.f3.resultTypes.all (fun t=>Tryz.pinned.checked.prog.readableRec t && decide (t<Tryz.pinned.checked.prog.types.size)) && (Rows.fnCountersSumRow.ifacesOut==Tryz.f3.resultTypes.toList.any (Tryz.pinned.checked.prog.ifacesRec ·)) && (Rows.fnCountersSumRow.loopsOut==Tryz.f3.resultTypes.toList.any (Tryz.pinned.checked.prog.loopsFrom ·)))=true:=by kernel_rfl
theorem nCH:((Rows.fnCountersSumRow.plainKeys==Tryz.pinned.checked.prog.plainKeys) && Rows.fnCountersSumRow.shortTexts.isNone && Tryz.pinned.checked.prog.stopsHeard && Tryz.pinned.checked.prog.mayEnter && (Rows.fnCountersSumRow.lifted==Tryz.pinned.checked.prog.liftsFinal) && (Tryz.pinned.checked.prog.make==some Rows.fnCountersSumRow.make) && (Rows.fnCountersSumRow.pinned==Rows.fnCountersSumRow.pinnedBy) && (Rows.fnCountersSumRow.veiled==(Tryz.f3.params.toList++Rows.fnCountersSumSpec.plain.varTypes Tryz.pinned.checked.prog++Tryz.f3.resultTypes.toList).any (Tryz.pinned.checked.prog.veiledRec ·)) && Rows.fnCountersSumRow.veiledFits Tryz.pinned.checked.prog Tryz.f3.params.toList (Tryz.f3.params.toList++Rows.fnCountersSumSpec.plain.varTypes Tryz.pinned.checked.prog++Tryz.f3.resultTypes.toList))=true:=by kernel_rfl
theorem closed:joinedFacts Tryz.pinned.checked.prog 3 Tryz.f3 Rows.fnCountersSumSpec Rows.fnCountersSumRow=true:=by
 have g:=nCE
 simp only[Bool.and_eq_true,and_assoc] at g
 obtain⟨h0,h1,h2,h3,h4,h5,h6,h7,h8⟩:=g
 have g:=nCF
 simp only[Bool.and_eq_true,and_assoc] at g
 obtain⟨h9,h10,h11,h12⟩:=g
 have g:=nCG
 simp only[Bool.and_eq_true,and_assoc] at g
 obtain⟨h13,h14,h15,h16,h17,h18,h19,h20,h21⟩:=g
 have g:=nCH
 simp only[Bool.and_eq_true,and_assoc] at g
 obtain⟨h22,h23,h24,h25,h26,h27,h28,h29,h30⟩:=g
 unfold joinedFacts
 simp only[Bool.and_eq_true,and_assoc]
 exact⟨h0,h1,h2,h3,h4,h5,h6,h7,h8,h9,h10,h11,h12,h13,h14,h15,h16,h17,h18,h19,h20,h21,h22,h23,h24,h25,h26,h27,(by as_aux_lemma=>kernel_rfl),h28,h29,h30⟩
theorem over:Rows.fnCountersSumRow.holds Tryz.pinned (OpenSpec.ofChange Rows.fnCountersSumSpec):=
 OpenClaim.holds_of_wide 3 Tryz.f3 rfl rfl rfl rfl rfl rfl rfl ⟨rfl,rfl,rfl,rfl,rfl⟩ rfl rfl rfl rfl rfl (by kernel_rfl) Tryz.func3 (by exact closed)
  (of_decide_eq_true (by kernel_rfl)) (by unfold Func.isWrapper;first | (rw[if_pos (by decide+kernel)];kernel_rfl) | (rw[if_neg (by decide+kernel)];exact⟨rfl,rfl⟩))
  (fun os started H enc _=>lifted os started H enc)
theorem proved:Rows.FnCountersSumSaid:=over
#print axioms proved
end Go.Proofs.YteffpikahopfoaaGreat.LFnCountersSum
