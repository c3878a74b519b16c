/- For every input the law FnNoLostWakeup returns true, and its arguments read as they did. Conditions: none. -/
import Derived.Test.YteffpikahopfoaaGreatBr
import Derived.Test.YteffpikahopfoaaGreatB0
namespace Go.Proofs.YteffpikahopfoaaGreat.LFnNoLostWakeup
open Go.ChangeShapes Go.WideShapes Go.ChangeAt Go.RowKit Vm Pl
theorem own:ownKnob Tryz.prog.godebug=none:=by kernel_rfl
set_option maxRecDepth 100000 in
theorem lifted (os:Os) (started:os.Started) (H:Type) (enc:TypeId×Value→H):
  ReturnsInHanded {} Tryz.checked os 4 .any (Rows.fnNoLostWakeupSpec.pre6 enc Tryz.prog Tryz.f4 Rows.fnNoLostWakeupRow.domain false) (Rows.fnNoLostWakeupSpec.post enc Tryz.prog Tryz.f4 false true false false):=by
 refine returnsInHanded_of_change_sized (C:=Tryz.checked) own started (by kernel_rfl) Tryz.func4
  (ChangeSpec.witness6 (enc:=enc) (C:=Tryz.checked) false ⟨#[], #[.slice none 0 0],[]⟩ 8 (by kernel_rfl) (by kernel_rfl) (by kernel_rfl) (by kernel_rfl)) ?_
 intro W base args ds gs before hval hW _ hz _
 have hW2:=hW
 obtain⟨p,q,hA,hV,_,_,_⟩:=hW2
 obtain⟨rfl,rfl⟩:=trodVars_none hV
 have e0:Rows.fnNoLostWakeupSpec.plain.varTypes Tryz.checked.prog=[]:=rfl
 rw[e0] at hz
 simp only[List.append_nil] at hz
 have hd:∃d0,ds=[d0]:=by
  have hA2:DataW.TrodAll enc Tryz.prog W 0 (fun _=>true) true Tryz.f4.params.toList args.toList ds p:=hA
  rw[Tryz.params4] at hA2
  obtain⟨_,_,d0,_,_,_,_,rfl,_,_,hA2⟩:=trodAll_cons hA2
  obtain⟨_,rfl,_⟩:=trodAll_nil hA2
  exact⟨_,rfl⟩
 obtain⟨d0,rfl⟩:=hd
 refine Br.nCR (t4:=4) (sp:=Rows.fnNoLostWakeupSpec) (by kernel_rfl) nho (by kernel_rfl) rfl rfl (by kernel_rfl) rfl ?_ (by kernel_rfl) Tryz.underlying4 hval hW rfl rfl rfl ?_
 ·rw[Tryz.params4]
  intro t ht
  simp only[List.mem_cons,List.not_mem_nil,or_false] at ht
  subst ht
  exact⟨by kernel_rfl,of_decide_eq_true (by kernel_rfl)⟩
 ·intro dcs _ hf
  exact congrArg (fun b=>(b,[DC.bool true])) (hf hz)
theorem nEs:(Rows.fnNoLostWakeupRow.wf (OpenSpec.ofChange Rows.fnNoLostWakeupSpec) && laidOutB Tryz.pinned.checked.prog && mapsRowed Tryz.pinned.checked.prog && Tryz.f4.params.all (Tryz.pinned.checked.prog.readableRec ·) && namedTie Tryz.pinned.checked.prog Rows.fnNoLostWakeupRow.named Rows.fnNoLostWakeupSpec.vars && (Rows.fnNoLostWakeupRow.stops==[]) && (Tryz.pinned.checked.prog.stops==[]) && (Rows.fnNoLostWakeupRow.knobs==[]) && (Tryz.pinned.checked.prog.stopKnobs==[]))=true:=by kernel_rfl
theorem nEt:((Rows.fnNoLostWakeupRow.inPlace==Tryz.pinned.checked.prog.inPlace 4) && (Rows.fnNoLostWakeupRow.unfollowed==Tryz.pinned.checked.prog.unfollowed 4) && (Rows.fnNoLostWakeupRow.recurses==Tryz.pinned.checked.prog.recurses 4) && (Rows.fnNoLostWakeupRow.named==Tryz.pinned.checked.prog.varsNamed 4))=true:=by kernel_rfl
theorem nEu:((Rows.fnNoLostWakeupRow.maps==(Tryz.f4.params.toList++Rows.fnNoLostWakeupSpec.plain.varTypes Tryz.pinned.checked.prog).any (Tryz.pinned.checked.prog.mapsRec ·)) && (Rows.fnNoLostWakeupRow.ifaces==(Tryz.f4.params.toList++Rows.fnNoLostWakeupSpec.plain.varTypes Tryz.pinned.checked.prog).any (Tryz.pinned.checked.prog.ifacesRec ·)) && (Rows.fnNoLostWakeupRow.mapsOut==Tryz.pinned.checked.prog.mapsAmong Tryz.f4.resultTypes.toList) && (Rows.fnNoLostWakeupRow.loops==(Tryz.f4.params.toList++Rows.fnNoLostWakeupSpec.plain.varTypes Tryz.pinned.checked.prog).any (Tryz.pinned.checked.prog.loopsFrom ·)) && (Rows.fnNoLostWakeupRow.wideKeys==(Tryz.f4.params.toList++Rows.fnNoLostWakeupSpec.plain.varTypes Tryz.pinned.checked.prog++Tryz.f4.resultTypes.toList).any (Tryz.pinned.checked.prog.wideKeysFrom ·)) && Rows.fnNoLostWakeupSpec.vars.all (Tryz.pinned.checked.prog.varReadable ·) && Tryz.f4.resultTypes.all (fun t=>Tryz.pinned.checked.prog.readableRec t && decide (t<Tryz.pinned.checked.prog.types.size)) && (Rows.fnNoLostWakeupRow.ifacesOut==Tryz.f4.resultTypes.toList.any (Tryz.pinned.checked.prog.ifacesRec ·)) && (Rows.fnNoLostWakeupRow.loopsOut==Tryz.f4.resultTypes.toList.any (Tryz.pinned.checked.prog.loopsFrom ·)))=true:=by kernel_rfl
theorem nEv:((Rows.fnNoLostWakeupRow.plainKeys==Tryz.pinned.checked.prog.plainKeys) && Rows.fnNoLostWakeupRow.shortTexts.isNone && Tryz.pinned.checked.prog.stopsHeard && Tryz.pinned.checked.prog.mayEnter && (Rows.fnNoLostWakeupRow.lifted==Tryz.pinned.checked.prog.liftsFinal) && (Tryz.pinned.checked.prog.make==some Rows.fnNoLostWakeupRow.make) && (Rows.fnNoLostWakeupRow.pinned==Rows.fnNoLostWakeupRow.pinnedBy) && (Rows.fnNoLostWakeupRow.veiled==(Tryz.f4.params.toList++Rows.fnNoLostWakeupSpec.plain.varTypes Tryz.pinned.checked.prog++Tryz.f4.resultTypes.toList).any (Tryz.pinned.checked.prog.veiledRec ·)) && Rows.fnNoLostWakeupRow.veiledFits Tryz.pinned.checked.prog Tryz.f4.params.toList (Tryz.f4.params.toList++Rows.fnNoLostWakeupSpec.plain.varTypes Tryz.pinned.checked.prog++Tryz.f4.resultTypes.toList))=true:=by kernel_rfl
theorem closed:joinedFacts Tryz.pinned.checked.prog 4 Tryz.f4 Rows.fnNoLostWakeupSpec Rows.fnNoLostWakeupRow=true:=by
 have g:=nEs
 simp only[Bool.and_eq_true,and_assoc] at g
 obtain⟨h0,h1,h2,h3,h4,h5,h6,h7,h8⟩:=g
 have g:=nEt
 simp only[Bool.and_eq_true,and_assoc] at g
 obtain⟨h9,h10,h11,h12⟩:=g
 have g:=nEu
 simp only[Bool.and_eq_true,and_assoc] at g
 obtain⟨h13,h14,h15,h16,h17,h18,h19,h20,h21⟩:=g
 have g:=nEv
 simp only[Bool.and_eq_true,and_assoc] at g
 obtain⟨h22,h23,h24,h25,h26,h27,h28,h29,h30⟩:=g
 unfold joinedFacts
 simp only[Bool.and_eq_true,and_assoc]
 exact⟨h0,h1,h2,h3,h4,h5,h6,h7,h8,h9,h10,h11,h12,h13,h14,h15,h16,h17,h18,h19,h20,h21,h22,h23,h24,h25,h26,h27,(by as_aux_lemma=>kernel_rfl),h28,h29,h30⟩
theorem over:Rows.fnNoLostWakeupRow.holds Tryz.pinned (OpenSpec.ofChange Rows.fnNoLostWakeupSpec):=
 OpenClaim.holds_of_wide 4 Tryz.f4 rfl rfl rfl rfl rfl rfl rfl ⟨rfl,rfl,rfl,rfl,rfl⟩ rfl rfl rfl rfl rfl (by kernel_rfl) Tryz.func4 (by exact closed)
  (of_decide_eq_true (by kernel_rfl)) (by unfold Func.isWrapper;first | (rw[if_pos (by decide+kernel)];kernel_rfl) | (rw[if_neg (by decide+kernel)];exact⟨rfl,rfl⟩))
  (fun os started H enc _=>lifted os started H enc)
theorem proved:Rows.FnNoLostWakeupSaid:=over
#print axioms proved
end Go.Proofs.YteffpikahopfoaaGreat.LFnNoLostWakeup
