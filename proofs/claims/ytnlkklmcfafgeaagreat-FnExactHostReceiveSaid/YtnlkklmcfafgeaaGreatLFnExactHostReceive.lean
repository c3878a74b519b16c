/- For every input the law FnExactHostReceive returns true, and its arguments read as they did. Conditions: none. -/
import Derived.Test.YtnlkklmcfafgeaaGreatBr
import Derived.Test.YtnlkklmcfafgeaaGreatB0
namespace Go.Proofs.YtnlkklmcfafgeaaGreat.LFnExactHostReceive
open Go.ChangeShapes Go.WideShapes Go.ChangeAt Go.RowKit Vm Pl
theorem own:ownKnob Tryz.prog.godebug=none:=by kernel_rfl
set_option maxRecDepth 100000 in
theorem lifted (os:Os) (started:os.Started) (H:Type) (enc:TypeId×Value→H):
  ReturnsInHanded {} Tryz.checked os 4 .any (Rows.fnExactHostReceiveSpec.pre6 enc Tryz.prog Tryz.f4 Rows.fnExactHostReceiveRow.domain false) (Rows.fnExactHostReceiveSpec.post enc Tryz.prog Tryz.f4 false true false false):=by
 refine returnsInHanded_of_change_sized (C:=Tryz.checked) own started (by kernel_rfl) Tryz.func4
  (ChangeSpec.witness6 (enc:=enc) (C:=Tryz.checked) false ⟨#[], #[.agg #[.slice none 0 0,.slice none 0 0,.int .i64 0,.int .i64 0,.int .i64 0,.int .i64 0,.int .i64 0,.int .i64 0,.int .i64 0,.slice none 0 0,.slice none 0 0,.int .i64 0,.slice none 0 0,.slice none 0 0,.slice none 0 0,.slice none 0 0,.int .i64 0,.bool false,.slice none 0 0,.slice none 0 0,.slice none 0 0,.string ⟨#[]⟩,.slice none 0 0,.slice none 0 0,.bool false,.slice none 0 0,.slice none 0 0,.slice none 0 0,.int .i64 0,.int .i64 0,.int .i64 0,.int .i64 0,.int .i64 0],.string ⟨#[]⟩],[]⟩ 8 (by kernel_rfl) (by kernel_rfl) (by kernel_rfl) (by kernel_rfl)) ?_
 intro W base args ds gs before hval hW _ hz _
 have hW2:=hW
 obtain⟨p,q,hA,hV,_,_,_⟩:=hW2
 obtain⟨rfl,rfl⟩:=trodVars_none hV
 have e0:Rows.fnExactHostReceiveSpec.plain.varTypes Tryz.checked.prog=[]:=rfl
 rw[e0] at hz
 simp only[List.append_nil] at hz
 have hd:∃d0 d1,ds=[d0,d1]:=by
  have hA2:DataW.TrodAll enc Tryz.prog W 0 (fun _=>true) true Tryz.f4.params.toList args.toList ds p:=hA
  rw[Tryz.params4] at hA2
  obtain⟨_,_,d0,_,_,_,_,rfl,_,_,hA2⟩:=trodAll_cons hA2
  obtain⟨_,_,d1,_,_,_,_,rfl,_,_,hA2⟩:=trodAll_cons hA2
  obtain⟨_,rfl,_⟩:=trodAll_nil hA2
  exact⟨_,_,rfl⟩
 obtain⟨d0,d1,rfl⟩:=hd
 refine Br.nzf (t4:=4) (sp:=Rows.fnExactHostReceiveSpec) (by kernel_rfl) Xa (by kernel_rfl) rfl rfl (by kernel_rfl) rfl ?_ (by kernel_rfl) Tryz.underlying4 hval hW rfl rfl rfl ?_
 ·rw[Tryz.params4]
  intro t ht
  simp only[List.mem_cons,List.not_mem_nil,or_false] at ht
  rcases ht with rfl | rfl<;>exact⟨by kernel_rfl,of_decide_eq_true (by kernel_rfl)⟩
 ·intro dcs _ hf
  exact congrArg (fun b=>(b,[DC.bool true])) (hf hz)
theorem nAg:(Rows.fnExactHostReceiveRow.wf (OpenSpec.ofChange Rows.fnExactHostReceiveSpec) && laidOutB Tryz.pinned.checked.prog && mapsRowed Tryz.pinned.checked.prog && Tryz.f4.params.all (Tryz.pinned.checked.prog.readableRec ·) && namedTie Tryz.pinned.checked.prog Rows.fnExactHostReceiveRow.named Rows.fnExactHostReceiveSpec.vars && (Rows.fnExactHostReceiveRow.stops==[]) && (Tryz.pinned.checked.prog.stops==[]) && (Rows.fnExactHostReceiveRow.knobs==[]) && (Tryz.pinned.checked.prog.stopKnobs==[]))=true:=by kernel_rfl
theorem nAh:((Rows.fnExactHostReceiveRow.inPlace==Tryz.pinned.checked.prog.inPlace 4) && (Rows.fnExactHostReceiveRow.unfollowed==Tryz.pinned.checked.prog.unfollowed 4) && (Rows.fnExactHostReceiveRow.recurses==Tryz.pinned.checked.prog.recurses 4) && (Rows.fnExactHostReceiveRow.named==Tryz.pinned.checked.prog.varsNamed 4))=true:=by kernel_rfl
theorem nAi:((Rows.fnExactHostReceiveRow.maps==(Tryz.f4.params.toList++Rows.fnExactHostReceiveSpec.plain.varTypes Tryz.pinned.checked.prog).any (Tryz.pinned.checked.prog.mapsRec ·)) && (Rows.fnExactHostReceiveRow.ifaces==(Tryz.f4.params.toList++Rows.fnExactHostReceiveSpec.plain.varTypes Tryz.pinned.checked.prog).any (Tryz.pinned.checked.prog.ifacesRec ·)) && (Rows.fnExactHostReceiveRow.mapsOut==Tryz.pinned.checked.prog.mapsAmong Tryz.f4.resultTypes.toList) && (Rows.fnExactHostReceiveRow.loops==(Tryz.f4.params.toList++Rows.fnExactHostReceiveSpec.plain.varTypes Tryz.pinned.checked.prog).any (Tryz.pinned.checked.prog.loopsFrom ·)) && (Rows.fnExactHostReceiveRow.wideKeys==(Tryz.f4.params.toList++Rows.fnExactHostReceiveSpec.plain.varTypes Tryz.pinned.checked.prog++Tryz.f4.resultTypes.toList).any (Tryz.pinned.checked.prog.wideKeysFrom ·)) && Rows.fnExactHostReceiveSpec.vars.all (Tryz.pinned.checked.prog.varReadable ·) && Tryz.f4.resultTypes.all (fun t=>Tryz.pinned.checked.prog.readableRec t && decide (t<Tryz.pinned.checked.prog.types.size)) && (Rows.fnExactHostReceiveRow.ifacesOut==Tryz.f4.resultTypes.toList.any (Tryz.pinned.checked.prog.ifacesRec ·)) && (Rows.fnExactHostReceiveRow.loopsOut==Tryz.f4.resultTypes.toList.any (Tryz.pinned.checked.prog.loopsFrom ·)))=true:=by kernel_rfl
theorem nAj:((Rows.fnExactHostReceiveRow.plainKeys==Tryz.pinned.checked.prog.plainKeys) && Rows.fnExactHostReceiveRow.shortTexts.isNone && Tryz.pinned.checked.prog.stopsHeard && Tryz.pinned.checked.prog.mayEnter && (Rows.fnExactHostReceiveRow.lifted==Tryz.pinned.checked.prog.liftsFinal) && (Tryz.pinned.checked.prog.make==some Rows.fnExactHostReceiveRow.make) && (Rows.fnExactHostReceiveRow.pinned==Rows.fnExactHostReceiveRow.pinnedBy) && (Rows.fnExactHostReceiveRow.veiled==(Tryz.f4.params.toList++Rows.fnExactHostReceiveSpec.plain.varTypes Tryz.pinned.checked.prog++Tryz.f4.resultTypes.toList).any (Tryz.pinned.checked.prog.veiledRec ·)) && Rows.fnExactHostReceiveRow.veiledFits Tryz.pinned.checked.prog Tryz.f4.params.toList (Tryz.f4.params.toList++Rows.fnExactHostReceiveSpec.plain.varTypes Tryz.pinned.checked.prog++Tryz.f4.resultTypes.toList))=true:=by kernel_rfl
theorem closed:joinedFacts Tryz.pinned.checked.prog 4 Tryz.f4 Rows.fnExactHostReceiveSpec Rows.fnExactHostReceiveRow=true:=by
 have g:=nAg
 simp only[Bool.and_eq_true,and_assoc] at g
 obtain⟨h0,h1,h2,h3,h4,h5,h6,h7,h8⟩:=g
 have g:=nAh
 simp only[Bool.and_eq_true,and_assoc] at g
 obtain⟨h9,h10,h11,h12⟩:=g
 have g:=nAi
 simp only[Bool.and_eq_true,and_assoc] at g
 obtain⟨h13,h14,h15,h16,h17,h18,h19,h20,h21⟩:=g
 have g:=nAj
 simp only[Bool.and_eq_true,and_assoc] at g
 obtain⟨h22,h23,h24,h25,h26,h27,h28,h29,h30⟩:=g
 unfold joinedFacts
 simp only[Bool.and_eq_true,and_assoc]
 exact⟨h0,h1,h2,h3,h4,h5,h6,h7,h8,h9,h10,h11,h12,h13,h14,h15,h16,h17,h18,h19,h20,h21,h22,h23,h24,h25,h26,h27,(by as_aux_lemma=>kernel_rfl),h28,h29,h30⟩
theorem over:Rows.fnExactHostReceiveRow.holds Tryz.pinned (OpenSpec.ofChange Rows.fnExactHostReceiveSpec):=
 OpenClaim.holds_of_wide 4 Tryz.f4 rfl rfl rfl rfl rfl rfl rfl ⟨rfl,rfl,rfl,rfl,rfl⟩ rfl rfl rfl rfl rfl (by kernel_rfl) Tryz.func4 (by exact closed)
  (of_decide_eq_true (by kernel_rfl)) (by unfold Func.isWrapper;first | (rw[if_pos (by decide+kernel)];kernel_rfl) | (rw[if_neg (by decide+kernel)];exact⟨rfl,rfl⟩))
  (fun os started H enc _=>lifted os started H enc)
theorem proved:Rows.FnExactHostReceiveSaid:=over
#print axioms proved
end Go.Proofs.YtnlkklmcfafgeaaGreat.LFnExactHostReceive
