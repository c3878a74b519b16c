/- For every input the law FnExactHostFlush returns true, and its arguments read as they did. Conditions: none. -/
import Derived.Test.YtoaflbnkiobhdaaGreatBr
import Derived.Test.YtoaflbnkiobhdaaGreatB0
namespace Go.Proofs.YtoaflbnkiobhdaaGreat.LFnExactHostFlush
open Go.ChangeShapes Go.WideShapes Go.ChangeAt Go.RowKit Vm Pl
theorem own:ownKnob Tryz.prog.godebug=none:=by kernel_rfl
set_option maxRecDepth 100000 in
theorem lifted (os:Os) (started:os.Started) (H:Type) (enc:TypeId×Value→H):
  ReturnsInHanded {} Tryz.checked os 4 .any (Rows.fnExactHostFlushSpec.pre6 enc Tryz.prog Tryz.f4 Rows.fnExactHostFlushRow.domain false) (Rows.fnExactHostFlushSpec.post enc Tryz.prog Tryz.f4 false true false false):=by
 refine returnsInHanded_of_change_sized (C:=Tryz.checked) own started (by kernel_rfl) Tryz.func4
  (ChangeSpec.witness6 (enc:=enc) (C:=Tryz.checked) false ⟨#[], #[.agg #[.slice none 0 0,.slice none 0 0,.int .i64 0,.int .i64 0,.int .i64 0,.int .i64 0,.int .i64 0,.int .i64 0,.int .i64 0,.slice none 0 0,.slice none 0 0,.int .i64 0,.slice none 0 0,.slice none 0 0,.slice none 0 0,.slice none 0 0,.int .i64 0,.bool false,.slice none 0 0,.slice none 0 0,.slice none 0 0,.string ⟨#[]⟩,.slice none 0 0,.slice none 0 0,.bool false,.slice none 0 0,.slice none 0 0,.slice none 0 0,.int .i64 0,.int .i64 0,.int .i64 0,.int .i64 0,.int .i64 0]],[]⟩ 8 (by kernel_rfl) (by kernel_rfl) (by kernel_rfl) (by kernel_rfl)) ?_
 intro W base args ds gs before hval hW _ hz _
 have hW2:=hW
 obtain⟨p,q,hA,hV,_,_,_⟩:=hW2
 obtain⟨rfl,rfl⟩:=trodVars_none hV
 have e0:Rows.fnExactHostFlushSpec.plain.varTypes Tryz.checked.prog=[]:=rfl
 rw[e0] at hz
 simp only[List.append_nil] at hz
 have hd:∃d0,ds=[d0]:=by
  have hA2:DataW.TrodAll enc Tryz.prog W 0 (fun _=>true) true Tryz.f4.params.toList args.toList ds p:=hA
  rw[Tryz.params4] at hA2
  obtain⟨_,_,d0,_,_,_,_,rfl,_,_,hA2⟩:=trodAll_cons hA2
  obtain⟨_,rfl,_⟩:=trodAll_nil hA2
  exact⟨_,rfl⟩
 obtain⟨d0,rfl⟩:=hd
 refine Br.nvO (t4:=4) (sp:=Rows.fnExactHostFlushSpec) (by kernel_rfl) Yy (by kernel_rfl) rfl rfl (by kernel_rfl) rfl ?_ (by kernel_rfl) Tryz.underlying4 hval hW rfl rfl rfl ?_
 ·rw[Tryz.params4]
  intro t ht
  simp only[List.mem_cons,List.not_mem_nil,or_false] at ht
  subst ht
  exact⟨by kernel_rfl,of_decide_eq_true (by kernel_rfl)⟩
 ·intro dcs _ hf
  exact congrArg (fun b=>(b,[DC.bool true])) (hf hz)
theorem nww:(Rows.fnExactHostFlushRow.wf (OpenSpec.ofChange Rows.fnExactHostFlushSpec) && laidOutB Tryz.pinned.checked.prog && mapsRowed Tryz.pinned.checked.prog && Tryz.f4.params.all (Tryz.pinned.checked.prog.readableRec ·) && namedTie Tryz.pinned.checked.prog Rows.fnExactHostFlushRow.named Rows.fnExactHostFlushSpec.vars && (Rows.fnExactHostFlushRow.stops==[]) && (Tryz.pinned.checked.prog.stops==[]) && (Rows.fnExactHostFlushRow.knobs==[]) && (Tryz.pinned.checked.prog.stopKnobs==[]))=true:=by kernel_rfl
theorem nwx:((Rows.fnExactHostFlushRow.inPlace==Tryz.pinned.checked.prog.inPlace 4) && (Rows.fnExactHostFlushRow.unfollowed==Tryz.pinned.checked.prog.unfollowed 4) && (Rows.fnExactHostFlushRow.recurses==Tryz.pinned.checked.prog.recurses 4) && (Rows.fnExactHostFlushRow.named==Tryz.pinned.checked.prog.varsNamed 4))=true:=by kernel_rfl
theorem nwy:((Rows.fnExactHostFlushRow.maps==(Tryz.f4.params.toList++Rows.fnExactHostFlushSpec.plain.varTypes Tryz.pinned.checked.prog).any (Tryz.pinned.checked.prog.mapsRec ·)) && (Rows.fnExactHostFlushRow.ifaces==(Tryz.f4.params.toList++Rows.fnExactHostFlushSpec.plain.varTypes Tryz.pinned.checked.prog).any (Tryz.pinned.checked.prog.ifacesRec ·)) && (Rows.fnExactHostFlushRow.mapsOut==Tryz.pinned.checked.prog.mapsAmong Tryz.f4.resultTypes.toList) && (Rows.fnExactHostFlushRow.loops==(Tryz.f4.params.toList++Rows.fnExactHostFlushSpec.plain.varTypes Tryz.pinned.checked.prog).any (Tryz.pinned.checked.prog.loopsFrom ·)) && (Rows.fnExactHostFlushRow.wideKeys==(Tryz.f4.params.toList++Rows.fnExactHostFlushSpec.plain.varTypes Tryz.pinned.checked.prog++Tryz.f4.resultTypes.toList).any (Tryz.pinned.checked.prog.wideKeysFrom ·)) && Rows.fnExactHostFlushSpec.vars.all (Tryz.pinned.checked.prog.varReadable ·) && Tryz.f4.resultTypes.all (fun t=>Tryz.pinned.checked.prog.readableRec t && decide (t<Tryz.pinned.checked.prog.types.size)) && (Rows.fnExactHostFlushRow.ifacesOut==Tryz.f4.resultTypes.toList.any (Tryz.pinned.checked.prog.ifacesRec ·)) && (Rows.fnExactHostFlushRow.loopsOut==Tryz.f4.resultTypes.toList.any (Tryz.pinned.checked.prog.loopsFrom ·)))=true:=by kernel_rfl
theorem nwz:((Rows.fnExactHostFlushRow.plainKeys==Tryz.pinned.checked.prog.plainKeys) && Rows.fnExactHostFlushRow.shortTexts.isNone && Tryz.pinned.checked.prog.stopsHeard && Tryz.pinned.checked.prog.mayEnter && (Rows.fnExactHostFlushRow.lifted==Tryz.pinned.checked.prog.liftsFinal) && (Tryz.pinned.checked.prog.make==some Rows.fnExactHostFlushRow.make) && (Rows.fnExactHostFlushRow.pinned==Rows.fnExactHostFlushRow.pinnedBy) && (Rows.fnExactHostFlushRow.veiled==(Tryz.f4.params.toList++Rows.fnExactHostFlushSpec.plain.varTypes Tryz.pinned.checked.prog++Tryz.f4.resultTypes.toList).any (Tryz.pinned.checked.prog.veiledRec ·)) && Rows.fnExactHostFlushRow.veiledFits Tryz.pinned.checked.prog Tryz.f4.params.toList (Tryz.f4.params.toList++Rows.fnExactHostFlushSpec.plain.varTypes Tryz.pinned.checked.prog++Tryz.f4.resultTypes.toList))=true:=by kernel_rfl
theorem closed:joinedFacts Tryz.pinned.checked.prog 4 Tryz.f4 Rows.fnExactHostFlushSpec Rows.fnExactHostFlushRow=true:=by
 have g:=nww
 simp only[Bool.and_eq_true,and_assoc] at g
 obtain⟨h0,h1,h2,h3,h4,h5,h6,h7,h8⟩:=g
 have g:=nwx
 simp only[Bool.and_eq_true,and_assoc] at g
 obtain⟨h9,h10,h11,h12⟩:=g
 have g:=nwy
 simp only[Bool.and_eq_true,and_assoc] at g
 obtain⟨h13,h14,h15,h16,h17,h18,h19,h20,h21⟩:=g
 have g:=nwz
 simp only[Bool.and_eq_true,and_assoc] at g
 obtain⟨h22,h23,h24,h25,h26,h27,h28,h29,h30⟩:=g
 unfold joinedFacts
 simp only[Bool.and_eq_true,and_assoc]
 exact⟨h0,h1,h2,h3,h4,h5,h6,h7,h8,h9,h10,h11,h12,h13,h14,h15,h16,h17,h18,h19,h20,h21,h22,h23,h24,h25,h26,h27,(by as_aux_lemma=>kernel_rfl),h28,h29,h30⟩
theorem over:Rows.fnExactHostFlushRow.holds Tryz.pinned (OpenSpec.ofChange Rows.fnExactHostFlushSpec):=
 OpenClaim.holds_of_wide 4 Tryz.f4 rfl rfl rfl rfl rfl rfl rfl ⟨rfl,rfl,rfl,rfl,rfl⟩ rfl rfl rfl rfl rfl (by kernel_rfl) Tryz.func4 (by exact closed)
  (of_decide_eq_true (by kernel_rfl)) (by unfold Func.isWrapper;first | (rw[if_pos (by decide+kernel)];kernel_rfl) | (rw[if_neg (by decide+kernel)];exact⟨rfl,rfl⟩))
  (fun os started H enc _=>lifted os started H enc)
theorem proved:Rows.FnExactHostFlushSaid:=over
#print axioms proved
end Go.Proofs.YtoaflbnkiobhdaaGreat.LFnExactHostFlush
