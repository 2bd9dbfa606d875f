/- TruthTells holds for every input: the row's step round the walk, and its card, tied to the program's text. -/
import Derived.Test.YteobmfpbgnmffaaGreatDoorT47
import Derived.Test.YteobmfpbgnmffaaGreatDoorT48
import Derived.Test.YteobmfpbgnmffaaGreatDoorTie
set_option linter.unusedVariables false
set_option maxHeartbeats 4000000
set_option maxRecDepth 100000
set_option linter.unusedSimpArgs false
namespace Go.Proofs.YteobmfpbgnmffaaGreatDoor.truthTellsRow
open Go.ChangeShapes Go.WideShapes Go.ChangeAt Go.RowKit
theorem qXX : Rows.truthTellsRow.domain=[] := rfl
theorem lifted (os:Os)(started:os.Started)(H:Type)(enc:TypeId × Value->H) :
  ReturnsInHanded {} Tryz.checked os 9 .any (fun w args=>(Rows.truthTellsSpec.pre enc Tryz.prog Tryz.f9 [] false w args/\laidMetH Tryz.prog Rows.truthTellsRow.laid w)/\sizedMet enc Tryz.prog Tryz.f9 (OpenSpec.ofChange Rows.truthTellsSpec) false w args) (Rows.truthTellsSpec.post enc Tryz.prog Tryz.f9 false true false false):=by
 refine returnsInHanded_of_change_and (C:=Tryz.checked) (X:=fun w _=>laidMetH Tryz.prog Rows.truthTellsRow.laid w) (fun _ _ _ hh h=>h.of_heap hh) own started (by kernel_rfl) Tryz.func9
  (ChangeSpec.witness_shaped (enc:=enc) (C:=Tryz.checked) (os:=os) (X:=fun w _=>laidMetH Tryz.prog Rows.truthTellsRow.laid w) false (qG3 os) #[.slice none 0 0,.slice none 0 0,.slice none 0 0,.int .i64 0,.agg #[.int .u8 0,.string ByteArray.empty,.int .u8 0,.int .i64 0,.string ByteArray.empty,.string ByteArray.empty,.slice none 0 0]] 8 (qJI _)
   (World.shaped_of_ZipB (by kernel_rfl) (by kernel_rfl)) (by kernel_rfl) (by kernel_rfl) (by kernel_rfl) (qIA os _)) ?_
 intro W base args ds gs before hval0 hW hcnd hsz0 hL hShape;have hsz:(DataW.weightsEach Tryz.prog (Tryz.f9.params.toList++Rows.truthTellsSpec.plain.varTypes Tryz.prog) (ds++gs)).all (· <= reachBytes)=true:=hsz0;have hval:∀(j:Nat) t v,Tryz.f9.params[j]?=some t->args[j]?=some v->Value.okWide Tryz.prog W .any base t v:=hval0;clear hsz0;have hW':=hW;obtain⟨p,q,hA0,hV,rfl,hfz,hnd⟩:=hW;have hA:DataW.TrodAll enc Tryz.prog W 0 (fun _=>true) true Tryz.f9.params.toList args.toList ds p:=hA0;rw[Tryz.params9]at hA hval hsz;obtain⟨v0,vs0,d0,ds0,p0,q0,hargs,rfl,rfl,h0,r0⟩:=trodAll_cons hA;obtain⟨v1,vs1,d1,ds1,p1,q1,rfl,rfl,rfl,h1,r1⟩:=trodAll_cons r0;obtain⟨v2,vs2,d2,ds2,p2,q2,rfl,rfl,rfl,h2,r2⟩:=trodAll_cons r1;obtain⟨v3,vs3,d3,ds3,p3,q3,rfl,rfl,rfl,h3,r3⟩:=trodAll_cons r2;obtain⟨v4,vs4,d4,ds4,p4,q4,rfl,rfl,rfl,h4,r4⟩:=trodAll_cons r3;obtain⟨rfl,rfl,rfl⟩:=trodAll_nil r4;obtain rfl:args=#[v0,v1,v2,v3,v4]:=by cases args;simp_all
 obtain⟨rfl,rfl⟩:=trodVars_none hV;have k0:=h0;have lt0:∀x∈p0,x.block<W.heap.size:=by obtain⟨m,hm⟩:=k0;exact DataW.trod_lt m _ _ _ hm
 have k1:=h1;have lt1:∀x∈p1,x.block<W.heap.size:=by obtain⟨m,hm⟩:=k1;exact DataW.trod_lt m _ _ _ hm
 have k2:=h2;have lt2:∀x∈p2,x.block<W.heap.size:=by obtain⟨m,hm⟩:=k2;exact DataW.trod_lt m _ _ _ hm
 have k3:=h3;have lt3:∀x∈p3,x.block<W.heap.size:=by obtain⟨m,hm⟩:=k3;exact DataW.trod_lt m _ _ _ hm
 have k4:=h4;have lt4:∀x∈p4,x.block<W.heap.size:=by obtain⟨m,hm⟩:=k4;exact DataW.trod_lt m _ _ _ hm
 have z0:∀m∈d0.weights Tryz.prog 40,m<=reachBytes:=fun m hm=>of_decide_eq_true (List.all_eq_true.1 hsz _ (DataW.weights_mem_each (j:=0) rfl rfl _ hm));obtain⟨A0,c0,l0,rfl,w0,x0⟩:=qPV Tryz.underlying40 Tryz.underlying66 rfl Tryz.underlying41 Tryz.underlying3 (by kernel_rfl) (by rw[show Tryz.prog.bytesOf 28=296 by kernel_rfl];decide) (fun m cs x h=>qNH Tryz.underlying28 rfl Tryz.underlying24 Tryz.underlying26 (by kernel_rfl) Tryz.underlying39 rfl Tryz.underlying25 Tryz.underlying37 rfl Tryz.underlying23 rfl Tryz.underlying3 Tryz.underlying9 Tryz.underlying5 (by kernel_rfl) (by kernel_rfl) h) z0 (hval 0 40 v0 rfl rfl) h0;obtain⟨A1,c1,l1,rfl,w1,x1,_⟩:=qWO Tryz.underlying41 (by kernel_rfl) (fun m cs x h=>qNH Tryz.underlying28 rfl Tryz.underlying24 Tryz.underlying26 (by kernel_rfl) Tryz.underlying39 rfl Tryz.underlying25 Tryz.underlying37 rfl Tryz.underlying23 rfl Tryz.underlying3 Tryz.underlying9 Tryz.underlying5 (by kernel_rfl) (by kernel_rfl) h) (hval 1 41 v1 rfl rfl) h1;have z2:∀m∈d2.weights Tryz.prog 42,m<=reachBytes:=fun m hm=>of_decide_eq_true (List.all_eq_true.1 hsz _ (DataW.weights_mem_each (j:=2) rfl rfl _ hm));obtain⟨A2,c2,l2,rfl,w2⟩:=qTL Tryz.underlying42 Tryz.underlying3 (by kernel_rfl) (by rw[show Tryz.prog.bytesOf 3=8 by kernel_rfl];decide) z2 (hval 2 42 v2 rfl rfl) h2;obtain⟨n3,rfl,w3⟩:=qWN Tryz.underlying3 (hval 3 3 v3 rfl rfl) h3;obtain⟨x4,rfl,w4⟩:=qTM Tryz.underlying39 rfl Tryz.underlying25 Tryz.underlying37 rfl Tryz.underlying23 rfl Tryz.underlying3 Tryz.underlying9 Tryz.underlying5 (by kernel_rfl) (by kernel_rfl) (hval 4 39 v4 rfl rfl) h4;clear hA0 hval0;refine (qH2 W (qXV hL) A0 c0 l0 w0 x0 A1 c1 l1 w1 x1 A2 c2 l2 w2 n3 w3 x4 w4).mono fun e W' ⟨he,bel⟩ => ?_;subst he;exact⟨_,rfl,_,_,_,[],_,[],hW',trodAll_mk1 (shut_bool Tryz.underlying4 _),(trodAll_cons_mk (Below.trod qG2 (by kernel_rfl) (of_decide_eq_true (by kernel_rfl)) k0 bel lt0) (trodAll_cons_mk (Below.trod qG2 (by kernel_rfl) (of_decide_eq_true (by kernel_rfl)) k1 bel lt1) (trodAll_cons_mk (Below.trod qG2 (by kernel_rfl) (of_decide_eq_true (by kernel_rfl)) k2 bel lt2) (trodAll_cons_mk (Below.trod qG2 (by kernel_rfl) (of_decide_eq_true (by kernel_rfl)) k3 bel lt3) (trodAll_cons_mk (Below.trod qG2 (by kernel_rfl) (of_decide_eq_true (by kernel_rfl)) k4 bel lt4) trodAll_mk0))))),rfl,bel.frame _,fun h=>by cases h⟩
theorem qYC : joinedFacts Tryz.prog 9 Tryz.f9 Rows.truthTellsSpec Rows.truthTellsRow=true := by
 unfold joinedFacts
 repeat' (with_reducible refine qKZ ?_ ?_)
 all_goals first|(with_reducible exact qIE)|(rw[qIC];as_aux_lemma=>kernel_rfl)|(rw[qUF];as_aux_lemma=>kernel_rfl)|(as_aux_lemma=>kernel_rfl)
theorem over : Rows.truthTellsRow.holds Tryz.pinned (OpenSpec.ofChange Rows.truthTellsSpec) :=
 OpenClaim.holds_of_wide 9 Tryz.f9 rfl rfl rfl rfl rfl rfl rfl ⟨rfl,rfl,rfl,rfl,rfl⟩ rfl rfl rfl rfl rfl (by kernel_rfl) Tryz.func9 qYC
  (of_decide_eq_true (by kernel_rfl)) (by unfold Func.isWrapper;first|(rw[if_pos (by decide +kernel)];kernel_rfl)|(rw[if_neg (by decide +kernel)];exact⟨rfl,rfl⟩))
  (fun os started H enc _=>lifted os started H enc)
theorem proved : Rows.TruthTellsCardSaid :=
 Claim7.holds_tied_plain_at .later [] [.data,.mapped,.data,.data,.pinned] true Rows.truthTellsCard.stood.harness Rows.truthTellsCard.stood.looks over (fun _ h=>by cases h) (by kernel_rfl) (fun _ h=>by cases h) truthTells_row_tie rfl ⟨rfl,rfl⟩ qOH rfl
  (fun f fn hf hfn=>by
   obtain rfl:f=9:=Option.some.inj ((show Tryz.prog.funcNamed "chandlery/chandlerylaw14.TruthTells" = some 9 by kernel_rfl).symm.trans hf) |>.symm;obtain rfl:fn=Tryz.f9:=(Option.some.inj (Tryz.func9.symm.trans hfn)).symm
   exact⟨by kernel_rfl,fun j t ht=>by
    rw[Tryz.params9]at ht;have hm:t∈[40,41,42,3,39]:=by simpa using Array.mem_of_getElem? ht
    have hall:([40,41,42,3,39].all fun u => !Tryz.prog.wantsStandIn u)=true:=by kernel_rfl
    exact (show Tryz.prog.wantsStandIn t=false by simpa using List.all_eq_true.1 hall t hm)⟩)
  (by kernel_rfl)
