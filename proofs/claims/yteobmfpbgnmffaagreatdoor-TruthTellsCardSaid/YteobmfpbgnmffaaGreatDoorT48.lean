/- TrLaid, Enter -/
import Derived.Test.YteobmfpbgnmffaaGreatDoorT30
import Derived.Lay
import Derived.LaidMore
import Derived.Lib.LaidU8
import Derived.Test.YteobmfpbgnmffaaGreatDoorCards
import Derived.SevenTiedAt
set_option linter.unusedVariables false
set_option maxRecDepth 100000
set_option linter.unusedSimpArgs false
namespace Go.Proofs.YteobmfpbgnmffaaGreatDoor
section
open Go.ChangeShapes Go.WideShapes Go.ChangeAt Go.RowKit Go.WideMaps Go.WideElems
def qI9 : List (String × DataW Unit) := [("unicode/utf8.acceptRanges",Rows.laid_unicode_utf8_acceptRanges),("chandlery/span.ops",Rows.laid_chandlery_span_ops),("chandlery/dep.words",Rows.laid_chandlery_dep_words),("chandlery/rich.kinds",Rows.laid_chandlery_rich_kinds),("unicode/utf8.first",Rows.laid_unicode_utf8_first)]
def qW6 : List String := ["unicode/utf8.acceptRanges", "chandlery/dep.words", "chandlery/rich.kinds", "unicode/utf8.first"]
noncomputable def qG3 (os:Os) : World := (World.doorLaid Tryz.prog 240 os).layVars Tryz.prog (qI9.filter fun x=>qW6.contains x.1)
theorem qJI (os:Os) : (qG3 os).os=os := World.layVars_os _ _ _
theorem qIA (os:Os)(args:Array Value) : laidMetH Tryz.prog qI9 ((qG3 os).forCall (fun _ _=>0) ⟨#[],args,[]⟩).memory := by
  rw[MakeChecks.laidMetH_plain _ _ _ (by kernel_rfl)];exact laidMet_layVars qW6 [2,11] rfl (by kernel_rfl) (by kernel_rfl) (LaidIn.of_run [2,11] 8 (by kernel_rfl) (by kernel_rfl) (by kernel_rfl) (by kernel_rfl))
theorem gOps : Tryz.prog.globalNamed "chandlery/span.ops" = some 2:=by kernel_rfl
theorem tOps : (Tryz.prog.globals[2]?).map (·.type)=some 227 := by kernel_rfl
theorem gWds : Tryz.prog.globalNamed "chandlery/dep.words" = some 1:=by kernel_rfl
theorem tWds : (Tryz.prog.globals[1]?).map (·.type)=some 196 := by kernel_rfl
theorem qUP {W:World}(h:laidMet Tryz.prog qI9 W) : qKY W := by
  obtain⟨g,t,cs,f,p,hg,ht,hv,hd⟩:=Lib.laidMet.reads h (n := "chandlery/span.ops") (d:=Rows.laid_chandlery_span_ops) (by simp only[qI9,List.mem_cons];right;left;trivial);obtain rfl:=Option.some.inj (gOps.symm.trans hg);obtain rfl:=Option.some.inj (tOps.symm.trans ht);rcases open_map Tryz.underlying227 hd with⟨_,hx⟩|⟨bm,es,clock,m,rfl,hcs,hb,_,F,hx⟩
  · simp[Rows.laid_chandlery_span_ops]at hx
  simp only[Prod.mk.injEq]at hx;have hcell:W.cell? ⟨2,0,none⟩=some (.map (some bm)):=by
    have:=World.var?_cell hg hv 0;rw[Array.eq_one_of_toList hcs]at this
    simpa using this
  have h0:=World.block_lt_of_cell? W _ hcell;have hbl:bm<W.heap.size:=(Array.getElem?_eq_some_iff.1 hb).1;have hown:=World.ownsMap_of_fit (R:=plainElem Tryz.prog 5) hb F (fun x _ z hz=>elemAt_plainElem_int Tryz.underlying5 hz);rw[<- hx.1]at hown;exact⟨Nat.lt_of_le_of_lt (Nat.zero_le _) h0,bm,_,hcell,h0,hbl,hown⟩
theorem qHY {P:Program}{w:World}{base:Nat}{sp:Nat->Bool}{held:Bool}{fuel:Nat}{t e:TypeId}{n:Nat}{cs:List Value}{zs:List qAF}{p:List MemPlace}{H:Type}{enc:TypeId × Value->H}
    (ht:P.underlying t=some (.array n e)) (he:P.underlying e=some .string) (hce:P.cellsOf e=1) (hct:P.cellsOf t=n)
    (h:DataW.trod enc P w base sp held fuel t cs=some (.agg (zs.map fun z=>.lit (.string z)),p)):cs=zs.map fun z=>Value.string (bs z):=by
  cases fuel with
  | zero=>simp[DataW.trod]at h
  | succ fuel =>
    simp only[DataW.trod,ht,hce,hct,Nat.mul_one]at h;split at h
    · rename_i hl
      obtain⟨xs,hm,hx⟩:=Option.map_eq_some_iff.1 h;have hxs:xs.map (·.1)=zs.map fun z=>(DataW.lit (.string z):DataW H):=by
        have:=congrArg Prod.fst hx
        simpa using this
      have hxl:xs.length=n:=by simpa using Lib.mapM_length hm
      have hzl:zs.length=n:=by
        have:=congrArg List.length hxs;simp at this;omega
      apply List.ext_getElem?;intro i;by_cases hi:i<n
      · obtain⟨b,hb,hf⟩:=Lib.mapM_at hm i i (by simp[hi]);obtain⟨s,hc,hd,_⟩:=DataW.trod_string he hf;have h1:cs[i]?=some (.string s):=by
          have:=congrArg (·[0]?) hc
          simpa [List.getElem?_take,List.getElem?_drop] using this
        have h2:(xs.map (·.1))[i]?=some b.1:=by simp[hb]
        rw[hxs,hd]at h2;simp only[List.getElem?_map,Option.map_eq_some_iff,DataW.lit.injEq,Lit.string.injEq]at h2;obtain⟨z',hz',e2⟩:=h2;rw[h1,List.getElem?_map,hz',Option.map_some,e2];rfl
      · rw[List.getElem?_eq_none (by omega),List.getElem?_eq_none (by simp;omega)]
    · cases h
theorem qPM {W:World}(h:laidMet Tryz.prog qI9 W) : qFR W := by
  obtain⟨g,t,cs,f,p,hg,ht,hv,hd⟩:=Lib.laidMet.reads h (n := "chandlery/dep.words") (d:=Rows.laid_chandlery_dep_words) (by simp only[qI9,List.mem_cons];right;right;left;trivial);obtain rfl:=Option.some.inj (gWds.symm.trans hg);obtain rfl:=Option.some.inj (tWds.symm.trans ht);have hcs:cs.toList=qD8.map fun z=>Value.string (bs z):=qHY Tryz.underlying196 Tryz.underlying9 (by kernel_rfl) (by kernel_rfl) hd;have hc:∀k,W.cell? ⟨1,k,none⟩=(qD8.map fun z=>Value.string (bs z))[k]?:=fun k=>by
    have:=World.var?_cell hg hv k;rw[<- Array.getElem?_toList,hcs]at this
    simpa using this
  have h0:=World.block_lt_of_cell? W _ ((hc 0).trans rfl);exact⟨h0,(hc 0).trans rfl,(hc 1).trans rfl,(hc 2).trans rfl,(hc 3).trans rfl,(hc 4).trans rfl,(hc 5).trans rfl,(hc 6).trans rfl⟩
theorem qGW {P:Program}{w:World}{base:Nat}{sp:Nat->Bool}{held:Bool}{fuel:Nat}{t e ts ti:TypeId}{f0 f1:Field}{n:Nat}{cs:List Value}{zs:List (qAF × Int)}{p:List MemPlace}{H:Type}{enc:TypeId × Value->H}
    (ht:P.underlying t=some (.array n e)) (he:P.underlying e=some (.struct #[f0,f1])) (hF:(f0.type,f0.offset,f1.type,f1.offset)=(ts,0,ti,1)) (hs:P.underlying ts=some .string) (hi:P.underlying ti=some (.int .i64)) (hC:(P.cellsOf ts == 1 && P.cellsOf ti == 1 && P.cellsOf e == 2 && P.cellsOf t == n * 2)=true)
    (h:DataW.trod enc P w base sp held fuel t cs=some (.agg (zs.map fun z=>.agg [.lit (.string z.1),.lit (.int .i64 z.2)]),p)):∀(k:Nat) (hk:k<zs.length),cs[k * 2]?=some (.string (bs (zs[k]'hk).1))/\cs[k * 2+1]?=some (.int .i64 (zs[k]'hk).2):=by
  simp only[Bool.and_eq_true,beq_iff_eq]at hC;obtain⟨⟨⟨c1,c2⟩,c3⟩,c4⟩:=hC;simp only[Prod.mk.injEq]at hF;obtain⟨e1,e2,e3,e4⟩:=hF;obtain⟨xs,m,rfl,hx,hl,hn,hf⟩:=DataW.trod_array ht h;simp only[Prod.mk.injEq,DataW.agg.injEq]at hx;have hzl:zs.length=n:=by
    have:=congrArg List.length hx.1;simp at this;omega
  intro k hk;have h1:=hf k (by omega);rw[c3,List.getElem?_eq_getElem (by omega)]at h1;obtain⟨ys,m2,_,hy,hl2,hlen,hg⟩:=DataW.trod_struct he h1;have g0:=hg 0 f0 rfl;have g1:=hg 1 f1 rfl;rw[e1,e2,c1,List.drop_zero]at g0;rw[e3,e4,c2]at g1;have hlen':ys.length=2:=by simpa using hlen
  match ys,hlen' with
  | [y0,y1],_ =>
    obtain⟨s0,q0,r0,_⟩:=DataW.trod_string hs (by simpa using g0);obtain⟨n0,q1,r1,_⟩:=DataW.trod_int hi (by simpa using g1);have hz:(xs[k]'(by omega)).1=.agg [.lit (.string (zs[k]'hk).1),.lit (.int .i64 (zs[k]'hk).2)]:=by
      have:=congrArg (·[k]?) hx.1;simp only[List.getElem?_map,List.getElem?_eq_getElem hk,List.getElem?_eq_getElem (show k<xs.length by omega),Option.map_some,Option.some.injEq]at this;exact this.symm
    rw[hy,r0,r1]at hz;simp only[List.map_cons,List.map_nil,DataW.agg.injEq,List.cons.injEq,DataW.lit.injEq,Lit.string.injEq,Lit.int.injEq,and_true,true_and]at hz;obtain⟨z0,z1⟩:=hz;have u0:cs[k * 2]?=some (.string s0):=by
      have:=congrArg (·[0]?) q0
      simpa [List.getElem?_take,List.getElem?_drop] using this
    have u1:cs[k * 2+1]?=some (.int .i64 n0):=by
      have:=congrArg (·[0]?) q1
      simpa [List.getElem?_take,List.getElem?_drop,Nat.add_comm,Nat.add_left_comm] using this
    refine⟨?_,by rw[u1,z1]⟩;rw[u0,<- z0];rfl
theorem gKds : Tryz.prog.globalNamed "chandlery/rich.kinds" = some 0:=by kernel_rfl
theorem tKds : (Tryz.prog.globals[0]?).map (·.type)=some 184 := by kernel_rfl
theorem qOD {W:World}(h:laidMet Tryz.prog qI9 W) : qDR W := by
  obtain⟨g,t,cs,f,p,hg,ht,hv,hd⟩:=Lib.laidMet.reads h (n := "chandlery/rich.kinds") (d:=Rows.laid_chandlery_rich_kinds) (by simp only[qI9,List.mem_cons];right;right;right;left;trivial);obtain rfl:=Option.some.inj (gKds.symm.trans hg);obtain rfl:=Option.some.inj (tKds.symm.trans ht);have hp:=qGW (zs:=qOC.map fun z=>(z.1,(z.2:Int))) Tryz.underlying184 Tryz.underlying183 rfl Tryz.underlying9 Tryz.underlying3 (by kernel_rfl) hd;have hc:∀k,W.cell? ⟨0,k,none⟩=cs.toList[k]?:=fun k=>by
    have:=World.var?_cell hg hv k;rw[<- Array.getElem?_toList]at this
    simpa using this
  have h0:=hp 0 (by decide);have hb:=World.block_lt_of_cell? W _ ((hc 0).trans h0.1);refine⟨hb,fun k hk => ?_⟩;have h1:=hp k (by simpa [qOC] using hk);rw[hc,hc];simp only[List.getElem_map]at h1;exact h1
theorem qXV {W:World}(h:laidMetH Tryz.prog qI9 W) : WhIn W := by
  rw[MakeChecks.laidMetH_plain _ _ _ (by kernel_rfl)]at h;exact⟨⟨qUP h,qPM h⟩,qOD h⟩
end
section
open Go
def qFG : List (List UInt8) := [[41,49,49,32,107,111,111,108,40,32,97,116,97,100,32,110,105,97,108,112,32,44,114,101,115,105,108,97,105,116,105,110,105,32,110,119,111,32,115,116,105,32,121,98,32,100,105,97,108,32,115,105,32,115,100,114,111,119,46,112,101,100,47,121,114,101,108,100,110,97,104,99,32,58,114,111,111,100,32,115,39,114,97,118],
    [41,49,49,32,107,111,111,108,40,32,97,116,97,100,32,110,105,97,108,112,32,44,114,101,115,105,108,97,105,116,105,110,105,32,110,119,111,32,115,116,105,32,121,98,32,100,105,97,108,32,115,105,32,115,100,110,105,107,46,104,99,105,114,47,121,114,101,108,100,110,97,104,99,32,58,114,111,111,100,32,115,39,114,97,118],
    [41,49,32,112,97,109,40,32,116,110,101,109,101,116,97,116,115,32,97,32,121,114,116,110,101,32,110,97,32,44,115,108,97,114,101,116,105,108,32,112,97,109,32,110,119,111,32,115,116,105,32,121,98,32,100,105,97,108,32,115,105,32,115,112,111,46,110,97,112,115,47,121,114,101,108,100,110,97,104,99,32,58,114,111,111,100,32,115,39,114,97,118],
    [41,111,111,116,32,115,101,108,105,102,32,116,115,101,116,32,44,49,49,32,107,111,111,108,40,32,100,114,111,119,115,114,97,118,116,117,99,32,119,111,114,32,115,39,116,115,101,102,105,110,97,109,32,101,104,116,32,101,101,115,32,59,101,110,111,108,97,32,115,114,101,115,105,108,97,105,116,105,110,105,32,115,100,108,111,104,32,115,114,97,118,46,116,117,99,46,109,101,115,111,103,32,58,114,111,111,100,32,115,39,114,97,118],
    [41,49,49,32,107,111,111,108,40,32,116,111,111,114,32,115,39,121,114,111,116,105,115,111,112,101,114,32,101,104,116,32,115,97,32,100,101,109,97,110,32,114,101,108,108,97,99,32,101,104,116,32,116,97,104,116,32,114,101,100,108,111,102,32,101,104,116,32,114,101,118,111,32,116,110,101,119,32,115,114,97,118,46,116,117,99,46,109,101,115,111,103,32,102,111,32,107,111,111,108,32,101,104,116,32,58,114,111,111,100,32,115,39,114,97,118],
    [41,49,49,32,107,111,111,108,40,32,97,116,97,100,32,110,105,97,108,112,32,44,114,101,115,105,108,97,105,116,105,110,105,32,110,119,111,32,115,116,105,32,121,98,32,100,105,97,108,32,115,105,32,115,101,103,110,97,82,116,112,101,99,99,97,46,56,102,116,117,47,101,100,111,99,105,110,117,32,58,114,111,111,100,32,115,39,114,97,118],
    [41,49,32,100,101,110,110,105,112,40,32,101,110,111,108,97,32,116,120,101,116,32,115,116,105,32,121,98,32,100,105,97,108,32,115,105,32,116,115,114,105,102,46,56,102,116,117,47,101,100,111,99,105,110,117,32,58,114,111,111,100,32,115,39,114,97,118]]
theorem qL3 : Tryz.prog.doorRows=qFG := by kernel_rfl
def qWV (rows:List (List UInt8))(lifts:List String) : Bool :=
  !((rows.any fun n=>["(look 8)", "(look 8, test files too)", "(list 7)", "(look 7)"].any (endsIn · n)) &&
    (lifts.contains "libbeside" || lifts.contains "reflbeside" || lifts.contains "aliases" || lifts.contains "afterinit" || lifts.contains "crcplain" ||
     rows.any fun n=>["(look 11)", "(look 11, test files too)", "(list 10)", "(look 11-elder)", "(handle 1)", "(map 1)", "(funcs 1)", "(called 1)", "(data 2)", "(zero 1)", "(deep 1)", "(pinned 1)"].any (endsIn · n))) &&
  (rows.isEmpty || !(lifts.contains "ownunsafe" || lifts.contains "roadunsafe") || lifts.contains "libbeside") &&
  (lifts.contains "ownunsafe" || !lifts.contains "libbeside") && (lifts.contains "libbeside" || !lifts.contains "ownbeside")
theorem qJ4 (lifts:List String) : Tryz.prog.doorFits lifts=qWV qFG lifts := by
  unfold Program.doorFits;rw[qL3];rfl
def qQR : List Nat := [104,97,114,110,101,115,115,32,53,50,57,50,55,101,102,56,98,102,55,51,55,53,99,57,56,54,49,56,55,52,51,102,48,99,98,51,54,102,50,48,53,99,53,56,54,54,101,48,101,100,100,53,98,97,48,100,48,51,52,53,56,51,53,55,54,53,99,48,48,101,102,100,32,99,117,116,32,97,116,32,99,104,97,110,100,108,101,114,121,47,99,104,97,110,100,108,101,114,121,108,97,119,49,48,46,80,107,103,67,111,112,105,101,115,32,99,104,97,110,100,108,101,114,121,47,99,104,97,110,100,108,101,114,121,108,97,119,51,48,46,83,116,101,112,115,84,101,108,108,115,32,99,104,97,110,100,108,101,114,121,47,99,104,97,110,100,108,101,114,121,108,97,119,51,48,46,83,116,101,112,115,78,97,109,101,115,32,99,104,97,110,100,108,101,114,121,47,99,104,97,110,100,108,101,114,121,108,97,119,49,52,46,84,114,117,116,104,77,111,114,101,32,99,104,97,110,100,108,101,114,121,47,99,104,97,110,100,108,101,114,121,108,97,119,49,52,46,84,114,117,116,104,84,117,114,110,101,100,32,99,104,97,110,100,108,101,114,121,47,99,104,97,110,100,108,101,114,121,108,97,119,49,52,46,84,114,117,116,104,80,114,111,118,105,100,101,114,115,32,99,104,97,110,100,108,101,114,121,47,99,104,97,110,100,108,101,114,121,108,97,119,49,52,46,84,114,117,116,104,84,101,108,108,115,32,99,104,97,110,100,108,101,114,121,47,99,104,97,110,100,108,101,114,121,108,97,119,49,52,46,84,114,117,116,104,78,97,109,101,115,32,99,104,97,110,100,108,101,114,121,47,99,104,97,110,100,108,101,114,121,108,97,119,49,52,46,84,114,117,116,104,79,110,101]
def sumS : String := Rows.pkgCopiesCard.stood.harness.2
theorem qJE : Tryz.prog.initOrder=String.ofList (qQR.map Char.ofNat) := by kernel_rfl
theorem qTT : Tryz.prog.initOrder.toList=qQR.map Char.ofNat := by rw[qJE,String.toList_ofList]
theorem qZ7 : (wordsSigns (qQR.map Char.ofNat)).take 3=["harness".toList,sumS.toList, "cut".toList]:=by kernel_rfl
theorem qKV:∃rest,wordsSigns Tryz.prog.initOrder.toList = "harness".toList::sumS.toList :: "cut".toList::rest:=by
  have h:=qZ7;rw[<- qTT]at h;generalize wordsSigns Tryz.prog.initOrder.toList=ws at h
  match ws,h with
  | a::b::c::r,h =>
    simp only[List.take_succ_cons,List.take_zero,List.cons.injEq,and_true]at h;exact⟨r,by rw[h.1,h.2.1,h.2.2]⟩
theorem qKJ : isSumSigns sumS.toList=true := by kernel_rfl
theorem qNT (rest:List (List Char)) : behindMainWord ("harness".toList::sumS.toList :: "cut".toList::rest) = "cut".toList::rest:=by
  simp only[behindMainWord];rw[qKJ];simp
theorem qEM:∃rest,behindMainWord (wordsSigns Tryz.prog.initOrder.toList) = "cut".toList::rest:=by
  obtain⟨rest,h⟩:=qKV;exact⟨rest,by rw[h];exact qNT rest⟩
def qUE : List (List Char)->Option (Bool × List Char)
  | h::s::_=>if !isSumSigns s then none else if h == "harness".toList then some (true,s) else if h == "ownmain".toList then some (false,s) else none
  | _=>none
theorem qR4 (P:Program) : P.mainIs=qUE (wordsSigns P.initOrder.toList) := by
  unfold Program.mainIs qUE;rfl
theorem qR3 (rest:List (List Char)) : qUE ("harness".toList::sumS.toList :: "cut".toList::rest)=some (true,sumS.toList):=by
  simp only[qUE];rw[qKJ];simp
theorem qOH : Tryz.prog.mainIs=some (true,sumS.toList) := by
  obtain⟨rest,h⟩:=qKV;rw[qR4,h];exact qR3 rest
def qYH (ws:List (List Char)) : List String := let r := stripLifts liftWords ws;if r.2.head? == some "cut".toList then r.1 else []
theorem qJC (P:Program) : P.headLifts=qYH (behindMainWord (wordsSigns P.initOrder.toList)) := rfl
theorem qQQ (rest:List (List Char)) : qYH ("cut".toList::rest)=[]:=by kernel_rfl
theorem qI8 : Tryz.prog.headLifts=[] := by
  obtain⟨rest,h⟩:=qEM;rw[qJC,h];exact qQQ rest
theorem qJJ : Tryz.prog.laysLater=false := by kernel_rfl
theorem qFV : Tryz.prog.bearsReflect=false := by kernel_rfl
def qQG (later refl:Bool)(door:List String->Bool) : List (List Char)->Bool
  | c::rest =>
    ((c == "gc".toList || c == "spec".toList) && (rest.isEmpty || rest.head? == some "stop".toList)) ||
    (c == "carried".toList && rest.take 2 == ["gc".toList, "cut".toList] && !later && !refl) ||
    ((stripLifts liftWords (c::rest)).2.head? == some "cut".toList &&
      ((stripLifts liftWords (c::rest)).1.contains "finals" || !later) && ((stripLifts liftWords (c::rest)).1.contains "reflectrows" || !refl) &&
      ((stripLifts liftWords (c::rest)).1.contains "reflectrows" || !(stripLifts liftWords (c::rest)).1.contains "leanrows") &&
      door (stripLifts liftWords (c::rest)).1)
  | []=>false
theorem qLF (P:Program) : P.mayEnter=qQG P.laysLater P.bearsReflect P.doorFits (behindMainWord (wordsSigns P.initOrder.toList)) := by
  unfold Program.mayEnter qQG;cases behindMainWord (wordsSigns P.initOrder.toList)<;>rfl
theorem qNZ (rest:List (List Char)) : qQG false false (qWV qFG) ("cut".toList::rest)=true:=by kernel_rfl
theorem qIE : Tryz.prog.mayEnter=true := by
  obtain⟨rest,h⟩:=qEM;have hd:Tryz.prog.doorFits=qWV qFG:=funext qJ4;rw[qLF,h,qJJ,qFV,hd];exact qNZ rest
def qW5 (l:List String)(ws:List (List Char)) : Bool := (ws.head? == some "carried".toList && ws.take 3 != ["carried".toList, "gc".toList, "cut".toList]) || l.contains "finals"
theorem qIB (P:Program) : P.liftsFinal=qW5 P.headLifts (behindMainWord (wordsSigns P.initOrder.toList)) := rfl
theorem qO3 (rest:List (List Char)) : qW5 [] ("cut".toList::rest)=false:=by kernel_rfl
theorem qIC : Tryz.prog.liftsFinal=false := by
  obtain⟨rest,h⟩:=qEM;rw[qIB,h,qI8];exact qO3 rest
def qX7 (l:List String) : List (List Char)->Option Make
  | c::rest=>if c == "gc".toList || c == "spec".toList then some .whole else if c == "cut".toList || (c == "finals".toList && rest.head? == some "cut".toList) then some .cut else if c == "carried".toList then some .carried else if l.isEmpty then none else some (.lifted l)
  | []=>none
theorem qX8 (P:Program) : P.make=qX7 P.headLifts (behindMainWord (wordsSigns P.initOrder.toList)) := by
  unfold Program.make qX7;cases behindMainWord (wordsSigns P.initOrder.toList)<;>rfl
theorem qR5 (l:List String)(rest:List (List Char)) : qX7 l ("cut".toList::rest)=some .cut:=by kernel_rfl
theorem qUF : Tryz.prog.make=some .cut := by
  obtain⟨rest,h⟩:=qEM;rw[qX8,h];exact qR5 _ rest
theorem qKZ {a b:Bool}(h1:a=true)(h2:b=true) : (a && b)=true := by rw[h1,h2];rfl
