/- Proofs about the given program, joined out of the texts MG, T2, T3, T4, T5, T6, B0, W1, Z1, Z2, S5, D1, D2, Z3, T7. -/
import Derived.Test.YtccnemmlkcmceaaGreatDoorHL1
import Derived.Test.YtccnemmlkcmceaaGreatDoorHL2
import Derived.Maps.RangeWalk
import Derived.Laws.MakeOwn
set_option linter.unusedVariables false
set_option linter.unusedSimpArgs false
set_option maxRecDepth 100000
set_option maxHeartbeats 6400000
namespace Go.Proofs.YtccnemmlkcmceaaGreatDoor
open Go.RowKit
section
variable {α:Type}{val:α->Value}
def ae9 (val:α->Value) (es:Array MapEntry) (ov:List (Nat×α)):Prop:=es.toList.map (fun e=>(e.key,e.val))=ov.map (fun p=>(Value.int .i64 (p.1:Int),val p.2))
structure o6 (val:α->Value) (w:World) (m:Nat) (ov:List (Nat×α)):Prop where
 nodup:(ov.map (·.1)).Nodup
 obj:∃es c,w.heap[m]?=some (.map es c)/\ae9 val es ov/\oW es c
theorem o6.lt {w:World}{m:Nat}{ov:List (Nat×α)}(h:o6 val w m ov):m<w.heap.size:=by
 obtain⟨_,es,c,ho,_⟩:=h;rcases Nat.lt_or_ge m w.heap.size with bu|iC
 ·exact bu
 ·rw[Array.getElem?_eq_none iC]at ho;cases ho
theorem o6.ext {F:Nat->Prop}{w w':World}{m:Nat}{ov:List (Nat×α)}(h:o6 val w m ov) (he:ah F w w') (hm:¬F m):o6 val w' m ov:=by
 have bu:=h.lt;obtain⟨hn,es,c,ho,hr⟩:=h;exact⟨hn,es,c,(he.block m bu hm).trans ho,hr⟩
theorem o6.made (w:World):o6 val (w.alloc (.map #[] 0)) w.heap.size []:=⟨by simp,#[],0,heap_alloc_new w _,rfl,by simp[oW]⟩
theorem DU (q:IntKind) (id:Nat):∀(ov:List (Nat×α)) (es:List MapEntry) (i:Nat),es.map (fun e=>(e.key,e.val))=ov.map (fun p=>(Value.int .i64 (p.1:Int),val p.2))->id∉ov.map (·.1)->Instr.findNow (.int q) (.int .i64 (id:Int)) es i=some none
 | [],es,i,h,_=>by
  have:es = []:=by simpa using h
  subst this;rfl
 | (a,b)::ov,[],i,h,_=>by simp at h
 | (a,b)::ov,e::es,i,h,hn=>by
  simp only[List.map_cons,List.cons.injEq,Prod.mk.injEq]at h;obtain⟨⟨hk,hv⟩,ht⟩:=h;simp only[List.map_cons,List.mem_cons,not_or]at hn;have bQ:((id:Int)==(a:Int))=false:=by simpa using (by omega:¬(id:Int)=(a:Int))
  simp[Instr.findNow,hk,Instr.sameNow,bQ,DU q id ov es (i+1) ht hn.2]
theorem DT (q:IntKind) (id:Nat) (x:α):∀(ov:List (Nat×α)) (es:List MapEntry) (i:Nat),es.map (fun e=>(e.key,e.val))=ov.map (fun p=>(Value.int .i64 (p.1:Int),val p.2))->ov.lookup id=some x->∃j,Instr.findNow (.int q) (.int .i64 (id:Int)) es i=some (some (j,val x))
 | [],es,i,h,hl=>by cases hl
 | (a,b)::ov,[],i,h,_=>by simp at h
 | (a,b)::ov,e::es,i,h,hl=>by
  simp only[List.map_cons,List.cons.injEq,Prod.mk.injEq]at h;obtain⟨⟨hk,hv⟩,ht⟩:=h
  by_cases hid:id=a
  ·subst hid
   have:b=x:=by simpa using hl
   subst this;exact⟨i,by simp[Instr.findNow,hk,Instr.sameNow,hv]⟩
  ·have bQ:((id:Int)==(a:Int))=false:=by simpa using (by omega:¬(id:Int)=(a:Int))
   have wy:(id==a)=false:=by simpa using hid
   rw[List.lookup_cons,wy]at hl;obtain⟨j,hj⟩:=DT q id x ov es (i+1) ht hl;exact⟨j,by simp[Instr.findNow,hk,Instr.sameNow,bQ,hj]⟩
end
theorem zY {w:World}{m:Nat}{ov:List (Nat×Bs)}(h:o6 (fun b=>.string (au b)) w m ov) {id:Nat}(x:Bs) (hid:id∉ov.map (·.1)) :
  ∃w',(Instr.mapUpdate 132 (.map (some m)) (.int .i64 (id:Int)) (.string (au x))).run Tryz.prog w=.ok () w'/\o6 (fun b=>.string (au b)) w' m (ov ++ [(id,x)])/\ah (fun b=>b=m) w w'/\w'.heap.size=w.heap.size:=by
 have hm:=h.lt;obtain⟨gN,es,c,ho,he,dw⟩:=h
 have ext:∀o,ah (fun b=>b=m) w { w with heap:=w.heap.setIfInBounds m o }:=fun o=>⟨rfl,rfl,rfl,by simp,fun i hi bQ=>by
  simp only[Array.getElem?_setIfInBounds]
  rw[if_neg (fun e=>bQ e.symm)]⟩
 have h1:=DU (val:=fun b=>.string (au b)) .i64 id ov es.toList 0 he hid;refine⟨{ w with heap:=w.heap.setIfInBounds m (.map (es.push { key:=.int .i64 (id:Int),val:=.string (au x),born:=c }) (c+1)) },?_,?_,ext _,by simp⟩
 ·simp[Instr.mapUpdate,run_underlying Tryz.underlying132,MapKept.run_getObj_map ho,MapKept.run_setObj_map _ ho,uX,MapKept.run_findKey Tryz.underlying3 h1,Result.andThen]
 ·refine⟨?_,_,c+1,by simp only[Array.getElem?_setIfInBounds,if_pos rfl,hm,if_true];rfl,?_,zS dw _ _⟩
  ·rw[List.map_append]
   refine List.nodup_append.2 ⟨gN,by simp,?_⟩;intro a ha b hb e;have:b=id:=by simpa using hb
   subst this;subst e;exact hid ha
  ·unfold ae9 at he ⊢
   simp[he]
theorem Ki {w:World}{m:Nat}{ov:List (Nat×Bs)}(h:o6 (fun b=>.string (au b)) w m ov) {id:Nat}{x:Bs}(hl:ov.lookup id=some x) :
  (Instr.lookup 132 (.map (some m)) (.int .i64 (id:Int)) false).run Tryz.prog w=.ok (.string (au x)) w:=by
 obtain⟨_,es,c,ho,he,_⟩:=h;obtain⟨j,h1⟩:=DT (val:=fun b=>.string (au b)) .i64 id x ov es.toList 0 he hl;simp[Instr.lookup,run_underlying Tryz.underlying132,MapKept.run_getObj_map ho,uX,MapKept.run_findKey Tryz.underlying3 h1,Result.andThen]
theorem Cw {w:World}{m:Nat}{ov:List (Nat×Bs)}(h:o6 (fun b=>.string (au b)) w m ov) (ty:TypeId):(Builtin.len_ #[132] ty #[.map (some m)]).run Tryz.prog w=.ok (.int .i64 (ov.length:Int)) w:=by
 obtain⟨_,es,c,ho,he,_⟩:=h;have hl:es.size=ov.length:=by
  have:=congrArg List.length he;simpa using this
 simp[Builtin.len_,run_underlying Tryz.underlying132,MapKept.run_getObj_map ho,hl,goInt]
theorem Us {n:Nat}(h:n<65536):(Lit.int .i64 (n:Int)).wf=true:=by
 have h1:IntKind.i64.min = -9223372036854775808:=by decide
 have h2:IntKind.i64.max=9223372036854775807:=by decide
 simp only[Lit.wf,h1,h2,Bool.and_eq_true,decide_eq_true_eq];omega
open Go.Maps Go.WideElems in
theorem o6.owns {α:Type}{val:α->Value}{w:World}{m:Nat}{ov:List (Nat×α)}(h:o6 val w m ov) (hk:∀p∈ov,p.1<65536) (hn:ov.length<65536) :
  ∃D:DataW Unit,w.ownsMap Tryz.prog 3 (fun _=>some (.nil,[])) m ov.length D/\(intKeys D).Perm (ov.map fun p=>(p.1:Int))/\size D=ov.length:=by
 obtain⟨gN,es,c,ho,he,dw⟩:=h;have hl:es.size=ov.length:=by
  have:=congrArg List.length he;simpa using this
 have wB:es.toList.map (·.key)=ov.map (fun p=>Value.int .i64 (p.1:Int)):=by
  have:=congrArg (List.map Prod.fst) he;rw[List.map_map,List.map_map]at this;exact this
 have AY:∀x∈es.toList,∃p∈ov,rd Tryz.prog 3 (fun _=>some ((.nil:DataW Unit),([]:List MemPlace))) x=some (.int .i64 (p.1:Int),.nil)/\x.key=.int .i64 (p.1:Int):=fun x hx=>by
  have h1:x.key∈es.toList.map (·.key):=List.mem_map.2 ⟨x,hx,rfl⟩;rw[wB]at h1;obtain⟨p,hp,e⟩:=List.mem_map.1 h1;refine⟨p,hp,?_,e.symm⟩;unfold rd;rw[<-e,keyOf_int_mk Tryz.underlying3 (Us (hk p hp))];rfl
 have hrg:(es.toList.map (rg Tryz.prog 3 (fun _=>some ((.nil:DataW Unit),([]:List MemPlace))))).map (fun p=>Go.intOf p.1)=ov.map fun p=>(p.1:Int):=by
  have h2:es.toList.map (fun x=>Go.intOf (rg Tryz.prog 3 (fun _=>some ((.nil:DataW Unit),([]:List MemPlace))) x).1)=(es.toList.map (·.key)).map (fun v=>match v with|.int _ a=>a|_=>0):=by
   rw[List.map_map];apply List.map_congr_left;intro x hx;obtain⟨p,_,h1,h3⟩:=AY x hx;unfold rg;rw[h1];show _=(match x.key with|.int _ a=>a|_=>0);rw[h3];rfl
  rw[List.map_map];simp only[Function.comp_def];refine h2.trans ?_;rw[wB,List.map_map];simp only[Function.comp_def]
 refine⟨_,⟨es,c,ho,⟨by rw[hl];unfold maxLen;omega,⟨dw.1,dw.2,?_⟩,fun x hx=>?_⟩,by omega,rfl⟩,?_,?_⟩
 ·rw[wB]
  have e:ov.map (fun p=>Value.int .i64 (p.1:Int))=(ov.map (fun p=>p.1)).map (fun i:Nat=>Value.int .i64 (i:Int)):=by rw[List.map_map];rfl
  rw[e];exact List.Pairwise.map (fun i:Nat=>Value.int .i64 (i:Int)) (fun a b hab e=>hab (by injection e with _ e;omega)) gN
 ·obtain⟨p,_,h1,_⟩:=AY x hx
  exact⟨_,h1⟩
 ·show(((es.toList.map _).foldr DataW.insert []).map fun p=>Go.intOf p.1).Perm _
  rw[<-hrg];exact(Go.WideShapes.sorted_perm _).map _
 ·show((es.toList.map _).foldr DataW.insert []).length=_
  rw[(Go.WideShapes.sorted_perm _).length_eq,List.length_map,Array.length_toList,hl]
theorem jH {s:bH}(hs:s.Ok) {w w':World}(he:ah No w w') (h:s.db w):s.db w':=hs.keep _ _ he.of_no h
section
variable {w:World}{s:bH}{v:V}
theorem aD.c0 (h:aD w s v):w.cell? ⟨s.t,0,none⟩=some (.pointer (some ⟨s.x,0,none⟩)):=h.tx.cell 0
theorem aD.c1 (h:aD w s v):w.cell? ⟨s.t,1,none⟩=some (.int .i64 (v.r 0:Int)):=h.tx.cell 1
theorem aD.c2 (h:aD w s v):w.cell? ⟨s.t,2,none⟩=some (.int .i64 (v.r 1:Int)):=h.tx.cell 2
theorem aD.c3 (h:aD w s v):w.cell? ⟨s.t,3,none⟩=some (.int .i64 (v.r 2:Int)):=h.tx.cell 3
theorem aD.c4 (h:aD w s v):w.cell? ⟨s.t,4,none⟩=some (.int .i64 (v.r 3:Int)):=h.tx.cell 4
theorem aD.c5 (h:aD w s v):w.cell? ⟨s.t,5,none⟩=some (.int .i64 (v.high:Int)):=h.tx.cell 5
theorem aD.c6 (h:aD w s v):w.cell? ⟨s.t,6,none⟩=some (.int .i64 (v.free:Int)):=h.tx.cell 6
theorem aD.c7 (h:aD w s v):w.cell? ⟨s.t,7,none⟩=some (.int .i64 (v.cnt:Int)):=h.tx.cell 7
theorem aD.c8 (h:aD w s v):w.cell? ⟨s.t,8,none⟩=some (.map (some s.m)):=h.tx.cell 8
theorem aD.c9 (h:aD w s v):w.cell? ⟨s.t,9,none⟩=some (.bool v.marked):=h.tx.cell 9
theorem aD.c10 (h:aD w s v):w.cell? ⟨s.t,10,none⟩=some (.bool v.spoilt):=h.tx.cell 10
theorem aD.fz (h:aD w s v) (i:Nat):w.frozen? ⟨s.t,i,none⟩=false:=h.tx.frozen i
end
theorem I5 (s:bH) (hs:s.Ok) (w:World) (v:V) (h:aD w s v) (id:Nat) (h1:1<=id) (h2:id<v.high) :
  Calls Tryz.prog 54 #[.pointer (some ⟨s.t,0,none⟩),.int .i64 (id:Int)] w fun e w'=>e=.returned (.tuple #[(v.pg id).val,.int .i64 0])/\ah No w w':=by
 obtain⟨ov,hm,_,hv⟩:=h.mp;obtain⟨iL,VJ⟩:=hv id h1 h2;clear hv;have t5:=h.c5;have t8:=h.c8;have t0:=h.c0;have lt:=h.tx.lt;have g1:¬((id:Int)<1):=by omega
 have g2:¬((v.high:Int)<=(id:Int)):=by omega
 cases hl:ov.lookup id with
 | some p =>
  have OE:v.pg id=p:=by rw[VJ,hl];rfl
  have lk:∀o,(Instr.lookup 109 (.map (some s.m)) (.int .i64 (id:Int)) true).run Tryz.prog (w.alloc o)=.ok (.tuple #[p.val,.bool true]) (w.alloc o):=fun o=>HY (hm.ext ((ah.refl No w).alloc o) (fun h=>h)) hl
  simp only[bB.val]at lk;rw[OE];clear hl OE VJ;go_enter Tryz.func54,Tryz.ntmps54;go_wp2;refine bodyPost_ret (v:=.tuple #[p.val,.int .i64 0]) (by simp[results,Tryz.results54,go_sem,bB.val]) rfl ⟨rfl,?_⟩;exact(((ah.refl No w).alloc _).alloc _)
 | none =>
  have bu:id<s.bh:=iL.resolve_left ((gL ov id).1 hl);have OE:v.pg id=s.base id:=by rw[VJ,hl];rfl
  have lk:∀o,(Instr.lookup 109 (.map (some s.m)) (.int .i64 (id:Int)) true).run Tryz.prog (w.alloc o)=.ok (.tuple #[.agg #[.int .i64 0,.string (au [])],.bool false]) (w.alloc o):=fun o=>EF (hm.ext ((ah.refl No w).alloc o) (fun h=>h)) hl
  rw[OE];generalize hp:s.base id=p;have HO:=aa (fun w hd=>hs.opn w id hd h1 bu);simp only[hp]at HO;clear hl OE VJ iL hp;have lx:=World.block_lt_of_cell? w _ (hs.x0 w h.db);go_enter Tryz.func54,Tryz.ntmps54;go_wp2_with fail;refine(hs.img _ id (jH hs (((ah.refl No w).alloc _).alloc _) h.db) h1 bu).mono ?_;rintro e w1 ⟨rfl,hb1⟩;have lt1:s.t<w1.heap.size:=Nat.lt_of_lt_of_le (by simp;omega) hb1.size;have l41:w.heap.size<w1.heap.size:=Nat.lt_of_lt_of_le (by simp;omega) hb1.size;have b4:=(((ax.new w 113 #[.int .i64 0,.string (au [])]).alloc (.cells #[.int .i64 0,.string (au [])] 113))).ext hb1 (fun h=>h);have k0:=b4.cell 0;have k1:=b4.cell 1;have f0:=b4.frozen 0;have f1:=b4.frozen 1;simp at k0 k1;go_wp2_with fail;refine(HO.out _ (jH hs hb1 (jH hs (((ah.refl No w).alloc _).alloc _) h.db))).mono ?_;rintro e w2 ⟨rfl,dO⟩;have l42:w.heap.size<w2.heap.size:=Nat.lt_of_lt_of_le l41 dO.size;have b5:=b4.ext dO (fun h=>h);have k0:=b5.cell 0;have k1:=b5.cell 1;have f0:=b5.frozen 0;have f1:=b5.frozen 1;simp at k0 k1;go_wp2_with fail;refine bodyPost_ret (v:=.tuple #[p.val,.int .i64 0]) (by simp[results,Tryz.results54,go_sem,bB.val,k0,k1,l42]) rfl ⟨rfl,?_⟩;exact(((((ah.refl No w).alloc _).alloc _).ag hb1).ag dO).setCell (.inr (by simp)) _ |>.setCell (.inr (by simp)) _
def V.err (v:V) (id:Nat):Nat:=if id<1\/v.high<=id then 2 else if (v.pg id).kind=255 then 8 else 0
theorem V.uh {v:V}{id:Nat}(h:v.err id=0):1<=id/\id<v.high/\(v.pg id).kind≠255:=by
 unfold V.err at h;split at h
 ·omega
 ·split at h
  ·omega
  ·exact⟨by omega,by omega,by assumption⟩
theorem V.uS {v:V}{id:Nat}(h:v.err id≠0):(v.err id=2/\(id<1\/v.high<=id))\/(v.err id=8/\1<=id/\id<v.high/\(v.pg id).kind=255):=by
 unfold V.err at h ⊢;split
 ·exact .inl ⟨rfl,by assumption⟩
 ·split
  ·exact .inr ⟨rfl,by omega,by omega,by assumption⟩
  ·rename_i h1 h2;rw[if_neg h1,if_neg h2]at h;exact absurd rfl h
theorem aad (s:bH) (hs:s.Ok) (w:World) (v:V) (h:aD w s v) (id:Nat) (h1:id<1\/v.high<=id) :
  Calls Tryz.prog 54 #[.pointer (some ⟨s.t,0,none⟩),.int .i64 (id:Int)] w fun e w'=>e=.returned (.tuple #[.agg #[.int .i64 0,.string (au [])],.int .i64 2])/\ah No w w':=by
 have t5:=h.c5;have t0:=h.c0;have lt:=h.tx.lt
 by_cases g1:(id:Int)<1
 ·go_enter Tryz.func54,Tryz.ntmps54
  go_wp2_with fail;refine bodyPost_ret (v:=.tuple #[.agg #[.int .i64 0,.string (au [])],.int .i64 2]) (by simp[results,Tryz.results54,go_sem,au]) rfl ⟨rfl,?_⟩;exact(((ah.refl No w).alloc _))
 ·have g2:((v.high:Int)<=(id:Int)):=by omega
  go_enter Tryz.func54,Tryz.ntmps54;go_wp2_with fail;refine bodyPost_ret (v:=.tuple #[.agg #[.int .i64 0,.string (au [])],.int .i64 2]) (by simp[results,Tryz.results54,go_sem,au]) rfl ⟨rfl,?_⟩;exact(((ah.refl No w).alloc _))
theorem Cg (s:bH) (hs:s.Ok) (w:World) (v:V) (h:aD w s v) (id:Nat) (he:v.err id=0) :
  Calls Tryz.prog 57 #[.pointer (some ⟨s.t,0,none⟩),.int .i64 (id:Int)] w fun e w'=>e=.returned (.tuple #[(v.pg id).val,.int .i64 0])/\ah No w w':=by
 obtain⟨h1,h2,h3⟩:=V.uh he;clear he;have HG:=aa (I5 s hs (w.alloc (.cells #[.int .i64 0,.string (au [])] 113)) v (h.no hs ((ah.refl No w).alloc _)) id h1 h2);generalize v.pg id=p at *;have h3':((p.kind:Int)==255)=false:=by simpa using (by omega:¬(p.kind:Int)=255)
 clear h3;have t0:=h.c0;have lt:=h.tx.lt;go_enter Tryz.func57,Tryz.ntmps57;go_wp2_with fail;refine(Hm s hs _ (jH hs (((ah.refl No w).alloc _)) h.db) (by simpa[World.cell?_alloc_lt,lt]using h.c0)).mono ?_;rintro e w1 ⟨rfl,rfl⟩;go_wp2_with fail;refine(HG.out).mono ?_;rintro e w2 ⟨rfl,dO⟩;have b4:=((ax.new w 113 #[.int .i64 0,.string (au [])])).ext dO (fun h=>h);have k0:=b4.cell 0;have k1:=b4.cell 1;have f0:=b4.frozen 0;have f1:=b4.frozen 1;have l4:=b4.lt;simp at k0 k1;simp only[bB.val];go_wp2_with fail;refine bodyPost_ret (v:=.tuple #[p.val,.int .i64 0]) (by simp[results,Tryz.results57,go_sem,bB.val,k0,k1,l4]) rfl ⟨rfl,?_⟩
 (repeat' (first|exact ah.refl _ _|assumption|apply ah.alloc|apply ah.drewN|apply ah.drew|refine ah.ai ?_ (by first|omega|(simp;omega)|simp) _ _|refine ah.ay ?_ (by first|exact Or.inl rfl|exact Or.inr rfl|rfl) _ _|refine ah.ag ?_ (by assumption)|refine ah.ag ?_ (ah.of_no (by assumption))))
theorem yL (s:bH) (hs:s.Ok) (w:World) (v:V) (h:aD w s v) (id:Nat) (he:v.err id≠0) :
  Calls Tryz.prog 57 #[.pointer (some ⟨s.t,0,none⟩),.int .i64 (id:Int)] w fun e w'=>e=.returned (.tuple #[.agg #[.int .i64 0,.string (au [])],.int .i64 (v.err id:Int)])/\ah No w w':=by
 have t0:=h.c0;have lt:=h.tx.lt;rcases V.uS he with ⟨e2,h1⟩|⟨e8,h1,h2,h3⟩
 ·rw[e2]
  clear he;have HG:=aa (aad s hs (w.alloc (.cells #[.int .i64 0,.string (au [])] 113)) v (h.no hs ((ah.refl No w).alloc _)) id h1);clear e2 h1;go_enter Tryz.func57,Tryz.ntmps57;go_wp2_with fail;refine(Hm s hs _ (jH hs (((ah.refl No w).alloc _)) h.db) (by simpa[World.cell?_alloc_lt,lt]using h.c0)).mono ?_;rintro e w1 ⟨rfl,rfl⟩;go_wp2_with fail;refine(HG.out).mono ?_;rintro e w2 ⟨rfl,dO⟩;have b4:=((ax.new w 113 #[.int .i64 0,.string (au [])])).ext dO (fun h=>h);have k0:=b4.cell 0;have k1:=b4.cell 1;have f0:=b4.frozen 0;have f1:=b4.frozen 1;have l4:=b4.lt;simp at k0 k1;go_wp2_with fail;refine bodyPost_ret (v:=.tuple #[.agg #[.int .i64 0,.string (au [])],.int .i64 2]) (by simp[results,Tryz.results57,go_sem,bB.val,k0,k1,l4]) rfl ⟨rfl,?_⟩
  (repeat' (first|exact ah.refl _ _|assumption|apply ah.alloc|apply ah.drewN|apply ah.drew|refine ah.ai ?_ (by first|omega|(simp;omega)|simp) _ _|refine ah.ay ?_ (by first|exact Or.inl rfl|exact Or.inr rfl|rfl) _ _|refine ah.ag ?_ (by assumption)|refine ah.ag ?_ (ah.of_no (by assumption))))
 ·rw[e8]
  clear he;have HG:=aa (I5 s hs (w.alloc (.cells #[.int .i64 0,.string (au [])] 113)) v (h.no hs ((ah.refl No w).alloc _)) id h1 h2);clear e8;generalize v.pg id=p at *;obtain⟨pk,pb⟩:=p;simp only at h3;subst h3;go_enter Tryz.func57,Tryz.ntmps57;go_wp2_with fail;refine(Hm s hs _ (jH hs (((ah.refl No w).alloc _)) h.db) (by simpa[World.cell?_alloc_lt,lt]using h.c0)).mono ?_;rintro e w1 ⟨rfl,rfl⟩;go_wp2_with fail;refine(HG.out).mono ?_;rintro e w2 ⟨rfl,dO⟩;have b4:=((ax.new w 113 #[.int .i64 0,.string (au [])])).ext dO (fun h=>h);have k0:=b4.cell 0;have k1:=b4.cell 1;have f0:=b4.frozen 0;have f1:=b4.frozen 1;have l4:=b4.lt;simp at k0 k1;simp only[bB.val];go_wp2_with fail;refine bodyPost_ret (v:=.tuple #[.agg #[.int .i64 0,.string (au [])],.int .i64 8]) (by simp[results,Tryz.results57,go_sem,bB.val,k0,k1,l4,au]) rfl ⟨rfl,?_⟩
  (repeat' (first|exact ah.refl _ _|assumption|apply ah.alloc|apply ah.drewN|apply ah.drew|refine ah.ai ?_ (by first|omega|(simp;omega)|simp) _ _|refine ah.ay ?_ (by first|exact Or.inl rfl|exact Or.inr rfl|rfl) _ _|refine ah.ag ?_ (by assumption)|refine ah.ag ?_ (ah.of_no (by assumption))))
theorem Y1 (s:bH) (hs:s.Ok) (w:World) (v:V) (h:aD w s v) (id:Nat) (he:v.err id=0) :
  Calls Tryz.prog 47 #[.pointer (some ⟨s.t,0,none⟩),.int .i64 (id:Int)] w fun e w'=>e=.returned (.tuple #[.int .i64 ((v.pg id).kind:Int),.string (au (v.pg id).body),.int .i64 0])/\ah No w w':=by
 have HG:=aa (Cg s hs w v h id he);clear he;generalize v.pg id=p at *;go_enter Tryz.func47,Tryz.ntmps47;go_wp2_with fail;refine(HG.out).mono ?_;rintro e w2 ⟨rfl,dO⟩;simp only[bB.val];go_wp2_with fail;go_quiet (fail);go_wp2_with fail
 go_ret3
 exact⟨rfl,(dO.alloc _).drewN _⟩
theorem UK (s:bH) (hs:s.Ok) (w:World) (v:V) (h:aD w s v) (id:Nat) (he:v.err id≠0) :
  Calls Tryz.prog 47 #[.pointer (some ⟨s.t,0,none⟩),.int .i64 (id:Int)] w fun e w'=>e=.returned (.tuple #[.int .i64 0,.string (au []),.int .i64 (v.err id:Int)])/\ah No w w':=by
 have HG:=aa (yL s hs w v h id he);have hb:((v.err id:Int)==0)=false:=by simpa using (by omega:¬(v.err id:Int)=0)
 clear he;generalize v.err id=p at *;go_enter Tryz.func47,Tryz.ntmps47;go_wp2_with fail;refine(HG.out).mono ?_;rintro e w2 ⟨rfl,dO⟩;go_wp2_with fail
 go_ret3
 exact⟨rfl,(dO.alloc _)⟩
def V.put (v:V) (id:Nat) (p:bB):V:={ v with pg:=fun j=>if j=id then p else v.pg j }
theorem aD.step {w w':World}{s:bH}{v:V}(hs:s.Ok) (h:aD w s v) {ov:List (Nat×bB)}{id:Nat}{p:bB}{v':V}
  (hk:∀i q,(i,q)∈ov->1<=i/\i<v.high) (hv:∀i,1<=i->i<v.high->(i∈ov.map (·.1)\/i<s.bh)/\v.pg i=(ov.lookup i).getD (s.base i))
  (hm:jM w' s.m (pG ov id p)) (he:ah s.F w w') (ht:ax w' s.t 111 (v'.cells s)) (h1:1<=id) (h2:id<v'.high) (h3:v'.high=v.high\/v'.high=v.high+1/\id=v.high)
  (h4:v'.high<=s.cap) (h5:v'.cnt<=v'.high) (hp:v'.pg=(v.put id p).pg):aD w' s v':=by
 have hh:=h.h1;have hb:=h.hb;refine⟨ht,hs.keep _ _ he h.db,by omega,h4,by omega,h5,_,hm,?_,?_⟩
 ·intro i q hq
  rcases Rp hq with e|hq
  ·simp only at e;omega
  ·have:=hk i q hq;omega
 ·intro i yE Dw
  rw[Hz,hp];simp only[V.put]
  by_cases hi:i=id
  ·subst hi
   refine⟨.inl ?_,by simp⟩;rw[vT];split
   ·assumption
   ·simp
  ·obtain⟨k1,k2⟩:=hv i yE (by omega)
   refine⟨k1.imp (fun hm=>?_) (fun h=>h),by simp[hi,k2]⟩;rw[vT];split
   ·exact hm
   ·exact List.mem_append.2 (.inl hm)
theorem V.Tk (v:V) (s:bH) (id:Nat) (p:bB):(v.put id p).cells s=v.cells s:=rfl
theorem ah.Zb {s:bH}{w w':World}(h:ah (fun b=>b=s.m) w w'):ah s.F w w':=h.mono fun _ _ e=>.inr e
theorem sN (s:bH) (hs:s.Ok) (w:World) (v:V) (h:aD w s v) (id kind:Nat) (body:List UInt8) (he:v.err id=0) (j_:1<=kind) (lJ:kind<255) (hb:body.length<=500) :
  Calls Tryz.prog 20 #[.pointer (some ⟨s.t,0,none⟩),.int .i64 (id:Int),.int .i64 (kind:Int),.string (au body)] w fun e w'=>e=.returned (.int .i64 0)/\aD w' s (v.put id ⟨kind,body⟩)/\ah s.F w w':=by
 have HG:=aa (Cg s hs w v h id he);obtain⟨h1,h2,_⟩:=V.uh he;clear he;have g1:¬((kind:Int)<1):=by omega
 have g2:¬((255:Int)<=kind):=by omega
 have g3:¬(500<body.length):=by omega
 have g4:(au body).size=body.length:=az body;go_enter Tryz.func20,Tryz.ntmps20;go_wp2_with fail;refine(HG.out).mono ?_;rintro e w2 ⟨rfl,dO⟩;have h':=h.no hs dO;obtain⟨ov,hm,hk,hv⟩:=h'.mp;have Es:s.t≠s.m:=hm.ne h'.tx;have ms:∀o,(Instr.mapUpdate 109 (.map (some s.m)) (.int .i64 (id:Int)) (.agg #[.int .i64 (kind:Int),.string (au body)])).run Tryz.prog (w2.alloc o)=.ok () (nu (w2.alloc o) s.m id ⟨kind,body⟩):=fun o=>(lX (hm.ext ((ah.refl No w2).alloc o) (fun h=>h)) id ⟨kind,body⟩).1
 have ms2:=fun o=>(lX (hm.ext ((ah.refl No w2).alloc o) (fun h=>h)) id ⟨kind,body⟩).2
 have t8:=h'.c8;have lt:=h'.tx.lt;have HK:=aa hk;have HV:=aa hv;have HM:=aa ms2;clear hk hv ms2;simp only[bB.val];go_wp2_with fail;go_ret;have hE:ah s.F w2 (nu (w2.alloc (.cells #[.int .i64 ((v.pg id).kind:Int),.string (au (v.pg id).body)] 113)) s.m id ⟨kind,body⟩):=((ah.refl _ _).alloc _).ag (tF _ _ _ _).Zb;refine⟨rfl,?_,dO.of_no.ag hE⟩;refine aD.step hs h' HK.out HV.out (HM.out _) hE ?_ h1 h2 (.inl rfl) h'.h2 h'.hc rfl;rw[V.Tk];exact(mV _ _ _ _ _ Es).trans (h'.tx.alloc _)
theorem Q9 (s:bH) (hs:s.Ok) (w:World) (v:V) (h:aD w s v) (id kind:Nat) (body:ByteArray) (he:v.err id≠0) :
  Calls Tryz.prog 20 #[.pointer (some ⟨s.t,0,none⟩),.int .i64 (id:Int),.int .i64 (kind:Int),.string body] w fun e w'=>e=.returned (.int .i64 (v.err id:Int))/\ah No w w':=by
 have HG:=aa (yL s hs w v h id he);have hb:((v.err id:Int)==0)=false:=by simpa using (by omega:¬(v.err id:Int)=0)
 clear he;generalize v.err id=p at *;go_enter Tryz.func20,Tryz.ntmps20;go_wp2_with fail;refine(HG.out).mono ?_;rintro e w2 ⟨rfl,dO⟩;go_wp2_with fail;go_ret;exact⟨rfl,by(repeat' (first|exact ah.refl _ _|assumption|apply ah.alloc|apply ah.drewN|apply ah.drew|refine ah.ai ?_ (by first|omega|(simp;omega)|simp) _ _|refine ah.ay ?_ (by first|exact Or.inl rfl|exact Or.inr rfl|rfl) _ _|refine ah.ag ?_ (by assumption)|refine ah.ag ?_ (ah.of_no (by assumption))))⟩
theorem UH (s:bH) (hs:s.Ok) (w:World) (v:V) (h:aD w s v) (i:Nat) (hi:i<4) :
  Calls Tryz.prog 46 #[.pointer (some ⟨s.t,0,none⟩),.int .i64 (i:Int)] w fun e w'=>e=.returned (.int .i64 (v.r i:Int))/\w=w':=by
 have t0:=h.c0;have t1:=h.c1;have t2:=h.c2;have t3:=h.c3;have t4:=h.c4;have HU:=aa (Hm s hs w h.db t0)
 match i,hi with
 | 0,_|1,_|2,_|3,_ =>
  go_enter Tryz.func46,Tryz.ntmps46;go_wp2_with fail;refine(HU.out).mono ?_;rintro e w2 ⟨rfl,rfl⟩;go_wp2_with fail;go_ret;exact⟨rfl,rfl⟩
theorem aD.re {w w':World}{s:bH}{v:V}(hs:s.Ok) (h:aD w s v) (v':V) (he:ah s.F w w') (ht:ax w' s.t 111 (v'.cells s)) (hm:w'.heap[s.m]?=w.heap[s.m]?)
  (hp:v'.pg=v.pg) (hh:v'.high=v.high) (hc:v'.cnt<=v'.high):aD w' s v':=by
 obtain⟨ov,⟨hn,es,c,ho,Ue⟩,hk,hv⟩:=h.mp;exact⟨ht,hs.keep _ _ he h.db,hh▸h.h1,hh▸h.h2,hh▸h.hb,hc,ov,⟨hn,es,c,hm.trans ho,Ue⟩,hh▸hk,by rw[hh,hp];exact hv⟩
theorem aD.tm {w:World}{s:bH}{v:V}(h:aD w s v):s.t≠s.m:=by
 obtain⟨ov,hm,_⟩:=h.mp;exact hm.ne h.tx
theorem y_ (w:World) (t m i j:Nat) (u u':Value) (h:t≠m):(((w.setCell ⟨t,i,none⟩ u).setCell ⟨t,j,none⟩ u').heap[m]?)=w.heap[m]? :=
 (Below.heap_setCell _ ⟨t,j,none⟩ u' m (Ne.symm h)).trans (Below.heap_setCell _ ⟨t,i,none⟩ u m (Ne.symm h))
def V.eU (v:V) (i n:Nat):V:={ v with r:=fun j=>if j=i then n else v.r j,marked:=true }
theorem nY (s:bH) (hs:s.Ok) (w:World) (v:V) (h:aD w s v) (i n:Nat) (hi:i<4) (hn:n<2147483648) :
  Calls Tryz.prog 21 #[.pointer (some ⟨s.t,0,none⟩),.int .i64 (i:Int),.int .i64 (n:Int)] w fun e w'=>e=.returned (.int .i64 0)/\aD w' s (v.eU i n)/\ah s.F w w':=by
 have t0:=h.c0;have t1:=h.c1;have t2:=h.c2;have t3:=h.c3;have t4:=h.c4;have t9:=h.c9;have f0:=h.fz;have HU:=aa (Hm s hs w h.db t0);have g2:decide ((n:Int)>=2147483648)=false:=by simp;omega
 have g3:decide ((n:Int)<0)=false:=by simp
 clear hn
 match i,hi with
 | 0,_|1,_|2,_|3,_ =>
  go_enter Tryz.func21,Tryz.ntmps21;go_wp2_with fail;refine(HU.out).mono ?_;rintro e w2 ⟨rfl,rfl⟩;go_wp2_with fail;go_ret;refine⟨rfl,?_,by(repeat' (first|exact ah.refl _ _|assumption|apply ah.alloc|apply ah.drewN|apply ah.drew|refine ah.ai ?_ (by first|omega|(simp;omega)|simp) _ _|refine ah.ay ?_ (by first|exact Or.inl rfl|exact Or.inr rfl|rfl) _ _|refine ah.ag ?_ (by assumption)|refine ah.ag ?_ (ah.of_no (by assumption))))⟩;exact h.re hs _ (by(repeat' (first|exact ah.refl _ _|assumption|apply ah.alloc|apply ah.drewN|apply ah.drew|refine ah.ai ?_ (by first|omega|(simp;omega)|simp) _ _|refine ah.ay ?_ (by first|exact Or.inl rfl|exact Or.inr rfl|rfl) _ _|refine ah.ag ?_ (by assumption)|refine ah.ag ?_ (ah.of_no (by assumption))))) ((h.tx.aQ _ _).aQ _ _) (y_ _ _ _ _ _ _ _ h.tm) rfl rfl h.hc
theorem Rk (s:bH) (hs:s.Ok) (w:World) (v:V) (h:aD w s v) :
  Calls Tryz.prog 96 #[.pointer (some ⟨s.t,0,none⟩)] w fun e w'=>e=.returned (.tuple #[])/\aD w' s { v with spoilt:=true }/\ah s.F w w':=by
 have t10:=h.c10;have f0:=h.fz;go_enter Tryz.func96,Tryz.ntmps96;go_wp2_with fail
 go_end0
 refine⟨rfl,?_,by(repeat' (first|exact ah.refl _ _|assumption|apply ah.alloc|apply ah.drewN|apply ah.drew|refine ah.ai ?_ (by first|omega|(simp;omega)|simp) _ _|refine ah.ay ?_ (by first|exact Or.inl rfl|exact Or.inr rfl|rfl) _ _|refine ah.ag ?_ (by assumption)|refine ah.ag ?_ (ah.of_no (by assumption))))⟩;exact h.re hs _ (by(repeat' (first|exact ah.refl _ _|assumption|apply ah.alloc|apply ah.drewN|apply ah.drew|refine ah.ai ?_ (by first|omega|(simp;omega)|simp) _ _|refine ah.ay ?_ (by first|exact Or.inl rfl|exact Or.inr rfl|rfl) _ _|refine ah.ag ?_ (by assumption)|refine ah.ag ?_ (ah.of_no (by assumption))))) (h.tx.aQ _ _) (Below.heap_setCell _ ⟨_,_,none⟩ _ _ (Ne.symm h.tm)) rfl rfl h.hc
def V.gU (v:V):V:=V.put { v with high:=v.high+1,marked:=true } v.high ⟨1,[]⟩
def V.eG (v:V):V:=V.put { v with free:=v4 (au (v.pg v.free).body),cnt:=v.cnt-1,marked:=true } v.free ⟨1,[]⟩
theorem Pq (s:bH) (hs:s.Ok) (w:World) (v:V) (h:aD w s v) (h1:v.free=0) (h2:v.high=s.cap) :
  Calls Tryz.prog 19 #[.pointer (some ⟨s.t,0,none⟩)] w fun e w'=>e=.returned (.tuple #[.int .i64 0,.int .i64 7])/\ah No w w':=by
 have t0:=h.c0;have t5:=h.c5;have t6:=h.c6;rw[h1]at t6;rw[h2]at t5;have x0:=hs.x0 w h.db;have HU:=aa (Hm s hs w h.db t0);have Gd:=aa h.db;clear h1 h2 h;go_enter Tryz.func19,Tryz.ntmps19;go_wp2_with fail;refine(HU.out).mono ?_;rintro e w2 ⟨rfl,rfl⟩;go_wp2_with fail;go_quiet ((go_at_call 56;exact Calls.quiet_of (Uq s hs _ (by exact jH hs ((ah.refl No w).drewN _) Gd.out))));go_wp2_with fail;go_ret2;exact⟨rfl,by(repeat' (first|exact ah.refl _ _|assumption|apply ah.alloc|apply ah.drewN|apply ah.drew|refine ah.ai ?_ (by first|omega|(simp;omega)|simp) _ _|refine ah.ay ?_ (by first|exact Or.inl rfl|exact Or.inr rfl|rfl) _ _|refine ah.ag ?_ (by assumption)|refine ah.ag ?_ (ah.of_no (by assumption))))⟩
theorem Tv (s:bH) (hs:s.Ok) (w:World) (v:V) (h:aD w s v) (h1:v.free=0) (h2:v.high<s.cap) :
  Calls Tryz.prog 19 #[.pointer (some ⟨s.t,0,none⟩)] w fun e w'=>e=.returned (.tuple #[.int .i64 (v.high:Int),.int .i64 0])/\aD w' s v.gU/\ah s.F w w':=by
 have t0:=h.c0;have t5:=h.c5;have t6:=h.c6;have t8:=h.c8;have t9:=h.c9;have f0:=h.fz;have x0:=hs.x0 w h.db;have HU:=aa (Hm s hs w h.db t0);have Gd:=aa h.db;have hcap:s.cap<=65536:=by unfold bH.cap;have:=hs.n2;omega
 have bQ:((v.high:Int)==(s.cap:Int))=false:=by simpa using (by omega:¬(v.high:Int)=(s.cap:Int))
 obtain⟨ov,hm,hk,hv⟩:=h.mp;have Es:s.t≠s.m:=hm.ne h.tx;have T_:∀W,W.heap[s.m]?=w.heap[s.m]?->jM W s.m ov:=fun W e=>by
  obtain⟨hn,es,c,ho,Ue⟩:=hm;exact⟨hn,es,c,e.trans ho,Ue⟩
 have ZJ:∀nq u u',jM (((w.drewN nq).setCell ⟨s.t,5,none⟩ u).setCell ⟨s.t,9,none⟩ u') s.m ov:=fun nq u u'=>T_ _ (y_ (w.drewN nq) _ _ _ _ _ _ Es)
 have ms:∀nq u u',(Instr.mapUpdate 109 (.map (some s.m)) (.int .i64 (v.high:Int)) (.agg #[.int .i64 1,.string { data:=#[] }])).run Tryz.prog (((w.drewN nq).setCell ⟨s.t,5,none⟩ u).setCell ⟨s.t,9,none⟩ u') =
  .ok () (nu (((w.drewN nq).setCell ⟨s.t,5,none⟩ u).setCell ⟨s.t,9,none⟩ u') s.m v.high ⟨1,[]⟩):=fun nq u u'=>(lX (ZJ nq u u') v.high ⟨1,[]⟩).1
 have ms2:=fun nq u u'=>(lX (ZJ nq u u') v.high ⟨1,[]⟩).2
 have HK:=aa hk;have HV:=aa hv;have HM:=aa ms2;have H1:=aa h1;rw[h1]at t6;clear hk hv ms2 ZJ T_ h1;go_enter Tryz.func19,Tryz.ntmps19;go_wp2_with fail;refine(HU.out).mono ?_;rintro e w2 ⟨rfl,rfl⟩;go_wp2_with fail;go_quiet ((go_at_call 56;exact Calls.quiet_of (Uq s hs _ (by exact jH hs ((ah.refl No w).drewN _) Gd.out))));go_wp2_with fail;go_ret2;have hE:ah s.F w (nu (((w.drewN nq).setCell ⟨s.t,5,none⟩ (.int .i64 ((v.high:Int)+1))).setCell ⟨s.t,9,none⟩ (.bool true)) s.m v.high ⟨1,[]⟩) :=
  ((((ah.refl _ w).drewN nq).ay (.inl rfl) _ _).ay (.inl rfl) _ _).ag (tF _ _ _ _).Zb
 refine⟨rfl,?_,hE⟩;have hc:=h.hc;refine aD.step hs h HK.out HV.out (HM.out _ _ _) hE ?_ h.h1 (Nat.lt_succ_self _) (.inr ⟨rfl,rfl⟩) h2 (Nat.le_succ_of_le hc) rfl;exact(mV _ _ _ _ _ Es).trans (((h.tx.drewN nq).aQ _ _).aQ _ _)
theorem Gc (w:World) (t m i j k:Nat) (u u' TU:Value) (h:t≠m):((((w.setCell ⟨t,i,none⟩ u).setCell ⟨t,j,none⟩ u').setCell ⟨t,k,none⟩ TU).heap[m]?)=w.heap[m]? :=
 (Below.heap_setCell _ ⟨t,k,none⟩ TU m (Ne.symm h)).trans (y_ w t m i j u u' h)
theorem Ps (s:bH) (hs:s.Ok) (w:World) (v:V) (h:aD w s v) (h1:0<v.free) (h2:v.free<v.high) (h3:4<=(v.pg v.free).body.length) (h4:1<=v.cnt) :
  Calls Tryz.prog 19 #[.pointer (some ⟨s.t,0,none⟩)] w fun e w'=>e=.returned (.tuple #[.int .i64 (v.free:Int),.int .i64 0])/\aD w' s v.eG/\ah s.F w w':=by
 have t0:=h.c0;have t6:=h.c6;have HU:=aa (Hm s hs w h.db t0);have HG:=aa (I5 s hs w v h v.free h1 h2);have h3':4<=(au (v.pg v.free).body).size:=by rw[az];exact h3
 have Yr:(0:Int)<v.free:=by omega
 go_enter Tryz.func19,Tryz.ntmps19;go_wp2_with fail;refine(HU.out).mono ?_;rintro e w2 ⟨rfl,rfl⟩;go_wp2_with fail;refine(HG.out).mono ?_;rintro e w1 ⟨rfl,hb1⟩;have h':=h.no hs hb1;have t0:=h'.c0;have t5:=h'.c5;have t6:=h'.c6;have t7:=h'.c7;have t8:=h'.c8;have t9:=h'.c9;have f0:=h'.fz;have lt:=h'.tx.lt;have bQ:w1.heap.size≠s.t:=by omega
 obtain⟨ov,hm,hk,hv⟩:=h'.mp;have Es:s.t≠s.m:=hm.ne h'.tx;have agP:s.m<w1.heap.size:=by
  obtain⟨_,es,c,ho,_⟩:=hm;rcases Nat.lt_or_ge s.m w1.heap.size with bu|iC
  ·exact bu
  ·rw[Array.getElem?_eq_none iC]at ho;cases ho
 have T_:∀W,W.heap[s.m]?=w1.heap[s.m]?->jM W s.m ov:=fun W e=>by
  obtain⟨hn,es,c,ho,Ue⟩:=hm;exact⟨hn,es,c,e.trans ho,Ue⟩
 generalize hp:v.pg v.free=p at h3' h3;have ZJ:∀o k u u' TU,jM (((((w1.alloc o).drewN k).setCell ⟨s.t,6,none⟩ u).setCell ⟨s.t,7,none⟩ u').setCell ⟨s.t,9,none⟩ TU) s.m ov:=fun o k u u' TU =>
  T_ _ ((Gc ((w1.alloc o).drewN k) _ _ _ _ _ _ _ _ Es).trans (Below.heap_alloc w1 o s.m agP))
 have ms:∀o k u u' TU,(Instr.mapUpdate 109 (.map (some s.m)) (.int .i64 (v.free:Int)) (.agg #[.int .i64 1,.string { data:=#[] }])).run Tryz.prog (((((w1.alloc o).drewN k).setCell ⟨s.t,6,none⟩ u).setCell ⟨s.t,7,none⟩ u').setCell ⟨s.t,9,none⟩ TU) =
  .ok () (nu (((((w1.alloc o).drewN k).setCell ⟨s.t,6,none⟩ u).setCell ⟨s.t,7,none⟩ u').setCell ⟨s.t,9,none⟩ TU) s.m v.free ⟨1,[]⟩):=fun o k u u' TU=>(lX (ZJ o k u u' TU) v.free ⟨1,[]⟩).1
 have ms2:=fun o k u u' TU=>(lX (ZJ o k u u' TU) v.free ⟨1,[]⟩).2
 have HK:=aa hk;have HV:=aa hv;have HM:=aa ms2;have HP:=aa hp;clear hk hv ms2 ZJ T_ hp;simp only[bB.val];go_wp2_with fail;refine(iT (au p.body) h3' _).mono ?_;rintro e w3 ⟨rfl,k,rfl⟩;have g1:(0:Int)<=v.cnt:=by omega
 have Gh:=h.hc;have hhb:=h.h2;have hcap:s.cap<=65536:=by unfold bH.cap;have:=hs.n2;omega
 go_wp2_with fail;go_ret2;have hE:ah s.F w1 (nu (((((w1.alloc (.cells #[.int .i64 (p.kind:Int),.string (au p.body)] 113)).drewN k).setCell ⟨s.t,6,none⟩ (.int .i64 (v4 (au p.body):Int))).setCell ⟨s.t,7,none⟩ (.int .i64 ((v.cnt:Int)-1))).setCell ⟨s.t,9,none⟩ (.bool true)) s.m v.free ⟨1,[]⟩) :=
  ((((((ah.refl _ w1).alloc _).drewN k).ay (.inl rfl) _ _).ay (.inl rfl) _ _).ay (.inl rfl) _ _).ag (tF _ _ _ _).Zb
 refine⟨rfl,?_,hb1.of_no.ag hE⟩;refine aD.step hs h' HK.out HV.out (HM.out _ _ _ _ _) hE ?_ h1 h2 (.inl rfl) h.h2 (by show v.cnt-1<=v.high;omega) rfl;refine(mV _ _ _ _ _ Es).trans ?_;have e1:(v.eG.cells s)=((((v.cells s).setIfInBounds 6 (.int .i64 (v4 (au p.body):Int))).setIfInBounds 7 (.int .i64 ((v.cnt:Int)-1))).setIfInBounds 9 (.bool true)):=by
  have e2:((v.cnt-1:Nat):Int)=(v.cnt:Int)-1:=by omega
  simp only[V.eG,V.cells,V.put,HP.out,e2];rfl
 rw[e1];exact(((((h'.tx.alloc _).drewN k).aQ _ _).aQ _ _).aQ _ _)
def V.jA (v:V) (id:Nat):V:=V.put { v with free:=id,cnt:=v.cnt+1,marked:=true } id ⟨255,n4 v.free⟩
theorem aae (s:bH) (hs:s.Ok) (w:World) (v:V) (h:aD w s v) (id:Nat) (he:v.err id=0) (qh:v.free<4294967296) (Ug:v.cnt<v.high) :
  Calls Tryz.prog 142 #[.pointer (some ⟨s.t,0,none⟩),.int .i64 (id:Int)] w fun e w'=>e=.returned (.int .i64 0)/\aD w' s (v.jA id)/\ah s.F w w':=by
 have HG:=aa (Cg s hs w v h id he);obtain⟨h1,h2,_⟩:=V.uh he;clear he;go_enter Tryz.func142,Tryz.ntmps142;go_wp2_with fail;refine(HG.out).mono ?_;rintro e w1 ⟨rfl,hb1⟩;have h':=h.no hs hb1;have t6:=h'.c6;have t7:=h'.c7;have t8:=h'.c8;have t9:=h'.c9;have f0:=h'.fz;have lt:=h'.tx.lt;obtain⟨ov,hm,hk,hv⟩:=h'.mp;have Es:s.t≠s.m:=hm.ne h'.tx;have HK:=aa hk;have HV:=aa hv;have HM:=aa hm;clear hk hv hm;have hmc:∀W i,(nu W s.m id ⟨255,n4 v.free⟩).cell? ⟨s.t,i,none⟩=W.cell? ⟨s.t,i,none⟩:=fun W i=>RP W s.m id _ s.t i Es
 have hmf:∀W i,(nu W s.m id ⟨255,n4 v.free⟩).frozen? ⟨s.t,i,none⟩=W.frozen? ⟨s.t,i,none⟩:=fun W i=>KO W s.m id _ s.t i Es
 simp only[bB.val];go_wp2_with fail;go_region_held3 (fun w'=>w'.cell? ⟨s.t,8,none⟩=some (.map (some s.m))/\w'.cell? ⟨s.t,6,none⟩=some (.int .i64 (v.free:Int))) (go_keep)
  ((go_at_call 106;refine(qG v.free qh _).mono ?_;rintro e w3 ⟨rfl,SA⟩;have bC:ah No w1 w3:=((ah.refl No w1).alloc _).drew.ag SA;have h3:=h'.no hs bC;have k8:=h3.c8;have k6:=h3.c6;have k7:=h3.c7;have k9:=h3.c9;have f3:=h3.fz;have ms:(Instr.mapUpdate 109 (.map (some s.m)) (.int .i64 (id:Int)) (.agg #[.int .i64 255,.string (au (n4 v.free))])).run Tryz.prog w3=.ok () (nu w3 s.m id ⟨255,n4 v.free⟩):=(lX (HM.out.ext bC (fun h=>h)) id ⟨255,n4 v.free⟩).1))
 have Gh:=h.hc;have hhb:=h.h2;have hcap:s.cap<=65536:=by unfold bH.cap;have:=hs.n2;omega
 go_wp2_with fail;go_ret;have hM3:=(lX (HM.out.ext bC (fun h=>h)) id ⟨255,n4 v.free⟩).2;have hE:ah s.F w1 ((((nu w3 s.m id ⟨255,n4 v.free⟩).setCell ⟨s.t,6,none⟩ (.int .i64 (id:Int))).setCell ⟨s.t,7,none⟩ (.int .i64 ((v.cnt:Int)+1))).setCell ⟨s.t,9,none⟩ (.bool true)) :=
  (((bC.of_no.ag (tF _ _ _ _).Zb).ay (.inl rfl) _ _).ay (.inl rfl) _ _).ay (.inl rfl) _ _
 refine⟨rfl,?_,hb1.of_no.ag hE⟩;have hM:jM ((((nu w3 s.m id ⟨255,n4 v.free⟩).setCell ⟨s.t,6,none⟩ (.int .i64 (id:Int))).setCell ⟨s.t,7,none⟩ (.int .i64 ((v.cnt:Int)+1))).setCell ⟨s.t,9,none⟩ (.bool true)) s.m (pG ov id ⟨255,n4 v.free⟩):=by
  obtain⟨hn,es,c,ho,Ue⟩:=hM3;exact⟨hn,es,c,(Gc _ _ _ _ _ _ _ _ _ Es).trans ho,Ue⟩
 refine aD.step hs h' HK.out HV.out hM hE ?_ h1 h2 (.inl rfl) h.h2 (by show v.cnt+1<=v.high;omega) rfl;have b3:ax (nu w3 s.m id ⟨255,n4 v.free⟩) s.t 111 (v.cells s):=(mV _ _ _ _ _ Es).trans h3.tx;have e1:((v.jA id).cells s)=((((v.cells s).setIfInBounds 6 (.int .i64 (id:Int))).setIfInBounds 7 (.int .i64 ((v.cnt:Int)+1))).setIfInBounds 9 (.bool true)):=by
  have e2:((v.cnt+1:Nat):Int)=(v.cnt:Int)+1:=by omega
  simp only[V.jA,V.cells,V.put,e2];rfl
 rw[e1];exact(((b3.aQ _ _).aQ _ _).aQ _ _)
theorem WG (s:bH) (hs:s.Ok) (w:World) (v:V) (h:aD w s v) (id:Nat) (he:v.err id≠0) :
  Calls Tryz.prog 142 #[.pointer (some ⟨s.t,0,none⟩),.int .i64 (id:Int)] w fun e w'=>e=.returned (.int .i64 (v.err id:Int))/\ah No w w':=by
 have HG:=aa (yL s hs w v h id he);have hb:((v.err id:Int)==0)=false:=by simpa using (by omega:¬(v.err id:Int)=0)
 clear he;generalize v.err id=p at *;go_enter Tryz.func142,Tryz.ntmps142;go_wp2_with fail;refine(HG.out).mono ?_;rintro e w2 ⟨rfl,dO⟩;go_wp2_with fail;go_ret;exact⟨rfl,by(repeat' (first|exact ah.refl _ _|assumption|apply ah.alloc|apply ah.drewN|apply ah.drew|refine ah.ai ?_ (by first|omega|(simp;omega)|simp) _ _|refine ah.ay ?_ (by first|exact Or.inl rfl|exact Or.inr rfl|rfl) _ _|refine ah.ag ?_ (by assumption)|refine ah.ag ?_ (ah.of_no (by assumption))))⟩
structure V.Fr (v:V) (l:List Nat):Prop where
 nd:l.Nodup
 cnt:v.cnt=l.length
 hd:v.free=l.headD 0
 mem:∀a,(1<=a/\a<v.high/\(v.pg a).kind=255)↔a∈l
 body:∀k a,l[k]?=some a->(v.pg a).body=n4 (l.getD (k+1) 0)
 top:v.high<=65536
 h1:1<=v.high
 bd:∀a,1<=a->a<v.high->(v.pg a).body.length<=500
def V.Good (v:V):Prop:=∃l,v.Fr l
theorem uJ:∀(n:Nat) (l:List Nat),l.Nodup->(∀a∈l,1<=a/\a<n)->1<=n->l.length<n
 | 0,_,_,_,h=>absurd h (by omega)
 | 1,[],_,_,_=>by simp
 | 1,a::l,_,h,_=>by have:=h a (by simp);omega
 | n+2,l,hd,h,_=>by
  by_cases hm:n+1∈l
  ·have he:=uJ (n+1) (l.erase (n+1)) (hd.erase _) (fun a ha=>by
    have h1:=h a (List.mem_of_mem_erase ha);have h2:a≠n+1:=(hd.mem_erase_iff.1 ha).1
    omega) (by omega)
   rw[List.length_erase_of_mem hm]at he;omega
  ·have:=uJ (n+1) l hd (fun a ha=>by
    have h1:=h a ha;have h2:a≠n+1:=fun e=>hm (e▸ha)
    omega) (by omega)
   omega
theorem V.Fr.lt {v:V}{l:List Nat}(h:v.Fr l):l.length<v.high:=uJ _ l h.nd (fun a ha=>by have:=(h.mem a).2 ha;omega) h.h1
theorem V.Fr.put {v:V}{l:List Nat}(h:v.Fr l) {id:Nat}{p:bB}(he:v.err id=0) (hp:p.kind≠255) (hq:p.body.length<=500):(v.put id p).Fr l:=by
 obtain⟨h1,h2,h3⟩:=V.uh he;have hn:id∉l:=fun hm=>h3 ((h.mem id).2 hm).2.2
 refine⟨h.nd,h.cnt,h.hd,fun a=>?_,fun k a hk=>?_,h.top,h.h1,fun a a1 a2=>by simp only[V.put];split;exact hq;exact h.bd a a1 a2⟩
 ·rw[<-h.mem a]
  simp only[V.put]
  by_cases ha:a=id
  ·subst ha
   simp only[if_true];constructor
   ·rintro⟨_,_,e⟩;exact absurd e hp
   ·rintro⟨_,_,e⟩;exact absurd e h3
  ·simp only[if_neg ha]
 ·have ha:a≠id:=by
   rintro rfl;exact hn (List.mem_of_getElem? hk)
  simp only[V.put,if_neg ha];exact h.body k a hk
theorem V.Fr.new {v:V}{l:List Nat}(h:v.Fr l) (hc:v.high<65536):v.gU.Fr l:=by
 refine⟨h.nd,h.cnt,h.hd,fun a=>?_,fun k a hk=>?_,by show v.high+1<=65536;omega,by show 1<=v.high+1;omega,fun a a1 a2=>by
  simp only[V.gU,V.put]at a2 ⊢;split
  ·simp
  ·exact h.bd a a1 (by omega)⟩
 ·rw[<-h.mem a]
  simp only[V.gU,V.put]
  by_cases ha:a=v.high
  ·subst ha
   simp only[if_true];constructor
   ·rintro⟨_,_,e⟩;cases e
   ·rintro⟨_,e,_⟩;omega
  ·simp only[if_neg ha]
   constructor
   ·rintro⟨a1,a2,a3⟩;exact⟨a1,by omega,a3⟩
   ·rintro⟨a1,a2,a3⟩;exact⟨a1,by omega,a3⟩
 ·have ha:a≠v.high:=by
   have:=(h.mem a).2 (List.mem_of_getElem? hk);omega
  simp only[V.gU,V.put,if_neg ha];exact h.body k a hk
theorem V.Fr.cons {v:V}{l:List Nat}(h:v.Fr l) (hf:v.free≠0):∃l',l=v.free::l':=by
 have:=h.hd
 match l,this with
 | [],e=>exact absurd e hf
 | a::l',e=>exact⟨l',by rw[e];rfl⟩
theorem V.Fr.old {v:V}{l:List Nat}(h:v.Fr (v.free::l)):v.eG.Fr l:=by
 have hb:=h.body 0 v.free rfl;have gN:=List.nodup_cons.1 h.nd;have aev:v4 (au (v.pg v.free).body)=l.headD 0:=by
  rw[hb];have:(v.free::l).getD (0+1) 0<4294967296:=by
   match l with
   | []=>simp
   | b::l=>have:=(h.mem b).2 (by simp);have:=h.top;simp;omega
  have e:=o_ _ this [];rw[List.append_nil]at e;rw[e];cases l <;> simp
 have hc:=h.cnt;simp at hc
 refine⟨gN.2,by show v.cnt-1=_;omega,aev,fun a=>?_,fun k a hk=>?_,h.top,h.h1,fun a a1 a2=>by
  simp only[V.eG,V.put];split
  ·simp
  ·exact h.bd a a1 a2⟩
 ·simp only[V.eG,V.put]
  by_cases ha:a=v.free
  ·subst ha
   simp only[if_true];constructor
   ·rintro⟨_,_,e⟩;cases e
   ·intro hm;exact absurd hm gN.1
  ·simp only[if_neg ha]
   rw[h.mem a];simp[ha]
 ·have ha:a≠v.free:=by
   rintro rfl;exact gN.1 (List.mem_of_getElem? hk)
  simp only[V.eG,V.put,if_neg ha];have:=h.body (k+1) a (by simpa using hk);rw[this];simp
theorem V.Fr.agi {v:V}{l:List Nat}(h:v.Fr l) {id:Nat}(he:v.err id=0):(v.jA id).Fr (id::l):=by
 obtain⟨h1,h2,h3⟩:=V.uh he;have hn:id∉l:=fun hm=>h3 ((h.mem id).2 hm).2.2
 refine⟨List.nodup_cons.2 ⟨hn,h.nd⟩,by show v.cnt+1=_;rw[h.cnt];rfl,rfl,fun a=>?_,fun k a hk=>?_,h.top,h.h1,fun a a1 a2=>by
  simp only[V.jA,V.put];split
  ·simp[n4]
  ·exact h.bd a a1 a2⟩
 ·simp only[V.jA,V.put]
  by_cases ha:a=id
  ·subst ha
   simp[h1,h2]
  ·simp only[if_neg ha]
   rw[h.mem a];simp[ha]
 ·simp only[V.jA,V.put]
  match k,hk with
  | 0,hk =>
   have:id=a:=by simpa using hk
   subst this;rw[if_pos rfl];simp[h.hd];cases l <;> simp
  | k+1,hk =>
   have mW:l[k]?=some a:=by simpa using hk
   have ha:a≠id:=by
    rintro rfl;exact hn (List.mem_of_getElem? mW)
   rw[if_neg ha,h.body k a mW];simp
theorem V.Fr.re {v v':V}{l:List Nat}(h:v.Fr l) (h1:v'.free=v.free) (h2:v'.cnt=v.cnt) (h3:v'.high=v.high) (h4:v'.pg=v.pg):v'.Fr l :=
 ⟨h.nd,h2▸h.cnt,h1▸h.hd,fun a=>by rw[h3,h4];exact h.mem a,fun k a hk=>by rw[h4];exact h.body k a hk,h3▸h.top,h3▸h.h1,by rw[h3,h4];exact h.bd⟩
def V.alloc (cap:Nat) (v:V):Nat×Nat×V :=
 if v.free=0 then (if v.high=cap then (0,7,v)else (v.high,0,v.gU))else (v.free,0,v.eG)
def V.drop (v:V) (id:Nat):Nat×V:=if v.err id=0 then (0,v.jA id)else (v.err id,v)
def V.set (v:V) (id kind:Nat) (body:List UInt8):Nat×V:=if v.err id=0 then (0,v.put id ⟨kind,body⟩)else (v.err id,v)
def V.read (v:V) (id:Nat):Nat×List UInt8×Nat:=if v.err id=0 then ((v.pg id).kind,(v.pg id).body,0)else (0,[],v.err id)
theorem V.Good.alloc {v:V}(h:v.Good) {cap:Nat}(h1:v.high<=cap) (h2:cap<=65536):(v.alloc cap).2.2.Good/\(v.alloc cap).2.2.high<=cap:=by
 obtain⟨l,h⟩:=h;unfold V.alloc;split
 ·split
  ·exact⟨⟨l,h⟩,h1⟩
  ·exact⟨⟨l,h.new (by omega)⟩,by show v.high+1<=cap;omega⟩
 ·rename_i hf
  obtain⟨l',rfl⟩:=h.cons hf;exact⟨⟨l',h.old⟩,h1⟩
theorem V.Good.drop {v:V}(h:v.Good) (id:Nat):(v.drop id).2.Good:=by
 obtain⟨l,h⟩:=h;unfold V.drop;split
 ·rename_i he;exact⟨_,h.agi he⟩
 ·exact⟨l,h⟩
theorem V.Good.set {v:V}(h:v.Good) (id kind:Nat) (body:List UInt8) (hk:kind≠255) (hb:body.length<=500):(v.set id kind body).2.Good:=by
 obtain⟨l,h⟩:=h;unfold V.set;split
 ·rename_i he;exact⟨_,h.put he hk hb⟩
 ·exact⟨l,h⟩
theorem V.Good.eU {v:V}(h:v.Good) (i n:Nat):(v.eU i n).Good:=by
 obtain⟨l,h⟩:=h;exact⟨l,h.re rfl rfl rfl rfl⟩
theorem V.Good.kI {v:V}(h:v.Good):({ v with spoilt:=true }:V).Good:=by
 obtain⟨l,h⟩:=h;exact⟨l,h.re rfl rfl rfl rfl⟩
theorem GZ (s:bH) (hs:s.Ok) (w:World) (v:V) (h:aD w s v) (hg:v.Good) :
  Calls Tryz.prog 19 #[.pointer (some ⟨s.t,0,none⟩)] w fun e w'=>e=.returned (.tuple #[.int .i64 ((v.alloc s.cap).1:Int),.int .i64 ((v.alloc s.cap).2.1:Int)])/\aD w' s (v.alloc s.cap).2.2/\ah s.F w w':=by
 unfold V.alloc;split
 ·rename_i h0
  split
  ·rename_i h1
   exact(Pq s hs w v h h0 h1).mono fun e w' ⟨h1,h2⟩=>⟨h1,h.no hs h2,h2.of_no⟩
  ·rename_i h1
   have:=h.h2;exact Tv s hs w v h h0 (by omega)
 ·rename_i h0
  obtain⟨l,hl⟩:=hg;obtain⟨l',rfl⟩:=hl.cons h0;have hm:=(hl.mem v.free).2 (by simp);have hc:=hl.cnt;have hb:=hl.body 0 v.free rfl;exact Ps s hs w v h (by omega) hm.2.1 (by rw[hb];simp[n4]) (by simp at hc;omega)
theorem xQ (s:bH) (hs:s.Ok) (w:World) (v:V) (h:aD w s v) (hg:v.Good) (id:Nat) :
  Calls Tryz.prog 142 #[.pointer (some ⟨s.t,0,none⟩),.int .i64 (id:Int)] w fun e w'=>e=.returned (.int .i64 ((v.drop id).1:Int))/\aD w' s (v.drop id).2/\ah s.F w w':=by
 unfold V.drop;split
 ·rename_i h0
  obtain⟨l,hl⟩:=hg;have:=hl.lt;have:=hl.cnt;have:=hl.top;refine aae s hs w v h id h0 ?_ (by omega);have hd:=hl.hd
  match l,hl,hd with
  | [],_,hd=>simp at hd;omega
  | a::l,hl,hd =>
   have hm:=(hl.mem a).2 (by simp);simp at hd;omega
 ·rename_i h0
  exact(WG s hs w v h id h0).mono fun e w' ⟨h1,h2⟩=>⟨h1,h.no hs h2,h2.of_no⟩
theorem FJ (s:bH) (hs:s.Ok) (w:World) (v:V) (h:aD w s v) (id kind:Nat) (body:List UInt8) (j_:1<=kind) (lJ:kind<255) (hb:body.length<=500) :
  Calls Tryz.prog 20 #[.pointer (some ⟨s.t,0,none⟩),.int .i64 (id:Int),.int .i64 (kind:Int),.string (au body)] w fun e w'=>e=.returned (.int .i64 ((v.set id kind body).1:Int))/\aD w' s (v.set id kind body).2/\ah s.F w w':=by
 unfold V.set;split
 ·rename_i h0
  exact sN s hs w v h id kind body h0 j_ lJ hb
 ·rename_i h0
  exact(Q9 s hs w v h id kind _ h0).mono fun e w' ⟨h1,h2⟩=>⟨h1,h.no hs h2,h2.of_no⟩
theorem CB (s:bH) (hs:s.Ok) (w:World) (v:V) (h:aD w s v) (id:Nat) :
  Calls Tryz.prog 47 #[.pointer (some ⟨s.t,0,none⟩),.int .i64 (id:Int)] w fun e w'=>e=.returned (.tuple #[.int .i64 ((v.read id).1:Int),.string (au (v.read id).2.1),.int .i64 ((v.read id).2.2:Int)])/\ah No w w':=by
 unfold V.read;split
 ·rename_i h0
  exact Y1 s hs w v h id h0
 ·rename_i h0
  exact UK s hs w v h id h0
def av (s:bH) (i:Nat):Array Value:=#[.pointer (some ⟨s.t,0,none⟩),.int .i64 (i:Int)]
theorem Ce {w:World}{s:bH}{v:V}{gx i:Nat}(ht:aD w s v) (h:ax w gx 70 (av s i)):¬s.F gx:=by
 rintro(e|e)
 ·exact(h.UZ ht.tx (by decide)) e
 ·obtain⟨ov,hm,_⟩:=ht.mp
  exact hm.ne h e
theorem dS {w w':World}{s:bH}{v:V}{gx i:Nat}(ht:aD w s v) (h:ax w gx 70 (av s i)) (he:ah s.F w w'):ax w' gx 70 (av s i):=h.ext he (Ce ht h)
theorem V.UJ (v:V) (id:Nat):(v.read id).2.2=0\/(v.read id).2.2=2\/(v.read id).2.2=8:=by
 unfold V.read;split
 ·exact .inl rfl
 ·rename_i h
  rcases V.uS h with ⟨h,_⟩|⟨h,_⟩
  ·exact .inr (.inl h)
  ·exact .inr (.inr h)
theorem Ic (t:Option Addr) (i:Nat) (hi:i<4) (w:World) :
  Calls Tryz.prog 13 #[.pointer t,.int .i64 (i:Int)] w fun e w'=>e=.returned (.pointer (some ⟨w.heap.size,0,none⟩))/\w'=w.alloc (.cells #[.pointer t,.int .i64 (i:Int)] 70):=by
 have g1:¬((i:Int)<0):=by omega
 have g2:¬((4:Int)<=i):=by omega
 go_enter Tryz.func13,Tryz.ntmps13;go_wp2_with fail;go_ret;exact⟨rfl,rfl⟩
theorem mJ (t:Addr) (i:Value) (gx:Nat) (w:World) (h:ax w gx 70 #[.pointer (some t),i]) :
  Calls Tryz.prog 45 #[.pointer (some ⟨gx,0,none⟩)] w fun e w'=>e=.returned (.bool false)/\w=w':=by
 have c0:=h.cell 0;simp at c0;go_enter Tryz.func45,Tryz.ntmps45;go_wp2;go_ret;exact⟨rfl,rfl⟩
theorem qc (s:bH) (hs:s.Ok) (w:World) (v:V) (h:aD w s v) (gx i:Nat) (hx:ax w gx 70 (av s i)) :
  Calls Tryz.prog 64 #[.pointer (some ⟨gx,0,none⟩)] w fun e w'=>e=.returned (.int .i64 0)/\ah No w w':=by
 have HR:=aa (CB s hs w v h 1);have c0:=hx.cell 0;simp[av]at c0;have he:=v.UJ 1;generalize (v.read 1).2.2=e at HR he;generalize (v.read 1).1=k at HR;generalize (v.read 1).2.1=b at HR;go_enter Tryz.func64,Tryz.ntmps64;go_wp2_with fail;refine(HR.out).mono ?_;rintro e' w1 ⟨rfl,aT⟩;rcases he with rfl|rfl|rfl
 all_goals
  go_wp2_with fail;go_ret;exact⟨rfl,aT⟩
def iE (key val:List UInt8):Nat:=if key = []then 2 else if 140<key.length\/16384<val.length then 3 else 0
theorem xw (s:bH) (hs:s.Ok) (w:World) (v:V) (h:aD w s v) (gx i:Nat) (hx:ax w gx 70 (av s i)) (key val:List UInt8) :
  Calls Tryz.prog 59 #[.pointer (some ⟨gx,0,none⟩),.string (au key),.string (au val)] w fun e w'=>e=.returned (.int .i64 (iE key val:Int))/\ah No w w':=by
 have HN:=aa (mJ ⟨s.t,0,none⟩ (.int .i64 (i:Int)) gx w hx);have HA:=aa (qc s hs w v h gx i hx);have hk:=az key;have hv:=az val;clear h hs hx;cases key with
 | nil =>
  go_enter Tryz.func59,Tryz.ntmps59;go_wp2_with fail;refine(HN.out).mono ?_;rintro e' w1 ⟨rfl,rfl⟩;go_wp2_with fail;go_ret;exact⟨rfl,ah.refl _ _⟩
 | cons a key =>
  have bQ:(a::key).isEmpty=false:=rfl;have hm:iE (a::key) val=if 140<(a::key).length\/16384<val.length then 3 else 0:=by simp[iE]
  rw[hm];generalize a::key=k at *;have HK:=aa hk;have HV:=aa hv;clear hm
  by_cases h1:140<k.length
  ·rw[if_pos (.inl h1)]
   go_enter Tryz.func59,Tryz.ntmps59;go_wp2_with fail;refine(HN.out).mono ?_;rintro e' w1 ⟨rfl,rfl⟩;go_wp2_with fail;go_ret;exact⟨rfl,ah.refl _ _⟩
  ·by_cases h2:16384<val.length
   ·rw[if_pos (.inr h2)]
    go_enter Tryz.func59,Tryz.ntmps59;go_wp2_with fail;refine(HN.out).mono ?_;rintro e' w1 ⟨rfl,rfl⟩;go_wp2_with fail;go_ret;exact⟨rfl,ah.refl _ _⟩
   ·rw[if_neg (by omega)]
    go_enter Tryz.func59,Tryz.ntmps59;go_wp2_with fail;refine(HN.out).mono ?_;rintro e' w1 ⟨rfl,rfl⟩;go_wp2_with fail;refine(HA.out).mono ?_;rintro e' w1 ⟨rfl,aT⟩;go_wp2_with fail;go_ret;exact⟨rfl,aT⟩
theorem mG (s:bH) (hs:s.Ok) (w:World) (v:V) (h:aD w s v) (gx i:Nat) (hx:ax w gx 70 (av s i)) (hi:i<4) :
  Calls Tryz.prog 15 #[.pointer (some ⟨gx,0,none⟩)] w fun e w'=>e=.returned (.int .i64 (v.r i:Int))/\ah No w w':=by
 have HN:=aa (mJ ⟨s.t,0,none⟩ (.int .i64 (i:Int)) gx w hx);have HR:=aa (fun w h=>UH s hs w v h i hi);have c0:=hx.cell 0;have c1:=hx.cell 1;simp[av]at c0 c1;have HT:=aa h;clear h;go_enter Tryz.func15,Tryz.ntmps15;go_wp2_with fail;refine(HN.out).mono ?_;rintro e' w1 ⟨rfl,rfl⟩;go_wp2_with fail;go_quiet ((go_at_call 46;exact Calls.quiet_of_same ((HR.out _ (HT.out.no hs ((ah.refl No w).drewN _))).mono fun _ _ ⟨h1,h2⟩=>⟨h1,h2.symm⟩)));go_wp2_with fail;go_ret;exact⟨rfl,by(repeat' (first|exact ah.refl _ _|assumption|apply ah.alloc|apply ah.drewN|apply ah.drew|refine ah.ai ?_ (by first|omega|(simp;omega)|simp) _ _|refine ah.ay ?_ (by first|exact Or.inl rfl|exact Or.inr rfl|rfl) _ _|refine ah.ag ?_ (by assumption)|refine ah.ag ?_ (ah.of_no (by assumption))))⟩
def eH:Array Value:=Array.replicate 64 (.int .u8 0)
theorem Tryz.Zq:(Tryz.prog.info? 142).map (fun i=>(i.zero,i.size,i.bytes))=some (some (.agg eH),64,64):=by kernel_rfl
theorem Tryz.Cc:Tryz.prog.underlying 137=some (.slice 142):=by kernel_rfl
theorem AP (n:Nat) (hn:n<=65536) (w:World) :
  (Instr.makeSlice 137 (.int .i64 (n:Int)) (.int .i64 (n:Int))).run Tryz.prog w=.ok (.slice (some ⟨w.heap.size,0,none⟩) n n) (w.alloc (.cells (madeCells eH (n*64)) 142)):=by
 obtain⟨i,hi,Ip⟩:=Option.map_eq_some_iff.1 Tryz.Zq;simp only[Prod.mk.injEq]at Ip;obtain⟨hz,hs,hb⟩:=Ip;have hr:=run_make (P:=Tryz.prog) w 137 142 i (.agg eH) Tryz.Cc hi hz .i64 .i64 n n (by omega) (Int.le_refl _) (by rw[hb];omega) (by omega);simp only[Int.toNat_natCast,hs]at hr;exact hr
def dU (kb n:Nat):Array Value:=#[.slice (some ⟨kb,0,none⟩) n n,.slice none 0 0,.bool false,.bool false,.int .i64 0,.int .i64 0]
theorem zm {w:World}{kb n:Nat}(h:ax w kb 142 (madeCells eH (n*64))) {j:Nat}(hj:j<n*64):w.cell? ⟨kb,j,none⟩=some (.int .u8 0):=by
 rw[h.cell j];unfold madeCells;rw[Array.getElem?_map,Array.getElem?_range,if_pos hj];have h1:eH.size=64:=rfl;have h2:j%64<64:=Nat.mod_lt _ (by omega);simp only[Option.map_some,h1];rw[getElem!_pos eH (j%64) (by omega)];simp[eH]
theorem WX (n:Nat) (h1:1<=n) (hn:n<=65536) (w:World) :
  Calls Tryz.prog 44 #[.int .i64 (n:Int)] w fun e w'=>e=.returned (.tuple #[.pointer (some ⟨w.heap.size+1,0,none⟩),.int .i64 0]) /\
   ax w' (w.heap.size+1) 140 (dU w.heap.size n)/\ax w' w.heap.size 142 (madeCells eH (n*64))/\w'.heap.size=w.heap.size+2/\ah No w w':=by
 have g1:¬((n:Int)<1):=by omega
 have g2:¬((65536:Int)<n):=by omega
 have OL:=AP n hn;generalize madeCells eH (n*64)=cs at *;go_enter Tryz.func44,Tryz.ntmps44;go_wp2_with fail;go_ret2;refine⟨by simp,?_,?_,by simp,by(repeat' (first|exact ah.refl _ _|assumption|apply ah.alloc|apply ah.drewN|apply ah.drew|refine ah.ai ?_ (by first|omega|(simp;omega)|simp) _ _|refine ah.ay ?_ (by first|exact Or.inl rfl|exact Or.inr rfl|rfl) _ _|refine ah.ag ?_ (by assumption)|refine ah.ag ?_ (ah.of_no (by assumption))))⟩
 ·exact(show(w.alloc (.cells cs 142)).heap.size=w.heap.size+1 by simp)▸ax.new (w.alloc (.cells cs 142)) 140 _
 ·exact(ax.new w 142 cs).alloc _
theorem aai {w:World}{d kb n:Nat}(h:ax w d 140 (dU kb n)) (hn:1<=n) :
  Calls Tryz.prog 78 #[.pointer (some ⟨d,0,none⟩)] w fun e w'=>e=.returned (.int .i64 0)/\w=w':=by
 have c0:=h.cell 0;have c2:=h.cell 2;simp[dU]at c0 c2;go_enter Tryz.func78,Tryz.ntmps78;go_wp2_with (go_at_call 79;refine(xX d n _ _ c0 hn).mono ?_;rintro e w' ⟨rfl,rfl⟩);go_ret;exact⟨rfl,rfl⟩
theorem aaj {w:World}{d kb n:Nat}(h:ax w d 140 (dU kb n)) (i:Nat) (hi:i<n) :
  Calls Tryz.prog 163 #[.pointer (some ⟨d,0,none⟩),.int .i64 (i:Int)] w fun e w'=>e=.returned (.bool true)/\w=w':=by
 have c0:=h.cell 0;simp[dU]at c0;have h1:(0:Int)<=i:=by omega
 have h2:(i:Int)<n:=by omega
 go_enter Tryz.func163,Tryz.ntmps163;go_wp2_with fail;go_ret;exact⟨rfl,rfl⟩
theorem Addr.iP (b o j:Nat):(⟨b,o,none⟩:Addr).add j=⟨b,o+j,none⟩:=by
 unfold Addr.add;split
 ·rename_i h;have:j=0:=by simpa using h
  subst this;rfl
 ·rfl
def zs (n:Nat):List UInt8:=List.replicate n 0
theorem ni (n:Nat):(zs n).length=n:=by simp[zs]
theorem GG (d kb n:Nat) (i:Nat) (hi:i<n) (hn:n<=65536) (w:World) (h:ax w d 140 (dU kb n)) (hk:ax w kb 142 (madeCells eH (n*64))) :
  Calls Tryz.prog 119 #[.pointer (some ⟨d,0,none⟩),.int .i64 (i:Int)] w fun e w'=>e=.returned (.tuple #[.string (au (zs 64)),.int .i64 0])/\ah No w w':=by
 have HU:=aa (aai h (by omega));have HI:=aa (aaj h i hi);have c0:=h.cell 0;have c1:=h.cell 1;simp[dU]at c0 c1;have hz:=aa (fun j (hj:j<n*64)=>zm hk hj);have h1:(0:Int)<=i:=by omega
 have h2:(i:Int)<n:=by omega
 go_enter Tryz.func119,Tryz.ntmps119;go_wp2_with fail;refine(HU.out).mono ?_;rintro e w1 ⟨rfl,rfl⟩;go_wp2_with fail;refine(HI.out).mono ?_;rintro e w1 ⟨rfl,rfl⟩;go_wp2_with fail;go_loopg [7] 0 (fun gk k wr=>k=.int .i64 (-1)/\w=wr)
 case atStart=>exact⟨rfl,rfl⟩
 case round =>
  obtain⟨rfl,rfl⟩:=hrel;have kc:(convert 98 9 (.slice (some ⟨kb,i*64,none⟩) 64 64)).run Tryz.prog w=.ok (.string (au (zs 64))) w:=by
   refine run_convert_bytes_back (P:=Tryz.prog) w 98 9 5 ⟨kb,i*64,none⟩ 64 (zs 64) Tryz.underlying98 Tryz.underlying5 Tryz.underlying9 ?_;intro j hj;have Uc:j<64:=by rw[ni]at hj;exact hj
   have:=hz.out (i*64+j) (by omega);rw[Addr.iP,this];simp only[zs,List.getElem_replicate];rfl
  go_wp2_with fail;go_ret2;exact⟨rfl,ah.refl _ _⟩
end Go.Proofs.YtccnemmlkcmceaaGreatDoor
namespace Go.Proofs.YtccnemmlkcmceaaGreatDoor
open Go.RowKit Go.BigFrame
theorem fM (a b:List UInt8):au a++au b=au (a++b):=by
 apply ByteArray.ext;simp[au,ByteArray.data_append]
theorem abD (a b:Nat):zs a++zs b=zs (a+b):=by simp[zs]
theorem Ou (x d kb n log id:Nat) (w:World) (x0:w.cell? ⟨x,0,none⟩=some (.pointer (some ⟨d,0,none⟩))) (x2:w.cell? ⟨x,2,none⟩=some (.int .i64 (log:Int)))
  (h:ax w d 140 (dU kb n)) (hk:ax w kb 142 (madeCells eH (n*64))) (hn:n<=65536) (hi:log+id*8+8<=n) :
  Calls Tryz.prog 83 #[.pointer (some ⟨x,0,none⟩),.int .i64 (id:Int)] w fun e w'=>e=.returned (.tuple #[.string (au (zs 512)),.int .i64 0])/\ah No w w':=by
 have HD:=aa h;have HK:=aa hk;have HR:=aa (fun k (Ye:k<8) w (h:ax w d 140 (dU kb n)) (hk:ax w kb 142 (madeCells eH (n*64)))=>(show((log+id*8+k:Nat):Int)=(log:Int)+(id:Int)*8+(k:Int) by omega)▸GG d kb n (log+id*8+k) (by omega) hn w h hk);obtain⟨z,hz⟩:∃z,z=au (zs 64):=⟨_,rfl⟩;rw[<-hz]at HR;have HZ:=aa hz;clear h hk hz;go_enter Tryz.func83,Tryz.ntmps83;go_wp2_with fail;go_loopg [6,10] 8 (fun gk s k wr=>∃K:Nat,K+gk=8/\k=.int .i64 (K:Int)/\s=.string (au (List.replicate (K*64) 0))/\ah No w wr)
 case atStart=>exact⟨0,rfl,rfl,rfl,ah.refl _ _⟩
 case round =>
  obtain⟨K,hK,rfl,rfl,hE⟩:=hrel;have y0:=aj hE x0 (fun h=>h);have y2:=aj hE x2 (fun h=>h);have l0:=World.block_lt_of_cell? wr _ y0;simp only at l0;have HE:=aa hE;have wR:=aa hK;clear hE
  by_cases h8:K<8
  ·have HR1:=aa (fun(i:Pt wr)=>HR.out K h8 (up wr i) (HD.out.ext (HE.out.ag (Cb wr i)) (fun h=>h)) (HK.out.ext (HE.out.ag (Cb wr i)) (fun h=>h)))
   have h8':(K:Int)<8:=by omega
   have b1:(log:Int)+(id:Int)*8+K<65536:=by omega
   have b2:(0:Int)<=(log:Int)+(id:Int)*8+K:=by omega
   clear hK h8 hi;go_wp2_with fail;refine fK (by kernel_rfl) (by kernel_rfl) ?_;(repeat (go_big_quiet_step ((go_at_call 119;exact Calls.vD (HR1.out _)))));refine wpQuiet_nil ?_;intro _ Nf;obtain⟨⟨wq,hq⟩,jZ⟩:=Nf;change _=wq at jZ;subst jZ
   clear HR HD HK HR1 b1 b2 hn x0 x2 y0 y2 l0;have hzs:z.size=64:=by rw[HZ.out,az,ni]
   have hK7:K*64<=448:=by omega
   go_wp2_with fail

   go_roundg (gk-1)
   case rel=>exact⟨K+1,by have:=wR.out;omega,by go_num,by rw[HZ.out,fM];show Value.string (au (zs (K*64)++zs 64))=Value.string (au (zs ((K+1)*64)));rw[abD,Nat.succ_mul],HE.out.ag hq⟩
   case measure=>have:=wR.out;omega
  ·have hK8:K=8:=by omega
   subst hK8;clear hK h8 hi;go_wp2_with fail;go_ret2;exact⟨rfl,HE.out⟩
end Go.Proofs.YtccnemmlkcmceaaGreatDoor
namespace Go.Proofs.YtccnemmlkcmceaaGreatDoor
open Go.RowKit
def ND (s:Bs):Bs:=UInt8.ofNat s.length::s
def aA.enc (c:aA):Bs:=ND c.key++(if 0<c.over then 1::(n4 c.len++n4 c.over)else 0::ND c.val)
def bW (cs:List aA):Bs:=cs.flatMap aA.enc
def b_:List Bs->List Nat->Bs
 | k::ks,i::is=>ND k++n4 i++b_ ks is
 | _,_=>[]
def Nd.enc (n:Nd):Bs :=
 if n.leaf then 1::UInt8.ofNat n.cells.length::bW n.cells
 else 2::UInt8.ofNat n.keys.length::(n4 (n.kids.headD 0)++b_ n.keys n.kids.tail)
theorem Qb (cs:List aA):∀k,EL cs k=true->∀c∈cs.take k,c.ok=true
 | 0,_,c,hc=>by simp at hc
 | k+1,h,c,hc=>by
  simp only[EL,Bool.and_eq_true]at h;obtain⟨h1,h2⟩:=h;cases hk:cs[k]? with
  | none =>
   rw[hk]at h2;simp at h2
  | some d =>
   rw[hk]at h2;simp only[Bool.and_eq_true]at h2;rw[List.take_add_one,hk]at hc;rcases List.mem_append.1 hc with hc|hc
   ·exact Qb cs k h1 c hc
   ·simp at hc;subst hc;exact h2.1
theorem Qa (cs:List Bs):∀k,EK cs k=true->∀c∈cs.take k,dV c=true
 | 0,_,c,hc=>by simp at hc
 | k+1,h,c,hc=>by
  simp only[EK,Bool.and_eq_true]at h;obtain⟨h1,h2⟩:=h;cases hk:cs[k]? with
  | none =>
   rw[hk]at h2;simp at h2
  | some d =>
   rw[hk]at h2;simp only[Bool.and_eq_true]at h2;rw[List.take_add_one,hk]at hc;rcases List.mem_append.1 hc with hc|hc
   ·exact Qa cs k h1 c hc
   ·simp at hc;subst hc;exact h2.1
theorem dF {k:Bs}(h:dV k=true):1<=k.length/\k.length<=140:=by simpa[dV]using h
theorem aA.iW {c:aA}(h:c.ok=true):1<=c.key.length/\c.key.length<=140/\c.val.length<=157/\c.len<=16384/\c.over<=2147483647:=by
 unfold aA.ok at h;split at h
 ·rename_i ho
  simp only[Bool.and_eq_true,decide_eq_true_eq]at h;obtain⟨⟨h1,h2⟩,h3⟩:=h;obtain⟨k1,k2⟩:=dF h1;unfold aA.size at h3;rw[if_neg (by omega)]at h3;omega
 ·simp only[Bool.and_eq_true,decide_eq_true_eq]at h
  obtain⟨⟨⟨h1,h2⟩,h3⟩,h4⟩:=h;obtain⟨k1,k2⟩:=dF h1;have:c.val = []:=by simpa using h4
  simp only[jE,decide_eq_true_eq]at h2;rw[this];simp;omega
structure Nd.Ok (n:Nd):Prop where
 a1:n.cells.length<=255
 a2:n.keys.length<=255
 lf:n.leaf=true->n.keys = []/\n.kids = []
 br:n.leaf=false->n.cells = []/\n.kids.length=n.keys.length+1
 c:∀c∈n.cells,c.ok=true
 k:∀k∈n.keys,dV k=true
 i:∀i∈n.kids,jE i=true
theorem Nd.Ok.of {n:Nd}(h:n.ok=true):n.Ok:=by
 unfold Nd.ok at h;simp only[Bool.and_eq_true]at h;obtain⟨⟨⟨h1,h2⟩,h3⟩,h4⟩:=h;unfold Nd.shape at h1;simp only[Bool.and_eq_true,decide_eq_true_eq]at h1;obtain⟨⟨h5,h6⟩,h7⟩:=h1;refine⟨h5,h6,fun hl=>?_,fun hl=>?_,fun c hc=>Qb _ _ h2 c (by rwa[List.take_length]),fun c hc=>Qa _ _ h3 c (by rwa[List.take_length]),fun i hi=>(List.all_eq_true.1 h4) i hi⟩
 ·rw[hl]at h7;simpa using h7
 ·rw[hl]at h7;simpa using h7
theorem Nd.Ok.fits {n:Nd}(h:n.Ok):n.fits:=by
 refine⟨fun c hc=>?_,fun k hk=>?_,fun i hi=>?_⟩
 ·have:=aA.iW (h.c c hc);exact⟨by omega,by omega,by omega,by omega⟩
 ·have:=dF (h.k k hk);omega
 ·have:=h.i i hi;simp[jE]at this;omega
theorem aah (n:Nd) (w:World) (F:Nat->Prop) (A1:Option Addr) (c1:Nat) (A2:Option Addr) (c2:Nat) (A3:Option Addr) (c3:Nat) (hn:aW w F A1 c1 A2 c2 A3 c3 n) (hf:n.fits) (uM:n.ok=false) :
  Calls Tryz.prog 180 #[n.value A1 c1 A2 c2 A3 c3] w fun e w'=>e=.returned (.tuple #[.string (au []),.int .i64 2])/\ah No w w':=by
 have HC:=aa (fun w hn=>dG n w F A1 c1 A2 c2 A3 c3 hn hf);rw[Nd.oq uM]at HC;clear uM;go_enter Tryz.func180,Tryz.ntmps180;simp only[Nd.value];go_wp2_with fail;refine(HC.out _ (hn.ext ((ah.refl _ w).alloc _))).mono ?_;rintro e w1 ⟨rfl,hb1⟩;go_wp2_with fail;go_ret2;exact⟨rfl,by(repeat' (first|exact ah.refl _ _|assumption|apply ah.alloc|apply ah.drewN|apply ah.drew|refine ah.ai ?_ (by first|omega|(simp;omega)|simp) _ _|refine ah.ay ?_ (by first|exact Or.inl rfl|exact Or.inr rfl|rfl) _ _|refine ah.ag ?_ (by assumption)|refine ah.ag ?_ (ah.of_no (by assumption))))⟩
theorem WQ (n:Nd) (w:World) (F:Nat->Prop) (A1:Option Addr) (c1:Nat) (A2:Option Addr) (c2:Nat) (A3:Option Addr) (c3:Nat) (hn:aW w F A1 c1 A2 c2 A3 c3 n) (hf:n.fits) (uM:n.ok=true) (hl:500<n.size) :
  Calls Tryz.prog 180 #[n.value A1 c1 A2 c2 A3 c3] w fun e w'=>e=.returned (.tuple #[.string (au []),.int .i64 3])/\ah No w w':=by
 have HC:=aa (fun w hn=>dG n w F A1 c1 A2 c2 A3 c3 hn hf);have HS:=aa (fun w hn=>pF n w F A1 c1 A2 c2 A3 c3 hn hf);rw[Nd.jh uM]at HC;clear uM;have LG:(500:Int)<n.size:=by omega
 go_enter Tryz.func180,Tryz.ntmps180;simp only[Nd.value];go_wp2_with fail;refine(HC.out _ (hn.ext ((ah.refl _ w).alloc _))).mono ?_;rintro e w1 ⟨rfl,hb1⟩;have bb:=(ax.new w 40 #[.bool n.leaf,.slice A1 n.cells.length c1,.slice A2 n.keys.length c2,.slice A3 n.kids.length c3]).ext hb1 (fun h=>h);have q0:=bb.cell 0;have q1:=bb.cell 1;have q2:=bb.cell 2;have q3:=bb.cell 3;have bl:=bb.lt;simp at q0 q1 q2 q3;go_wp2_with fail;refine(HS.out _ (hn.ext (((ah.refl _ w).alloc _).ag hb1.of_no))).mono ?_;rintro e w2 ⟨rfl,dO⟩;go_wp2_with fail;go_ret2;exact⟨rfl,by(repeat' (first|exact ah.refl _ _|assumption|apply ah.alloc|apply ah.drewN|apply ah.drew|refine ah.ai ?_ (by first|omega|(simp;omega)|simp) _ _|refine ah.ay ?_ (by first|exact Or.inl rfl|exact Or.inr rfl|rfl) _ _|refine ah.ag ?_ (by assumption)|refine ah.ag ?_ (ah.of_no (by assumption))))⟩
structure bF where
 s:Bs
 bad:Bool
def bF.take (r:bF) (n:Nat):Bs×bF:=if r.s.length<n then (List.replicate n 0,⟨[],true⟩)else (r.s.take n,⟨r.s.drop n,r.bad⟩)
def gy (w:World) (p:Nat) (r:bF):Prop:=ax w p 155 #[.string (au r.s),.bool r.bad]
def On (p:Nat):Nat->Prop:=fun b=>b=p
theorem bF.take_len (r:bF) (n:Nat):(r.take n).1.length=n:=by
 unfold bF.take;split
 ·simp
 ·rw[List.length_take];omega
theorem bF.Hq (r:bF) (n:Nat):(r.take n).2.s.length<=r.s.length:=by
 unfold bF.take;split
 ·simp
 ·simp
theorem qa (a b:ByteArray) (h:a.data.toList=b.data.toList):a=b:=by
 cases a;cases b;simp at h;congr
theorem pE (s:Bs) (n:Nat):(au s).extract 0 n=au (s.take n):=by
 refine qa _ _ ?_;simp[au]
theorem nk (s:Bs) (n:Nat):(au s).extract n s.length=au (s.drop n):=by
 refine qa _ _ ?_;simp[au];exact List.take_of_length_le (by simp)
theorem Y0 (n:Nat):(⟨(Lib.repeatL [0] n).toArray⟩:ByteArray)=au (List.replicate n 0):=by
 refine qa _ _ ?_;simp
 induction n with
 | zero=>rfl
 | succ n ih=>rw[Lib.repeatL,ih];rfl
theorem gy.lt {w:World}{p:Nat}{r:bF}(h:gy w p r):p<w.heap.size:=ax.lt h
theorem Ck (r:bF) (n:Nat) (hn:n<1000000) (hs:r.s.length<1000000) (p:Nat) (w:World) (h:gy w p r) :
  Calls Tryz.prog 129 #[.pointer (some ⟨p,0,none⟩),.int .i64 (n:Int)] w fun e w'=>e=.returned (.string (au (r.take n).1))/\gy w' p (r.take n).2/\ah (On p) w w':=by
 have c0:=h.cell 0;have c1:=h.cell 1;have f0:=h.frozen 0;have f1:=h.frozen 1;have bl:=h.lt;simp at c0 c1;have eZ:=az r.s
 by_cases bu:r.s.length<n
 ·have e:r.take n=(List.replicate n 0,⟨[],true⟩):=by unfold bF.take;rw[if_pos bu]
  rw[e];clear e;have HR:=aa (fun w=>Tryz.strings_Repeat ⟨#[0]⟩ n w (by omega) (by show 1*n<=_;omega));have iY:(r.s.length:Int)<n:=by omega
  go_enter Tryz.func129,Tryz.ntmps129;go_wp2_with fail;refine(HR.out _).mono ?_;rintro e w1 ⟨rfl,hb⟩;go_wp2_with fail;go_ret;have h2:gy ((w.setCell ⟨p,1,none⟩ (.bool true)).setCell ⟨p,0,none⟩ (.string (au []))) p ⟨[],true⟩:=(ax.aQ (ax.aQ h 1 (.bool true)) 0 (.string (au [])));refine⟨by simp only;rw[<-Y0];rfl,ax.ext h2 (ah.of_below hb No) (fun h=>h),?_⟩;have h3:ah (On p) w ((w.setCell ⟨p,1,none⟩ (.bool true)).setCell ⟨p,0,none⟩ (.string (au []))):=ah.ay (ah.ay (ah.refl (On p) w) (show On p p from rfl) _ _) (show On p p from rfl) _ _;exact h3.ag (ah.of_no (ah.of_below hb No))
 ·have e:r.take n=(r.s.take n,⟨r.s.drop n,r.bad⟩):=by unfold bF.take;rw[if_neg bu]
  rw[e];clear e;have iY:¬(r.s.length:Int)<n:=by omega
  go_enter Tryz.func129,Tryz.ntmps129;go_wp2_with fail;rw[pE,nk];go_ret;exact⟨rfl,ax.aQ h 0 _,ah.ay (ah.refl (On p) w) (show On p p from rfl) _ _⟩
def bF.byte (r:bF):Nat×bF:=(((r.take 1).1.headD 0).toNat,(r.take 1).2)
def bF.four (r:bF):Nat×bF:=(v4 (au (r.take 4).1),(r.take 4).2)
def bF.text (r:bF):Bs×bF:=r.byte.2.take r.byte.1
def bF.cell (r:bF):aA×bF :=
 if r.text.2.byte.1=0 then (⟨r.text.1,r.text.2.byte.2.text.1,0,0⟩,r.text.2.byte.2.text.2)
 else if r.text.2.byte.1=1 then (⟨r.text.1,[],r.text.2.byte.2.four.2.four.1,r.text.2.byte.2.four.1⟩,⟨r.text.2.byte.2.four.2.four.2.s,r.text.2.byte.2.four.2.four.2.bad||decide (r.text.2.byte.2.four.2.four.1=0)⟩)
 else (⟨r.text.1,[],0,0⟩,⟨r.text.2.byte.2.s,true⟩)
theorem bF.yh (r:bF):r.byte.1<256:=UInt8.toNat_lt _
theorem bF.oz (r:bF):r.byte.2.s.length<=r.s.length:=r.Hq 1
theorem bF.BL (r:bF):r.four.1<4294967296:=adJ _
theorem bF.xR (r:bF):r.four.2.s.length<=r.s.length:=r.Hq 4
theorem bF.Ch (r:bF):r.text.1.length<256:=by unfold bF.text;rw[bF.take_len];exact r.yh
theorem bF.Bq (r:bF):r.text.2.s.length<=r.s.length:=Nat.le_trans (bF.Hq _ _) r.oz
theorem bF.aaq (r:bF):r.cell.2.s.length<=r.s.length:=by
 have h1:=r.Bq;have h2:=r.text.2.oz;unfold bF.cell;split
 ·have:=r.text.2.byte.2.Bq
  simp only;omega
 ·split
  ·have:=r.text.2.byte.2.xR
   have:=r.text.2.byte.2.four.2.xR;simp only;omega
  ·simp only;omega
theorem qb (r:bF) (hs:r.s.length<1000000) (p:Nat) (w:World) (h:gy w p r) :
  Calls Tryz.prog 87 #[.pointer (some ⟨p,0,none⟩)] w fun e w'=>e=.returned (.int .i64 (r.byte.1:Int))/\gy w' p r.byte.2/\ah (On p) w w':=by
 have HT:=aa (fun w h=>Ck r 1 (by omega) hs p w h);have hl:=r.take_len 1;have HB:=aa r.yh;obtain⟨s,Sa⟩:∃s,au (r.take 1).1=s:=⟨_,rfl⟩;have AV:s.size=1:=by rw[<-Sa];simp[hl]
 have hbt:bt s 0=r.byte.1:=by
  rw[<-Sa]
  match h:(r.take 1).1,hl with
  | [b],_=>simp[bt,bF.byte,h]
 have i0:∀w,(Instr.index 9 (.string s) (.int .i64 0)).run Tryz.prog w=.ok (.int .u8 (bt s 0:Int)) w:=fun w=>oI s 0 (by omega) w
 rw[Sa]at HT;rw[hbt]at i0;have HH:=aa (show r.byte.2=(r.take 1).2 from rfl);clear hl Sa hbt AV;have bu:=HB.out;go_enter Tryz.func87,Tryz.ntmps87;go_wp2_with fail;refine(HT.out _ h).mono ?_;rintro e w1 ⟨rfl,hr,hx⟩;go_wp2_with fail;go_ret;exact⟨rfl,by rw[HH.out];exact hr,hx⟩
theorem uP (r:bF) (hs:r.s.length<1000000) (p:Nat) (w:World) (h:gy w p r) :
  Calls Tryz.prog 88 #[.pointer (some ⟨p,0,none⟩)] w fun e w'=>e=.returned (.int .i64 (r.four.1:Int))/\gy w' p r.four.2/\ah (On p) w w':=by
 have HT:=aa (fun w h=>Ck r 4 (by omega) hs p w h);have hl:=r.take_len 4;obtain⟨s,Sa⟩:∃s,au (r.take 4).1=s:=⟨_,rfl⟩;have AV:s.size=4:=by rw[<-Sa];simp[hl]
 have HV:=aa (show r.four.1=v4 s by rw[<-Sa];rfl);have HV2:=aa (show r.four.2=(r.take 4).2 from rfl);rw[Sa]at HT;clear hl Sa;have i0:∀w,(Instr.index 9 (.string s) (.int .i64 0)).run Tryz.prog w=.ok (.int .u8 (bt s 0:Int)) w:=fun w=>oI s 0 (by omega) w
 have i1:∀w,(Instr.index 9 (.string s) (.int .i64 1)).run Tryz.prog w=.ok (.int .u8 (bt s 1:Int)) w:=fun w=>oI s 1 (by omega) w
 have i2:∀w,(Instr.index 9 (.string s) (.int .i64 2)).run Tryz.prog w=.ok (.int .u8 (bt s 2:Int)) w:=fun w=>oI s 2 (by omega) w
 have i3:∀w,(Instr.index 9 (.string s) (.int .i64 3)).run Tryz.prog w=.ok (.int .u8 (bt s 3:Int)) w:=fun w=>oI s 3 (by omega) w
 have hor:=aa (or4 (bt s 0) (bt s 1) (bt s 2) (bt s 3) (jd s 0) (jd s 1) (jd s 2) (jd s 3));clear AV;go_enter Tryz.func88,Tryz.ntmps88;go_wp2_with fail;refine(HT.out _ h).mono ?_;rintro e w1 ⟨rfl,hr,hx⟩;go_wp2_with fail;go_quiet (fail);go_wp2_with fail;go_ret;refine⟨lF ?_,ax.drewN (by rw[HV2.out];exact hr) _,hx.drewN _⟩;rw[HV.out];simp only[<-qo];exact hor.out
theorem yM (r:bF) (hs:r.s.length<1000000) (p:Nat) (w:World) (h:gy w p r) :
  Calls Tryz.prog 90 #[.pointer (some ⟨p,0,none⟩)] w fun e w'=>e=.returned (.string (au r.text.1))/\gy w' p r.text.2/\ah (On p) w w':=by
 have h1:=r.yh;have h2:=r.oz;have HB:=aa (fun w h=>qb r hs p w h);have HT:=aa (fun w h=>Ck r.byte.2 r.byte.1 (by omega) (by omega) p w h);clear h1 h2 ;go_enter Tryz.func90,Tryz.ntmps90;go_wp2_with fail;refine(HB.out _ h).mono ?_;rintro e w1 ⟨rfl,hr,hx⟩;go_wp2_with fail;refine(HT.out _ hr).mono ?_;rintro e w2 ⟨rfl,rX,aH⟩;go_wp2_with fail;go_ret;exact⟨rfl,rX,hx.ag aH⟩
theorem ax.p4 {w:World}{g:Nat}{t:TypeId}{a b c d:Value}(h:ax w g t #[a,b,c,d]) :
  w.cell? ⟨g,0,none⟩=some a/\w.cell? ⟨g,1,none⟩=some b/\w.cell? ⟨g,2,none⟩=some c/\w.cell? ⟨g,3,none⟩=some d /\
  w.frozen? ⟨g,0,none⟩=false/\w.frozen? ⟨g,1,none⟩=false/\w.frozen? ⟨g,2,none⟩=false/\w.frozen? ⟨g,3,none⟩=false/\g<w.heap.size :=
 ⟨h.cell 0,h.cell 1,h.cell 2,h.cell 3,h.frozen 0,h.frozen 1,h.frozen 2,h.frozen 3,h.lt⟩
theorem ax.eu {w:World}{g:Nat}{t:TypeId}{a b c d:Value}(h:ax w g t #[a,b,c,d]) (a' b' c' d':Value) :
  ax ((((w.setCell ⟨g,0,none⟩ a').setCell ⟨g,1,none⟩ b').setCell ⟨g,2,none⟩ c').setCell ⟨g,3,none⟩ d') g t #[a',b',c',d']:=(((h.aQ 0 a').aQ 1 b').aQ 2 c').aQ 3 d'
theorem ax.aaf {w:World}{g g':Nat}{t:TypeId}{cs:Array Value}(h:ax w g t cs) (bQ:g≠g') (a' b' c' d':Value) :
  ax ((((w.setCell ⟨g',0,none⟩ a').setCell ⟨g',1,none⟩ b').setCell ⟨g',2,none⟩ c').setCell ⟨g',3,none⟩ d') g t cs:=(((h.far bQ a').far bQ b').far bQ c').far bQ d'
theorem qH {p b:Nat}(h:p<b):¬On p b:=fun e=>by unfold On at e;omega
theorem Tm (r:bF) (hs:r.s.length<1000000) (p:Nat) (w:World) (h:gy w p r) :
  Calls Tryz.prog 89 #[.pointer (some ⟨p,0,none⟩)] w fun e w'=>e=.returned r.cell.1.agg/\gy w' p r.cell.2/\ah (On p) w w':=by
 have lp:=h.lt;have h1:=r.Bq;have h2:=r.text.2.oz;have h3:=r.text.2.byte.2.xR;have HT:=aa (fun w h=>yM r hs p w h);have HB:=aa (fun w h=>qb r.text.2 (by omega) p w h);have rq:=aa (fun w h=>yM r.text.2.byte.2 (by omega) p w h);have HF:=aa (fun w h=>uP r.text.2.byte.2 (by omega) p w h);have HF2:=aa (fun w h=>uP r.text.2.byte.2.four.2 (by omega) p w h)
 have HX:Hid (r.cell=if r.text.2.byte.1=0 then (⟨r.text.1,r.text.2.byte.2.text.1,0,0⟩,r.text.2.byte.2.text.2)
  else if r.text.2.byte.1=1 then (⟨r.text.1,[],r.text.2.byte.2.four.2.four.1,r.text.2.byte.2.four.1⟩,⟨r.text.2.byte.2.four.2.four.2.s,r.text.2.byte.2.four.2.four.2.bad||decide (r.text.2.byte.2.four.2.four.1=0)⟩)
  else (⟨r.text.1,[],0,0⟩,⟨r.text.2.byte.2.s,true⟩)):=aa rfl
 clear h1 h2 h3;obtain⟨tag,adT⟩:∃tag,r.text.2.byte.1=tag:=⟨_,rfl⟩;rw[adT]at HX HB;clear adT;generalize r.text.2.byte.2=r2 at HX HB rq HF HF2;generalize r.text.2=r1 at HX HB HT;generalize r.text.1=k0 at HX HT;generalize Wj:r.cell=cl at HX;clear Wj;go_enter Tryz.func89,Tryz.ntmps89;go_wp2_with fail;refine(HT.out _ (h.alloc _)).mono ?_;rintro e w1 ⟨rfl,Iz,aT⟩;have b2:ax w1 w.heap.size 45 #[.string (au []),.string (au []),.int .i64 0,.int .i64 0]:=(ax.new w 45 #[.string (au []),.string (au []),.int .i64 0,.int .i64 0]).ext aT (qH lp);have l2:=b2.lt;go_wp2_with fail;refine(HB.out _ (Iz.alloc _)).mono ?_;rintro e w2 ⟨rfl,rX,aH⟩;have b3:ax w2 w1.heap.size 45 #[.string (au k0),.string (au []),.int .i64 0,.int .i64 0]:=(ax.new w1 45 #[.string (au k0),.string (au []),.int .i64 0,.int .i64 0]).ext aH (qH (by omega));have b2:ax w2 w.heap.size 45 #[.string (au []),.string (au []),.int .i64 0,.int .i64 0]:=(b2.alloc _).ext aH (qH lp);have l2:=b2.lt;have l3:=b3.lt;have kG:ah (On p) w w2:=((((ah.refl (On p) w).alloc _).ag aT).alloc _).ag aH
 by_cases ht0:tag=0
 ·subst ht0
  rw[if_pos rfl]at HX;have f0:=b3.frozen 1;go_wp2_with fail;refine(rq.out _ rX).mono ?_;rintro e w3 ⟨rfl,Ep,bC⟩;have b3:=b3.ext bC (qH (by omega));have b2:=b2.ext bC (qH lp);obtain⟨q0,q1,q2,q3,f0,f1,f2,f3,l3⟩:=b3.p4;obtain⟨p0,p1,p2,p3,g0,g1,g2,g3,l2⟩:=b2.p4;go_wp2_with fail;have ji:=(b2.far (p:=⟨w1.heap.size,1,none⟩) (by show w.heap.size≠w1.heap.size;omega) (.string (au r2.text.1))).eu (.string (au k0)) (.string (au r2.text.1)) (.int .i64 0) (.int .i64 0);refine bodyPost_ret (results_cell_row (P:=Tryz.prog) rfl _ _ w.heap.size 45 _ (0,0) _ rfl ji Tryz.underlying45 rfl (by kernel_rfl)) rfl ?_;rw[HX.out];refine⟨rfl,?_,?_⟩
  ·exact(Ep.far (p:=⟨w1.heap.size,1,none⟩) (by show p≠w1.heap.size;omega) _).aaf (by omega) _ _ _ _
  ·(repeat' (first|exact ah.refl _ _|assumption|apply ah.alloc|apply ah.drewN|apply ah.drew|refine ah.ai ?_ (by first|omega|(simp;omega)|simp) _ _|refine ah.ay ?_ (by first|exact Or.inl rfl|exact Or.inr rfl|rfl) _ _|refine ah.ag ?_ (by assumption)|refine ah.ag ?_ (ah.of_no (by assumption))))
 ·by_cases ht1:tag=1
  ·subst ht1
   rw[if_neg (by omega),if_pos rfl]at HX;clear ht0;go_wp2_with fail;refine(HF.out _ rX).mono ?_;rintro e w3 ⟨rfl,Ep,bC⟩;have b3:=b3.ext bC (qH (by omega));have b2:=b2.ext bC (qH lp);obtain⟨q0,q1,q2,q3,f0,f1,f2,f3,l3⟩:=b3.p4;go_wp2_with fail;refine(HF2.out _ (Ep.far (p:=⟨w1.heap.size,3,none⟩) (by show p≠w1.heap.size;omega) _)).mono ?_;rintro e w4 ⟨rfl,hr4,ib⟩;have b3:=(b3.aQ 3 (.int .i64 (r2.four.1:Int))).ext ib (qH (by omega));have b2:=(b2.far (p:=⟨w1.heap.size,3,none⟩) (by show w.heap.size≠w1.heap.size;omega) _).ext ib (qH lp);have b3:ax w4 w1.heap.size 45 #[.string (au k0),.string (au []),.int .i64 0,.int .i64 (r2.four.1:Int)]:=b3;obtain⟨q0,q1,q2,q3,f0,f1,f2,f3,l3⟩:=b3.p4;obtain⟨p0,p1,p2,p3,g0,g1,g2,g3,l2⟩:=b2.p4;have c1:=hr4.cell 1;have cf1:=hr4.frozen 1;have l4:=hr4.lt;simp at c1
   by_cases eY:r2.four.2.four.2.bad=true
   ·have M8:=aa eY
    rw[eY]at c1;clear eY;go_wp2_with fail;have ji:=((b2.far (p:=⟨w1.heap.size,2,none⟩) (by show w.heap.size≠w1.heap.size;omega) (.int .i64 (r2.four.2.four.1:Int))).far (p:=⟨p,1,none⟩) (by show w.heap.size≠p;omega) (.bool true)).eu (.string (au k0)) (.string (au [])) (.int .i64 (r2.four.2.four.1:Int)) (.int .i64 (r2.four.1:Int));refine bodyPost_ret (results_cell_row (P:=Tryz.prog) rfl _ _ w.heap.size 45 _ (0,0) _ rfl ji Tryz.underlying45 rfl (by kernel_rfl)) rfl ?_;rw[HX.out];refine⟨rfl,?_,?_⟩
    ·have hq:=(((ax.far hr4 (p:=⟨w1.heap.size,2,none⟩) (by show p≠w1.heap.size;omega) (.int .i64 (r2.four.2.four.1:Int))).aQ 1 (.bool true))).aaf (g':=w.heap.size) (by omega) (.string (au k0)) (.string (au [])) (.int .i64 (r2.four.2.four.1:Int)) (.int .i64 (r2.four.1:Int))
     simp only[M8.out];simp only[Bool.true_or];exact hq
    ·exact((((((((kG.ag bC).ai (by omega) _ _).ag ib).ai (by omega) _ _).ay (show On p p from rfl) _ _).ai (by omega) _ _).ai (by omega) _ _).ai (by omega) _ _).ai (by omega) _ _
   ·have eY:r2.four.2.four.2.bad=false:=by simpa using eY
    have M8:=aa eY;rw[eY]at c1;clear eY;go_wp2_with fail;have ji:=((b2.far (p:=⟨w1.heap.size,2,none⟩) (by show w.heap.size≠w1.heap.size;omega) (.int .i64 (r2.four.2.four.1:Int))).far (p:=⟨p,1,none⟩) (by show w.heap.size≠p;omega) (.bool ((r2.four.2.four.1:Int)==0))).eu (.string (au k0)) (.string (au [])) (.int .i64 (r2.four.2.four.1:Int)) (.int .i64 (r2.four.1:Int));refine bodyPost_ret (results_cell_row (P:=Tryz.prog) rfl _ _ w.heap.size 45 _ (0,0) _ rfl ji Tryz.underlying45 rfl (by kernel_rfl)) rfl ?_;rw[HX.out];refine⟨rfl,?_,?_⟩
    ·have hq:=(((ax.far hr4 (p:=⟨w1.heap.size,2,none⟩) (by show p≠w1.heap.size;omega) (.int .i64 (r2.four.2.four.1:Int))).aQ 1 (.bool ((r2.four.2.four.1:Int)==0)))).aaf (g':=w.heap.size) (by omega) (.string (au k0)) (.string (au [])) (.int .i64 (r2.four.2.four.1:Int)) (.int .i64 (r2.four.1:Int))
     simp only[M8.out];have e:decide (r2.four.2.four.1=0)=((r2.four.2.four.1:Int)==0):=by
      rw[Bool.eq_iff_iff];simp
     simp only[Bool.false_or];rw[e];exact hq
    ·exact((((((((kG.ag bC).ai (by omega) _ _).ag ib).ai (by omega) _ _).ay (show On p p from rfl) _ _).ai (by omega) _ _).ai (by omega) _ _).ai (by omega) _ _).ai (by omega) _ _
  ·have h0':((tag:Int)==0)=false:=by simp;omega
   have Yr:((tag:Int)==1)=false:=by simp;omega
   rw[if_neg ht0,if_neg ht1]at HX;clear ht0 ht1;have cf1:=rX.frozen 1;have c1:=rX.cell 1;simp at c1;have l4:=rX.lt;obtain⟨q0,q1,q2,q3,f0,f1,f2,f3,l3⟩:=b3.p4;obtain⟨p0,p1,p2,p3,g0,g1,g2,g3,l2⟩:=b2.p4;go_wp2_with fail;have ji:=(b2.far (p:=⟨p,1,none⟩) (by show w.heap.size≠p;omega) (.bool true)).eu (.string (au k0)) (.string (au [])) (.int .i64 0) (.int .i64 0);refine bodyPost_ret (results_cell_row (P:=Tryz.prog) rfl _ _ w.heap.size 45 _ (0,0) _ rfl ji Tryz.underlying45 rfl (by kernel_rfl)) rfl ?_;rw[HX.out];refine⟨rfl,?_,?_⟩
   ·exact(ax.aQ rX 1 _).aaf (by omega) _ _ _ _
   ·exact(((((kG.ay (show On p p from rfl) _ _).ai (by omega) _ _).ai (by omega) _ _).ai (by omega) _ _).ai (by omega) _ _)
theorem uG (n:Nat):(⟨(Lib.repeatL [0] n).toArray⟩:ByteArray)=au (zs n):=by
 induction n with
 | zero=>rfl
 | succ n ih =>
  have h:=congrArg (fun s:ByteArray=>s.data.toList) ih;simp only[au]at h ⊢;congr 1;simp only[Lib.repeatL,zs,List.replicate_succ]at h ⊢;simp at h ⊢;exact h
def gM (d n:Nat):Array Value:=#[.pointer (some ⟨d,0,none⟩),.int .i64 0,.int .i64 (n:Int),.int .i64 0,.slice none 0 0,.slice none 0 0,.slice none 0 0,.bool false]
theorem YQ (d kb n m:Nat) (hm:2<=m) (Ua:m<=n) (hn:n<=65536) (w:World) (h:ax w d 140 (dU kb n)) (hk:ax w kb 142 (madeCells eH (n*64))) :
  Calls Tryz.prog 80 #[.pointer (some ⟨d,0,none⟩),.int .i64 0,.int .i64 (m:Int)] w fun e w'=>e=.returned (.tuple #[.pointer (some ⟨w.heap.size,0,none⟩),.int .i64 0]) /\
   ax w' w.heap.size 179 (gM d m)/\ah No w w':=by
 have c0:=h.cell 0;have c2:=h.cell 2;simp[dU]at c0 c2;have HD:=aa h;have HK:=aa hk;have HS:=aa (fun w c0=>pX d n ⟨kb,0,none⟩ w c0 (by omega));have HW:=aa (fun w c0 c2=>uV d n ⟨kb,0,none⟩ w false c0 (by omega) c2);have HR:=aa (fun w h hk=>GG d kb n 0 (by omega) hn w h hk);have HP:=aa (fun w=>Tryz.strings_Repeat ⟨#[0]⟩ 64 w (by omega) (by show 1*64<=_;omega));have Di:(⟨(Lib.repeatL (⟨#[0]⟩:ByteArray).data.toList 64).toArray⟩:ByteArray)=au (zs 64):=uG 64;rw[Di]at HP;obtain⟨z,hz⟩:∃z,z=au (zs 64):=⟨_,rfl⟩;rw[<-hz]at HR HP;have g1:¬((m:Int)<2):=by omega
 have g2:¬((n:Int)<m):=by omega
 have g3:((n:Int)==0)=false:=by simpa using (by omega:¬(n:Int)=0)
 have g4:¬((n:Int)<0):=by omega
 have bu:=h.lt;clear h hk Di hz;go_enter Tryz.func80,Tryz.ntmps80;go_wp2_with (first|(go_at_call 93;refine(HS.out _ c0).mono ?_;rintro e w' ⟨rfl,rfl⟩)|(go_at_call 40;refine(HW.out _ c0 c2).mono ?_;rintro e w' ⟨rfl,rfl⟩));have hb:=ax.new w 179 (gM d m);refine(HR.out _ (HD.out.alloc _) (HK.out.alloc _)).mono ?_;rintro e w1 ⟨rfl,aT⟩;have hb1:=hb.ext aT (fun h=>h);go_wp2_with fail;refine(HP.out _).mono ?_;rintro e w2 ⟨rfl,aH⟩;have gG:=ah.of_below aH No;have dO:=hb1.ext gG (fun h=>h);go_wp2_with fail;go_ret2;exact⟨rfl,dO,(((ah.refl No w).alloc _).ag aT).ag gG⟩
theorem aD.old {w:World}{s:bH}{v:V}(h:aD w s v) {b:Nat}(hb:s.F b):b<w.heap.size:=by
 rcases hb with rfl|rfl
 ·exact h.tx.lt
 ·obtain⟨ov,⟨_,es,c,ho,_⟩,_⟩:=h.mp
  rcases Nat.lt_or_ge s.m w.heap.size with bu|iC
  ·exact bu
  ·rw[Array.getElem?_eq_none iC]at ho;cases ho
end Go.Proofs.YtccnemmlkcmceaaGreatDoor
