/- Proofs about the given program, joined out of the texts RC3, CM1, CM2, CM3, BG1, X1, X2, X3, X4. -/
import Derived.Test.YtccnemmlkcmceaaGreatDoorHL10
import Derived.Test.YtccnemmlkcmceaaGreatDoorHL11
set_option linter.unusedVariables false
set_option linter.unusedSimpArgs false
set_option maxRecDepth 100000
set_option maxHeartbeats 6400000
namespace Go.Proofs.YtccnemmlkcmceaaGreatDoor
open Go.RowKit Go.BigFrame
theorem K3 {es:Array MapEntry}{seen:Array Nat}{e:MapEntry}(h:e∈(leftOf es seen).toList):e∈es.toList:=by
 unfold leftOf at h;have h':e∈Array.filter (fun e=>!seen.contains e.born) es:=Array.mem_toList_iff.1 h;rw[Array.mem_filter]at h';exact Array.mem_toList_iff.2 h'.1
theorem UX {wr w1:World}(h:w1=wr\/w1=wr.drew) (b:Nat) (o:Obj):ah (On b) wr (ChangeMaps.setBlock w1 b o):=by
 rcases h with rfl|rfl
 ·exact⟨rfl,rfl,rfl,by simp[ChangeMaps.setBlock],fun i hi bQ=>vU bQ⟩
 ·exact⟨rfl,rfl,rfl,by simp[ChangeMaps.setBlock],fun i hi bQ=>vU (w:=wr.drew) bQ⟩
theorem BH {w:World}{b:Nat}{o:Obj}(h:w.heap[b]?=some o):b<w.heap.size:=by
 rcases Nat.lt_or_ge b w.heap.size with h1|h1
 ·exact h1
 ·rw[Array.getElem?_eq_none h1]at h;cases h
theorem RS {l:List (Nat×Bs)}{id:Nat}(h:l.lookup id=none):id∉l.map (·.1):=by
 induction l with
 | nil=>simp
 | cons p l ih =>
  obtain⟨a,b⟩:=p;rw[List.lookup_cons]at h
  by_cases hid:id=a
  ·subst hid;simp at h
  ·have wy:(id==a)=false:=by simpa using hid
   rw[wy]at h;simp only[List.map_cons,List.mem_cons,not_or];exact⟨hid,ih h⟩
theorem U4 {l:List (Nat×Bs)}{id:Nat}{x:Bs}(h:l.lookup id=some x):(id,x)∈l:=by
 induction l with
 | nil=>cases h
 | cons p l ih =>
  obtain⟨a,b⟩:=p;rw[List.lookup_cons]at h
  by_cases hid:id=a
  ·subst hid
   simp only[beq_self_eq_true]at h;simp[Option.some.inj h]
  ·have wy:(id==a)=false:=by simpa using hid
   rw[wy]at h;exact List.mem_cons_of_mem _ (ih h)
theorem Qd {l:List (Nat×Bs)}(hn:(l.map (·.1)).Nodup) {p:Nat×Bs}(h:p∈l):l.lookup p.1=some p.2:=by
 induction l with
 | nil=>cases h
 | cons q l ih =>
  obtain⟨a,b⟩:=q;have h1:=List.nodup_cons.1 hn;rw[List.lookup_cons];rcases List.mem_cons.1 h with rfl|h
  ·simp
  ·have bQ:(p.1==a)=false:=by
    simp only[beq_eq_false_iff_ne];intro e;exact h1.1 (by rw[<-e];exact List.mem_map.2 ⟨p,h,rfl⟩)
   rw[bQ];exact ih h1.2 h
theorem Kw {mh:List (Nat×Bs)}(hn:(mh.map (·.1)).Nodup) {ks:List Nat}(h:ks.Perm (mh.map (·.1))):(ks.map (fun id=>(id,(mh.lookup id).getD []))).Perm mh:=by
 refine(h.map _).trans ?_;rw[List.map_map];have:mh.map ((fun id=>(id,(mh.lookup id).getD [])) ∘ (·.1))=mh:=by
  have h2:mh.map ((fun id=>(id,(mh.lookup id).getD [])) ∘ (·.1))=mh.map id:=List.map_congr_left (fun p hp=>by
   show(p.1,(mh.lookup p.1).getD [])=p
   rw[Qd hn hp];rfl)
  rw[h2,List.map_id]
 rw[this]
structure MN (w:World) (L:List (Nat×Bs)) (e:Ending) (w':World):Prop where
 r:∃l g,e=.returned (.tuple #[.string (au (aB l)),.map (some g)])/\l.Perm L/\∃l',o6 sv w' g l'/\l'.length=l.length
 x:ah No w w'
theorem NY (s:bH) (w:World) (v:V) (T:Nat->Nat) (ov:List (Nat×bB)) (htx:ax w s.t 111 (v.cells s)) (hm:jM w s.m ov) (hT:gJ w T) (hov:∀p∈ov,1<=p.1/\p.1<10000/\1<=p.2.kind/\p.2.kind<=255/\p.2.body.length<=500) (Es:v.mt.Ok) :
  Calls Tryz.prog 67 #[.pointer (some ⟨s.t,0,none⟩)] w (MN w (fB (bT T) v ov)):=by
 obtain⟨Q,hQ⟩:∃Q,Q=MN w (fB (bT T) v ov):=⟨_,rfl⟩;rw[<-hQ];have HQ:=aa hQ;obtain⟨gN,es,c,ho,V_,dw⟩:=hm;have HM:Hid (D_ w s.m es c ov):=aa ⟨ho,gN,V_,dw⟩;have t8:w.cell? ⟨s.t,8,none⟩=some (.map (some s.m)):=htx.cell 8;have OL:∀w,(Instr.makeMap 132 none).run Tryz.prog w=.ok (.map (some w.heap.size)) (w.alloc (.map #[] 0)):=fun w=>rfl
 have hml:s.m<w.heap.size:=by
  rcases Nat.lt_or_ge s.m w.heap.size with h|h
  ·exact h
  ·rw[Array.getElem?_eq_none h]at ho;cases ho
 have ho1:(w.alloc (.map #[] 0)).heap[s.m]?=some (.map es c):=(Below.heap_alloc w _ s.m hml).trans ho;have hrg:=run_range_map (P:=Tryz.prog) (w.alloc (.map #[] 0)) 109 3 113 s.m es c Tryz.underlying109 ho1;have XE:=aa htx;have HT:=aa hT;have HOV:=aa hov;have HMT:=aa Es;have Iw:=htx.lt;have HML:=aa hml;clear htx hT hov Es gN ho V_ dw hQ hml ho1;go_enter Tryz.func67,Tryz.ntmps67;go_wp2_with fail
 have HR0:Hid (Bj (bT T) w ((w.alloc (.map #[] 0)).alloc (.mapIter (some s.m) c #[] c)) s.m (w.heap.size+1) w.heap.size es ov c [] [] #[] c):=aa (by
  refine⟨rfl,by simp,by simp,rfl,by simp,?_,Nat.le_refl _,(o6.made w).ext (ah.alloc (ah.refl No _) _) (fun h=>h),((ah.refl No w).alloc _).alloc _⟩;have:=heap_alloc_new (w.alloc (.map #[] 0)) (.mapIter (some s.m) c #[] c);have e:(w.alloc (.map #[] 0)).heap.size=w.heap.size+1:=by simp
  rw[e]at this
  exact this)
 obtain⟨g,hg⟩:∃g,g=w.heap.size:=⟨_,rfl⟩;obtain⟨r,hr⟩:∃r,r=w.heap.size+1:=⟨_,rfl⟩;generalize (w.alloc (.map #[] 0)).alloc (.mapIter (some s.m) c #[] c)=W2 at *;go_loopg [] ov.length (fun gk wr=>∃(dE:List MapEntry) (dP:List (Nat×bB)) (seen:Array Nat) (c0:Nat),dP.length+gk=ov.length/\Hid (Bj (bT T) w wr s.m (w.heap.size+1) w.heap.size es ov c dE dP seen c0))
 case atStart=>exact⟨[],[],#[],c,by simp,HR0⟩
 case round =>
  obtain⟨dE,dP,seen,c0,hk,HR⟩:=hrel;have HK:=aa hk;have Fj:wr.heap[s.m]?=some (.map es c):=(HR.out.x.block s.m HML.out (fun h=>h)).trans HM.out.at_;have HBM:=aa Fj;rcases run_next_at (P:=Tryz.prog) wr 0 (w.heap.size+1) s.m c c0 seen es c HR.out.it Fj HM.out.st.1 HR.out.le with ⟨h0,g_⟩|⟨e,he,w1,vk,g_⟩
  ·have XL:=aa (HR.out.all HM.out h0)
   clear h0 hk Fj;have t9:wr.cell? ⟨s.t,9,none⟩=some (.bool v.marked):=aj HR.out.x (XE.out.cell 9) (fun h=>h);have agy:s.t<wr.heap.size:=by have:=HR.out.x.size;omega
   have afK:=aa HR.out.img;have BQ:=aa HR.out.x;clear HR HR0 OL hrg;go_upto_if 35 with fail;clear g_;go_cut [] (fun wx=>∃mh:List (Nat×Bs),Hid (mh.Perm (fB (bT T) v ov))/\Hid (o6 sv wx w.heap.size mh)/\Hid (ah No w wx))
   case first =>
    cases OL:v.marked
    ·rw[OL]at t9
     go_wp2_with fail;go_meet;refine⟨dP.map (pI (bT T)),aa ?_,afK,BQ⟩;unfold fB;rw[OL];simpa using XL.out.map (pI (bT T))
    ·rw[OL]at t9
     have HMK:=aa OL;have y1:wr.cell? ⟨s.t,1,none⟩=some (.int .i64 (v.r 0:Int)):=aj BQ.out (XE.out.cell 1) (fun h=>h);have y2:wr.cell? ⟨s.t,2,none⟩=some (.int .i64 (v.r 1:Int)):=aj BQ.out (XE.out.cell 2) (fun h=>h);have y3:wr.cell? ⟨s.t,3,none⟩=some (.int .i64 (v.r 2:Int)):=aj BQ.out (XE.out.cell 3) (fun h=>h);have y4:wr.cell? ⟨s.t,4,none⟩=some (.int .i64 (v.r 3:Int)):=aj BQ.out (XE.out.cell 4) (fun h=>h);have y5:wr.cell? ⟨s.t,5,none⟩=some (.int .i64 (v.high:Int)):=aj BQ.out (XE.out.cell 5) (fun h=>h);have y6:wr.cell? ⟨s.t,6,none⟩=some (.int .i64 (v.free:Int)):=aj BQ.out (XE.out.cell 6) (fun h=>h);have y7:wr.cell? ⟨s.t,7,none⟩=some (.int .i64 (v.cnt:Int)):=aj BQ.out (XE.out.cell 7) (fun h=>h);have M8:=aa (Xj v.mt HMT.out wr);have oN:v.mt.body.length=28:=v.mt.uu;obtain⟨bd,hbd⟩:∃bd,bd=v.mt.body:=⟨_,rfl⟩;rw[<-hbd]at M8 oN;have aiE:=aa hbd;have HSL:=aa (fun w' (hx:ah No w w')=>Kh T 0 1 bd (by decide) (by decide) (by omega) w' (HT.out.ext hx (fun h=>h)));obtain⟨im,Ud⟩:∃im,im=dY (bT T) 0 1 bd:=⟨_,rfl⟩;rw[<-Ud]at HSL;have HIM:=aa Ud;simp only[Mt.val,V.mt]at M8;clear OL hbd oN Ud;go_wp2_with fail;refine(M8.out).mono ?_;rintro e5 w5 ⟨rfl,bU⟩;have jl:=aa (BQ.out.ag bU);have HI5:=aa (afK.out.ext bU (fun h=>h));have ahN:=aa (HSL.out w5 jl.out);clear bU;go_wp2_with fail;refine(ahN.out).mono ?_;rintro e6 w6 ⟨rfl,kH⟩;have wP:=aa (jl.out.ag kH);have LJ:o6 (fun b=>.string (au b)) w6 w.heap.size (dP.map (pI (bT T))):=HI5.out.ext kH (fun h=>h)
     obtain⟨w7,aa4,hm7,eX,hs7⟩:=zY LJ (id:=0) im (fun hk=>by
      rw[List.map_map]at hk;obtain⟨q,hq,e1⟩:=List.mem_map.1 hk;have e1:q.1=0:=e1;have:=HOV.out q (XL.out.mem_iff.1 hq)
      omega)
     have HM7:=aa hm7;have nS:=aa (wP.out.trans (F:=No) eX (fun b hb e=>by have e':b=w.heap.size:=e;omega));clear kH LJ hm7 eX hs7;rw[show((0:Nat):Int)=0 from rfl]at aa4;go_wp2_with fail;go_meet;refine⟨dP.map (pI (bT T)) ++ [(0,im)],aa ?_,HM7,nS⟩;unfold fB;rw[HMK.out,if_pos rfl,HIM.out,aiE.out];exact(XL.out.map (pI (bT T))).append_right _
   case rest =>
    obtain⟨mh,HPM,HMG,zD⟩:=hcut;have oh:∀p∈mh,p.1<10000:=fun p hp=>by
     have h1:=HPM.out.mem_iff.1 hp;unfold fB at h1;rcases List.mem_append.1 h1 with h1|h1
     ·obtain⟨q,hq,rfl⟩:=List.mem_map.1 h1
      exact(HOV.out q hq).2.1
     ·split at h1
      ·rw[List.mem_singleton.1 h1];show 0<10000;omega
      ·cases h1
    have aa9:mh.length<=10000:=by
     have h1:=Bt HMG.out.nodup (m:=List.range 10000) (fun a ha=>by
      obtain⟨p,hp,rfl⟩:=List.mem_map.1 ha
      exact List.mem_range.2 (oh p hp))
     rw[List.length_map,List.length_range]at h1;exact h1
    have abr:=aa oh;have abt:=aa aa9;obtain⟨n,hn⟩:∃n,n=mh.length:=⟨_,rfl⟩;have bY:=fun ty=>Cw HMG.out ty
    rw[<-hn]at bY;have HN:=aa hn;have TH:=aa (qG n (by omega) wc);clear oh aa9 hn t9;go_wp2_with fail;refine(TH.out).mono ?_;rintro e8 w8 ⟨rfl,kK⟩;have MU:=aa (zD.out.ag kK);have afz:=aa (HMG.out.ext kK (fun h=>h));have HKY:=aa (Lh w.heap.size w8);have ahK:=aa (ET afz.out (fun p hp=>by have:=abr.out p hp;omega) (by have:=abt.out;omega));clear kK bY;go_wp2_with fail;refine(HKY.out).mono ?_;rintro e9 w9 ⟨rfl,hw9⟩;rw[hw9];have qY:=aa (MU.out.alloc (.cells #[.map (some w.heap.size)] 132));have ah8:=aa (afz.out.ext ((ah.refl No w8).alloc (.cells #[.map (some w.heap.size)] 132)) (fun h=>h));clear hw9;go_wp2_with fail;refine(ahK.out).mono ?_;rintro e10 w10 ⟨A,c10,ks,rfl,mq,aP,oJ⟩;have Fy:=aa (qY.out.ag oJ);have abm:=aa (ah8.out.ext oJ (fun h=>h));have HKP:=aa mq;have XM:=aa aP;clear mq aP oJ;go_wp2_with fail;obtain⟨l,hl⟩:∃l:List (Nat×Bs),l=ks.map (fun id=>(id,(mh.lookup id).getD [])):=⟨_,rfl⟩;have HL:=aa hl;have hlp:l.Perm mh:=by rw[hl];exact Kw HMG.out.nodup HKP.out
    have HLP:=aa hlp;have tZ:l.length=ks.length:=by rw[hl,List.length_map]
    have lL:=aa tZ;have ae6:∀p∈mh,p.2.length=512:=fun p hp=>by
     have h1:=HPM.out.mem_iff.1 hp;unfold fB at h1;rcases List.mem_append.1 h1 with h1|h1
     ·obtain⟨q,hq,rfl⟩:=List.mem_map.1 h1
      exact jD (HOV.out q hq).2.2.2.2
     ·split at h1
      ·rw[List.mem_singleton.1 h1];exact jD (by rw[v.mt.uu];decide)
      ·cases h1
    have aiL:=aa ae6;obtain⟨K,hK⟩:∃K,K=ks.length:=⟨_,rfl⟩;have AJ:=aa hK;have aeY:K<=10000:=by rw[hK,<-tZ,hlp.length_eq];exact abt.out
    have afI:=aa aeY;have HNK:Hid (n=K):=aa (by rw[HN.out,<-hlp.length_eq,tZ,hK]);have afs:Hid (w10.ownsRow w8.heap.size 3 1 (.slice A K c10) K (aK ks)):=aa (by rw[hK];exact XM.out);rw[<-hK];clear hl hlp tZ ae6 hK aeY;go_loopg [7,53] K (fun gk q7 q53 wr=>∃(j:Nat) (R:Bs),j+gk=K/\q53=.int .i64 (j:Int)/\q7=.string (au R)/\Hid (R=n4 n++(l.take j).flatMap (fun p=>n4 p.1++p.2))/\Hid (R.length=4+j*516)/\Hid (ah No w10 wr))
    case atStart=>exact⟨0,n4 n,by omega,rfl,rfl,aa (by simp),aa rfl,aa (ah.refl _ _)⟩
    case round =>
     obtain⟨j,R,hj,rfl,rfl,HR,HRL,HXJ⟩:=hrel;have HJ:=aa hj
     by_cases bu:j<K
     ·have mQ:=aa bu
      obtain⟨g2,hA,_,_,hAc,iN⟩:=sW afs.out (by omega);subst hA;obtain⟨id,hid⟩:∃id,ks[j]?=some id:=⟨_,List.getElem?_eq_getElem (by have:=AJ.out;omega)⟩;have k0:=aj HXJ.out (iN j (.int .i64 (id:Int)) (by unfold aK;rw[List.getElem?_map,hid];rfl)) (fun h=>h);have lk:=World.block_lt_of_cell? wr _ k0;simp only at lk;have acw:id∈mh.map (·.1):=HKP.out.mem_iff.1 (List.mem_of_getElem? hid);obtain⟨q,hq,ZF⟩:=List.mem_map.1 acw;have ZF:q.1=id:=ZF;obtain⟨im,Ud⟩:∃im,mh.lookup id=some im:=by
       cases Nh:mh.lookup id with
       | some im=>exact⟨im,rfl⟩
       | none=>exact absurd acw (fun hm=>RS Nh hm)
      have VY:=U4 Ud;have ag1:im.length=512:=aiL.out _ VY;have aa_:=abr.out _ VY;simp only at aa_;have hlj:l[j]?=some (id,im):=by rw[HL.out,List.getElem?_map,hid];simp[Ud]
      have Nh:=fun(i:Pt wr)=>Ki (w:=up wr i) (abm.out.ext (HXJ.out.ag (Cb wr i)) (fun h=>h)) Ud
      have TJ:=aa (fun(i:Pt wr)=>qG id (by omega) (up wr i));obtain⟨N4,Yl⟩:∃N4,N4=n4 id:=⟨_,rfl⟩;rw[<-Yl]at TJ;have l4:N4.length=4:=by rw[Yl];rfl
      have hRs:R.length<=10000000:=by have:=HRL.out;have:=afI.out;omega
      have s1:au N4++au im=au (N4++im):=fM _ _;have s2:au R++au (N4++im)=au (R++(N4++im)):=fM _ _
      have Uk:Hid (R++(N4++im)=n4 n++(l.take (j+1)).flatMap (fun p=>n4 p.1++p.2)):=aa (by
       rw[List.take_add_one,hlj,HR.out,Yl];simp)
      have ahR:Hid ((R++(N4++im)).length=4+(j+1)*516):=aa (by
       rw[List.length_append,List.length_append,HRL.out,l4,ag1];omega)
      have iY:(j:Int)<(K:Int):=by omega
      have hKc:(K:Int)<=(c10:Int):=by omega
      have hw9:IntKind.i64.wrap ((j:Int)+1)=(j:Int)+1:=bA _ (by omega) (by have:=afI.out;omega);clear hj bu iN hid acw hq ZF Ud VY aa_ hlj Yl hAc;go_upto_region 12 with fail;refine fK (by kernel_rfl) (by kernel_rfl) ?_;(repeat (go_big_quiet_step ((go_at_call 106;exact Calls.vD (TJ.out _)))));refine wpQuiet_nil ?_;intro _ Nf;obtain⟨⟨wq,hq⟩,jZ⟩:=Nf;change _=wq at jZ;subst jZ
      have HQX:=aa (HXJ.out.ag hq);clear hq Nh k0 s1 s2;go_wp2_with fail;go_roundg (gk-1)
      case rel=>exact⟨j+1,R++(N4++im),by have:=HJ.out;have:=mQ.out;omega,by go_num,rfl,Uk,ahR,HQX⟩
      case measure=>have:=HJ.out;have:=mQ.out;omega
     ·have hjK:j=K:=by omega
      have iC:¬((j:Int)<(K:Int)):=by omega
      have HD:Hid (Q (.returned (.tuple #[.string (au R),.map (some w.heap.size)])) wr):=aa (by
       rw[HQ.out];refine⟨⟨l,w.heap.size,?_,HLP.out.trans HPM.out,mh,abm.out.ext HXJ.out (fun h=>h),HLP.out.length_eq.symm⟩,Fy.out.ag HXJ.out⟩;have e:R=aB l:=by
        rw[HR.out,hjK,List.take_of_length_le (by have:=lL.out;have:=AJ.out;omega)];unfold aB;rw[HNK.out,lL.out,<-AJ.out]
       rw[e])
      clear hj bu hjK;go_wp2_with fail;exact HD.out
  ·obtain⟨p,hp,hpk,hpv⟩:=HM.out.pair (K3 he)
   have HE:=aa he;have HPO:=aa hp;have HPK:=aa hpk;have HPV:=aa hpv;have hrr:w.heap.size+1<wr.heap.size:=BH HR.out.it;have abY:w1.heap=wr.heap:=by rcases vk with rfl|rfl <;> rfl
   have Qz:=run_entry_at (P:=Tryz.prog) (ChangeMaps.setBlock w1 (w.heap.size+1) (.mapIter (some s.m) c (seen.push e.born) c)) (w.heap.size+1) s.m c seen es c e (FM (by rw[abY];exact hrr)) ((vU (by have:=HML.out;omega)).trans (by rw[abY];exact Fj)) (K3 he) HM.out.st.2;rw[hpk,hpv]at g_ Qz;simp only[bB.val]at g_ Qz;have HNE:=aa (UX vk (w.heap.size+1) (.mapIter (some s.m) c (seen.push e.born) c));have HIT:=aa (FM (w:=w1) (o:=.mapIter (some s.m) c (seen.push e.born) c) (by rw[abY];exact hrr));clear he hp hpk hpv hk Fj vk;go_upto_region 5 with fail;obtain⟨W3,hW3⟩:∃W3,W3=ChangeMaps.setBlock w1 (w.heap.size+1) (.mapIter (some s.m) c (seen.push e.born) c):=⟨_,rfl⟩;rw[<-hW3]at HNE HIT ⊢;have AL:=aa (ax.new W3 113 #[.int .i64 (p.2.kind:Int),.string (au p.2.body)]);have Bo:Hid (ah (On (w.heap.size+1)) wr (W3.alloc (.cells #[.int .i64 (p.2.kind:Int),.string (au p.2.body)] 113))):=aa (HNE.out.alloc _);have afJ:Hid ((W3.alloc (.cells #[.int .i64 (p.2.kind:Int),.string (au p.2.body)] 113)).heap[w.heap.size+1]?=some (.mapIter (some s.m) c (seen.push e.born) c)):=aa ((Below.heap_alloc W3 _ _ (BH HIT.out)).trans HIT.out);clear g_ Qz;generalize W3.alloc (.cells #[.int .i64 (p.2.kind:Int),.string (au p.2.body)] 113)=W5 at *;have k0:=AL.out.cell 0;have k1:=AL.out.cell 1;simp at k0 k1;have l5:=AL.out.lt;have jl:Hid (ah No w W5):=aa (HR.out.x.trans Bo.out (fun b hb e=>by have e':b=w.heap.size+1:=e;omega));obtain⟨o1,o2,o3,o4,o5⟩:=HOV.out p HPO.out;have HSL:=aa (Kh T p.1 p.2.kind p.2.body (by omega) ⟨o3,o4⟩ o5 W5 (HT.out.ext jl.out (fun h=>h)));obtain⟨im,Ud⟩:∃im,im=dY (bT T) p.1 p.2.kind p.2.body:=⟨_,rfl⟩;rw[<-Ud]at HSL;have HIM:=aa Ud;clear hW3 o1 o2 o3 o4 o5 Ud;go_wp2_with fail;refine(HSL.out).mono ?_;rintro e6 w6 ⟨rfl,kH⟩;have wP:=aa (jl.out.ag kH);have LJ:o6 (fun b=>.string (au b)) w6 w.heap.size (dP.map (pI (bT T))):=(HR.out.img.ext Bo.out (fun e=>by have e':w.heap.size=w.heap.size+1:=e;omega)).ext kH (fun h=>h);have acu:w6.heap[w.heap.size+1]?=some (.mapIter (some s.m) c (seen.push e.born) c):=(kH.block _ (BH afJ.out) (fun h=>h)).trans afJ.out;obtain⟨w7,aa4,hm7,eX,hs7⟩:=zY LJ im (HR.out.fresh HM.out HE.out HPK.out).2.2;have XI:Hid (Bj (bT T) w w7 s.m (w.heap.size+1) w.heap.size es ov c (dE ++ [e]) (dP ++ [p]) (seen.push e.born) c):=aa (HR.out.step HM.out HE.out HPO.out HPK.out HPV.out (Nat.le_refl _) ((eX.block _ (BH acu) (by intro e;have e':w.heap.size+1=w.heap.size:=e;omega)).trans acu) (by rw[HIM.out]at hm7;exact hm7) (wP.out.trans eX (fun b hb e=>by have e':b=w.heap.size:=e;omega)));clear kH LJ acu hm7 eX hs7;go_wp2_with fail;go_roundg (gk-1)
   case rel =>
    have h1:=(XI.out.len HM.out).2;rw[List.length_append,List.length_singleton]at h1;exact⟨dE ++ [e],dP ++ [p],seen.push e.born,c,by rw[List.length_append,List.length_singleton];have:=HK.out;omega,XI⟩
   case measure =>
    have h1:=(XI.out.len HM.out).2;rw[List.length_append,List.length_singleton]at h1;have:=HK.out;omega
end Go.Proofs.YtccnemmlkcmceaaGreatDoor
namespace Go.Proofs.YtccnemmlkcmceaaGreatDoor
open Go.RowKit
theorem Db.wW (cr:Bs->Nat) (s:Db) (rec:Bs):s.sync cr rec=if (je cr s.k ⟨s.ak,s.bytes,s.recs,[rec],false⟩ rec).1≠0 then ((je cr s.k ⟨s.ak,s.bytes,s.recs,[rec],false⟩ rec).1,{ s with k:=(je cr s.k ⟨s.ak,s.bytes,s.recs,[rec],false⟩ rec).2 })
  else (0,{ s with k:=(je cr s.k ⟨s.ak,s.bytes,s.recs,[rec],false⟩ rec).2,bytes:=s.bytes++aM cr rec,recs:=s.recs ++ [rec] }):=by
 unfold Db.sync je
 by_cases h1:(s.k.bV s.bytes (s.bytes++aM cr rec)).1≠0
 ·simp only[if_pos h1]
 ·simp only[if_neg h1]
theorem Dk.Ad {k:Dk}{n m:Nat}(h:k.eD n) {bytes all:Bs}(ha:all.length<=64*(m-1)):(k.bV bytes all).2.eD (n+m+1):=by
 have hl:(gD (1+bytes.length / 64) (jg ((all.length+63) / 64-bytes.length / 64) (all.drop (bytes.length / 64*64)))).length<=m:=by
  have:∀(l:List Bs) (a:Nat),(gD a l).length=l.length:=by
   intro l
   induction l with
   | nil=>intro a;rfl
   | cons b l ih=>intro a;rw[gD,List.length_cons,ih,List.length_cons]
  rw[this,jr];omega
 have h1:=(Dk.lQ (gD (1+bytes.length / 64) (jg ((all.length+63) / 64-bytes.length / 64) (all.drop (bytes.length / 64*64)))) h).mono (n':=n+m) (by omega);unfold Dk.bV;split
 ·exact h1.mono (by omega)
 ·exact Dk.nJ h1
theorem zP {cr:Bs->Nat}{k:Dk}{n m:Nat}(h:k.eD n) {l:Lg}{rec:Bs}(ha:l.bytes.length+(rec.length+8)<=64*(m-1)):(je cr k l rec).2.eD (n+m+3):=by
 have h1:=Dk.Ad (bytes:=l.bytes) (all:=l.bytes++aM cr rec) (m:=m) h (by rw[List.length_append,kX];exact ha);unfold je;split
 ·exact h1.mono (by omega)
 ·exact Dk.qI h1 _ _
theorem Dk.KT (k:Dk) (bytes all:Bs):(k.bV bytes all).2.n=k.n:=by
 unfold Dk.bV;split
 ·exact Dk.jU _ _
 ·rw[Dk.uQ];exact Dk.jU _ _
theorem wX (cr:Bs->Nat) (k:Dk) (l:Lg) (rec:Bs):(je cr k l rec).2.n=k.n:=by
 unfold je;split
 ·exact Dk.KT _ _ _
 ·rw[Dk.pM];exact Dk.KT _ _ _
theorem Db.sV {cr:Bs->Nat}{s:Db}{n:Nat}(h:s.k.eD n):(s.settle cr).2.k.eD (n+3):=by
 unfold Db.settle;split
 ·exact h.mono (by omega)
 ·have h1:=Dk.nJ h
  split
  ·exact h1.mono (by omega)
  ·split
   ·exact Dk.qI h1 _ _
   ·exact Dk.qI h1 _ _
theorem Db.Ct (cr:Bs->Nat) (s:Db):(s.settle cr).2.k.n=s.k.n:=by
 unfold Db.settle;split
 ·rfl
 ·split
  ·exact Dk.uQ _
  ·split
   ·show(Dk.aO cr _ _ _).2.n=_
    rw[Dk.pM,Dk.uQ]
   ·show(Dk.aO cr _ _ _).2.n=_
    rw[Dk.pM,Dk.uQ]
theorem Db.qC (cr:Bs->Nat) (s:Db):((s.settle cr).2.bytes=s.bytes/\(s.settle cr).2.recs=s.recs/\(s.settle cr).2.ak=s.ak\/(s.settle cr).2.bytes = []/\(s.settle cr).2.recs = []/\(s.settle cr).2.ak=s.ak+1)/\(s.settle cr).2.m=s.m/\((s.settle cr).1=0->(s.settle cr).2.recs = []):=by
 unfold Db.settle;split
 ·rename_i h;exact⟨.inl ⟨rfl,rfl,rfl⟩,rfl,fun _=>h⟩
 ·split
  ·rename_i h1 h2;exact⟨.inl ⟨rfl,rfl,rfl⟩,rfl,fun h=>absurd h h2⟩
  ·split
   ·rename_i h1 h2 h3;exact⟨.inl ⟨rfl,rfl,rfl⟩,rfl,fun h=>absurd h h3⟩
   ·exact⟨.inr ⟨rfl,rfl,rfl⟩,rfl,fun _=>rfl⟩
theorem Db.Av {cr:Bs->Nat}{s:Db}{n log:Nat}{sp:Bool}{l:List (Nat×Bs)}{m:Mt}(h:s.k.eD n) (hl:l.length<=10000) (hb:s.recs = []->s.bytes = []):(s.aV cr log sp l m).2.k.eD (n+log+100000):=by
 have t_:∀(s:Db) (n:Nat),s.k.eD n->(aB l).length+8<=s.room log->(s.keep cr log l m).2.k.eD (n+log+90000):=by
  intro s n h hr;unfold Db.room at hr;have h1:(s.sync cr (aB l)).2.k.eD (n+log+3):=by
   rw[Db.wW];have h2:=zP (cr:=cr) (m:=log) (rec:=aB l) (l:=⟨s.ak,s.bytes,s.recs,[aB l],false⟩) h (by show s.bytes.length+_<=_;omega);split
   ·exact h2
   ·exact h2
  unfold Db.keep;split
  ·exact h1.mono (by omega)
  ·refine(Dk.lQ (bI log l) h1).mono ?_
   rw[CR];omega
 unfold Db.aV;split
 ·exact h.mono (by omega)
 ·split
  ·exact h.mono (by omega)
  ·split
   ·exact h.mono (by omega)
   ·rename_i h1 h2 h3
    split
    ·rename_i h4
     have h5:=Db.sV (cr:=cr) h;split
     ·exact h5.mono (by omega)
     ·rename_i h6
      refine(t_ _ _ h5 ?_).mono (by omega);obtain⟨h7,_,h8⟩:=Db.qC cr s;have h9:=h8 (by simpa using h6);unfold Db.room;have uO:(s.settle cr).2.bytes = []:=by
       rcases h7 with ⟨a,b,_⟩|⟨a,_,_⟩
       ·rw[a];exact hb (by rw[<-b];exact h9)
       ·exact a
      rw[uO,List.length_nil];omega
    ·exact(t_ _ _ h (by omega)).mono (by omega)
theorem Dk.BX (k:Dk) (i:Nat) (s:Bs):(k.write i s).1=0\/(k.write i s).1=10:=by
 unfold Dk.write;split
 ·exact .inr rfl
 ·split
  ·exact k.uU
  ·exact .inl rfl
theorem Dk.wE (k:Dk):k.flush.1=0\/k.flush.1=10:=by
 unfold Dk.flush;split
 ·exact .inr rfl
 ·split
  ·exact k.uU
  ·exact .inl rfl
theorem Dk.sM:∀(l:List (Nat×Bs)) (k:Dk),(k.writes l).1=0\/(k.writes l).1=10
 | [],k=>.inl rfl
 | p::l,k=>by
  rw[Dk.writes];split
  ·exact k.BX p.1 p.2
  ·exact Dk.sM l _
theorem Dk.xz (cr:Bs->Nat) (k:Dk) (e len:Nat):(k.aO cr e len).1=0\/(k.aO cr e len).1=10:=by
 unfold Dk.aO;split
 ·exact k.BX _ _
 ·exact Dk.wE _
theorem J5 (cr:Bs->Nat) (k:Dk) (l:Lg) (rec:Bs):(je cr k l rec).1=0\/(je cr k l rec).1=10:=by
 have Sn:∀(k:Dk) (a b:Bs),(k.bV a b).1=0\/(k.bV a b).1=10:=fun k a b=>by
  unfold Dk.bV;split
  ·exact Dk.sM _ _
  ·exact Dk.wE _
 unfold je;split
 ·exact Sn _ _ _
 ·exact Dk.xz _ _ _ _
theorem Db.Ka (cr:Bs->Nat) (s:Db):(s.settle cr).1=0\/(s.settle cr).1=10:=by
 unfold Db.settle;split
 ·exact .inl rfl
 ·split
  ·exact Dk.wE _
  ·split
   ·exact Dk.xz _ _ _ _
   ·exact .inl rfl
structure zM (w:World) (Dd Dl:Nat->Prop) (a:sF) (T:Nat->Nat) (R:Nat×Db) (e:Ending) (w':World):Prop where
 e:e=.returned (.int .i64 (R.1:Int))
 at_:∃rR JC,aF w' rR a.d a.kb R.2.k/\(R.1≠10->fo w' rR JC a none false T R.2)/\jw w Dd rR/\jw w Dl JC
 x:ah (fun g=>Dd g\/Dl g\/g=a.x) w w'
structure Ty (s:bH) (v:V) (ov:List (Nat×bB)):Prop where
 nodup:(ov.map (·.1)).Nodup
 inn:∀i p,(i,p)∈ov->1<=i/\i<v.high
 pg:∀i,1<=i->i<v.high->(i∈ov.map (·.1)\/i<s.bh)/\v.pg i=(ov.lookup i).getD (s.base i)
theorem RI {ov:List (Nat×bB)}(hn:(ov.map (·.1)).Nodup) {p:Nat×bB}(h:p∈ov):ov.lookup p.1=some p.2:=by
 induction ov with
 | nil=>cases h
 | cons q l ih =>
  obtain⟨a,b⟩:=q;have h1:=List.nodup_cons.1 hn;rw[List.lookup_cons];rcases List.mem_cons.1 h with rfl|h
  ·simp
  ·have bQ:(p.1==a)=false:=by
    simp only[beq_eq_false_iff_ne];intro e;exact h1.1 (by rw[<-e];exact List.mem_map.2 ⟨p,h,rfl⟩)
   rw[bQ];exact ih h1.2 h
theorem Ty.leaf {s:bH}{v:V}{ov:List (Nat×bB)}(h:Ty s v ov) {p:Nat×bB}(hp:p∈ov):v.pg p.1=p.2:=by
 obtain⟨h1,h2⟩:=h.inn p.1 p.2 hp;rw[(h.pg p.1 h1 h2).2,RI h.nodup hp];rfl
theorem Ty.len {s:bH}{v:V}{ov:List (Nat×bB)}(h:Ty s v ov) (hv:v.high<=9000):ov.length<=9000:=by
 have h1:=Bt h.nodup (m:=List.range 9000) (fun a ha=>by
  obtain⟨p,hp,rfl⟩:=List.mem_map.1 ha;have:=h.inn p.1 p.2 hp
  exact List.mem_range.2 (by omega))
 rw[List.length_map,List.length_range]at h1;exact h1
structure Xr (w:World) (s:bH) (v:V) (Dd Dl:Nat->Prop) (a:sF) (T:Nat->Nat) (b:Db):Prop where
 ok:s.Ok
 tx:aD w s v
 sx:s.x=a.x
 db:fo w Dd Dl a (some ⟨s.t,0,none⟩) false T b
 tD:¬Dd s.t
 tL:¬Dl s.t
 mD:¬Dd s.m
 mL:¬Dl s.m
 mx:s.m≠a.x
 good:v.Good
 kd:v.Kd
 mt:v.mt.Ok
 near:b.k.eD (2^24)
 ep:b.ak<2^58
 rl:b.recs.length<2^15
 bf:b.bytes.length<=64*(a.log-1)
 rb:b.recs = []->b.bytes = []
 cap:a.log+v.high*8<=b.k.n
structure fG (s:bH) (v:V) (T:Nat->Nat) (ov:List (Nat×bB)) (l:List (Nat×Bs)):Prop where
 over:Ty s v ov
 perm:l.Perm (fB (bT T) v ov)
theorem fG.mem {s:bH}{v:V}{T:Nat->Nat}{ov:List (Nat×bB)}{l:List (Nat×Bs)}(h:fG s v T ov l) (hg:v.Good) (hh:1<=v.high) {p:Nat×Bs}(hp:p∈l):p.1<v.high/\p.2.length=512:=by
 have h1:=h.perm.mem_iff.1 hp;unfold fB at h1;rcases List.mem_append.1 h1 with h1|h1
 ·obtain⟨q,hq,rfl⟩:=List.mem_map.1 h1
  obtain⟨h2,h3⟩:=h.over.inn q.1 q.2 hq;obtain⟨fr,qh⟩:=hg;have h4:=qh.bd q.1 h2 h3;rw[h.over.leaf hq]at h4;exact⟨h3,jD h4⟩
 ·split at h1
  ·rw[List.mem_singleton.1 h1]
   exact⟨hh,jD (by rw[v.mt.uu];decide)⟩
  ·cases h1
theorem fG.len {s:bH}{v:V}{T:Nat->Nat}{ov:List (Nat×bB)}{l:List (Nat×Bs)}(h:fG s v T ov l) (hv:v.high<=9000):l.length<=9001:=by
 rw[h.perm.length_eq];unfold fB;rw[List.length_append,List.length_map];have:=h.over.len hv;split <;> simp <;> omega
structure Mid (w wx:World) (Dd Dl M_ Nw:Nat->Prop) (a:sF) (T:Nat->Nat) (b b1:Db) (R:Nat×Db) (l:List (Nat×Bs)) (m:Mt):Prop where
 db:fo wx M_ Nw a none false T b1
 nd:jw w Dd M_
 nl:jw w Dl Nw
 x:ah (fun g=>Dd g\/Dl g\/g=a.x) w wx
 r:R=b1.keep (bT T) a.log l m
 room:(aB l).length+8<=b1.room a.log
 near:b1.k.eD (2^25)
 ep:b1.ak<2^59
 rl:b1.recs.length<2^16
 bf:b1.bytes.length<=64*(a.log-1)
 n:b1.k.n=b.k.n
 big:(aB l).length<=65536
theorem D6 {w:World}{s:bH}{v:V}{Dd Dl:Nat->Prop}{a:sF}{T:Nat->Nat}{b:Db}(h:Xr w s v Dd Dl a T b) :
  Calls Tryz.prog 32 #[.pointer (some ⟨s.t,0,none⟩)] w fun e w'=>∃ov l,fG s v T ov l/\zM w Dd Dl a T (b.aV (bT T) a.log v.spoilt l v.mt) e w':=by
 obtain⟨Q,hQ⟩:∃Q,Q=fun(e:Ending) (w':World)=>∃ov l,fG s v T ov l/\zM w Dd Dl a T (b.aV (bT T) a.log v.spoilt l v.mt) e w':=⟨_,rfl⟩
 rw[<-hQ];have HQ:=aa hQ;have H:=aa h;obtain⟨ov,hm,acb,ad6⟩:=h.tx.mp;have HOV:Hid (Ty s v ov):=aa ⟨hm.nodup,acb,ad6⟩;have t0:w.cell? ⟨s.t,0,none⟩=some (.pointer (some ⟨s.x,0,none⟩)):=h.tx.c0;have HUP:=aa (Hm s h.ok w h.tx.db t0);have adH:w.frozen? ⟨s.x,10,none⟩=false:=by rw[h.sx];exact h.db.db.frozen 10
 have adp:=aa (aag s h.ok w v h.tx adH);obtain⟨W1,Yi⟩:∃W1,W1=w.setCell ⟨s.x,10,none⟩ (.pointer none):=⟨_,rfl⟩;rw[<-Yi]at adp;have mM:ah (On a.x) w W1:=by rw[Yi,h.sx];exact(ah.refl _ _).ay (F:=On a.x) rfl 10 _
 have htx:s.t≠a.x:=by rw[<-h.sx];exact h.ok.tx
 have afX:Hid (fo W1 Dd Dl a none false T b):=aa (by
  have hb:ax W1 a.x 131 (gu a b.m none false):=by rw[Yi,h.sx];exact h.db.db.aQ 10 (.pointer none)
  have hP:=h.db.parts
  exact⟨h.db.disk.ext mM (fun g hg e=>hP.xd (by have e':g=a.x:=e;rw[<-e'];exact hg)),h.db.o9.ext mM (fun g hg e=>hP.xl (by have e':g=a.x:=e;rw[<-e'];exact hg)),hb,h.db.half.ext mM (fun e=>hP.zx (by have e':0=a.x:=e;exact e'.symm)),hP,h.db.ll⟩)
 have Zz:ax W1 s.t 111 (v.cells s):=h.tx.tx.ext mM htx;have Et:jM W1 s.m ov:=hm.ext mM h.mx;have hcap:v.high<=8192:=by have h1:=h.tx.h2;have h2:=h.ok.n2;unfold bH.cap at h1;omega
 have ad5:∀p∈ov,1<=p.1/\p.1<10000/\1<=p.2.kind/\p.2.kind<=255/\p.2.body.length<=500:=fun p hp=>by
  obtain⟨h1,h2⟩:=acb p.1 p.2 hp;have h3:=HOV.out.leaf hp;obtain⟨fr,qh⟩:=h.good;have h4:=qh.bd p.1 h1 h2;have h5:=h.kd p.1 h1 h2;rw[h3]at h4 h5;exact⟨h1,by omega,h5.1,h5.2,h4⟩
 have HRC:=aa (NY s W1 v T ov Zz Et afX.out.half ad5 h.mt);have XD:=aa Zz;have yz:=aa mM;have TQ:=aa hcap;have agy:=Zz.lt;have tx0:w.cell? ⟨s.t,0,none⟩=some (.pointer (some ⟨a.x,0,none⟩)):=by rw[t0,h.sx]
 have Iw:=h.tx.tx.lt;clear h hm acb ad6 t0 adH Yi mM htx Zz Et hcap ad5 hQ;obtain⟨x,hx⟩:∃x,x=a.x:=⟨_,rfl⟩;rw[<-hx]at tx0;have oF:=aa hx;clear hx;go_enter Tryz.func32,Tryz.ntmps32;go_wp2_with fail;refine(HUP.out).mono ?_;rintro e w1 ⟨rfl,rfl⟩;go_wp2_with fail;refine(adp.out).mono ?_;rintro e w1 ⟨rfl,rfl⟩;clear HUP adp tx0;go_wp2_with fail;refine(HRC.out).mono ?_;rintro e w2 ⟨⟨l,g,rfl,hlp,l',qO,LG⟩,aH⟩;have HIM:Hid (fG s v T ov l):=aa ⟨HOV.out,hlp⟩;have dx:=aa aH;have rA:=aa (afX.out.no aH);have PD:=aa (XD.out.ext aH (fun h=>h));have Jy:=aa qO;have vQ:=aa LG;obtain⟨R,hR⟩:∃R,R=b.aV (bT T) a.log v.spoilt l v.mt:=⟨_,rfl⟩;have HR:=aa hR;have Yz:Hid (∀e w',zM w Dd Dl a T R e w'->Q e w'):=aa (fun e w' hc=>by rw[HQ.out];exact⟨ov,l,HIM.out,by rw[<-HR.out];exact hc⟩);have fQ:Hid (ah (fun g=>Dd g\/Dl g\/g=a.x) w w2):=aa ((yz.out.mono (fun g _ hg=>.inr (.inr hg))).ag aH.of_no);obtain⟨rec,kU⟩:∃rec,rec=aB l:=⟨_,rfl⟩;rw[<-kU];have jy:=aa kU;obtain⟨N,hN⟩:∃N,N=rec.length:=⟨_,rfl⟩;have HN:=aa hN;have t10:w2.cell? ⟨s.t,10,none⟩=some (.bool v.spoilt):=PD.out.cell 10;have ai5:=PD.out.lt;clear aH hlp qO LG hR kU hN;go_upto_block 0 with fail;have G7:Hid (R=b.aV (bT T) a.log v.spoilt l v.mt):=HR;go_cut [] (fun wx=>∃(M_ Nw:Nat->Prop) (b1:Db),Hid (Mid w wx Dd Dl M_ Nw a T b b1 R l v.mt))
 case first =>
  cases rV:v.spoilt
  ·rw[rV]at t10 G7
   have bY:=fun ty=>Cw Jy.out ty
   rw[vQ.out]at bY;obtain⟨n1,lY⟩:∃n1,n1=l.length:=⟨_,rfl⟩;rw[<-lY]at bY;have HN1:=aa lY;clear rV lY
   by_cases uN:n1=0
   ·subst uN
    have HD:Hid (Q (.returned (.int .i64 0)) w2):=aa (by
     have e:R=(0,b):=by
      have Ni:l = []:=List.eq_nil_of_length_eq_zero HN1.out.symm;rw[G7.out];unfold Db.aV;rw[if_neg (by simp),if_pos Ni]
     exact Yz.out _ _ (by rw[e];exact⟨rfl,⟨Dd,Dl,rA.out.disk,fun _=>rA.out,fun g hg=>.inl hg,fun g hg=>.inl hg⟩,fQ.out⟩))
    go_wp2_with fail;exact HD.out
   ·have bQ:((n1:Int)==0)=false:=by simpa using uN
    have YG:Hid (l ≠ []):=aa (fun e=>uN (by rw[HN1.out,e];rfl));have Et:=rA.out.o9.m1;have Al:=rA.out.o9.m2;have c2:w2.cell? ⟨x,2,none⟩=some (.int .i64 (a.log:Int)):=by rw[oF.out];exact rA.out.db.cell 2
    have c1:w2.cell? ⟨x,1,none⟩=some (.pointer (some ⟨a.l,0,none⟩)):=by rw[oF.out];exact rA.out.db.cell 1
    have BC:x<w2.heap.size:=by rw[oF.out];exact rA.out.db.lt
    have HRM:=aa (Qe rA.out.o9 rfl H.out.bf);obtain⟨B,hB⟩:∃B,B=64*(a.log-1):=⟨_,rfl⟩;obtain⟨rm,hrm⟩:∃rm,rm=B-b.bytes.length:=⟨_,rfl⟩;simp only[<-hB,<-hrm]at HRM;have HB:=aa hB;have adf:=aa hrm;obtain⟨lg,Yc⟩:∃lg,lg=a.log:=⟨_,rfl⟩;rw[<-Yc]at c2 Et Al;have T9:rec.length<9000000:=by
     rw[jy.out,nK (fun p hp=>(HIM.out.mem H.out.good H.out.tx.h1 hp).2)];have:=HIM.out.len (by have:=TQ.out;omega);omega
    have eZ:(au rec).size=N:=by rw[az,HN.out]
    obtain⟨E8,Yo⟩:∃E8,E8=N+8:=⟨_,rfl⟩;have hN9:N<9000000:=by rw[HN.out];exact T9
    have vk:IntKind.i64.wrap ((N:Int)+8)=(E8:Int):=by rw[show(N:Int)+8=(E8:Int) by omega];exact bA _ (by omega) (by omega)
    have Nc:IntKind.i64.wrap ((lg:Int)-1)=(lg:Int)-1:=bA _ (by omega) (by omega);have Iu:IntKind.i64.wrap (64*((lg:Int)-1))=(B:Int):=by rw[show 64*((lg:Int)-1)=(B:Int) by omega];exact bA _ (by omega) (by omega)
    have zH:=aa Yo;rw[az]at eZ;clear uN Et Al hB hrm Yc T9 Yo hN9
    by_cases r_:N>65536\/E8>B
    ·have HD:Hid (Q (.returned (.int .i64 7)) w2):=aa (by
      have e:R=(7,b):=by
       rw[G7.out];unfold Db.aV;rw[if_neg (by simp),if_neg YG.out,<-jy.out,<-HB.out,<-HN.out,if_pos (by rw[zH.out]at r_;exact r_)]
      exact Yz.out _ _ (by rw[e];exact⟨rfl,⟨Dd,Dl,rA.out.disk,fun _=>rA.out,fun g hg=>.inl hg,fun g hg=>.inl hg⟩,fQ.out⟩))
     by_cases hb1:N>65536
     ·have q1:(65536:Int)<(N:Int):=by omega
      clear r_ hb1;go_wp2_with fail;exact HD.out
     ·have q1:¬((65536:Int)<(N:Int)):=by omega
      have q2:(B:Int)<(E8:Int):=by omega
      clear r_ hb1;go_wp2_with fail;exact HD.out
    ·have q1:¬((65536:Int)<(N:Int)):=by omega
     have q2:¬((B:Int)<(E8:Int)):=by omega
     have X5:=aa r_;clear r_;go_wp2_with fail;refine(HRM.out).mono ?_;rintro e3 w3 ⟨rfl,bC⟩;have JA:=aa (rA.out.no bC);have qi:=aa (fQ.out.ag bC.of_no);clear bC c1 c2 q1 q2 bY Nc Iu
     by_cases AX:E8>rm
     ·have q3:(rm:Int)<(E8:Int):=by omega
      have ru:=aa (Je JA.out (H.out.near.mono (by decide)) (by have:=H.out.ep;omega) (by have:=H.out.rl;omega));obtain⟨S,hS⟩:∃S,S=b.settle (bT T):=⟨_,rfl⟩;rw[<-hS,<-oF.out]at ru;have HS:=aa hS
      have Nu:Hid (R=if S.1≠0 then S else S.2.keep (bT T) a.log l v.mt):=aa (by
       rw[G7.out];unfold Db.aV
       rw[if_neg (by simp),if_neg YG.out,<-jy.out,<-HB.out,<-HN.out,if_neg (by have:=X5.out;rw[zH.out]at this;exact this),if_pos (by unfold Db.room;rw[<-HB.out,<-adf.out];have:=zH.out;omega),<-HS.out])
      clear AX hS;go_wp2_with fail;refine(ru.out).mono ?_;rintro e4 w4 ⟨rfl,⟨TT,QC,aeA,hp4,hn4⟩,aeL,ib⟩;have HD4:=aa QC;have air:=aa aeA;have YB:=aa hp4;have HN4:=aa hn4
      have M0:Hid (jw w Dd TT):=aa (fun g hg=>by
       rcases hn4 g hg with h1|h1
       ·exact .inl h1
       ·exact .inr (by have:=qi.out.size;omega))
      have Q0:Hid (ah (fun g=>Dd g\/Dl g\/g=a.x) w w4):=aa (qi.out.ag (ib.mono (fun g _ hg=>by
       rcases hg with hg|hg
       ·exact .inl hg
       ·exact .inr (.inl hg))))
      have XQ:=aa (CJ aeL S.1);rw[<-oF.out]at XQ;clear QC aeA hp4 hn4 aeL ib;go_wp2_with fail;refine(XQ.out).mono ?_;rintro e5 w5 ⟨rfl,vK,bU⟩;have Bo:Hid (ah (fun g=>Dd g\/Dl g\/g=a.x) w w5):=aa (Q0.out.ag (bU.mono (fun g _ hg=>.inr (.inr (by have e':g=x:=hg;rw[e',oF.out])))));rw[oF.out]at vK bU;have AL:=aa vK;have jl:=aa bU;clear vK bU
      by_cases hc:S.1=0
      ·have jQ:(S.1:Int)=0:=by omega
       have h_:Hid (Mid w w5 Dd Dl TT Dl a T b S.2 R l v.mt):=aa (by
        have h1:=air.out hc;have vK:=AL.out;rw[hc]at vK;obtain⟨g1,g2,g3⟩:=Db.qC (bT T) b;rw[<-HS.out]at g1 g2 g3;have uO:S.2.bytes = []:=by
         rcases g1 with ⟨a1,a2,_⟩|⟨a1,_,_⟩
         ·rw[a1];exact H.out.rb (by rw[<-a2];exact g3 hc)
         ·exact a1
        refine⟨h1.agh vK jl.out,M0.out,fun g hg=>.inl hg,Bo.out,by rw[Nu.out,if_neg (by omega)],?_,?_,?_,?_,?_,?_,?_⟩
        ·unfold Db.room
         rw[uO,List.length_nil,<-jy.out,<-HN.out,<-HB.out];have:=X5.out;have:=zH.out;omega
        ·rw[HS.out];exact(Db.sV H.out.near).mono (by decide)
        ·have:=H.out.ep
         rcases g1 with ⟨_,_,a3⟩|⟨_,_,a3⟩ <;> rw[a3] <;> omega
        ·rw[g3 hc];decide
        ·rw[uO,List.length_nil];omega
        ·rw[HS.out];exact Db.Ct _ _
        ·rw[<-jy.out,<-HN.out];have:=X5.out;omega)
       rw[jQ];clear hc jQ;go_wp2_with fail;go_meet;exact⟨TT,Dl,S.2,h_⟩
      ·have JI:((S.1:Int) != 0)=true:=by simp;omega
       have HD:Hid (Q (.returned (.int .i64 (S.1:Int))) w5):=aa (by
        have e:R=S:=by rw[Nu.out,if_pos hc]
        have QG:S.1=10:=by
         rcases Db.Ka (bT T) b with h1|h1
         ·rw[HS.out]at hc;exact absurd h1 hc
         ·rw[HS.out];exact h1
        exact Yz.out _ _ (by
         rw[e]
         exact⟨rfl,⟨TT,Dl,HD4.out.ext jl.out (fun g hg e=>YB.out.xd (by have e':g=a.x:=e;rw[<-e'];exact hg)),fun bQ=>absurd QG bQ,M0.out,fun g hg=>.inl hg⟩,Bo.out⟩))
       clear hc;go_wp2_with fail;exact HD.out
     ·have q3:¬((rm:Int)<(E8:Int)):=by omega
      have h_:Hid (Mid w w3 Dd Dl Dd Dl a T b b R l v.mt):=aa (by
       refine⟨JA.out,fun g hg=>.inl hg,fun g hg=>.inl hg,qi.out,?_,?_,H.out.near.mono (by decide),by have:=H.out.ep;omega,by have:=H.out.rl;omega,H.out.bf,rfl,by rw[<-jy.out,<-HN.out];have:=X5.out;omega⟩
       ·rw[G7.out];unfold Db.aV
        rw[if_neg (by simp),if_neg YG.out,<-jy.out,<-HB.out,<-HN.out,if_neg (by have:=X5.out;rw[zH.out]at this;exact this),if_neg (by unfold Db.room;rw[<-HB.out,<-adf.out];have:=zH.out;omega)]
       ·unfold Db.room
        rw[<-jy.out,<-HN.out,<-HB.out,<-adf.out]
        have:=zH.out;omega)
      clear AX;go_wp2_with fail;go_meet;exact⟨Dd,Dl,b,h_⟩
  ·rw[rV]at t10 G7
   have HD:Hid (Q (.returned (.int .i64 9)) w2):=aa (by
    have e:R=(9,b):=by rw[G7.out];unfold Db.aV;rw[if_pos rfl]
    exact Yz.out _ _ (by rw[e];exact⟨rfl,⟨Dd,Dl,rA.out.disk,fun _=>rA.out,fun g hg=>.inl hg,fun g hg=>.inl hg⟩,fQ.out⟩))
   clear rV;go_wp2_with fail;exact HD.out
 case rest =>
  obtain⟨M_,Nw,b1,h_⟩:=hcut;have M:=h_.out;have Ip:rec.length<=65536:=by rw[jy.out];exact M.big
  have rG:b1.bytes.length+(rec.length+8)<=64*(a.log-1):=by have h1:=M.room;have h2:=M.bf;unfold Db.room at h1;rw[jy.out];omega
  have af_:=aa (abP M.db.o9 rfl rfl M.bf rec Ip (by show rec.length+8<=64*(a.log-1)-b1.bytes.length;omega));simp only at af_;have c1:wc.cell? ⟨x,1,none⟩=some (.pointer (some ⟨a.l,0,none⟩)):=by rw[oF.out];exact M.db.db.cell 1
  have BC:x<wc.heap.size:=by rw[oF.out];exact M.db.db.lt
  have vP:=aa (And.intro Ip rG);clear M Ip rG t10 G7;go_wp2_with fail;refine(af_.out).mono ?_;rintro e3 w3 ⟨rfl,BF,bC⟩;have G8:=aa BF;have iF:=aa bC;have hP:=h_.out.db.parts;have X6:=aa (h_.out.db.db.ext bC hP.xl);have yH:=aa (h_.out.db.disk.ext bC (fun g h1 h2=>hP.ap g h2 h1));have HT3:=aa (h_.out.db.half.ext bC hP.zl)
  have HZ3:Hid (¬bz Nw wc w3 0/\¬bz Nw wc w3 a.x):=aa ⟨fun hg=>by
   rcases hg with hg|hg
   ·exact hP.zl hg
   ·have:=oF.out;omega,fun hg=>by
   rcases hg with hg|hg
   ·exact hP.xl hg
   ·have:=oF.out;omega⟩
  have aiJ:Hid (∀g,bz Nw wc w3 g->¬M_ g):=aa (fun g hg hd=>by
   rcases hg with hg|hg
   ·exact hP.ap g hg hd
   ·have:=h_.out.db.disk.old g hd;omega)
  have c13:w3.cell? ⟨x,1,none⟩=some (.pointer (some ⟨a.l,0,none⟩)):=by rw[oF.out];exact X6.out.cell 1
  have agl:x<w3.heap.size:=by rw[oF.out];exact X6.out.lt
  have HSY:=aa (Zj G8.out yH.out HT3.out hP.zd HZ3.out.1 aiJ.out (h_.out.near.mono (by decide)) (by exact h_.out.ep) rfl rec rfl vP.out.1 vP.out.2 h_.out.db.ll (by show b1.recs.length<2^20;have:=h_.out.rl;omega) ((Dk.Ad (m:=a.log) h_.out.near (by rw[List.length_append,kX];exact vP.out.2)).mono (by have:=h_.out.db.o9.m2;omega)));simp only at HSY;obtain⟨S,hS⟩:∃S,S=je (bT T) b1.k ⟨b1.ak,b1.bytes,b1.recs,[rec],false⟩ rec:=⟨_,rfl⟩;have aeX:Calls Tryz.prog 72 #[.pointer (some ⟨a.l,0,none⟩)] w3 (Pv w3 (bz Nw wc w3) M_ a.l a.d a.log a.kb ⟨b1.ak,b1.bytes,b1.recs,[rec],false⟩ S ⟨b1.ak,b1.bytes++aM (bT T) rec,b1.recs ++ [rec],[],false⟩):=by rw[hS];exact HSY.out
  have ahJ:=aa aeX;have HS:=aa hS;have YA:=aa hP;clear BF bC hP c1 BC aeX hS HSY;go_wp2_with fail;refine(ahJ.out).mono ?_;rintro e4 w4 ⟨rfl,⟨TT,Dl4,QC,hl4,acO,n1,n2⟩,ib⟩;have HD4:=aa QC;have M4:=aa hl4;have FE:=aa acO;have HN1:=aa n1;have TK:=aa n2;have Bl:=aa ib
  have Q3:=aa (X6.out.ext ib (fun hg=>by
   rcases hg with hg|hg
   ·exact YA.out.xd hg
   ·exact HZ3.out.2 hg))
  have HT4:=aa (HT3.out.ext ib (fun hg=>by
   rcases hg with hg|hg
   ·exact YA.out.zd hg
   ·exact HZ3.out.1 hg))
  have YB:Hid (yn a TT Dl4):=aa (YA.out.newer (w:=wc) (fun g hg=>by
   rcases n1 g hg with h1|h1
   ·exact .inl h1
   ·exact .inr (by have:=iF.out.size;omega)) (fun g hg=>by
   rcases n2 g hg with (h1|h1)|h1
   ·exact .inl h1
   ·exact .inr h1.1
   ·exact .inr (by have:=iF.out.size;omega)) acO (by rw[<-oF.out];have:=h_.out.db.db.lt;rw[<-oF.out]at this;exact this))
  have M0:Hid (jw w Dd TT/\jw w Dl Dl4):=aa ⟨fun g hg=>by
   have hs:=h_.out.x.size;have OD:=iF.out.size;rcases n1 g hg with h1|h1
   ·exact h_.out.nd g h1
   ·exact .inr (by omega),fun g hg=>by
   have hs:=h_.out.x.size;have OD:=iF.out.size;rcases n2 g hg with (h1|h1)|h1
   ·exact h_.out.nl g h1
   ·exact .inr (by omega)
   ·exact .inr (by omega)⟩
  have Q0:Hid (ah (fun g=>Dd g\/Dl g\/g=a.x) w w4):=aa ((h_.out.x.trans iF.out (fun g hg h1=>by
   rcases h_.out.nl g h1 with h2|h2
   ·exact .inr (.inl h2)
   ·omega)).trans ib (fun g hg h1=>by
   have hs:=h_.out.x.size;rcases h1 with h1|h1|h1
   ·rcases h_.out.nd g h1 with h2|h2
    ·exact .inl h2
    ·omega
   ·rcases h_.out.nl g h1 with h2|h2
    ·exact .inr (.inl h2)
    ·omega
   ·omega))
  have XQ:=aa (CJ Q3.out S.1);rw[<-oF.out]at XQ;clear QC hl4 acO n1 n2 ib c13 agl;go_wp2_with fail;refine(XQ.out).mono ?_;rintro e5 w5 ⟨rfl,vK,bU⟩;have Bo:Hid (ah (fun g=>Dd g\/Dl g\/g=a.x) w w5):=aa (Q0.out.ag (bU.mono (fun g _ hg=>.inr (.inr (by have e':g=x:=hg;rw[e',oF.out])))));rw[oF.out]at vK bU;have jl:=aa bU;have HD5:=aa (HD4.out.ext bU (fun g hg e=>YB.out.xd (by have e':g=a.x:=e;rw[<-e'];exact hg)))
  by_cases hc:S.1=0
  ·have HSC:=aa hc
   have jQ:(S.1:Int)=0:=by omega
   rw[hc]at vK;have AL:Hid (ax w5 a.x 131 (gu a b1.m none false)):=aa vK;have hnt:¬(fun g=>Dd g\/Dl g\/g=a.x) s.t:=fun hg=>by
    rcases hg with hg|hg|hg
    ·exact H.out.tD hg
    ·exact H.out.tL hg
    ·exact H.out.ok.tx (by rw[H.out.sx];exact hg)
   have MV:=aa (H.out.tx.tx.ext Bo.out hnt);have y1:w5.cell? ⟨s.t,1,none⟩=some (.int .i64 (v.r 0:Int)):=MV.out.cell 1;have y2:w5.cell? ⟨s.t,2,none⟩=some (.int .i64 (v.r 1:Int)):=MV.out.cell 2;have y3:w5.cell? ⟨s.t,3,none⟩=some (.int .i64 (v.r 2:Int)):=MV.out.cell 3;have y4:w5.cell? ⟨s.t,4,none⟩=some (.int .i64 (v.r 3:Int)):=MV.out.cell 4;have y5:w5.cell? ⟨s.t,5,none⟩=some (.int .i64 (v.high:Int)):=MV.out.cell 5;have y6:w5.cell? ⟨s.t,6,none⟩=some (.int .i64 (v.free:Int)):=MV.out.cell 6;have y7:w5.cell? ⟨s.t,7,none⟩=some (.int .i64 (v.cnt:Int)):=MV.out.cell 7;have wN:ax w5 x 131 (gu a b1.m none false):=by rw[oF.out];exact vK
   have z3:=wN.cell 3;have z4:=wN.cell 4;have z5:=wN.cell 5;have z6:=wN.cell 6;have z7:=wN.cell 7;have z8:=wN.cell 8;have z9:=wN.cell 9;simp[gu]at z3 z4 z5 z6 z7 z8 z9;have fz:=wN.frozen;have agk:=wN.lt;have ai4:=MV.out.lt;rw[jQ];clear hc jQ hnt vK bU wN;go_upto_region 22 with fail;obtain⟨W6,Fp⟩:∃W6,W6=(((((((w5.setCell ⟨x,3,none⟩ (.int .i64 (v.r 0:Int))).setCell ⟨x,4,none⟩ (.int .i64 (v.r 1:Int))).setCell ⟨x,5,none⟩ (.int .i64 (v.r 2:Int))).setCell ⟨x,6,none⟩ (.int .i64 (v.r 3:Int))).setCell ⟨x,7,none⟩ (.int .i64 (v.high:Int))).setCell ⟨x,8,none⟩ (.int .i64 (v.free:Int))).setCell ⟨x,9,none⟩ (.int .i64 (v.cnt:Int))):=⟨_,rfl⟩;rw[<-Fp];have DK:ah (On a.x) w5 W6:=by
    rw[Fp,oF.out];exact(((((((ah.refl _ _).ay (F:=On a.x) rfl 3 _).ay (F:=On a.x) rfl 4 _).ay (F:=On a.x) rfl 5 _).ay (F:=On a.x) rfl 6 _).ay (F:=On a.x) rfl 7 _).ay (F:=On a.x) rfl 8 _).ay (F:=On a.x) rfl 9 _
   have Ha:Hid (ax W6 a.x 131 (gu a v.mt none false)):=aa (by
    rw[Fp,oF.out]
    exact((((((AL.out.aQ 3 (.int .i64 (v.r 0:Int))).aQ 4 (.int .i64 (v.r 1:Int))).aQ 5 (.int .i64 (v.r 2:Int))).aQ 6 (.int .i64 (v.r 3:Int))).aQ 7 (.int .i64 (v.high:Int))).aQ 8 (.int .i64 (v.free:Int))).aQ 9 (.int .i64 (v.cnt:Int)))
   have hxd:∀g,TT g->¬On a.x g:=fun g hg e=>YB.out.xd (by have e':g=a.x:=e;rw[<-e'];exact hg)
   have Ov:∀g,Dl4 g->¬On a.x g:=fun g hg e=>YB.out.xl (by have e':g=a.x:=e;rw[<-e'];exact hg)
   have wJ:¬On a.x 0:=fun e=>YB.out.zx (by have e':0=a.x:=e;exact e'.symm)
   have HD6:=aa (HD5.out.ext DK hxd);have HL6:=aa (((M4.out HSC.out).ext jl.out Ov).ext DK Ov);have HT6:=aa ((HT4.out.ext jl.out wJ).ext DK wJ);have Bn:Hid (ah (fun g=>Dd g\/Dl g\/g=a.x) w W6):=aa (Bo.out.ag (DK.mono (fun g _ hg=>.inr (.inr hg))));have hl6:∀p∈l,a.log+p.1*8+8<=S.2.n/\p.2.length=512:=fun p hp=>by
    obtain⟨h1,h2⟩:=HIM.out.mem H.out.good H.out.tx.h1 hp;refine⟨?_,h2⟩;rw[HS.out,wX,h_.out.n];have:=H.out.cap;omega
   have HRE:=aa (Kn HD6.out (by have:=Ha.out.cell 0;exact this) (by have:=Ha.out.cell 2;exact this) YB.out.xd (N:=2^25+a.log+3) (by rw[HS.out];exact zP h_.out.near (by exact vP.out.2)) (by have:=h_.out.db.o9.m2;omega) l hl6 h_.out.big);obtain⟨K,hK⟩:∃K,K=S.2.writes (bI a.log l):=⟨_,rfl⟩;rw[<-hK,<-jy.out,<-oF.out]at HRE;have HK:=aa hK;have ai1:x<W6.heap.size:=by rw[oF.out];exact Ha.out.lt
   clear y1 y2 y3 y4 y5 y6 y7 z3 z4 z5 z6 z7 z8 z9 fz agk Fp DK hxd Ov wJ hl6 hK;go_wp2_with fail;refine(HRE.out).mono ?_;rintro e7 w7 ⟨rfl,hd7,eX⟩;have HD7:=aa hd7;have nS:=aa eX;have JB:=aa (Ha.out.ext eX YB.out.xd);have HL7:=aa (HL6.out.ext eX FE.out);have FB:=aa (HT6.out.ext eX YB.out.zd);have afC:=aa (CJ JB.out K.1);rw[<-oF.out]at afC;clear hd7 eX;go_wp2_with fail;refine(afC.out).mono ?_;rintro e8 w8 ⟨rfl,hb8,kK⟩
   have HD:Hid (Q (.returned (.int .i64 (K.1:Int))) w8):=aa (by
    rw[oF.out]at hb8 kK;have e:R=(K.1,{ b1 with k:=K.2,bytes:=b1.bytes++aM (bT T) rec,recs:=b1.recs ++ [rec],m:=v.mt }):=by
     rw[h_.out.r];unfold Db.keep;have hn:¬(S.1≠0):=fun h=>h HSC.out
     rw[Db.wW,<-jy.out,<-HS.out,if_neg hn];rw[if_neg (by simp),<-HK.out]
    have ahk:∀g,Dl4 g->¬bz TT W6 w7 g:=fun g hg hd=>by
     rcases hd with hd|hd
     ·exact FE.out g hg hd
     ·have:=HL6.out.old g hg;omega
    have hP7:yn a (bz TT W6 w7) Dl4:=YB.out.newer (w:=W6) (fun g hg=>by
     rcases hg with hg|hg
     ·exact .inl hg
     ·exact .inr hg.1) (fun g hg=>.inl hg) ahk Ha.out.lt
    have agn:∀g,bz TT W6 w7 g->¬On a.x g:=fun g hg e=>hP7.xd (by have e':g=a.x:=e;rw[<-e'];exact hg)
    have hd8:=HD7.out.ext kK agn
    have Yo:ah (fun g=>Dd g\/Dl g\/g=a.x) w w8:=(Bn.out.trans nS.out (fun g hg h1=>by
     rcases M0.out.1 g h1 with h2|h2
     ·exact .inl h2
     ·omega)).ag (kK.mono (fun g _ hg=>.inr (.inr hg)))
    exact Yz.out _ _ (by
     rw[e];refine⟨rfl,⟨bz TT W6 w7,Dl4,hd8,fun bQ=>?_,fun g hg=>?_,M0.out.2⟩,Yo⟩
     ·have h0:K.1=0:=by
       rcases Dk.sM (bI a.log l) S.2 with h1|h1
       ·rw[HK.out];exact h1
       ·rw[<-HK.out]at h1;exact absurd h1 bQ
      rw[h0]at hb8;refine⟨hd8,HL7.out.ext kK (fun g hg e=>hP7.xl (by have e':g=a.x:=e;rw[<-e'];exact hg)),hb8,FB.out.ext kK (fun e=>hP7.zx (by have e':0=a.x:=e;exact e'.symm)),hP7,?_⟩;show a.log<=K.2.n;rw[HK.out,Dk.jU,HS.out,wX];exact h_.out.db.ll
     ·rcases hg with hg|hg
      ·exact M0.out.1 g hg
      ·exact .inr (by have:=Bn.out.size;omega)))
   clear hb8 kK;go_wp2_with fail;exact HD.out
  ·have JI:((S.1:Int) != 0)=true:=by simp;omega
   have HD:Hid (Q (.returned (.int .i64 (S.1:Int))) w5):=aa (by
    have e:R=(S.1,{ b1 with k:=S.2 }):=by
     rw[h_.out.r];unfold Db.keep;rw[Db.wW,<-jy.out,<-HS.out,if_pos hc,if_pos hc]
    have QG:S.1=10:=by
     rcases J5 (bT T) b1.k ⟨b1.ak,b1.bytes,b1.recs,[rec],false⟩ rec with h1|h1
     ·rw[HS.out]at hc;exact absurd h1 hc
     ·rw[HS.out];exact h1
    exact Yz.out _ _ (by
     rw[e]
     exact⟨rfl,⟨TT,Dl4,HD5.out,fun bQ=>absurd QG bQ,M0.out.1,M0.out.2⟩,Bo.out⟩))
   clear hc vK bU;go_wp2_with fail;exact HD.out
def iw (a:sF) (Dd Dl:Nat->Prop) (T:Nat->Nat) (b:Db) (base:Nat->bB) (t m:Nat):bH :=
 ⟨a.d,a.x,t,m,⟨a.kb,0,none⟩,b.k.n,a.log,fun w=>fo w Dd Dl a (some ⟨t,0,none⟩) false T b,b.m.high,base,fun id=>au (aJ b.k.cur a.log id)⟩
def zC (cr:Bs->Nat) (f:Nat->Bs) (high:Nat) (pg:Nat->bB):Prop:=∀i,1<=i->i<high->f i=dY cr i (pg i).kind (pg i).body/\1<=(pg i).kind/\(pg i).kind<=255/\(pg i).body.length<=500
theorem Mq {w0:World}{a:sF}{Dd Dl:Nat->Prop}{T:Nat->Nat}{b:Db}{base:Nat->bB}{t m:Nat}{o:Option Addr}(h:fo w0 Dd Dl a o false T b) (ht:w0.heap.size<=t) (hm:w0.heap.size<=m) (hd:b.k.down=false) (tV:b.k.pd.length<2^30) (hcap:a.log+b.m.high*8<=b.k.n) (hk:zC (bT T) (aJ b.k.cur a.log) b.m.high base):(iw a Dd Dl T b base t m).Ok:=by
 have BC:=h.db.lt;have hdl:=h.disk.old;have tZ:=h.o9.old;have h0:0<w0.heap.size:=World.block_lt_of_cell? w0 _ (h.half.cell 0 (by decide));have hF:∀g,g<w0.heap.size->¬(iw a Dd Dl T b base t m).F g:=fun g hg hf=>by
  rcases hf with hf|hf
  ·have:g=t:=hf
   omega
  ·have:g=m:=hf
   omega
 have vo:=h.disk.n2;refine⟨fun w w' hx hw=>fo.ext hw hx (fun g hg=>hF g (hdl g hg)) (fun g hg=>hF g (tZ g hg)) (hF _ BC) (hF 0 h0),fun w hw=>(fo.db hw).cell 0,fun w hw=>(fo.db hw).cell 2,fun w hw=>(fo.db hw).cell 10,fun w hw=>(fo.db hw).cell 11,fun w hw=>?_,fun w hw=>?_,?_,?_,h.disk.n1,vo,h.ll,fun w id hw h1 h2=>?_,fun w id hw h1 h2=>?_⟩
 ·obtain⟨A,c,_,c0,_⟩:=(fo.disk hw).c
  exact c0
 ·obtain⟨A,c,_,_,_,c2,_⟩:=(fo.disk hw).c
  rw[hd]at c2;exact c2
 ·show t≠a.x;omega
 ·show t≠a.d
  have:=hdl _ h.disk.dd;omega
 ·exact yT hw id (by have h3:id<b.m.high:=h2;omega) tV hd
 ·obtain⟨k1,k2,k3,k4⟩:=hk id h1 h2
  show Calls Tryz.prog 85 #[.int .i64 (id:Int),.string (au (aJ b.k.cur a.log id))] w _;rw[k1];exact yO T id (base id).kind (base id).body (by have h3:id<b.m.high:=h2;omega) ⟨k2,k3⟩ k4 w (fo.half hw)
def Mt.v (m:Mt) (pg:Nat->bB):V:=⟨m.r,m.high,m.free,m.cnt,pg,false,false⟩
theorem MI {w:World}{a:sF}{Dd Dl:Nat->Prop}{T:Nat->Nat}{b:Db}(base:Nat->bB) (h:fo w Dd Dl a none false T b) (hd:b.k.down=false) (h1:1<=b.m.high) (hcap:a.log+b.m.high*8<=b.k.n) (hc:b.m.cnt<=b.m.high) :
  Calls Tryz.prog 33 #[.pointer (some ⟨a.x,0,none⟩)] w fun e w'=>e=.returned (.tuple #[.pointer (some ⟨w.heap.size+1,0,none⟩),.int .i64 0]) /\
   aD w' (iw a Dd Dl T b base (w.heap.size+1) w.heap.size) (b.m.v base)/\ah (On a.x) w w':=by
 have hn:1<=b.k.n:=h.disk.n1
 have HU:Hid (Calls Tryz.prog 74 #[.pointer (some ⟨a.x,0,none⟩)] w fun e w'=>e=.returned (.int .i64 0)/\w=w'):=aa (by
  obtain⟨A,c,_,c0,_,c2,_⟩:=h.disk.c;have:=He a.x a.d b.k.n ⟨a.kb,0,none⟩ w b.k.down false c0 hn c2 (h.db.cell 0) (h.db.cell 11);rw[hd]at this
  exact this)
 have hx:=h.db;obtain⟨y0,y1,y2,y3,y4,y5,y6,y7,y8,y9,y10,y11⟩:w.cell? ⟨a.x,0,none⟩=_/\w.cell? ⟨a.x,1,none⟩=_/\w.cell? ⟨a.x,2,none⟩=_/\w.cell? ⟨a.x,3,none⟩=_/\w.cell? ⟨a.x,4,none⟩=_/\w.cell? ⟨a.x,5,none⟩=_/\w.cell? ⟨a.x,6,none⟩=_/\w.cell? ⟨a.x,7,none⟩=_/\w.cell? ⟨a.x,8,none⟩=_/\w.cell? ⟨a.x,9,none⟩=_/\w.cell? ⟨a.x,10,none⟩=_/\w.cell? ⟨a.x,11,none⟩=_ :=
  ⟨hx.cell 0,hx.cell 1,hx.cell 2,hx.cell 3,hx.cell 4,hx.cell 5,hx.cell 6,hx.cell 7,hx.cell 8,hx.cell 9,hx.cell 10,hx.cell 11⟩
 simp[gu]at y0 y1 y2 y3 y4 y5 y6 y7 y8 y9 y10 y11;have fz:=hx.frozen;have lx:=hx.lt;have H:=aa h;have H1:=aa h1;have TQ:=aa hcap;have HC:=aa hc;have OL:∀w,(Instr.makeMap 109 none).run Tryz.prog w=.ok (.map (some w.heap.size)) (w.alloc (.map #[] 0)):=fun w=>rfl
 clear h hx h1 hcap hc hn;obtain⟨x,hxe⟩:∃x,x=a.x:=⟨_,rfl⟩;rw[<-hxe]at HU y0 y1 y2 y3 y4 y5 y6 y7 y8 y9 y10 y11 lx ⊢;have fz2:∀i,w.frozen? ⟨x,i,none⟩=false:=by rw[hxe];exact fz
 have oF:=aa hxe;clear hxe fz;go_enter Tryz.func33,Tryz.ntmps33;go_wp2_with fail;refine(HU.out).mono ?_;rintro e w1 ⟨rfl,rfl⟩;go_wp2_with fail;go_ret2;obtain⟨u,hu⟩:∃u,u=w.setCell ⟨x,10,none⟩ (.pointer (some ⟨w.heap.size+1,0,none⟩)):=⟨_,rfl⟩;rw[<-hu];have sj:ah (On x) w u:=by rw[hu];exact(ah.refl (On x) w).ay (F:=On x) rfl _ _
 have OA:u.heap.size=w.heap.size:=by rw[hu];simp[World.setCell]
 obtain⟨cs,xK⟩:∃cs,cs=(b.m.v base).cells (iw a Dd Dl T b base (w.heap.size+1) w.heap.size):=⟨_,rfl⟩;have hE:ah (On x) w ((u.alloc (.map #[] 0)).alloc (.cells cs 111)):=(sj.alloc _).alloc _;rw[xK]at hE;have mM:ah No u ((u.alloc (.map #[] 0)).alloc (.cells cs 111)):=((ah.refl No u).alloc _).alloc _;rw[xK]at mM;have hx:=H.out;have hP:=hx.parts;have hb:ax u a.x 131 (gu a b.m (some ⟨w.heap.size+1,0,none⟩) false):=by rw[hu,oF.out];exact hx.db.aQ 10 _
 rw[oF.out]at hE;have Dz:∀w',w'=((u.alloc (.map #[] 0)).alloc (.cells ((b.m.v base).cells (iw a Dd Dl T b base (w.heap.size+1) w.heap.size)) 111))->aD w' (iw a Dd Dl T b base (w.heap.size+1) w.heap.size) (b.m.v base)/\ah (On x) w w':=by
  rintro w' rfl;refine⟨⟨?_,⟨?_,?_,hb.ext mM (fun h=>h),?_,hP,hx.ll⟩,H1.out,?_,Nat.le_refl _,HC.out,[],⟨by simp,#[],0,?_,rfl,by simp[oW]⟩,by simp,?_⟩,by rw[oF.out];exact hE⟩
  ·have:=ax.new (u.alloc (.map #[] 0)) 111 ((b.m.v base).cells (iw a Dd Dl T b base (w.heap.size+1) w.heap.size))
   have e:(u.alloc (.map #[] 0)).heap.size=w.heap.size+1:=by simp[OA]
   rw[e]at this;exact this
  ·exact hx.disk.ext hE (fun g hg e=>hP.xd (by have e':g=a.x:=e;rw[<-e'];exact hg))
  ·exact hx.o9.ext hE (fun g hg e=>hP.xl (by have e':g=a.x:=e;rw[<-e'];exact hg))
  ·exact hx.half.ext hE (fun e=>hP.zx (by have e':0=a.x:=e;exact e'.symm))
  ·show b.m.high<=(b.k.n-a.log) / 8
   have:=TQ.out;omega
  ·have h1:(u.alloc (.map #[] 0)).heap[w.heap.size]?=some (.map #[] 0):=by rw[<-OA];exact heap_alloc_new u _
   exact(Below.heap_alloc _ _ _ (by show w.heap.size<_;simp[OA])).trans h1
  ·intro i h1 h2
   exact⟨.inr h2,rfl⟩
 refine⟨rfl,?_⟩;exact Dz _ (by rw[oF.out];rfl)
def iq (n:Nat):Db:=⟨⟨n,fun _=>zs 64,[],false,false,0,0⟩,0,[],[],⟨fun _=>0,1,0,0⟩⟩
theorem kF.at_ {w:World}{kb d l x n log:Nat}{o:Option Addr}{T:Nat->Nat}(h:kF w kb d l x n log o) (hT:gJ w T) (h1:1<=n) (h2:n<=65536) (h3:2<=log) (h4:log<=n):fo w (fun g=>g=d\/g=kb) (fun g=>g=l) ⟨d,kb,x,l,log⟩ o false T (iq n):=by
 have e1:d≠kb:=h.disk.UZ h.kept (by decide);have e2:l≠d:=h.o9.UZ h.disk (by decide);have e3:l≠kb:=h.o9.UZ h.kept (by decide);have e4:x≠d:=h.db.UZ h.disk (by decide);have e5:x≠kb:=h.db.UZ h.kept (by decide);have e6:x≠l:=h.db.UZ h.o9 (by decide);have c0:=hT.cell 0 (by decide);have z1:d≠0:=fun e=>by
  have:=h.disk.cell 0;rw[e,c0]at this;simp[dU]at this
 have z2:kb≠0:=fun e=>by
  have:=zm h.kept (j:=0) (by omega);rw[e,c0]at this;simp at this
 have z3:l≠0:=fun e=>by
  have:=h.o9.cell 0;rw[e,c0]at this;simp[gM]at this
 have z4:x≠0:=fun e=>by
  have:=h.db.cell 0;rw[e,c0]at this;simp[iZ]at this
 refine⟨⟨⟨none,0,h.disk,World.ownsRow_nil _ _ _ _,fun g hg=>by cases hg⟩,⟨_,h.kept,by simp[madeCells,iq],fun i hi j hj=>?_⟩,fun i _=>ni 64,fun p hp=>(by cases hp),.inl rfl,.inr rfl,e1,fun b hb=>?_,h1,h2⟩,
  ⟨⟨none,0,none,0,none,0,h.o9,⟨World.ownsRow_nil _ _ _ _,fun g hg=>by cases hg⟩,⟨World.ownsRow_nil _ _ _ _,fun g hg=>by cases hg⟩,⟨World.ownsRow_nil _ _ _ _,fun g hg=>by cases hg⟩,fun g hg=>by cases hg⟩,rfl,fun b hb=>?_,h3,?_⟩,h.db,hT,⟨?_,?_,?_,?_,?_,z4⟩,h4⟩
 ·have hl:i*64+j<n*64:=by
   have h5:i<n:=hi;omega
  rw[<-h.kept.cell (i*64+j),zm h.kept hl];show _=some (Value.int .u8 (((zs 64).getD j 0).toNat:Int));have hz:(zs 64)[j]?=some 0:=by unfold zs;rw[List.getElem?_replicate,if_pos hj]
  rw[List.getD_eq_getElem?_getD,hz];rfl
 ·have xL:b=d\/b=kb:=hb
  rcases xL with rfl|rfl
  ·exact h.disk.lt
  ·exact h.kept.lt
 ·have xL:b=l:=hb
  subst xL;exact h.o9.lt
 ·show log<=65536;omega
 ·intro g hg hd
  have qO:g=l:=hg;subst qO;rcases hd with hd|hd
  ·exact e2 hd
  ·exact e3 hd
 ·intro hd
  rcases hd with hd|hd
  ·exact e4 hd
  ·exact e5 hd
 ·exact e6
 ·intro hd
  rcases hd with hd|hd
  ·exact z1 hd.symm
  ·exact z2 hd.symm
 ·intro hd
  have Gf:0=l:=hd;exact z3 Gf.symm
theorem P7 (gx:Value) (w:World) :
  Calls Tryz.prog 61 #[gx,.int .i64 0] w fun e w'=>e=.returned (.int .i64 0)/\w=w':=by
 go_enter Tryz.func61,Tryz.ntmps61;go_wp2_with fail;go_ret;exact⟨rfl,rfl⟩
theorem J9 (s:bH) (hs:s.Ok) (w:World) (v:V) (h:aD w s v) (gx i:Nat) (hx:ax w gx 70 (av s i)) (k:Nat) (hk:k≠0) :
  Calls Tryz.prog 61 #[.pointer (some ⟨gx,0,none⟩),.int .i64 (k:Int)] w fun e w'=>e=.returned (.int .i64 (k:Int))/\aD w' s v.kI/\ah s.F w w':=by
 have HS:=aa (Rk s hs w v h);have c0:=hx.cell 0;simp[av]at c0;have mW:((k:Int) != 0)=true:=by simpa using (by omega:¬(k:Int)=0)
 clear h hx hk;go_enter Tryz.func61,Tryz.ntmps61;go_wp2_with fail;refine(HS.out).mono ?_;rintro e' w1 ⟨rfl,hT,aT⟩;go_wp2_with fail;go_ret;exact⟨rfl,hT,aT⟩
def Ez (s:bH) (w:World) (r:Nat×V) (e:Ending) (w':World):Prop:=e=.returned (.int .i64 (r.1:Int))/\aD w' s r.2/\r.2.Good/\ah s.F w w'
def zL (s:bH) (root:Nat) (v:V) (ws:List dN) (n:Nd):Prop :=
 ∀(w:World) (gx:Nat) (F:Nat->Prop) (A:Option Addr) (cap:Nat) (l:List (dN×jT)) (a:jT),aD w s v->v.Good->ax w gx 70 (av s root)->(∀b,s.F b->F b)->kE w F A cap l->l.map (·.1)=ws->aU w F a n->n.fits ->
  Calls Tryz.prog 100 #[.pointer (some ⟨gx,0,none⟩),.slice A ws.length cap,n.value a.A1 a.c1 a.A2 a.c2 a.A3 a.c3] w (Ez s w (V.grow s.cap root ws.reverse n v))
theorem aac {cap root:Nat}{ws:List dN}{st:dN}{n:Nd}{v:V}(h:ws.getLast?=some st) (hn:(v.wr st.id n).1≠3):V.grow cap root ws.reverse n v=v.wr st.id n:=by
 have:ws.reverse=st::ws.reverse.tail:=by
  have h2:ws.reverse.head?=some st:=by rw[List.head?_reverse];exact h
  cases hr:ws.reverse with
  | nil=>rw[hr]at h2;simp at h2
  | cons a l=>rw[hr]at h2;simp at h2;subst h2;rfl
 rw[this,V.grow,if_pos hn]
theorem Wz (s:bH) (hs:s.Ok) (root:Nat) (v:V) (ws:List dN) (n:Nd) (st:dN) (hl:ws.getLast?=some st) (hw:(v.wr st.id n).1≠3):zL s root v ws n:=by
 intro w gx F A cap l a h hg hx hF jB Fa hn hf;rw[aac hl hw];have gX:∃m,ws.length=m+1:=by cases hz:ws.length <;> simp_all
 obtain⟨m,gX⟩:=gX;obtain⟨p,hp,dI⟩:=uL Fa gX;obtain⟨st',ad⟩:=p;have:st'=st:=by rw[hl]at dI;simp at dI;exact dI.symm
 subst this;obtain⟨b,o,hA,JK,q0,q1,q2,q3,q4,q5⟩:=jB.at hp;simp only at q0;subst hA;have lb:=World.block_lt_of_cell? w _ q0;simp only at lb;have hcap:m+1<=cap:=by
  have:=jB.cap;have h2:l.length=m+1:=by rw[<-gX,<-Fa,List.length_map]
  omega
 rw[gX];have HW:=aa (fun o=>qw s hs (w.alloc o) v (h.no hs ((ah.refl No w).alloc o)) hg gx root (hx.alloc o) st'.id n F _ _ _ _ _ _ (hn.box o) hf);have HWD:=aa (fun o=>qw s hs (w.alloc o).drew v (h.no hs ((ah.refl No w).alloc o).drew) hg gx root (hx.alloc o) st'.id n F _ _ _ _ _ _ (hn.ext ((ah.refl _ w).alloc o).drew) hf);obtain⟨r,hr⟩:∃r,r=v.wr st'.id n:=⟨_,rfl⟩;rw[<-hr]at HW HWD hw ⊢;have Nf:((r.1:Int) != 3)=true:=by simpa using (by omega:¬(r.1:Int)=3)
 have LB:m<65536:=by
  have:=jB.len;have h2:l.length=m+1:=by rw[<-gX,<-Fa,List.length_map]
  omega
 simp only[Nd.value]at HW HWD ⊢;generalize n.cells.length=nl at *;generalize n.keys.length=kl at *;generalize n.kids.length=il at *;generalize st'.id=sid at *;clear hp dI jB Fa hn hf hx hg h hl q1 q2 q3 q4 q5 gX hw JK hr;go_enter Tryz.func100,Tryz.ntmps100;go_wp2_with fail;go_loopg [7] 0 (fun gk k wr=>k=.int .i64 (m:Int)/\wr=w.alloc (.cells #[.bool n.leaf,.slice a.A1 nl a.c1,.slice a.A2 kl a.c2,.slice a.A3 il a.c3] 40))
 case atStart=>exact⟨by go_num,rfl⟩
 case round =>
  obtain⟨rfl,rfl⟩:=hrel;have ajq:(m:Int)<(m:Int)+1:=by omega
  have bn:=ax.new w 40 #[.bool n.leaf,.slice a.A1 nl a.c1,.slice a.A2 kl a.c2,.slice a.A3 il a.c3];obtain⟨p0,p1,p2,p3,g0,g1,g2,g3,ln⟩:=bn.p4;have q0':=aj ((ah.refl No w).alloc (.cells #[.bool n.leaf,.slice a.A1 nl a.c1,.slice a.A2 kl a.c2,.slice a.A3 il a.c3] 40)) q0 (fun h=>h);have uB:=aa (((ah.refl s.F w).alloc (.cells #[.bool n.leaf,.slice a.A1 nl a.c1,.slice a.A2 kl a.c2,.slice a.A3 il a.c3] 40)).drew);clear q0 bn;go_wp2_with fail
  go_region_law ((go_simp;go_at_call 141;refine(HWD.out _).mono ?_;rintro e w2 ⟨rfl,hT,hG,aH⟩;have HT:=aa hT;have HG:=aa hG;have HX:=aa aH;clear hT hG aH))
  all_goals (
   go_wp2_with fail;go_ret
   exact⟨rfl,HT.out,HG.out,uB.out.ag HX.out⟩)
def MR (s:bH) (v:V) (key val:Bs):Prop :=
 (v.aI s.cap key val).1.fits/\∀(w:World) (gx root:Nat),aD w s v->v.Good->ax w gx 70 (av s root) ->
  Calls Tryz.prog 97 #[.pointer (some ⟨gx,0,none⟩),.string (au key),.string (au val)] w fun e w'=>e=.returned (.tuple #[(v.aI s.cap key val).1.agg,.int .i64 ((v.aI s.cap key val).2.1:Int)]) /\
   aD w' s (v.aI s.cap key val).2.2/\(v.aI s.cap key val).2.2.Good/\ah s.F w w'
theorem KQ (s:bH) (hs:s.Ok) (v:V) (key val:Bs) (hl:3+key.length+val.length<=160):MR s v key val:=by
 have e:v.aI s.cap key val=(⟨key,val,0,0⟩,0,v):=by unfold V.aI;rw[if_pos hl]
 unfold MR;rw[e];refine⟨⟨by simp only;omega,by simp only;omega,by simp,by simp⟩,fun w gx root h hg hx=>?_⟩;exact(Pj key val _ w hl).mono fun e w' ⟨h1,h2⟩=>⟨h1,h.no hs h2,hg,h2.of_no⟩
theorem V.D8 {v:V}(h:v.Good) {cap:Nat}(h1:v.high<=cap) (h2:cap<=65536):(v.alloc cap).1<=65536:=by
 obtain⟨l,h⟩:=h;unfold V.alloc;split
 ·split
  ·simp
  ·simp only;omega
 ·rename_i hf
  obtain⟨l',rfl⟩:=h.cons hf;have:=(h.mem v.free).2 (by simp);simp only;omega
theorem V.DN {v:V}(h:v.Good) {cap:Nat}(h1:v.high<=cap) (h2:cap<=65536) (n:Nd):(v.fresh cap n).1<=65536:=by
 have:=V.D8 h h1 h2;unfold V.fresh;split
 ·exact this
 ·simp
theorem Nd.UL {n:Nd}{c:aA}(h:n.fits) (hc:c.fits):(n.put c).fits:=by
 refine⟨fun d hd=>?_,h.k,h.i⟩;simp only[Nd.put]at hd;rcases List.mem_append.1 hd with hd|hd
 ·exact h.c d (List.mem_of_mem_take hd)
 ·rcases List.mem_cons.1 hd with rfl|hd
  ·exact hc
  ·exact h.c d (List.mem_of_mem_drop hd)
theorem gB.of {w:World}{s:bH}{v:V}(h:aD w s v):∀b,s.F b->gB w b:=fun b hb=>h.old hb
theorem Rx (s:bH) (hs:s.Ok) (w:World) (v:V) (h:aD w s v) (hg:v.Good) (gx i:Nat) (hx:ax w gx 70 (av s i)) (hi:i<4) (key val:Bs) (hw:v.way i key=none) :
  Calls Tryz.prog 62 #[.pointer (some ⟨gx,0,none⟩),.string (au key),.string (au val)] w (Ez s w (5,v)):=by
 have HW:=aa (lh s hs w v h hg gx i hx hi key);have HT:=aa (fun(w':World) (e:ah No w w')=>h.no hs e);have HG:=aa hg;rw[hw]at HW;clear h hg hx hw;go_enter Tryz.func62,Tryz.ntmps62;go_wp2_with fail;refine(HW.out).mono ?_;rintro e' w2 ⟨aH,rfl⟩;go_wp2_with fail;go_ret;exact⟨rfl,HT.out _ aH,HG.out,aH.of_no⟩
theorem Y4 (s:bH) (hs:s.Ok) (w:World) (v:V) (h:aD w s v) (hg:v.Good) (gx i:Nat) (hx:ax w gx 70 (av s i)) (hi:i<4) (key val:Bs) (ws:List dN) (hw:v.way i key=some ws)
  (hM:MR s v key val) (he:(v.aI s.cap key val).2.1≠0) :
  Calls Tryz.prog 62 #[.pointer (some ⟨gx,0,none⟩),.string (au key),.string (au val)] w (Ez s w (v.aI s.cap key val).2):=by
 have HW:=aa (lh s hs w v h hg gx i hx hi key);have HM:=aa (fun w' (e:ah No w w')=>hM.2 w' gx i (h.no hs e) hg (hx.ext e (fun h=>h)));rw[hw]at HW;generalize v.aI s.cap key val=r at *;obtain⟨c,k,v1⟩:=r;simp only at he HM ⊢;have Fg:((k:Int) != 0)=true:=by simpa using (by omega:¬(k:Int)=0)
 simp only[aA.agg]at HM;clear h hg hx hw hM he;go_enter Tryz.func62,Tryz.ntmps62;go_wp2_with fail;refine(HW.out).mono ?_;rintro e' w2 ⟨aH,A,cap,l,hl,rfl,jB⟩;clear hl;go_wp2_with fail;refine(HM.out _ aH).mono ?_;rintro e' w3 ⟨rfl,hT,hG,bC⟩;go_wp2_with fail;go_ret;exact⟨rfl,hT.no hs ((ah.refl _ _).alloc _),hG,(aH.of_no.ag bC).alloc _⟩
theorem EJ {w:World}{b:Nat}{c:aA}{F:Nat->Prop}(h:ax w b 45 #[.string (au c.key),.string (au c.val),.int .i64 (c.over:Int),.int .i64 (c.len:Int)]) (hb:¬F b) :
  aW w F (some ⟨b,0,none⟩) 1 none 0 none 0 ⟨true,[c],[],[]⟩:=by
 refine⟨⟨rfl,fun _=>⟨b,0,rfl,hb,fun j u hu=>?_⟩⟩,Rd.lV _,Rd.lV _,by simp,by simp,by simp,by simp,by simp,by simp,(fun h=>by cases h),(fun _=>rfl),(fun _=>rfl)⟩;rw[Nat.zero_add,h.cell j];simpa[aC,aA.vals]using hu
theorem CF (s:bH) (hs:s.Ok) (w:World) (v:V) (h:aD w s v) (hg:v.Good) (gx i:Nat) (hx:ax w gx 70 (av s i)) (hi:i<4) (key val:Bs) (hw:v.way i key=some [])
  (hM:MR s v key val) (he:(v.aI s.cap key val).2.1=0) :
  Calls Tryz.prog 62 #[.pointer (some ⟨gx,0,none⟩),.string (au key),.string (au val)] w (Ez s w (v.fP s.cap i key val)):=by
 have HW:=aa (lh s hs w v h hg gx i hx hi key);have HM:=aa (fun w' (e:ah No w w')=>hM.2 w' gx i (h.no hs e) hg (hx.ext e (fun h=>h)));have Fh:=hM.1;obtain⟨D,hD⟩:∃D,D=v.fP s.cap i key val:=⟨_,rfl⟩;rw[<-hD];unfold V.fP at hD;rw[hw]at HW hD;simp only[he,ne_eq,not_true,if_false,List.getLast?_nil]at hD;have wQ:=aa (fun(w':World) (e:ah s.F w w')=>dS h hx e);generalize v.aI s.cap key val=r at *;obtain⟨c,k,v1⟩:=r;simp only at he HM hD Fh;subst he;simp only[aA.agg]at HM;have HCF:=aa Fh;have HD:=aa hD;have kL:=hx.lt;clear h hg hx hw hM hD Fh;go_enter Tryz.func62,Tryz.ntmps62;go_wp2_with fail;refine(HW.out).mono ?_;rintro e' w2 ⟨aH,A,cap,l,hl,rfl,jB⟩;clear hl jB;simp only[List.length_nil];go_wp2_with fail;refine(HM.out _ aH).mono ?_;rintro e' w3 ⟨rfl,hT,hG,bC⟩;have qi:=aa (aH.of_no.ag bC);have HT:=aa hT;have HG:=aa hG;clear hT hG aH bC;have xN:ah No w3 ((w3.alloc (.cells #[.string (au c.key),.string (au c.val),.int .i64 (c.over:Int),.int .i64 (c.len:Int)] 45)).alloc (.cells #[.string (au c.key),.string (au c.val),.int .i64 (c.over:Int),.int .i64 (c.len:Int)] 45)):=((ah.refl No w3).alloc _).alloc _;have SB:=HT.out.no hs xN;have bU:=wQ.out _ (qi.out.ag xN.of_no);have vK:ax ((w3.alloc (.cells #[.string (au c.key),.string (au c.val),.int .i64 (c.over:Int),.int .i64 (c.len:Int)] 45)).alloc (.cells #[.string (au c.key),.string (au c.val),.int .i64 (c.over:Int),.int .i64 (c.len:Int)] 45)) (w3.heap.size+1) 45 #[.string (au c.key),.string (au c.val),.int .i64 (c.over:Int),.int .i64 (c.len:Int)] :=
  ax.aS (b:=w3.heap.size+1) (w3.alloc _) 45 _ (by simp)
 have OJ:=EJ (F:=s.F) vK (fun h=>by have:=HT.out.old h;omega);have Ey:=aa (zg s hs _ v1 SB HG.out gx i bU ⟨true,[c],[],[]⟩ s.F _ _ _ _ _ _ OJ ⟨by simpa using HCF.out,by simp,by simp⟩ (fun _ h=>h));have hid:=V.DN HG.out HT.out.h2 (bH.oQ hs) ⟨true,[c],[],[]⟩;have Bo:=aa (qi.out.ag xN.of_no);clear xN SB bU vK OJ;simp only[Nd.value,List.length_cons,List.length_nil]at Ey;obtain⟨R,hR⟩:∃R,R=v1.fresh s.cap ⟨true,[c],[],[]⟩:=⟨_,rfl⟩;rw[<-hR]at Ey hid;have hD:=HD.out;rw[<-hR]at hD;clear HD hR;obtain⟨id,k2,v2⟩:=R;simp only at Ey hid hD
 by_cases lJ:k2=0
 ·subst lJ
  simp only[ne_eq,not_true,if_false]at hD;have HD:=aa hD;have QZ:=aa hid;clear hD hid;go_wp2_with fail;refine(Ey.out).mono ?_;rintro e' w6 ⟨rfl,hT6,hG6,kH⟩;have DK:=Bo.out.ag kH;have eX:=wQ.out _ DK;have c0:=eX.cell 0;have c1:=eX.cell 1;simp[av]at c0 c1;have HSR:=aa (nY s hs w6.drew v2 (hT6.no hs (ah.refl No w6).drew) i id hi (by have:=QZ.out;omega));have HG6:=aa hG6;have Bn:=aa DK;clear hT6 hG6 kH DK eX;go_wp2_with fail
  go_region_law ((go_simp;go_at_call 21;refine(HSR.out).mono ?_;rintro e w7 ⟨rfl,Wu,eX⟩;have FB:=aa Wu;have nS:=aa eX;clear Wu eX))
  all_goals (
   go_wp2_with fail;go_ret;rw[HD.out]
   exact⟨rfl,FB.out,HG6.out.eU _ _,Bn.out.drew.ag nS.out⟩)
 ·simp only[ne_eq,lJ,not_false_eq_true,if_true]at hD
  have HD:=aa hD;have aep:((k2:Int) != 0)=true:=by simpa using (by omega:¬(k2:Int)=0)
  clear hD hid lJ;go_wp2_with fail;refine(Ey.out).mono ?_;rintro e' w6 ⟨rfl,hT6,hG6,kH⟩;go_wp2_with fail;go_ret;rw[HD.out];exact⟨rfl,hT6,hG6,Bo.out.ag kH⟩
theorem ax.p6 {w:World}{b:Nat}{t:TypeId}{a0 a1 a2 a3 a4 a5:Value}(h:ax w b t #[a0,a1,a2,a3,a4,a5]) :
  w.cell? ⟨b,0,none⟩=some a0/\w.cell? ⟨b,1,none⟩=some a1/\w.cell? ⟨b,2,none⟩=some a2/\w.cell? ⟨b,3,none⟩=some a3/\w.cell? ⟨b,4,none⟩=some a4/\w.cell? ⟨b,5,none⟩=some a5/\b<w.heap.size :=
 ⟨h.cell 0,h.cell 1,h.cell 2,h.cell 3,h.cell 4,h.cell 5,h.lt⟩
theorem L9 (s:bH) (hs:s.Ok) (w wT:World) (v:V) (hT:aD wT s v) (hg:v.Good) (gx i:Nat) (hx:ax wT gx 70 (av s i)) (ws:List dN) (st:dN) (dI:ws.getLast?=some st) (c:aA) (Fh:c.fits)
  (A:Option Addr) (cap:Nat) (l:List (dN×jT)) (hl:l.map (·.1)=ws) (jB:kE wT (gB w) A cap l) (ad:jT) (hn:aU wT (gB w) ad st.n) (aX:st.n.ok=true) (bL:st.n.leaf=true) (hO:∀b,s.F b->gB w b) (hE:ah s.F w wT)
  (hG:zL s i v ws (st.n.put c)) :
  Calls Tryz.prog 101 #[st.n.value ad.A1 ad.c1 ad.A2 ad.c2 ad.A3 ad.c3,c.agg] wT fun e w8=>∃a:jT,e=.returned ((st.n.put c).value a.A1 a.c1 a.A2 a.c2 a.A3 a.c3) /\
   Calls Tryz.prog 100 #[.pointer (some ⟨gx,0,none⟩),.slice A ws.length cap,(st.n.put c).value a.A1 a.c1 a.A2 a.c2 a.A3 a.c3] w8 (Ez s w (V.grow s.cap i ws.reverse (st.n.put c) v)):=by
 have Aq:=Nd.Ok.of aX;obtain⟨h1,h2⟩:=Aq.lf bL;refine(Y2 st.n c wT (gB w) _ _ _ _ _ _ hn bL h1 h2 (Nd.Ok.jW aX) (by have:=Aq.a1;omega)).mono ?_;rintro e w8 ⟨kK,A1,c1,A2,c2,A3,c3,rfl,Qu⟩;have eZ:=hE.size;refine⟨⟨A1,c1,A2,c2,A3,c3⟩,rfl,?_⟩;refine(hG w8 gx (gB w) A cap l ⟨A1,c1,A2,c2,A3,c3⟩ (hT.no hs kK) hg (hx.ext kK (fun h=>h)) hO (jB.ext kK.of_no) hl (Qu.mono (fun b _ hb=>Nat.lt_of_lt_of_le hb eZ)) (Nd.UL (Nd.Ok.fits Aq) Fh)).mono ?_;rintro e w9 ⟨he,LZ,Nr,jO⟩;exact⟨he,LZ,Nr,(hE.ag kK.of_no).ag jO⟩
theorem Kr (s:bH) (hs:s.Ok) (w:World) (v:V) (h:aD w s v) (hg:v.Good) (gx i:Nat) (hx:ax w gx 70 (av s i)) (hi:i<4) (key val:Bs) (ws:List dN) (hw:v.way i key=some ws) (st:dN) (dw:ws.getLast?=some st)
  (hM:MR s v key val) (he:(v.aI s.cap key val).2.1=0) (hh:hit ws key=none) (hGr:zL s i (v.aI s.cap key val).2.2 ws (st.n.put (v.aI s.cap key val).1)) :
  Calls Tryz.prog 62 #[.pointer (some ⟨gx,0,none⟩),.string (au key),.string (au val)] w (Ez s w (V.grow s.cap i ws.reverse (st.n.put (v.aI s.cap key val).1) (v.aI s.cap key val).2.2)):=by
 have HW:=aa (lh s hs w v h hg gx i hx hi key);have HM:=aa (fun w' (e:ah No w w')=>hM.2 w' gx i (h.no hs e) hg (hx.ext e (fun h=>h)));have HCF:=aa hM.1;have wQ:=aa (fun(w':World) (e:ah s.F w w')=>dS h hx e);have HO:=aa (gB.of h);have Ul:=aa hGr;have Fz:=aa (sO hw);have ru:=aa dw;have HH:=aa hh;rw[hw]at HW;generalize v.aI s.cap key val=r at *;obtain⟨c,k,v1⟩:=r;simp only at he HM HCF Ul ⊢;subst he;simp only[aA.agg]at HM;have gX:∃m,ws.length=m+1:=by cases hz:ws.length <;> simp_all
 obtain⟨m,gX⟩:=gX;have LB:m<=40:=by have:=Fz.out.len;omega
 have o7:=aa gX;clear h hg hx hw hM hGr dw hh gX;go_enter Tryz.func62,Tryz.ntmps62;go_wp2_with fail;refine(HW.out).mono ?_;rintro e' w2 ⟨aH,A,cap,l,hl,rfl,jB⟩;have HL:=aa hl;have Ex:=aa jB;rw[o7.out];clear hl jB;go_wp2_with fail;refine(HM.out _ aH).mono ?_;rintro e' w3 ⟨rfl,hT,hG,bC⟩;have ze:=Ex.out.ext (bC.mono fun b _ hb=>HO.out b hb);have qi:=aa (aH.of_no.ag bC);have HT:=aa hT;have HG:=aa hG;obtain⟨p,hp,dI⟩:=uL HL.out o7.out;obtain⟨st',ad⟩:=p;have agA:st'=st:=by have:=ru.out;rw[dI]at this;simpa using this
 subst agA;obtain⟨b,o,rfl,JK,q0,q1,q2,q3,q4,q5⟩:=ze.at hp;have cu:=ze.nodes (st',ad) (List.mem_of_getElem? hp);simp only at q0 q1 q2 q3 q4 q5 cu;have bL:=Fz.out.last st' dI;obtain⟨gN,yY⟩:=Fz.out.all st' (List.mem_of_getLast? dI);have aX:=V.bM gN;have Fb:st'.i<=st'.n.cells.length:=by rw[yY];exact(Nd.uR aX key).1 bL
 have gH:=Dv dI key;rw[HH.out]at gH;have HN:=aa cu;have XN:=aa aX;have Ef:=aa bL;have aaA:=aa ze;have lb:=World.block_lt_of_cell? w3 _ q0;simp only at lb;have hcap:m+1<=cap:=by
  have:=ze.cap;have h2:l.length=m+1:=by rw[<-o7.out,<-HL.out,List.length_map]
  omega
 have rZ:=cu.l1;have hb1:=cu.b1;have yV:w.heap.size<=w3.heap.size:=qi.out.size;obtain⟨W,hW⟩:∃W,W=(w3.alloc (.cells #[.string (au c.key),.string (au c.val),.int .i64 (c.over:Int),.int .i64 (c.len:Int)] 45)).alloc (.cells #[.int .i64 (st'.id:Int),.bool st'.n.leaf,.slice ad.A1 st'.n.cells.length ad.c1,.slice ad.A2 st'.n.keys.length ad.c2,.slice ad.A3 st'.n.kids.length ad.c3,.int .i64 (st'.i:Int)] 125):=⟨_,rfl⟩;have jR:ah No w3 W:=by rw[hW];exact((ah.refl No w3).alloc _).alloc _
 have uz:=aa (L9 s hs w W v1 (HT.out.no hs jR) HG.out gx i (wQ.out _ (qi.out.ag jR.of_no)) ws st' ru.out c HCF.out _ cap l HL.out (aaA.out.ext jR.of_no) ad (HN.out.ext jR.of_no) XN.out Ef.out HO.out (qi.out.ag jR.of_no) Ul.out);rw[o7.out]at uz;have BU:=aa (qi.out.ag jR.of_no);subst hW;have HPV:st'.n.value ad.A1 ad.c1 ad.A2 ad.c2 ad.A3 ad.c3=.agg #[.bool st'.n.leaf,.slice ad.A1 st'.n.cells.length ad.c1,.slice ad.A2 st'.n.keys.length ad.c2,.slice ad.A3 st'.n.kids.length ad.c3]:=rfl;rw[HPV]at uz;simp only[aA.agg]at uz;rw[bL]at uz q1;clear HPV dI hp aH bC hT hG ze yY gN JK jR aX bL;rcases Nat.lt_or_ge st'.i st'.n.cells.length with bu|iC
 ·obtain⟨d,hd⟩:∃d,st'.n.cells[st'.i]?=some d:=⟨_,List.getElem?_eq_getElem bu⟩
  obtain⟨cb,co,mY,_,k0,k1,k2,k3⟩:=cu.cells.cellAt hd;have lc:=World.block_lt_of_cell? w3 _ k0;simp only at lc;rw[mY]at q2 uz;rw[hd]at gH;simp only at gH;have Np:(d.key==key)=false:=by
   by_cases hk:d.key=key
   ·rw[if_pos hk]at gH;cases gH
   ·simpa using hk
  have iY:(st'.i:Int)<(st'.n.cells.length:Int):=by omega
  clear hd cu mY Fb gH;generalize st'.i=si at *;generalize st'.n.cells.length=cl at *;generalize st'.n.keys.length=kl at *;generalize st'.n.kids.length=il at *;generalize st'.id=sid at *;go_wp2_with fail;refine uz.out.mono ?_;rintro e w8 ⟨a,rfl,PM⟩;have PM:=aa PM;go_wp2_with fail;refine PM.out.mono ?_;rintro e w9 ⟨rfl,LZ,Nr,jO⟩;go_wp2_with fail;go_ret;exact⟨rfl,LZ,Nr,jO⟩
 ·have ajx:¬((st'.i:Int)<(st'.n.cells.length:Int)):=by omega
  clear cu gH Fb iC;generalize st'.i=si at *;generalize st'.n.cells.length=cl at *;generalize st'.n.keys.length=kl at *;generalize st'.n.kids.length=il at *;generalize st'.id=sid at *;go_wp2_with fail;refine uz.out.mono ?_;rintro e w8 ⟨a,rfl,PM⟩;have PM:=aa PM;go_wp2_with fail;refine PM.out.mono ?_;rintro e w9 ⟨rfl,LZ,Nr,jO⟩;go_wp2_with fail;go_ret;exact⟨rfl,LZ,Nr,jO⟩
theorem aax (s:bH) (hs:s.Ok) (w:World) (v:V) (h:aD w s v) (hg:v.Good) (gx i:Nat) (hx:ax w gx 70 (av s i)) (key val:Bs) (hm:iE key val≠0) :
  Calls Tryz.prog 25 #[.pointer (some ⟨gx,0,none⟩),.string (au key),.string (au val)] w (Ez s w (iE key val,v)):=by
 have HM:=aa (xw s hs w v h gx i hx key val);have HT:=aa (fun(w':World) (e:ah No w w')=>h.no hs e);have HG:=aa hg;have hm':((iE key val:Int) != 0)=true:=by simpa using (by omega:¬(iE key val:Int)=0)
 generalize iE key val=k at *;clear h hg hx hm;go_enter Tryz.func25,Tryz.ntmps25;go_wp2_with fail;refine(HM.out).mono ?_;rintro e' w1 ⟨rfl,aT⟩;go_wp2_with fail;go_ret;exact⟨rfl,HT.out _ aT,HG.out,aT.of_no⟩
theorem Xu (s:bH) (hs:s.Ok) (w:World) (v:V) (h:aD w s v) (hg:v.Good) (gx i:Nat) (hx:ax w gx 70 (av s i)) (key val:Bs) (hm:iE key val=0)
  (hP:∀w',ah No w w'->Calls Tryz.prog 62 #[.pointer (some ⟨gx,0,none⟩),.string (au key),.string (au val)] w' (Ez s w' (v.fP s.cap i key val))) :
  Calls Tryz.prog 25 #[.pointer (some ⟨gx,0,none⟩),.string (au key),.string (au val)] w (Ez s w (v.Put s.cap i key val)):=by
 have HM:=aa (xw s hs w v h gx i hx key val);have HP:=aa hP;have HX:=aa (fun(w':World) (e:ah s.F w w')=>dS h hx e);have e:v.Put s.cap i key val=V.sure (v.fP s.cap i key val):=by simp[V.Put,hm]
 rw[e];rw[hm]at HM;obtain⟨r,hr⟩:∃r,r=v.fP s.cap i key val:=⟨_,rfl⟩;rw[<-hr]at HP ⊢;clear h hg hx hm hP e hr;obtain⟨k,v2⟩:=r
 by_cases hk:k=0
 ·subst hk
  have e:V.sure (0,v2)=(0,v2):=rfl;rw[e];clear e;have HS:=aa (P7 (.pointer (some ⟨gx,0,none⟩)));go_enter Tryz.func25,Tryz.ntmps25;go_wp2_with fail;refine(HM.out).mono ?_;rintro e' w1 ⟨rfl,aT⟩;go_wp2_with fail;refine(HP.out _ aT).mono ?_;rintro e' w2 ⟨rfl,hT,hG,aH⟩;go_wp2_with fail;refine(HS.out _).mono ?_;rintro e' w3 ⟨rfl,rfl⟩;go_wp2_with fail;go_ret;exact⟨rfl,hT,hG,aT.of_no.ag aH⟩
 ·have e:V.sure (k,v2)=(k,v2.kI):=by simp[V.sure,hk]
  rw[e];clear e;have HS:=aa (fun w' (hT:aD w' s v2) hX=>J9 s hs w' v2 hT gx i hX k hk);clear hk;go_enter Tryz.func25,Tryz.ntmps25;go_wp2_with fail;refine(HM.out).mono ?_;rintro e' w1 ⟨rfl,aT⟩;go_wp2_with fail;refine(HP.out _ aT).mono ?_;rintro e' w2 ⟨rfl,hT,hG,aH⟩;go_wp2_with fail;refine(HS.out _ hT (HX.out _ (aT.of_no.ag aH))).mono ?_;rintro e' w3 ⟨rfl,Yj,bC⟩;go_wp2_with fail;go_ret;exact⟨rfl,Yj,hG.kI,(aT.of_no.ag aH).ag bC⟩
end Go.Proofs.YtccnemmlkcmceaaGreatDoor
