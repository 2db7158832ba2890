/- Proofs about the given program, joined out of the texts LG8, PB1, PB2, PB3, PB4, PB5, PB6, RC1, RC2, OP5, OP4. -/
import Derived.Test.YtccnemmlkcmceaaGreatDoorHL8
import Derived.Test.YtccnemmlkcmceaaGreatDoorHL9
set_option linter.unusedVariables false
set_option linter.unusedSimpArgs false
set_option maxRecDepth 100000
set_option maxHeartbeats 6400000
namespace Go.Proofs.YtccnemmlkcmceaaGreatDoor
open Go.RowKit
theorem QV.part {w:World}{D:Nat->Prop}{x n c:Nat}{e:TypeId}{A:Option Addr}{xs:List Value}(h:QV w D x e (.slice A n c) n xs) (h1:∀u∈xs,u.oneCell'=true):dC.Ok w 1 ⟨A,n,c,xs⟩ :=
 ⟨(Rd.jf h.row (by decide)).mono (by decide) (fun b _ hb=>hb.elim),dA h.row,h1,dX h.row⟩
theorem sW {w:World}{base n c:Nat}{e:TypeId}{A:Option Addr}{xs:List Value}(h:w.ownsRow base e 1 (.slice A n c) n xs) (hn:0<n):∃g,A=some ⟨g,0,none⟩/\base<=g/\g<w.heap.size/\n<=c/\∀j u,xs[j]?=some u->w.cell? ⟨g,j,none⟩=some u:=by
 rcases h.2 with ⟨h0,_⟩|⟨g,cap,cur,e1,hb,hg,OI,_⟩
 ·cases h0;omega
 ·injection e1 with e1 e2 e3
  subst e1;refine⟨g,rfl,hb,?_,by omega,fun j u hu=>?_⟩
  ·rcases Nat.lt_or_ge g w.heap.size with h1|h1
   ·exact h1
   ·rw[Array.getElem?_eq_none h1]at hg;cases hg
  ·have:=h.cells (g:=g) rfl j u hu
   rw[Addr.iP,Nat.zero_add]at this;exact this
theorem RH {w:World}{base n:Nat}{e:TypeId}{v:Value}{xs:List Value}(h:w.ownsRow base e 1 v n xs):w.ownsRow 0 e 1 v n xs:=by
 refine⟨h.1,?_⟩;rcases h.2 with h0|⟨g,cap,cur,e1,hb,r⟩
 ·exact .inl h0
 ·exact .inr ⟨g,cap,cur,e1,Nat.zero_le _,r⟩
def jw (w:World) (D D':Nat->Prop):Prop:=∀b,D' b->D b\/w.heap.size<=b
def je (cr:Bs->Nat) (k:Dk) (l:Lg) (rec:Bs):Nat×Dk :=
 if (k.bV l.bytes (l.bytes++aM cr rec)).1≠0 then k.bV l.bytes (l.bytes++aM cr rec)else (k.bV l.bytes (l.bytes++aM cr rec)).2.aO cr l.ak (l.bytes++aM cr rec).length
structure Pv (w:World) (D Dd:Nat->Prop) (x d m kb:Nat) (l:Lg) (R:Nat×Dk) (l9:Lg) (e:Ending) (w':World):Prop where
 e:e=.returned (.int .i64 (R.1:Int))
 at_:∃rR D',aF w' rR d kb R.2/\(R.1=0->dW w' D' x d m l9)/\(∀b,D' b->¬rR b)/\jw w Dd rR/\jw w D D'
 x:ah (fun b=>Dd b\/D b) w w'
theorem Zj {w:World}{D Dd:Nat->Prop}{x d m kb:Nat}{l:Lg}{k:Dk}{T:Nat->Nat}(h:dW w D x d m l) (hd:aF w Dd d kb k) (hT:gJ w T) (h0:¬Dd 0) (h0':¬D 0) (xM:∀b,D b->¬Dd b) (hk:k.eD (2^27)) (he:l.ak<2^59) (hl:l.lost=false) (rec:Bs) (hp:l.pend = [rec])
  (T9:rec.length<=65536) (gP:l.bytes.length+(rec.length+8)<=64*(m-1)) (Ua:m<=k.n) (Si:l.recs.length<2^20) (VR:(k.bV l.bytes (l.bytes++aM (bT T) rec)).2.eD (2^29)) :
  Calls Tryz.prog 72 #[.pointer (some ⟨x,0,none⟩)] w (Pv w D Dd x d m kb l (je (bT T) k l rec) { l with bytes:=l.bytes++aM (bT T) rec,recs:=l.recs ++ [rec],pend:=[] }):=by
 obtain⟨F,hF⟩:∃F,F=aM (bT T) rec:=⟨_,rfl⟩;have hFl:F.length=rec.length+8:=by rw[hF];simp only[aM,List.length_append,bX];omega
 have Ey:=aa (fun w hT=>Vb T w hT rec (by omega));rw[<-hF]at Ey;obtain⟨all,fF⟩:∃all,all=l.bytes++F:=⟨_,rfl⟩;have ZZ:all.length=l.bytes.length+F.length:=by rw[fF,List.length_append]
 obtain⟨S,hS⟩:∃S,S=k.bV l.bytes all:=⟨_,rfl⟩;obtain⟨R,hR⟩:∃R,R=je (bT T) k l rec:=⟨_,rfl⟩;have hR2:R=if S.1≠0 then S else S.2.aO (bT T) l.ak all.length:=by rw[hR];unfold je;rw[<-hF,<-fF,<-hS]
 rw[<-hF,<-fF,<-hS]at VR;rw[<-hR];obtain⟨l9,h9⟩:∃l9:Lg,l9 = { l with bytes:=l.bytes++aM (bT T) rec,recs:=l.recs ++ [rec],pend:=[] }:=⟨_,rfl⟩;rw[<-h9];rw[<-hF,<-fF]at h9;have H9:=aa h9;obtain⟨Q,hQ⟩:∃Q,Q=Pv w D Dd x d m kb l R l9:=⟨_,rfl⟩;rw[<-hQ];have HQ:=aa hQ;have HU:=aa (U9 h);rw[hl]at HU;obtain⟨Ab,cb,Ar,cr,Ap,cp,hb,ob,or_,op,hdj⟩:=h.cells;have aeP:l.bytes.length<5000000:=by have:=h.m2;omega
 have G_:=aa (MC ⟨Ab,l.bytes.length,cb,dn l.bytes⟩ w (ob.part (fun u hu=>Jn u hu)) aeP);simp only[dC.v]at G_;rw[hp]at op;obtain⟨gp,hAp,_,ajw,_,aes⟩:=sW op.row (by simp);subst hAp;have HPC:Hid (w.cell? ⟨gp,0,none⟩=some (.string (au rec))):=aa (aes 0 _ rfl);have c4:w.cell? ⟨x,4,none⟩=some (.slice Ab l.bytes.length cb):=hb.cell 4;have c6:w.cell? ⟨x,6,none⟩=some (.slice (some ⟨gp,0,none⟩) l.pend.length cp):=hb.cell 6;rw[hp]at c6;have BC:=hb.lt;have HC6:=aa c6;have HL:=aa h;have HD:=aa hd;have HT:=aa hT;have H0:=aa h0;have H0':=aa h0';have Q4:=aa xM;have HK:=aa hk;have HE:=aa he;have lL:=aa hl;have HP:=aa hp;have HN:=aa VR;have Uk:=aa hR2;have HSS:=aa hS;have aiK:=aa fF;have wG:Hid (all.length<=64*(m-1)/\all.length=l.bytes.length+F.length/\F.length=rec.length+8/\rec.length<=65536/\m<=k.n/\m<=65536/\l.recs.length<2^20/\2<=m):=aa ⟨by omega,ZZ,hFl,T9,Ua,h.m2,Si,h.m1⟩;have hcp:1<=cp:=dX op.row;obtain⟨i0,mi,eQ,fe,eP⟩:=info_parts Tryz.Ot;obtain⟨L,hL⟩:∃L,L=l.bytes.length:=⟨_,rfl⟩;have afF:=aa hL;rw[<-hL]at G_ c4 aeP;clear h hd hT h0 h0' xM hk he hl hp T9 gP Ua Si VR hR hR2 hS fF ZZ hFl hF h9 hQ hb ob or_ op hdj aes hL;go_enter Tryz.func72,Tryz.ntmps72;go_wp2_with fail;refine(HU.out).mono ?_;rintro e w1 ⟨rfl,rfl⟩;go_wp2_with fail;refine(G_.out).mono ?_;rintro e w1 ⟨A1,c1,rfl,nA,aT⟩;have Nv:=aa nA;have gK:=aa aT;have c61:=aj aT HC6.out (fun h=>h);have adO:x<w1.heap.size:=by have:=aT.size;omega
 clear nA aT c4 c6 G_ HU;go_wp2_with fail;go_loopg [4,30] 1 (fun gk q4 q30 wr=>∃(j n c:Nat) (A:Option Addr) (bs:Bs),j+gk=1/\q30=.int .i64 (j:Int)/\q4=.slice A n c/\Hid (n=bs.length)/\Hid (wr.ownsRow w.heap.size 5 1 (.slice A n c) n (dn bs))/\Hid (ah No w wr)/\Hid (bs=if j=0 then l.bytes else all))
 case atStart=>exact⟨0,L,c1,A1,l.bytes,by omega,rfl,rfl,afF,Nv,gK,aa rfl⟩
 case round =>
  obtain⟨j,n,c,A,bs,hj,rfl,rfl,Jt,TE,HX,yI⟩:=hrel
  by_cases hj0:j=0
  ·subst hj0
   have hg:gk=1:=by omega
   subst hg;have k0:=aj HX.out HPC.out (fun h=>h);have kL:=World.block_lt_of_cell? wr _ k0;simp only at kL;have ail:=aa (Ey.out wr (HT.out.ext HX.out (fun h=>h)));have oN:n<5000000:=by rw[Jt.out,yI.out,if_pos rfl];have:=afF.out;omega
   have yF:F.length<100000:=by have:=wG.out;omega
   clear hj;go_wp2_with fail;refine(ail.out).mono ?_;rintro e w2 ⟨rfl,aH⟩;have dx:=aa (HX.out.ag aH);have aft:=aa (lH TE.out aH (fun _ _ h=>h));have OB:=dx.out.size;clear aH k0;go_wp2_with (at_builtin;refine Lib.wpList_append_own_string _ (by rfl) _ _ 98 9 (by rfl) w.heap.size 5 i0 Tryz.underlying98 Tryz.underlying9 mi eQ fe eP (.slice A n c) n (dn bs) (by rfl) aft.out (au F) (by rfl) (by rw[az];unfold maxLen;omega) (by rw[az];omega) OB ?_);intro v' w3 iJ hg3 _;obtain⟨A3,c3,hv⟩:=jo iJ;subst hv;have iF:=aa (dx.out.grown hg3 (fU aft.out (Nat.le_refl _)));rw[qB]at iJ;obtain⟨n3,VT⟩:∃n3,n3=n+F.length:=⟨_,rfl⟩;have HN3:Hid (n3=all.length):=aa (by have h1:=yI.out;simp only[if_true]at h1;rw[VT,Jt.out,h1];exact wG.out.2.1.symm);rw[<-VT]at iJ ⊢
   have XO:Hid (w3.ownsRow w.heap.size 5 1 (.slice A3 n3 c3) n3 (dn all)):=aa (by
    have e:dn bs++dn F=dn all:=by have h1:=yI.out;simp only[if_true]at h1;rw[<-iO,h1,aiK.out]
    rw[<-e];exact iJ)
   clear iJ hg3 VT;go_wp2_with fail;go_roundg 0
   case rel=>exact⟨1,n3,c3,A3,all,by omega,by go_num,rfl,HN3,XO,iF,aa rfl⟩
   case measure=>omega
  ·have hj1:j=1:=by omega
   subst hj1;have hn:n=all.length:=by rw[Jt.out,yI.out,if_neg (by omega)]
   have hba:bs=all:=by rw[yI.out,if_neg (by omega)]
   subst hba;obtain⟨f1,f2,f3,f4,f5,f6,f7,f8⟩:=wG.out;have Sj:0<n:=by omega
   obtain⟨g,hA,Bb,kL,Eu,iN⟩:=sW TE.out Sj;subst hA;subst hn;have TM:=aa (HL.out.ext HX.out (fun _ _ h=>h));have JP:=aa (HD.out.ext HX.out (fun _ _ h=>h));have C8:=HX.out.size;have aaF:=aa (abO TM.out JP.out Q4.out (HK.out.mono (by decide)) bs iN (fun hg=>by have:=HD.out.old g hg;omega) kL Eu f1 (by omega) f5);rw[<-HSS.out]at aaF;have Jw:=aa (And.intro Bb (And.intro kL Eu));have oN:(bs.length:Int)<4294967296:=by omega
   clear hj hj0 Sj iN Bb kL Eu f1 f2 f3 f4 f5 f6 f7 f8;go_wp2_with fail;refine(aaF.out).mono ?_;rintro e w3 ⟨rfl,za,bC⟩;have yH:=aa za;have iF:=aa bC;have G8:=aa (TM.out.ext bC Q4.out);have XQ:=aa (Ii G8.out S.1 lL.out);clear za bC;go_wp2_with fail;refine(XQ.out).mono ?_;rintro e w4 ⟨rfl,hl4,ib⟩;have M4:=aa hl4;have Py:=aa (HL.out.old x HL.out.xx);have aci:∀b,bz Dd wr w3 b->¬On x b:=fun b hb e=>by
    have e':b=x:=e;subst e';rcases hb with hb|hb
    ·exact Q4.out b HL.out.xx hb
    ·have:=Py.out;omega
   have HD4:=aa (yH.out.ext ib aci);have ac3:Hid (ah (fun b=>Dd b\/D b) wr w4):=aa ((iF.out.mono (fun b _ hb=>.inl hb)).ag (ib.mono (fun b _ hb=>.inr (by have e':b=x:=hb;rw[e'];exact HL.out.xx))));have Bl:Hid (ah (fun b=>Dd b\/D b) w w4):=aa ((HX.out.of_no).ag ac3.out);have OD:=iF.out.size;have hs4:=ib.size;have G6:=aa (And.intro OD hs4);have ajO:=aa aci;clear hl4 ib aci OD hs4
   by_cases hc:S.1=0
   ·have jQ:(S.1:Int)=0:=by omega
    have oG:=aa hc;have HR3:Hid (R=S.2.aO (bT T) l.ak bs.length):=aa (by rw[Uk.out,if_neg (by have:=oG.out;omega)])
    have HL5:Hid (dW w4 D x d m l):=aa (by
     have:=M4.out;rw[hc]at this;have e:({ l with lost:=decide ((0:Nat)≠0) }:Lg)=l:=by
      have:=lL.out;cases l;simp_all
     rw[e]at this
     exact this)
    obtain⟨_,_,_,_,_,_,_,_,_,_,y3,_,_,_,_,ylt,_⟩:=HL5.out.c;have aeZ:gJ w4 T:=HT.out.ext Bl.out (fun h=>by rcases h with h|h;exact H0.out h;exact H0'.out h)
    have FE:=aa (show ∀b,D b->¬bz Dd wr w3 b from fun b hb hg=>by
     rcases hg with hg|hg
     ·exact Q4.out b hb hg
     ·have:=HL.out.old b hb;have:=HX.out.size;omega)
    have HWR:=aa (KX HL5.out HD4.out aeZ FE.out HN.out l.ak bs.length (by have:=HE.out;omega) (by have:=wG.out;omega));rw[<-HR3.out]at HWR;rw[jQ];clear hc jQ aeZ;go_wp2_with fail;refine(HWR.out).mono ?_;rintro e w5 ⟨rfl,hd5,bU⟩;have HD5:=aa hd5;have jl:=aa bU;have HL6:=aa (HL5.out.ext bU FE.out);have ah9:=aa (Ii HL6.out R.1 lL.out);clear hd5 bU y3 ylt;go_wp2_with fail;refine(ah9.out).mono ?_;rintro e w6 ⟨rfl,hl6,kH⟩;have HL7:=aa hl6;have aec:∀b,bz (bz Dd wr w3) w4 w5 b->¬On x b:=fun b hb e=>by
     have e':b=x:=e;subst e';rcases hb with hb|hb
     ·exact FE.out b HL.out.xx hb
     ·have:=HL5.out.old b HL.out.xx;omega
    have HD6:=aa (HD5.out.ext kH aec)
    have afh:Hid (ah (fun b=>Dd b\/D b) wr w6):=aa ((ac3.out.trans jl.out (fun b hb hg=>by
     rcases hg with hg|hg
     ·exact .inl hg
     ·omega)).ag (kH.mono (fun b _ hb=>.inr (by have e':b=x:=hb;rw[e'];exact HL.out.xx))))
    have wP:Hid (ah (fun b=>Dd b\/D b) w w6):=aa ((HX.out.of_no).ag afh.out)
    have YE:Hid (jw w Dd (bz (bz Dd wr w3) w4 w5)):=aa (fun b hb=>by
     have h1:=HX.out.size;have h2:=Bl.out.size;rcases hb with (hb|hb)|hb
     ·exact .inl hb
     ·exact .inr (by omega)
     ·exact .inr (by omega))
    have ahI:=aa (And.intro jl.out.size kH.size);clear hl6 kH aec
    by_cases hc:R.1=0
    ·have jQ:(R.1:Int)=0:=by omega
     have oG:=aa hc
     have HL8:Hid (dW w6 D x d m l):=aa (by
      have:=HL7.out;rw[hc]at this;have e:({ l with lost:=decide ((0:Nat)≠0) }:Lg)=l:=by
       have:=lL.out;cases l;simp_all
      rw[e]at this
      exact this)
     obtain⟨Ab6,cb6,Ar6,cr6,Ap6,cp6,wN,ob6,or6,op6,ag7⟩:=HL8.out.cells;rw[HP.out]at op6;obtain⟨gq,hAq,_,aju,ajv,hgq⟩:=sW op6.row (by simp);subst hAq;have q4:=wN.cell 4;have q5:=wN.cell 5;have q6:=wN.cell 6;simp only[Lg.cells,HP.out]at q4 q5 q6;simp at q4 q5 q6;have f4:=wN.frozen 4;have f5:=wN.frozen 5;have f6:=wN.frozen 6;have lx6:=wN.lt;obtain⟨i9,abZ,VC,VB,VA⟩:=info_parts Tryz.Ak;have HOR:=aa or6.row;have ah4:=aa hgq;have agI:(Value.slice Ar6 l.recs.length cr6).ownBlock≠some x:=fun e=>(or6.at_ x e).2 rfl
     have agH:l.recs.length+1<=maxLen:=by have:=wG.out;unfold maxLen;omega
     have acf:(l.recs.length+1)*16<=140737488355328:=by have:=wG.out;omega
     have afS:Hid (∀(w7:World) (g2 cap2:Nat),w7.ownsRow 0 9 1 (.slice (some ⟨g2,0,none⟩) (l.recs.length+1) cap2) (l.recs.length+1) (iU l.recs ++ [.string (au rec)])->w6.grownBy w7 (Value.slice Ar6 l.recs.length cr6).ownBlock ->
       ((Value.slice Ar6 l.recs.length cr6).ownBlock=some g2\/g2=w6.heap.size)->g2<w7.heap.size->w7.frozen? ⟨x,4,none⟩=false/\w7.frozen? ⟨x,5,none⟩=false/\w7.frozen? ⟨x,6,none⟩=false/\(w7.cell? ⟨x,4,none⟩).isSome=true/\(w7.cell? ⟨x,5,none⟩).isSome=true/\(w7.cell? ⟨x,6,none⟩).isSome=true/\x<w7.heap.size /\
       Q (.returned (.int .i64 0)) (((w7.setCell ⟨x,4,none⟩ (.slice (some ⟨g,0,none⟩) bs.length c)).setCell ⟨x,5,none⟩ (.slice (some ⟨g2,0,none⟩) (l.recs.length+1) cap2)).setCell ⟨x,6,none⟩ (.slice none 0 0))):=aa (by
      intro w7 g2 cap2 jc rJ JL tY;have LX:ax w7 x 179 (l.cells d m Ab6 cb6 Ar6 cr6 (some ⟨gq,0,none⟩) cp6):=(rJ.block x lx6 (fun e=>agI e.symm)).trans wN;have eX:ah (fun b=>(Value.slice Ar6 l.recs.length cr6).ownBlock=some b) w6 w7:=⟨rJ.os,rJ.tape,rJ.output,rJ.size,fun b oN bQ=>rJ.block b oN (fun e=>bQ e.symm)⟩;have hz6:=ahI.out;have hz4:=G6.out;have hzx:=HX.out.size;have hzr:=ac3.out.size;have hgg:=Jw.out;have ag6:g2≠x:=by
       rcases JL with ha|ha
       ·exact(or6.at_ g2 ha).2
       ·omega
      have aet:D g2\/g2=w6.heap.size:=by
       rcases JL with ha|ha
       ·exact .inl (or6.at_ g2 ha).1
       ·exact .inr ha
      have hxw:=Py.out;have hDw:∀b,D b->b<w.heap.size:=HL.out.old;have hs7:=rJ.size;obtain⟨wf,hwf⟩:∃wf,wf=(((w7.setCell ⟨x,4,none⟩ (.slice (some ⟨g,0,none⟩) bs.length c)).setCell ⟨x,5,none⟩ (.slice (some ⟨g2,0,none⟩) (l.recs.length+1) cap2)).setCell ⟨x,6,none⟩ (.slice none 0 0)):=⟨_,rfl⟩;have hxf:ah (On x) w7 wf:=by rw[hwf];exact(((ah.refl _ _).ay (F:=On x) rfl 4 _).ay (F:=On x) rfl 5 _).ay (F:=On x) rfl 6 _
      have hbf:ax wf x 179 ((((l.cells d m Ab6 cb6 Ar6 cr6 (some ⟨gq,0,none⟩) cp6).setIfInBounds 4 (.slice (some ⟨g,0,none⟩) bs.length c)).setIfInBounds 5 (.slice (some ⟨g2,0,none⟩) (l.recs.length+1) cap2)).setIfInBounds 6 (.slice none 0 0)):=by rw[hwf];exact((LX.aQ 4 _).aQ 5 _).aQ 6 _
      have hE:ah D w6 wf:=(eX.mono (fun b _ hb=>(or6.at_ b hb).1)).ag (hxf.mono (fun b _ hb=>by have e':b=x:=hb;rw[e'];exact HL.out.xx));have hsf:=hxf.size;refine⟨LX.frozen 4,LX.frozen 5,LX.frozen 6,by rw[LX.cell 4];rfl,by rw[LX.cell 5];rfl,by rw[LX.cell 6];rfl,by omega,?_⟩;rw[<-hwf,HQ.out];refine⟨by rw[oG.out];rfl,⟨bz (bz Dd wr w3) w4 w5,fun b=>D b\/b=g\/b=g2,?_,fun _=>?_,?_,YE.out,?_⟩,?_⟩
      ·refine HD6.out.ext hE (fun b hb hd=>?_)
       rcases hb with hb|hb
       ·exact FE.out b hd hb
       ·have:=hDw b hd;omega
      ·rw[H9.out]
       refine⟨⟨some ⟨g,0,none⟩,c,some ⟨g2,0,none⟩,cap2,none,0,?_,?_,?_,?_,?_⟩,.inl HL.out.xx,?_,HL.out.m1,HL.out.m2⟩
       ·have e:({ l with bytes:=bs,recs:=l.recs ++ [rec],pend:=[] }:Lg).cells d m (some ⟨g,0,none⟩) c (some ⟨g2,0,none⟩) cap2 none 0=((((l.cells d m Ab6 cb6 Ar6 cr6 (some ⟨gq,0,none⟩) cp6).setIfInBounds 4 (.slice (some ⟨g,0,none⟩) bs.length c)).setIfInBounds 5 (.slice (some ⟨g2,0,none⟩) (l.recs.length+1) cap2)).setIfInBounds 6 (.slice none 0 0)):=by
         have e1:(l.recs ++ [rec]).length=l.recs.length+1:=by simp
         unfold Lg.cells;simp only[e1];rfl
        rw[e];exact hbf
       ·refine⟨?_,fun b hb=>?_⟩
        ·have h1:=jY (RH TE.out) (afh.out.trans (hE.mono (fun b _ hb=>.inr hb)) (fun b _ h=>h)) (fun b hb hF=>by
          have xL:g=b:=by simpa[Value.ownBlock]using hb
          subst xL;rcases hF with hF|hF
          ·have:=HD.out.old _ hF;omega
          ·have:=hDw _ hF;omega)
         exact h1
        ·have xL:g=b:=by simpa[Value.ownBlock]using hb
         subst xL;exact⟨.inr (.inl rfl),by omega⟩
       ·refine⟨?_,fun b hb=>?_⟩
        ·have h1:=jY jc hxf (fun b hb hF=>by
          have xL:g2=b:=by simpa[Value.ownBlock]using hb
          have e':b=x:=hF
          omega)
         have e1:(l.recs ++ [rec]).length=l.recs.length+1:=by simp
         have e2:iU (l.recs ++ [rec])=iU l.recs ++ [.string (au rec)]:=by simp[iU]
         show wf.ownsRow 0 9 1 (.slice (some ⟨g2,0,none⟩) (l.recs ++ [rec]).length cap2) (l.recs ++ [rec]).length (iU (l.recs ++ [rec]));rw[e1,e2];exact h1
        ·have xL:g2=b:=by simpa[Value.ownBlock]using hb
         subst xL;exact⟨.inr (.inr rfl),ag6⟩
       ·exact⟨⟨rfl,.inl ⟨rfl,rfl⟩⟩,fun b hb=>by cases hb⟩
       ·intro b _ hb;cases hb
       ·intro b hb
        rcases hb with hb|hb|hb
        ·have:=hDw b hb;omega
        ·omega
        ·omega
      ·intro b hb hg
       rcases hb with hb|hb|hb
       ·rcases hg with hg|hg
        ·exact FE.out b hb hg
        ·have:=hDw b hb;omega
       ·subst hb
        rcases hg with (hg|hg)|hg
        ·have:=HD.out.old _ hg;omega
        ·omega
        ·omega
       ·subst hb
        rcases aet with h1|h1
        ·rcases hg with hg|hg
         ·exact FE.out _ h1 hg
         ·have:=hDw _ h1;omega
        ·rcases hg with (hg|hg)|hg
         ·have:=HD.out.old _ hg;omega
         ·omega
         ·omega
      ·intro b hb
       rcases hb with hb|hb|hb
       ·exact .inl hb
       ·exact .inr (by omega)
       ·rcases aet with h1|h1
        ·rw[hb];exact .inl h1
        ·exact .inr (by omega)
      ·exact wP.out.ag (hE.mono (fun b _ hb=>.inr hb)))
     clear op6 or6 ob6 wN ag7 hgq;rw[jQ];clear hc jQ;go_wp2_with fail
     go_region_law (refine step_append_lies _ (by rfl) _ _ 38 (by rfl) 0 9 i9 (.string ⟨#[]⟩) 1 16 Tryz.underlying38 abZ VC VB VA (by rfl) (by decide) (.slice Ar6 l.recs.length cr6) l.recs.length (iU l.recs) (by rfl) (by exact HOR.out) ⟨gq,0,none⟩ 1 cp6 [.string (au rec)] (by rfl) (by rfl) (by intro j u hu;rw[Addr.iP,Nat.zero_add];exact ah4.out j u hu) (fun u hu=>by rw[List.mem_singleton.1 hu];rfl) (by decide) agH acf (Nat.zero_le _) w6.heap.size (by rfl) ?_;intro g2 cap2 w7 jc rJ JL tY;obtain⟨a4,a5,a6,b4,b5,b6,lx7,hqq⟩:=afS.out w7 g2 cap2 jc ⟨rJ.os,rJ.tape,rJ.output,rJ.size,rJ.block⟩ JL tY;have HQQ:=aa hqq;obtain⟨z4,y4⟩:=Option.isSome_iff_exists.1 b4;obtain⟨z5,y5⟩:=Option.isSome_iff_exists.1 b5;obtain⟨z6,y6⟩:=Option.isSome_iff_exists.1 b6;clear hqq jc rJ JL tY b4 b5 b6)
     all_goals (go_wp2_with fail;exact HQQ.out)
    ·have JI:((R.1:Int) != 0)=true:=by simp;omega
     have HRC:=aa hc;clear hc;go_wp2_with fail;rw[HQ.out]
     exact⟨rfl,⟨_,D,HD6.out,fun h=>absurd h HRC.out,fun b hb hg=>by
      rcases hg with hg|hg
      ·exact FE.out b hb hg
      ·have:=HL5.out.old b hb;omega,YE.out,fun b hb=>.inl hb⟩,wP.out⟩
   ·have JI:((S.1:Int) != 0)=true:=by simp;omega
    have Nu:Hid (R=S):=aa (by rw[Uk.out,if_pos hc]);have HSC:=aa hc;clear hc;go_wp2_with fail;rw[HQ.out,Nu.out];refine⟨rfl,⟨_,D,HD4.out,fun h=>absurd h HSC.out,fun b hb hg=>?_,fun b hb=>?_,fun b hb=>.inl hb⟩,Bl.out⟩
    ·rcases hg with hg|hg
     ·exact Q4.out b hb hg
     ·have:=HL.out.old b hb;have:=HX.out.size;omega
    ·rcases hb with hb|hb
     ·exact .inl hb
     ·exact .inr (by have:=HX.out.size;omega)
end Go.Proofs.YtccnemmlkcmceaaGreatDoor
namespace Go.Proofs.YtccnemmlkcmceaaGreatDoor
open Go.RowKit Go.BigFrame
structure sF where
 d:Nat
 kb:Nat
 x:Nat
 l:Nat
 log:Nat
def gu (a:sF) (m:Mt) (o:Option Addr) (lost:Bool):Array Value :=
 #[.pointer (some ⟨a.d,0,none⟩),.pointer (some ⟨a.l,0,none⟩),.int .i64 (a.log:Int),.int .i64 (m.r 0:Int),.int .i64 (m.r 1:Int),.int .i64 (m.r 2:Int),.int .i64 (m.r 3:Int),.int .i64 (m.high:Int),.int .i64 (m.free:Int),.int .i64 (m.cnt:Int),.pointer o,.bool lost]
structure yn (a:sF) (Dd Dl:Nat->Prop):Prop where
 ap:∀g,Dl g->¬Dd g
 xd:¬Dd a.x
 xl:¬Dl a.x
 zd:¬Dd 0
 zl:¬Dl 0
 zx:a.x≠0
structure fo (w:World) (Dd Dl:Nat->Prop) (a:sF) (o:Option Addr) (lost:Bool) (T:Nat->Nat) (b:Db):Prop where
 disk:aF w Dd a.d a.kb b.k
 o9:dW w Dl a.l a.d a.log ⟨b.ak,b.bytes,b.recs,[],false⟩
 db:ax w a.x 131 (gu a b.m o lost)
 half:gJ w T
 parts:yn a Dd Dl
 ll:a.log<=b.k.n
theorem fo.ext {F:Nat->Prop}{w w':World}{Dd Dl:Nat->Prop}{a:sF}{o:Option Addr}{lost:Bool}{T:Nat->Nat}{b:Db}(h:fo w Dd Dl a o lost T b) (hx:ah F w w') (h1:∀g,Dd g->¬F g) (h2:∀g,Dl g->¬F g) (h3:¬F a.x) (h4:¬F 0):fo w' Dd Dl a o lost T b :=
 ⟨h.disk.ext hx h1,h.o9.ext hx h2,h.db.ext hx h3,h.half.ext hx h4,h.parts,h.ll⟩
theorem fo.no {w w':World}{Dd Dl:Nat->Prop}{a:sF}{o:Option Addr}{lost:Bool}{T:Nat->Nat}{b:Db}(h:fo w Dd Dl a o lost T b) (hx:ah No w w'):fo w' Dd Dl a o lost T b :=
 h.ext hx (fun _ _ h=>h) (fun _ _ h=>h) (fun h=>h) (fun h=>h)
theorem RD {w:World}{base g cap n:Nat}{ks:List Bs}{x:Bs}(h:w.ownsRow base 9 1 (.slice (some ⟨g,0,none⟩) (n+1) cap) (n+1) (iU ks ++ [.string (au x)])):w.ownsRow base 9 1 (.slice (some ⟨g,0,none⟩) (n+1) cap) (n+1) (iU (ks ++ [x])):=by
 have e:iU (ks ++ [x])=iU ks ++ [.string (au x)]:=by simp[iU]
 rw[e];exact h
theorem Kc (image:Bs) (hi:image.length=512) (w:World) :
  Calls Tryz.prog 162 #[.string (au image)] w fun e w'=>∃A c,e=.returned (.slice A 8 c)/\w'.ownsRow w.heap.size 9 1 (.slice A 8 c) 8 (iU (jg 8 image))/\ah No w w':=by
 obtain⟨i0,mi,eQ,fe,eP⟩:=info_parts Tryz.Ak;have HI:=aa hi;obtain⟨Q,hQ⟩:∃Q,Q=fun(e:Ending) (w':World)=>∃A c,e=.returned (.slice A 8 c)/\w'.ownsRow w.heap.size 9 1 (.slice A 8 c) 8 (iU (jg 8 image))/\ah No w w':=⟨_,rfl⟩
 rw[<-hQ];have HQ:=aa hQ;have h0:image=image.drop (0*64):=by simp
 have H0:=aa h0;clear hi hQ h0;go_enter Tryz.func162,Tryz.ntmps162;go_wp2_with fail;go_loopg [0,3] 8 (fun gk q0 q3 wr=>∃(K c:Nat) (A:Option Addr) (L:Bs),K+gk=8/\q0=.string (au L)/\q3=.slice A K c/\Hid (L=image.drop (K*64))/\Hid (wr.ownsRow w.heap.size 9 1 (.slice A K c) K (iU ((jg 8 image).take K)))/\Hid (ah No w wr))
 case atStart=>exact⟨0,0,none,image,rfl,rfl,rfl,H0,aa (World.ownsRow_nil _ _ _ _),aa (ah.refl _ _)⟩
 case round =>
  obtain⟨K,c,A,L,hK,rfl,rfl,HL,HO,HX⟩:=hrel;have HK:=aa hK;have hLl:L.length=512-K*64:=by rw[HL.out,List.length_drop,HI.out]
  have lL:=aa hLl
  by_cases h8:K<8
  ·obtain⟨n,hn⟩:∃n,n=L.length:=⟨_,rfl⟩
   have g1:(0:Int)<(n:Int):=by omega
   have g2:min (64:Int) (n:Int)=64:=by omega
   have g3:(64:Int)<=n:=by omega
   have eZ:(au L).size=n:=by rw[az,hn]
   have x1:(au L).extract 0 64=au (L.take 64):=pE L 64;have x2:(au L).extract 64 n=au (L.drop 64):=by rw[hn];exact nk L 64
   have vQ:Hid (L.drop 64=image.drop ((K+1)*64)):=aa (by rw[HL.out,List.drop_drop];congr 1;omega);have Uj:Hid ((jg 8 image).take (K+1)=(jg 8 image).take K ++ [L.take 64]):=aa (by rw[List.take_add_one,p8 8 image K h8,HL.out];rfl);have H8:=aa h8;obtain⟨P,hP⟩:∃P,P=L.take 64:=⟨_,rfl⟩;rw[<-hP]at x1 Uj;obtain⟨L2,Z_⟩:∃L2,L2=L.drop 64:=⟨_,rfl⟩;rw[<-Z_]at x2 vQ;have C8:=HX.out.size;have m1:K+1<=maxLen:=by unfold maxLen;omega
   have m2:(K+1)*16<=140737488355328:=by omega
   have gK:=aa (HX.out.alloc (.cells #[.string (au P)] 9));have Nv:=aa (HO.out.alloc (.cells #[.string (au P)] 9));have Vv:w.heap.size<=(wr.alloc (.cells #[.string (au P)] 9)).heap.size:=gK.out.size;clear hK hLl hn h8 hP Z_;rw[az]at eZ;go_wp2_with (at_builtin;refine wpList_append_lies _ (by rfl) _ _ 38 (by rfl) w.heap.size 9 i0 (.string ⟨#[]⟩) 1 16 Tryz.underlying38 mi eQ fe eP (by rfl) (by decide) (.slice A K c) K (iU ((jg 8 image).take K)) (by rfl) Nv.out ⟨wr.heap.size,0,none⟩ 1 1 [.string (au P)] (by rfl) (by rfl) (by exact World.news_of_block (cs:=#[.string (au P)]) (t:=9) (fr:=(0,0)) (heap_alloc_new wr _)) (fun u hu=>by rw[List.mem_singleton.1 hu];rfl) (by decide) m1 m2 Vv _ rfl ?_);intro g cap w7 jc rJ JL tY;have HO7:=aa (RD jc);rw[<-Uj.out]at HO7;have nS:=aa (gK.out.grown rJ (fU Nv.out (Nat.le_refl _)));clear jc rJ JL tY C8 Vv m1 m2;go_wp2_with fail;go_roundg (gk-1)
   case rel=>exact⟨K+1,cap,some ⟨g,0,none⟩,L2,by have:=HK.out;have:=H8.out;omega,rfl,rfl,vQ,HO7,nS⟩
   case measure=>have:=HK.out;have:=H8.out;omega
  ·have hK8:K=8:=by omega
   subst hK8;have hL0:L = []:=List.eq_nil_of_length_eq_zero (by omega);subst hL0
   have HD:Hid (Q (.returned (.slice A 8 c)) wr):=aa (by
    rw[HQ.out];have:=HO.out;rw[List.take_of_length_le (by rw[jr];omega)]at this
    exact⟨A,c,rfl,this,HX.out⟩)
   have e0:(au []).size=0:=rfl;clear hK hLl h8;go_wp2_with fail;exact HD.out
def xm (c:Nat->Bs) (log id n:Nat):Bs:=((List.range n).map fun j=>c (log+id*8+j)).flatten
theorem xk (c:Nat->Bs) (log id n:Nat):xm c log id (n+1)=xm c log id n++c (log+id*8+n):=by
 unfold xm;rw[List.range_succ,List.map_append,List.flatten_append];simp
theorem QN {k:Dk}(h1:∀i,i<k.n->(k.K i).length=64) (h2:∀p∈k.pd,p.1<k.n/\p.2.length=64) {i:Nat}(hi:i<k.n):(k.cur i).length=64:=by
 unfold Dk.cur;have:∀(l:List (Nat×Bs)) (b:Bs),(∀p∈l,p.2.length=64)->b.length=64->(l.foldl (fun b p=>if p.1=i then p.2 else b) b).length=64:=by
  intro l
  induction l with
  | nil=>intro b _ hb;exact hb
  | cons p l ih =>
   intro b hl hb;rw[List.foldl_cons];refine ih _ (fun q hq=>hl q (by simp[hq])) ?_;split
   ·exact hl p (by simp)
   ·exact hb
 exact this _ _ (fun p hp=>(h2 p hp).2) (h1 i hi)
theorem zZ {k:Dk}(h1:∀i,i<k.n->(k.K i).length=64) (h2:∀p∈k.pd,p.1<k.n/\p.2.length=64) {log id:Nat}(hi:log+id*8+8<=k.n):∀n,n<=8->(xm k.cur log id n).length=n*64
 | 0,_=>rfl
 | n+1,hn=>by
  rw[xk,List.length_append,zZ h1 h2 hi n (by omega),QN h1 h2 (by omega)];omega
theorem yT {w:World}{Dd Dl:Nat->Prop}{a:sF}{o:Option Addr}{lost:Bool}{T:Nat->Nat}{b:Db}(h:fo w Dd Dl a o lost T b) (id:Nat) (hi:a.log+id*8+8<=b.k.n) (tV:b.k.pd.length<2^30) (hd:b.k.down=false) :
  Calls Tryz.prog 83 #[.pointer (some ⟨a.x,0,none⟩),.int .i64 (id:Int)] w fun e w'=>e=.returned (.tuple #[.string (au (aJ b.k.cur a.log id)),.int .i64 0])/\ah No w w':=by
 have HR:=aa (fun k (Ye:k<8) w (h:aF w Dd a.d a.kb b.k)=>(show((a.log+id*8+k:Nat):Int)=(a.log:Int)+(id:Int)*8+(k:Int) by omega)▸Ja h (a.log+id*8+k) (by omega) tV hd);have x0:w.cell? ⟨a.x,0,none⟩=some (.pointer (some ⟨a.d,0,none⟩)):=h.db.cell 0;have x2:w.cell? ⟨a.x,2,none⟩=some (.int .i64 (a.log:Int)):=h.db.cell 2;have hn:=h.disk.n2;have HPL:=aa (fun n hn=>zZ h.disk.ES h.disk.CG hi n hn);have G_:=aa (fun k (Ye:k<8)=>QN h.disk.ES h.disk.CG (i:=a.log+id*8+k) (by omega));have HD:=aa h.disk;have dO:(a.log:Int)+(id:Int)*8+8<=65536:=by omega
 obtain⟨P,hP⟩:∃P,P=aJ b.k.cur a.log id:=⟨_,rfl⟩;rw[<-hP];have HP:=aa hP;clear h hP tV hd hn;generalize a.x=x at *;generalize a.d=d at *;generalize a.log=log at *;go_enter Tryz.func83,Tryz.ntmps83;go_wp2_with fail;go_loopg [6,10] 8 (fun gk s k wr=>∃(K:Nat) (L:Bs),K+gk=8/\k=.int .i64 (K:Int)/\s=.string (au L)/\Hid (L=xm b.k.cur log id K)/\ah No w wr)
 case atStart=>exact⟨0,[],rfl,rfl,rfl,aa rfl,ah.refl _ _⟩
 case round =>
  obtain⟨K,L,hK,rfl,rfl,HL,hE⟩:=hrel;have y0:=aj hE x0 (fun h=>h);have y2:=aj hE x2 (fun h=>h);have l0:=World.block_lt_of_cell? wr _ y0;simp only at l0;have HE:=aa hE;have wR:=aa hK;clear hE
  by_cases h8:K<8
  ·have HR1:=aa (fun(i:Pt wr)=>HR.out K h8 (up wr i) (HD.out.ext (HE.out.ag (Cb wr i)) (fun _ _ h=>h)))
   obtain⟨S,hS⟩:∃S,S=b.k.cur (log+id*8+K):=⟨_,rfl⟩;rw[<-hS]at HR1;have HS:=aa hS;have h8':(K:Int)<8:=by omega
   have b1:(log:Int)+(id:Int)*8+K<65536:=by omega
   have b2:(0:Int)<=(log:Int)+(id:Int)*8+K:=by omega
   have H8:=aa h8;clear hK h8 hi hS dO;go_wp2_with fail;refine fK (by kernel_rfl) (by kernel_rfl) ?_;(repeat (go_big_quiet_step ((go_at_call 119;exact Calls.vD (HR1.out _)))));refine wpQuiet_nil ?_;intro _ Nf;obtain⟨⟨wq,hq⟩,jZ⟩:=Nf;change _=wq at jZ;subst jZ
   clear HR HD HR1 b1 b2 x0 x2 y0 y2 l0;have hzs:S.length=64:=by rw[HS.out];exact G_.out K H8.out
   have tZ:L.length<=448:=by rw[HL.out,HPL.out K (by have:=H8.out;omega)];have:=H8.out;omega
   go_wp2_with fail;go_roundg (gk-1)
   case rel=>exact⟨K+1,L++S,by have:=wR.out;have:=H8.out;omega,by go_num,by rw[fM],aa (by rw[xk,HL.out,HS.out]),HE.out.ag hq⟩
   case measure=>have:=wR.out;have:=H8.out;omega
  ·have hK8:K=8:=by omega
   subst hK8;have HLP:Hid (L=P):=aa (by rw[HL.out,HP.out];rfl);clear hK h8 hi dO;go_wp2_with fail;go_ret2;rw[HLP.out];exact⟨rfl,HE.out⟩
end Go.Proofs.YtccnemmlkcmceaaGreatDoor
namespace Go.Proofs.YtccnemmlkcmceaaGreatDoor
open Go.RowKit
def nZ (log id K:Nat) (image:Bs):List (Nat×Bs):=gD (log+id*8+K) ((jg 8 image).drop K)
theorem Ik {log id K:Nat}{image:Bs}(h:K<8):nZ log id K image=(log+id*8+K,(image.drop (K*64)).take 64)::nZ log id (K+1) image:=by
 unfold nZ;have hg:=p8 8 image K h;have e:(jg 8 image).drop K=((image.drop (K*64)).take 64)::(jg 8 image).drop (K+1):=by
  rw[List.drop_eq_getElem_cons (by rw[jr];exact h)];congr 1;exact(List.getElem?_eq_some_iff.1 hg).2
 rw[e];rfl
theorem K8 {log id:Nat}{image:Bs}:nZ log id 8 image = []:=by
 unfold nZ;rw[List.drop_of_length_le (by rw[jr];omega)];rfl
theorem WW {w:World}{Dd:Nat->Prop}{d kb x log:Nat}{k:Dk}(hd:aF w Dd d kb k) (x0:w.cell? ⟨x,0,none⟩=some (.pointer (some ⟨d,0,none⟩))) (x2:w.cell? ⟨x,2,none⟩=some (.int .i64 (log:Int))) (hx:¬Dd x) {N:Nat}(hk:k.eD N) (hN:N<=2^29) (id:Nat) (hid:log+id*8+8<=k.n) (image:Bs) (hi:image.length=512) :
  Calls Tryz.prog 118 #[.pointer (some ⟨x,0,none⟩),.int .i64 (id:Int),.string (au image)] w fun e w'=>e=.returned (.int .i64 ((k.writes (dQ log id image)).1:Int))/\aF w' (bz Dd w w') d kb (k.writes (dQ log id image)).2/\ah Dd w w':=by
 obtain⟨R,hR⟩:∃R,R=k.writes (dQ log id image):=⟨_,rfl⟩;rw[<-hR];have HR:=aa hR;have afn:=aa (Kc image hi w);have HD:=aa hd;have yG:=aa hx;have HK:=aa hk;have Jt:=aa hN;have QZ:=aa hid;have HI:=aa hi;have vO:=aa hd.old;have vo:=hd.n2;have dO:(log:Int)+(id:Int)*8+8<=65536:=by omega
 have ng:=aa dO;have zJ:=aa x0;have HC2:=aa x2;have BC:x<w.heap.size:=World.block_lt_of_cell? w _ x0;have Py:=aa BC;clear hd hx hk hN hid hi hR dO vo x0 x2 BC;go_enter Tryz.func118,Tryz.ntmps118;go_wp2_with fail;refine(afn.out).mono ?_;rintro e w1 ⟨A,c,rfl,aP,aT⟩;obtain⟨g,hA,Bb,kL,Eu,iN⟩:=sW aP (by decide);subst hA;have gK:=aa aT;have HCE:=aa iN;have HG:=aa (And.intro Bb kL);have JP:=aa (HD.out.ext aT (fun _ _ h=>h));clear aP aT iN Bb kL;go_wp2_with fail;go_loopg [13] 8 (fun gk q13 wr=>∃(K:Nat) (k':Dk),K+gk=8/\q13=.int .i64 (K:Int)/\Hid (R=k'.writes (nZ log id K image))/\Hid (aF wr (bz Dd w1 wr) d kb k')/\Hid (ah Dd w1 wr)/\Hid (k'.eD (N+K))/\Hid (k'.n=k.n))
 case atStart=>exact⟨0,k,by omega,rfl,HR,aa (JP.out.mono (fun _ hb=>.inl hb) (bz.old (fun b hb=>Nat.lt_of_lt_of_le (vO.out b hb) gK.out.size) (Nat.le_refl _))),aa (ah.refl _ _),HK,aa rfl⟩
 case round =>
  obtain⟨K,k',hK,rfl,o7,HDK,HX,uA,QY⟩:=hrel;have wR:=aa hK
  by_cases h8:K<8
  ·have H8:=aa h8
   obtain⟨P,hP⟩:∃P,P=(image.drop (K*64)).take 64:=⟨_,rfl⟩;have kV:P.length<=64:=by rw[hP,List.length_take];omega
   have hng:¬Dd g:=fun h=>by have:=vO.out g h;have:=HG.out;omega
   have k0:wr.cell? ⟨g,K,none⟩=some (.string (au P)):=aj HX.out (HCE.out K _ (by
    unfold iU
    rw[List.getElem?_map,p8 8 image K h8,hP];rfl)) hng
   have lg:=World.block_lt_of_cell? wr _ k0;simp only at lg;obtain⟨i1,yE⟩:∃i1,i1=log+id*8+K:=⟨_,rfl⟩;have vk:IntKind.i64.wrap ((id:Int)*8)=(id:Int)*8:=bA _ (by omega) (by have:=ng.out;omega);have Nc:IntKind.i64.wrap ((log:Int)+(id:Int)*8)=(log:Int)+(id:Int)*8:=bA _ (by omega) (by have:=ng.out;omega);have Iu:IntKind.i64.wrap ((log:Int)+(id:Int)*8+(K:Int))=(i1:Int):=by
    rw[show(log:Int)+(id:Int)*8+(K:Int)=(i1:Int) by omega];exact bA _ (by omega) (by have:=ng.out;omega)
   have HW:=aa (xY (HDK.out.ext ((ah.refl No wr).drew) (fun _ _ h=>h)) i1 (by have:=QZ.out;have:=QY.out;omega) P kV (by have:=uA.out.1;have:=Jt.out;omega) (by have:=uA.out.2.1;have:=Jt.out;omega) (by have:=uA.out.2.2;have:=Jt.out;omega));have j_:=aa (Dk.kM uA.out i1 P);have VV:=aa ((Dk.qj k' i1 P).trans QY.out)
   have Ee:Hid (R=if (k'.write i1 P).1≠0 then k'.write i1 P else (k'.write i1 P).2.writes (nZ log id (K+1) image)):=aa (by
    rw[o7.out,Ik h8,<-hP,<-yE];rfl)
   generalize k'.write i1 P=kw at *;have nT:wr.drew.cell? ⟨x,0,none⟩=some (.pointer (some ⟨d,0,none⟩)):=aj (gK.out.of_no.ag HX.out).drew zJ.out yG.out;have rW:wr.drew.cell? ⟨x,2,none⟩=some (.int .i64 (log:Int)):=aj (gK.out.of_no.ag HX.out).drew HC2.out yG.out;have HS1:=aa nT;have Nt:=aa rW
   have XP:Hid (¬bz Dd w1 wr x):=aa (fun hg=>by
    rcases hg with hg|hg
    ·exact yG.out hg
    ·have:=Py.out;have:=gK.out.size;omega)
   have hxr:x<wr.heap.size:=by have:=HX.out.size;have:=gK.out.size;have:=Py.out;omega
   have h8':(K:Int)<8:=by omega
   clear yE hP hK h8 hng kV Eu;go_upto_region 4 with fail
   go_region_held3 (fun w'=>w'.cell? ⟨x,0,none⟩=some (.pointer (some ⟨d,0,none⟩))/\w'.cell? ⟨x,2,none⟩=some (.int .i64 (log:Int))) (first|exact⟨nT,rW⟩|exact⟨aj bC HS1.out XP.out,aj bC Nt.out XP.out⟩) (first
    | (go_at_call 161;refine(HW.out).mono ?_;rintro e w3 ⟨rfl,za,bC⟩))
   have zD:=aa (HX.out.trans ((ah.refl (bz Dd w1 wr) wr).drew.ag bC) (fun b hb hg=>bz.back (Nat.le_refl _) hb hg));have eZ:=bC.size;have agz:wr.drew.heap.size=wr.heap.size:=rfl;have yH:=aa (za.mono (D':=bz Dd w1 w3) (fun b hb=>bz.trans (w1:=wr) HX.out.size (by omega) (by rcases hb with hb|hb;exact .inl hb;exact .inr ⟨by omega,hb.2⟩)) (bz.old (fun b hb=>Nat.lt_of_lt_of_le (vO.out b hb) gK.out.size) zD.out.size));clear za bC nT rW vk Nc Iu k0 lg
   by_cases hc:kw.1=0
   ·have Ao:Hid (R=kw.2.writes (nZ log id (K+1) image)):=aa (by rw[Ee.out,if_neg (by omega)])
    have jQ:(kw.1:Int)=0:=by omega
    rw[jQ];clear hc jQ o7 Ee;go_wp2_with fail;go_roundg (gk-1)
    case rel=>exact⟨K+1,kw.2,by have:=wR.out;have:=H8.out;omega,by go_num,Ao,yH,zD,j_,VV⟩
    case measure=>have:=wR.out;have:=H8.out;omega
   ·have hRk:R=kw:=by rw[Ee.out,if_pos hc]
    have TD:=aa hRk;have jQ:((kw.1:Int) != 0)=true:=by simp;omega
    clear hc hRk;go_wp2_with fail;go_ret;rw[TD.out];exact⟨rfl,yH.out.mono (fun b hb=>bz.of gK.out.size (Nat.le_refl _) hb) (bz.old vO.out (Nat.le_trans gK.out.size zD.out.size)),gK.out.of_no.ag zD.out⟩
  ·have hK8:K=8:=by omega
   subst hK8;have HR8:Hid (R=(0,k')):=aa (by rw[o7.out,K8];rfl);clear hK h8;go_wp2_with fail;go_ret;rw[HR8.out];exact⟨rfl,HDK.out.mono (fun b hb=>bz.of gK.out.size (Nat.le_refl _) hb) (bz.old vO.out (Nat.le_trans gK.out.size HX.out.size)),gK.out.of_no.ag HX.out⟩
theorem Dk.vB:∀(a b:List (Nat×Bs)) (k:Dk),k.writes (a++b)=if (k.writes a).1≠0 then k.writes a else (k.writes a).2.writes b
 | [],b,k=>by rw[if_neg (by simp[Dk.writes])];rfl
 | p::a,b,k=>by
  rw[List.cons_append,Dk.writes,Dk.writes]
  by_cases h:(k.write p.1 p.2).1≠0
  ·rw[if_pos h,if_pos h,if_pos h]
  ·rw[if_neg h,if_neg h]
   exact Dk.vB a b _
theorem Dk.lQ:∀(l:List (Nat×Bs)) {k:Dk}{n:Nat},k.eD n->(k.writes l).2.eD (n+l.length)
 | [],k,n,h=>h
 | p::l,k,n,h=>by
  rw[Dk.writes];have h1:=Dk.kM h p.1 p.2;split
  ·exact h1.mono (by simp)
  ·exact(Dk.lQ l h1).mono (by simp;omega)
theorem Ai (log id:Nat) (image:Bs):(dQ log id image).length=8:=by
 have:∀(l:List Bs) (a:Nat),(gD a l).length=l.length:=by
  intro l
  induction l with
  | nil=>intro a;rfl
  | cons b l ih=>intro a;rw[gD,List.length_cons,ih,List.length_cons]
 rw[dQ,this,jr]
theorem CR (log:Nat) (l:List (Nat×Bs)):(bI log l).length=l.length*8:=by
 induction l with
 | nil=>rfl
 | cons p l ih =>
  have e:bI log (p::l)=dQ log p.1 p.2++bI log l:=rfl;rw[e,List.length_append,Ai,ih,List.length_cons];omega
theorem Gs:∀(l:List (Nat×Bs)) (j:Nat) (p:Nat×Bs),(∀q∈l,q.2.length=512)->l[j]?=some p->∃r,(l.flatMap fun p=>n4 p.1++p.2).drop (j*516)=n4 p.1++(p.2++r)
 | q::l,0,p,_,h=>by
  have:q=p:=by simpa using h
  subst this;exact⟨l.flatMap fun p=>n4 p.1++p.2,by simp⟩
 | q::l,j+1,p,hl,h=>by
  obtain⟨r,hr⟩:=Gs l j p (fun x hx=>hl x (by simp[hx])) (by simpa using h);refine⟨r,?_⟩;have hq:(n4 q.1++q.2).length=516:=by rw[List.length_append,bX,hl q (by simp)]
  rw[List.flatMap_cons,show(j+1)*516=516+j*516 by omega,<-List.drop_drop,List.drop_left' hq];exact hr
theorem Mi {l:List (Nat×Bs)}{j:Nat}{p:Nat×Bs}(hl:∀q∈l,q.2.length=512) (h:l[j]?=some p):∃r,(aB l).drop (4+j*516)=n4 p.1++(p.2++r):=by
 obtain⟨r,hr⟩:=Gs l j p hl h;refine⟨r,?_⟩;unfold aB;rw[<-List.drop_drop,List.drop_left' (bX _)];exact hr
theorem UA (l:Bs) (a b:Nat):(au l).extract a b=au ((l.drop a).take (b-a)):=by
 simp[au,ByteArray.extract,ByteArray.copySlice]
theorem Kn {w:World}{Dd:Nat->Prop}{d kb x log:Nat}{k:Dk}(hd:aF w Dd d kb k) (x0:w.cell? ⟨x,0,none⟩=some (.pointer (some ⟨d,0,none⟩))) (x2:w.cell? ⟨x,2,none⟩=some (.int .i64 (log:Int))) (hx:¬Dd x) {N:Nat}(hk:k.eD N) (hN:N<=2^28) (l:List (Nat×Bs)) (hl:∀p∈l,log+p.1*8+8<=k.n/\p.2.length=512) (bY:(aB l).length<=65536) :
  Calls Tryz.prog 73 #[.pointer (some ⟨x,0,none⟩),.string (au (aB l))] w fun e w'=>e=.returned (.int .i64 ((k.writes (bI log l)).1:Int))/\aF w' (bz Dd w w') d kb (k.writes (bI log l)).2/\ah Dd w w':=by
 obtain⟨R,hR⟩:∃R,R=k.writes (bI log l):=⟨_,rfl⟩;rw[<-hR];have HR:=aa (show R=k.writes (bI log (l.drop 0))from hR);have Nn:=nK (l:=l) (fun p hp=>(hl p hp).2);have tZ:l.length<128:=by omega
 obtain⟨rec,kU⟩:∃rec,rec=aB l:=⟨_,rfl⟩;rw[<-kU]at Nn ⊢;have jy:=aa kU
 have HV:Hid (∀w,Calls Tryz.prog 55 #[.string (au rec)] w fun e w'=>e=.returned (.int .i64 (l.length:Int))/\∃k,w'=w.drewN k):=aa (fun w=>by
  have h1:=iT (au rec) (by rw[az,Nn];omega) w;have h2:v4 (au rec)=l.length:=by rw[kU];exact o_ l.length (by omega) _
  rw[h2]at h1
  exact h1)
 have HD:=aa hd;have yG:=aa hx;have HK:=aa hk;have Jt:=aa hN;have HL:=aa hl;have XW:=aa Nn;have lL:=aa tZ;have vO:=aa hd.old;have TK:=aa hd.n2;have zJ:=aa x0;have HC2:=aa x2;have BC:x<w.heap.size:=World.block_lt_of_cell? w _ x0;have Py:=aa BC;clear hd hx hk hN hR x0 x2 BC kU hl bY Nn tZ;go_enter Tryz.func73,Tryz.ntmps73;go_wp2_with fail;refine(HV.out _).mono ?_;rintro e w1 ⟨rfl,kv,vk⟩;have aT:ah No w w1:=by rw[vk];exact(ah.refl No w).drewN kv
 have gK:=aa aT;have nT:w1.heap.size=w.heap.size:=by rw[vk];rfl
 have HS1:=aa nT;clear vk aT nT;go_wp2_with fail;go_loopg [12] l.length (fun gk q12 wr=>∃(j:Nat) (k':Dk),j+gk=l.length/\q12=.int .i64 (j:Int)/\Hid (R=k'.writes (bI log (l.drop j)))/\Hid (aF wr (bz Dd w wr) d kb k')/\Hid (ah Dd w wr)/\Hid (k'.eD (N+j*8))/\Hid (k'.n=k.n))
 case atStart=>exact⟨0,k,by omega,rfl,HR,aa ((HD.out.ext gK.out (fun _ _ h=>h)).mono (fun _ hb=>.inl hb) (bz.old vO.out gK.out.size)),aa gK.out.of_no,HK,aa rfl⟩
 case round =>
  obtain⟨j,k',hj,rfl,o7,HDK,HX,uA,QY⟩:=hrel;have HJ:=aa hj
  by_cases bu:j<l.length
  ·have mQ:=aa bu
   obtain⟨p,hp⟩:∃p,l[j]?=some p:=⟨_,List.getElem?_eq_getElem bu⟩;obtain⟨id,image⟩:=p;have OG:=HL.out _ (List.mem_of_getElem? hp);simp only at OG;obtain⟨r,hr⟩:=Mi (fun q hq=>(HL.out q hq).2) hp;rw[<-jy.out]at hr;simp only at hr;obtain⟨o,ho⟩:∃o,o=4+j*516:=⟨_,rfl⟩;rw[<-ho]at hr;obtain⟨n,hn⟩:∃n,n=rec.length:=⟨_,rfl⟩;have sH:o+516<=n:=by have:=XW.out;omega
   have A_:n<70000:=by have:=XW.out;have:=lL.out;omega
   have eZ:(au rec).size=n:=by rw[az,hn]
   obtain⟨tl,Iw⟩:∃tl,tl=rec.drop o:=⟨_,rfl⟩;have x1:(au rec).extract o n=au tl:=by rw[Iw,hn];exact nk rec o
   have x2:(au rec).extract (o+4) (o+4+512)=au image:=by
    rw[UA,<-List.drop_drop,hr,List.drop_left' (bX _),show o+4+512-(o+4)=512 by omega,List.take_left' OG.2]
   have HV2:Hid (∀w,Calls Tryz.prog 55 #[.string (au tl)] w fun e w'=>e=.returned (.int .i64 (id:Int))/\∃k,w'=w.drewN k):=aa (fun w=>by
    have h1:=iT (au tl) (by rw[az,Iw,List.length_drop];omega) w;have h2:v4 (au tl)=id:=by rw[Iw,hr];exact o_ id (by have:=TK.out;omega) _
    rw[h2]at h1
    exact h1)
   have e1:(4:Int)+(j:Int)*516=(o:Int):=by omega
   have vk:IntKind.i64.wrap ((j:Int)*516)=(j:Int)*516:=bA _ (by omega) (by have:=lL.out;omega);have Nc:IntKind.i64.wrap (4+(j:Int)*516)=(o:Int):=by rw[e1];exact bA _ (by omega) (by omega)
   obtain⟨o4,ho4⟩:∃o4,o4=o+4:=⟨_,rfl⟩;obtain⟨o5,ho5⟩:∃o5,o5=o+4+512:=⟨_,rfl⟩;rw[<-ho5,<-ho4]at x2;have Iu:IntKind.i64.wrap ((o:Int)+4)=(o4:Int):=by rw[show(o:Int)+4=(o4:Int) by omega];exact bA _ (by omega) (by omega)
   have hw4:IntKind.i64.wrap ((o4:Int)+512)=(o5:Int):=by rw[show(o4:Int)+512=(o5:Int) by omega];exact bA _ (by omega) (by omega)
   have g1:(o:Int)<=(n:Int):=by omega
   have g2:(o4:Int)<=(o5:Int):=by omega
   have g3:(o5:Int)<=(n:Int):=by omega
   have aaF:Hid (∀w',ah No wr w'->Calls Tryz.prog 118 #[.pointer (some ⟨x,0,none⟩),.int .i64 (id:Int),.string (au image)] w' fun e w''=>e=.returned (.int .i64 ((k'.writes (dQ log id image)).1:Int))/\aF w'' (bz (bz Dd w wr) w' w'') d kb (k'.writes (dQ log id image)).2/\ah (bz Dd w wr) w' w''):=aa (fun w' hx=>by
    have c0:=aj (HX.out.ag hx.of_no) zJ.out yG.out;have c2:=aj (HX.out.ag hx.of_no) HC2.out yG.out;refine WW (HDK.out.ext hx (fun _ _ h=>h)) c0 c2 (fun hg=>?_) uA.out (by have:=Jt.out;have:=lL.out;omega) id (by have:=QY.out;omega) image OG.2;rcases hg with hg|hg
    ·exact yG.out hg
    ·have:=Py.out;omega)
   have Ee:Hid (R=if (k'.writes (dQ log id image)).1≠0 then k'.writes (dQ log id image)else (k'.writes (dQ log id image)).2.writes (bI log (l.drop (j+1)))):=aa (by
    have hdr:l.drop j=(id,image)::l.drop (j+1):=by
     rw[List.drop_eq_getElem_cons bu];congr 1;exact(List.getElem?_eq_some_iff.1 hp).2
    rw[o7.out,hdr];have e:bI log ((id,image)::l.drop (j+1))=dQ log id image++bI log (l.drop (j+1)):=rfl
    rw[e,Dk.vB])
   have j_:Hid ((k'.writes (dQ log id image)).2.eD (N+(j+1)*8)):=aa ((Dk.lQ _ uA.out).mono (by rw[Ai];omega));have VV:=aa ((Dk.jU (dQ log id image) k').trans QY.out);generalize k'.writes (dQ log id image)=kw at *;have iY:(j:Int)<(l.length:Int):=by omega
   have HO:=aa ho;rw[az]at eZ;clear hj bu hp OG hr ho sH A_ hn Iw e1 ho4 ho5;go_upto_region 6 with fail
   go_region_held3 (fun w'=>True) (trivial) (first
    | (go_at_call 55;refine(HV2.out _).mono ?_;rintro e w2 ⟨rfl,kk,rfl⟩)
    | (go_at_call 118;refine(aaF.out _ (by exact(ah.refl No wr).drewN _)).mono ?_;rintro e w3 ⟨rfl,za,bC⟩))
   have C9:ah (bz Dd w wr) wr w3:=(ah.drewN (ah.refl _ wr) _).ag bC;have zD:=aa (HX.out.trans C9 (fun b hb hg=>bz.back (Nat.le_refl _) hb hg));have yV:=C9.size;have yH:=aa (za.mono (D':=bz Dd w w3) (fun b hb=>bz.trans (w1:=wr) HX.out.size yV (by rcases hb with hb|hb;exact .inl hb;exact .inr ⟨hb.1,hb.2⟩)) (bz.old vO.out zD.out.size));clear za bC C9 vk Nc Iu hw4 g1 g2 g3 x1 x2 eZ
   by_cases hc:kw.1=0
   ·have Ao:Hid (R=kw.2.writes (bI log (l.drop (j+1)))):=aa (by rw[Ee.out,if_neg (by omega)])
    have jQ:(kw.1:Int)=0:=by omega
    rw[jQ];have hw9:IntKind.i64.wrap ((j:Int)+1)=(j:Int)+1:=bA _ (by omega) (by have:=lL.out;have:=mQ.out;omega);clear hc jQ o7 Ee;go_wp2_with fail;go_roundg (gk-1)
    case rel=>exact⟨j+1,kw.2,by have:=HJ.out;have:=mQ.out;omega,by go_num,Ao,yH,zD,j_,VV⟩
    case measure=>have:=HJ.out;have:=mQ.out;omega
   ·have hRk:R=kw:=by rw[Ee.out,if_pos hc]
    have TD:=aa hRk;have jQ:((kw.1:Int) != 0)=true:=by simp;omega
    clear hc hRk;go_wp2_with fail;go_ret;rw[TD.out];exact⟨rfl,yH.out,zD.out⟩
  ·have IG:j=l.length:=by omega
   have HR8:Hid (R=(0,k')):=aa (by rw[o7.out,IG,List.drop_length];rfl);have iC:¬((j:Int)<(l.length:Int)):=by omega
   clear hj bu IG;go_wp2_with fail;go_ret;rw[HR8.out];exact⟨rfl,HDK.out,HX.out⟩
end Go.Proofs.YtccnemmlkcmceaaGreatDoor
namespace Go.Proofs.YtccnemmlkcmceaaGreatDoor
open Go.RowKit Go.BigFrame
theorem Oj {w:World}{D:Nat->Prop}{x d m:Nat}{l:Lg}(h:dW w D x d m l) (hn:l.recs.length<100000) :
  Calls Tryz.prog 81 #[.pointer (some ⟨x,0,none⟩)] w (zu 9 1 w (iU l.recs) l.recs.length):=by
 have HN:=aa (Ih h);obtain⟨Ab,cb,Ar,cr,Ap,cp,hb,ob,or_,op,hdj⟩:=h.cells;have HC:=aa (gY ⟨Ar,l.recs.length,cr,iU l.recs⟩ w (or_.part (fun u hu=>by obtain⟨s,_,rfl⟩:=List.mem_map.1 hu;rfl)) hn);simp only[dC.v]at HC;have c5:w.cell? ⟨x,5,none⟩=some (.slice Ar l.recs.length cr):=hb.cell 5;have bu:=hb.lt;obtain⟨Q,hQ⟩:∃Q,Q=zu 9 1 w (iU l.recs) l.recs.length:=⟨_,rfl⟩;rw[<-hQ];have HQ:=aa hQ;clear h ob or_ op hdj hb hn hQ;go_enter Tryz.func81,Tryz.ntmps81;go_wp2_with fail;refine(HN.out).mono ?_;rintro e w1 ⟨rfl,rfl⟩;go_wp2_with fail;refine(HC.out).mono ?_;rintro e w2 ⟨A',c',rfl,ho,hx⟩;have HD:Hid (Q (.returned (.slice A' l.recs.length c')) w2):=aa (by rw[HQ.out];exact⟨A',c',rfl,ho,hx⟩);clear ho hx;go_wp2_with fail;exact HD.out
theorem CJ {w:World}{a:sF}{m:Mt}{o:Option Addr}(h:ax w a.x 131 (gu a m o false)) (c:Nat) :
  Calls Tryz.prog 69 #[.pointer (some ⟨a.x,0,none⟩),.int .i64 (c:Int)] w fun e w'=>e=.returned (.int .i64 (c:Int))/\ax w' a.x 131 (gu a m o (decide (c≠0)))/\ah (On a.x) w w':=by
 have c11:w.cell? ⟨a.x,11,none⟩=some (.bool false):=h.cell 11;have f11:=h.frozen 11;have bu:=h.lt;have HB:=aa h;clear h
 by_cases hc:c=0
 ·subst hc
  go_enter Tryz.func69,Tryz.ntmps69;go_wp2_with fail;go_ret;exact⟨rfl,HB.out.aQ 11 (.bool false),(ah.refl _ _).ay (F:=On a.x) rfl 11 _⟩
 ·have OY:((c:Int) != 0)=true:=by simp;omega
  have e:decide (c≠0)=true:=by simp[hc]
  rw[e];clear hc e;go_enter Tryz.func69,Tryz.ntmps69;go_wp2_with fail;go_ret;exact⟨rfl,HB.out.aQ 11 (.bool true),(ah.refl _ _).ay (F:=On a.x) rfl 11 _⟩
theorem fo.agh {w w':World}{Dd Dl:Nat->Prop}{a:sF}{o:Option Addr}{lost aaY:Bool}{T:Nat->Nat}{b:Db}(h:fo w Dd Dl a o lost T b) (hb:ax w' a.x 131 (gu a b.m o aaY)) (hx:ah (On a.x) w w'):fo w' Dd Dl a o aaY T b :=
 ⟨h.disk.ext hx (fun g hg e=>h.parts.xd (by have e':g=a.x:=e;rw[<-e'];exact hg)),h.o9.ext hx (fun g hg e=>h.parts.xl (by have e':g=a.x:=e;rw[<-e'];exact hg)),hb,h.half.ext hx (fun e=>h.parts.zx (by have e':0=a.x:=e;exact e'.symm)),h.parts,h.ll⟩
theorem Dk.qI {cr:Bs->Nat}{k:Dk}{n:Nat}(h:k.eD n) (e len:Nat):(k.aO cr e len).2.eD (n+2):=by
 unfold Dk.aO;have h1:=Dk.kM h 0 (bZ cr e len);split
 ·exact h1.mono (by omega)
 ·exact Dk.nJ h1
theorem Dk.pM (cr:Bs->Nat) (k:Dk) (e len:Nat):(k.aO cr e len).2.n=k.n:=by
 unfold Dk.aO;split
 ·exact Dk.qj _ _ _
 ·rw[show ∀k:Dk,k.flush.2.n=k.n from fun k=>by
   by_cases h:k.flush.1=0
   ·exact(Dk.nI h).2.2
   ·exact(Dk.ug h).2.2]
  exact Dk.qj _ _ _
theorem Dk.uQ (k:Dk):k.flush.2.n=k.n:=by
 by_cases h:k.flush.1=0
 ·exact(Dk.nI h).2.2
 ·exact(Dk.ug h).2.2
theorem yn.newer {w:World}{a:sF}{Dd Dl rR JC:Nat->Prop}(h:yn a Dd Dl) (h1:jw w Dd rR) (h2:jw w Dl JC) (xM:∀g,JC g->¬rR g) (hx:a.x<w.heap.size):yn a rR JC:=by
 refine⟨xM,fun g=>?_,fun g=>?_,fun g=>?_,fun g=>?_,h.zx⟩
 ·rcases h1 _ g with g|g
  ·exact h.xd g
  ·omega
 ·rcases h2 _ g with g|g
  ·exact h.xl g
  ·omega
 ·rcases h1 _ g with g|g
  ·exact h.zd g
  ·omega
 ·rcases h2 _ g with g|g
  ·exact h.zl g
  ·omega
structure QT (w:World) (Dd Dl:Nat->Prop) (a:sF) (o:Option Addr) (lost:Bool) (T:Nat->Nat) (S:Nat×Db) (e:Ending) (w':World):Prop where
 e:e=.returned (.int .i64 (S.1:Int))
 at_:∃rR,aF w' rR a.d a.kb S.2.k/\(S.1=0->fo w' rR Dl a o lost T S.2)/\yn a rR Dl/\jw w Dd rR
 bx:ax w' a.x 131 (gu a S.2.m o lost)
 x:ah (fun b=>Dd b\/Dl b) w w'
theorem Je {w:World}{Dd Dl:Nat->Prop}{a:sF}{o:Option Addr}{lost:Bool}{T:Nat->Nat}{b:Db}(h:fo w Dd Dl a o lost T b) (hk:b.k.eD (2^28)) (he:b.ak<2^59) (hr:b.recs.length<2^16) :
  Calls Tryz.prog 70 #[.pointer (some ⟨a.x,0,none⟩)] w (QT w Dd Dl a o lost T (b.settle (bT T))):=by
 obtain⟨S,hS⟩:∃S,S=b.settle (bT T):=⟨_,rfl⟩;rw[<-hS];obtain⟨Q,hQ⟩:∃Q,Q=QT w Dd Dl a o lost T S:=⟨_,rfl⟩;rw[<-hQ];have HQ:=aa hQ;have HS:=aa hS;have jy:=aa (Oj h.o9 (by show b.recs.length<100000;omega));simp only at jy;have x0:w.cell? ⟨a.x,0,none⟩=some (.pointer (some ⟨a.d,0,none⟩)):=h.db.cell 0;have x1:w.cell? ⟨a.x,1,none⟩=some (.pointer (some ⟨a.l,0,none⟩)):=h.db.cell 1;have BC:=h.db.lt;have H:=aa h;have HK:=aa hk;have HE:=aa he;have zJ:=aa x0;have rC:=aa x1;have Py:=aa BC;obtain⟨x,hx⟩:∃x,x=a.x:=⟨_,rfl⟩;obtain⟨n,hn⟩:∃n,n=b.recs.length:=⟨_,rfl⟩;rw[<-hx]at x0 x1 zJ rC BC Py ⊢;rw[<-hn]at jy;have HN:=aa hn;have HX:=aa hx;clear h hk he hr hS hQ hn hx;go_enter Tryz.func70,Tryz.ntmps70;go_wp2_with fail;refine(jy.out).mono ?_;rintro e w1 ⟨A,c,rfl,_,aT⟩;have gK:=aa aT;have H1:=aa (H.out.no aT);have y0:=aj aT zJ.out (fun h=>h);have y1:=aj aT rC.out (fun h=>h);have adO:x<w1.heap.size:=by have:=aT.size;omega
 clear aT x0 x1 jy
 by_cases uN:n=0
 ·have HD:Hid (Q (.returned (.int .i64 0)) w1):=aa (by
   have hr:b.recs = []:=List.eq_nil_of_length_eq_zero (by rw[<-HN.out,uN]);have e:S=(0,b):=by rw[HS.out];unfold Db.settle;rw[if_pos hr]
   rw[HQ.out,e]
   exact⟨rfl,⟨Dd,H1.out.disk,fun _=>H1.out,H1.out.parts,fun g hg=>.inl hg⟩,H1.out.db,gK.out.of_no⟩)
  subst uN;go_wp2_with fail;exact HD.out
 ·have bQ:((n:Int)==0)=false:=by simpa using uN
  have Js:Hid (b.recs ≠ []):=aa (fun e=>by rw[e]at HN;exact uN HN.out);have HFL:=aa (uj H1.out.disk (by have:=HK.out.1;omega) (by have:=HK.out.2.1;omega) (by have:=HK.out.2.2;omega));obtain⟨F,hF⟩:∃F,F=b.k.flush:=⟨_,rfl⟩;rw[<-hF]at HFL;have HF:=aa hF;clear uN hF;go_wp2_with fail;refine(HFL.out).mono ?_;rintro e w2 ⟨rfl,hd2,aH⟩;have mE:=aa hd2;have dx:=aa aH;have hNX:¬Dd x:=by rw[HX.out];exact H.out.parts.xd
  have yG:=aa hNX;have z1:=aj aH y1 hNX;have abV:x<w2.heap.size:=by have:=aH.size;omega
  have XC:=aa (H1.out.o9.ext aH H.out.parts.ap);have ng:=aa (H1.out.db.ext aH H.out.parts.xd);have rq:=aa (H1.out.half.ext aH H.out.parts.zd);clear hd2 aH y0 y1 hNX
  by_cases hf:F.1=0
  ·have hf0:(F.1:Int)=0:=by omega
   have HF0:=aa hf;have Nu:=aa (U_ XC.out mE.out rq.out H.out.parts.zd H.out.parts.ap (by rw[HF.out];exact(Dk.nJ HK.out).mono (by decide)) (by show b.ak<_;exact HE.out) rfl rfl);simp only at Nu;obtain⟨R,hR⟩:∃R,R=F.2.aO (bT T) (b.ak+1) 0:=⟨_,rfl⟩;rw[<-hR]at Nu;have HR:=aa hR;obtain⟨l9,h9⟩:∃l9:Lg,l9=(if R.1≠0 then { (⟨b.ak,b.bytes,b.recs,[],false⟩:Lg)with lost:=true } else { (⟨b.ak,b.bytes,b.recs,[],false⟩:Lg)with ak:=b.ak+1,bytes:=[],recs:=[] }):=⟨_,rfl⟩;have H9:=aa h9;have ade:Hid (Calls Tryz.prog 111 #[.pointer (some ⟨a.l,0,none⟩)] w2 fun e w'=>e=.returned (.int .i64 (R.1:Int))/\aF w' (bz Dd w2 w') a.d a.kb R.2/\dW w' Dl a.l a.d a.log l9/\ah (fun b=>Dd b\/On a.l b) w2 w'):=aa (by rw[h9];exact Nu.out);rw[hf0];clear hf hf0 hR h9 Nu;go_wp2_with fail;refine(ade.out).mono ?_;rintro e w3 ⟨rfl,za,BF,bC⟩
   have HD:Hid (Q (.returned (.int .i64 (R.1:Int))) w3):=aa (by
    have Ov:Dl a.l:=H.out.o9.xx;have hP:=H.out.parts
    have C9:ah (fun b=>Dd b\/Dl b) w2 w3:=bC.mono (fun g _ hg=>by
     rcases hg with hg|hg
     ·exact .inl hg
     ·have e':g=a.l:=hg
      rw[e'];exact .inr Ov)
    have hnx:¬(fun b=>Dd b\/Dl b) a.x:=fun hg=>by
     rcases hg with hg|hg
     ·exact hP.xd hg
     ·exact hP.xl hg
    have uN:¬(fun b=>Dd b\/Dl b) 0:=fun hg=>by
     rcases hg with hg|hg
     ·exact hP.zd hg
     ·exact hP.zl hg
    have hNW:jw w Dd (bz Dd w2 w3):=fun g hg=>by
     rcases hg with hg|hg
     ·exact .inl hg
     ·have:=gK.out.size;have:=dx.out.size;exact .inr (by omega)
    have acP:∀g,Dl g->¬bz Dd w2 w3 g:=fun g hg JH=>by
     rcases JH with JH|JH
     ·exact hP.ap g hg JH
     ·have:=XC.out.old g hg;omega
    have hP3:=hP.newer (w:=w) hNW (fun g hg=>.inl hg) acP (by rw[<-HX.out];exact Py.out);have jR:ah (fun b=>Dd b\/Dl b) w w3:=(gK.out.of_no.ag (dx.out.mono (fun _ _ hg=>.inl hg))).ag C9;have eS:S=if R.1≠0 then (R.1,{ b with k:=R.2 })else (0,{ b with k:=R.2,ak:=b.ak+1,bytes:=[],recs:=[] }):=by
     rw[HS.out];unfold Db.settle;rw[if_neg Js.out,<-HF.out,if_neg (by have:=HF0.out;omega),<-HR.out]
    rw[HQ.out];have SA:=ng.out.ext C9 hnx
    by_cases hr:R.1=0
    ·rw[if_neg (by omega)]at eS
     rw[eS];have hl9:=H9.out;rw[if_neg (by omega)]at hl9;rw[hl9]at BF;refine⟨by rw[hr],⟨_,za,fun _=>⟨za,BF,SA,rq.out.ext C9 uN,hP3,?_⟩,hP3,hNW⟩,SA,jR⟩;show a.log<=R.2.n;rw[HR.out,Dk.pM,HF.out,Dk.uQ];exact H.out.ll
    ·rw[if_pos hr]at eS
     rw[eS]
     exact⟨rfl,⟨_,za,fun h=>absurd h hr,hP3,hNW⟩,SA,jR⟩)
   clear za BF bC;go_wp2_with fail;exact HD.out
  ·have Nl:((F.1:Int) != 0)=true:=by simp;omega
   have HD:Hid (Q (.returned (.int .i64 (F.1:Int))) w2):=aa (by
    have e:S=(F.1,{ b with k:=F.2 }):=by
     rw[HS.out];unfold Db.settle;rw[if_neg Js.out,<-HF.out,if_pos hf]
    rw[HQ.out,e]
    exact⟨rfl,⟨Dd,mE.out,fun h=>absurd h hf,H.out.parts,fun g hg=>.inl hg⟩,ng.out,gK.out.of_no.ag (dx.out.mono (fun _ _ hg=>.inl hg))⟩)
   clear hf;go_wp2_with fail;exact HD.out
def Mt.val (m:Mt):Value:=.agg #[.int .i64 (m.r 0:Int),.int .i64 (m.r 1:Int),.int .i64 (m.r 2:Int),.int .i64 (m.r 3:Int),.int .i64 (m.high:Int),.int .i64 (m.free:Int),.int .i64 (m.cnt:Int)]
structure Mt.Ok (m:Mt):Prop where
 r:∀i,m.r i<2147483648
 h:m.high<2147483648
 f:m.free<2147483648
 c:m.cnt<2147483648
def Mt.pre (m:Mt) (j:Nat):Bs:=n4 m.high++(n4 m.free++n4 m.cnt)++((List.range j).map fun i=>n4 (m.r i)).flatten
theorem Mt.Kt (m:Mt) (j:Nat):m.pre (j+1)=m.pre j++n4 (m.r j):=by
 unfold Mt.pre;rw[List.range_succ,List.map_append,List.flatten_append,List.append_assoc];simp
theorem Mt.UN (m:Mt):m.pre 4=m.body:=by
 unfold Mt.pre Mt.body;simp only[List.append_assoc];rfl
theorem Mt.Y5 (m:Mt) (j:Nat):(m.pre j).length=12+4*j:=by
 induction j with
 | zero=>rfl
 | succ j ih=>rw[m.Kt,List.length_append,ih,bX];omega
theorem Vp (m:Mt) (j:Nat) (hj:j<4) (w:World):(Instr.index 106 (.agg #[.int .i64 (m.r 0:Int),.int .i64 (m.r 1:Int),.int .i64 (m.r 2:Int),.int .i64 (m.r 3:Int)]) (.int .i64 (j:Int))).run Tryz.prog w=.ok (.int .i64 (m.r j:Int)) w:=by
 match j,hj with
 | 0,_=>simp[Instr.index,run_underlying Tryz.underlying106,asIntOf,part,isAgg,run_underlying Tryz.underlying3,go_sem]
 | 1,_=>simp[Instr.index,run_underlying Tryz.underlying106,asIntOf,part,isAgg,run_underlying Tryz.underlying3,go_sem]
 | 2,_=>simp[Instr.index,run_underlying Tryz.underlying106,asIntOf,part,isAgg,run_underlying Tryz.underlying3,go_sem]
 | 3,_=>simp[Instr.index,run_underlying Tryz.underlying106,asIntOf,part,isAgg,run_underlying Tryz.underlying3,go_sem]
theorem Xj (m:Mt) (hm:m.Ok) (w:World):Calls Tryz.prog 105 #[m.val] w fun e w'=>e=.returned (.string (au m.body))/\ah No w w':=by
 have TH:=aa (fun n (hn:n<2147483648) w=>qG n (by omega) w);have HM:=aa hm;obtain⟨C,hC⟩:∃C,C=m.body:=⟨_,rfl⟩;rw[<-hC];have HC:=aa hC;have H0:=aa (fun w=>TH.out m.high hm.h w);have H1:=aa (fun w=>TH.out m.free hm.f w);have H2:=aa (fun w=>TH.out m.cnt hm.c w);obtain⟨N0,hN0⟩:∃N0,N0=n4 m.high:=⟨_,rfl⟩;obtain⟨N1,hN1⟩:∃N1,N1=n4 m.free:=⟨_,rfl⟩;obtain⟨N2,hN2⟩:∃N2,N2=n4 m.cnt:=⟨_,rfl⟩;rw[<-hN0]at H0;rw[<-hN1]at H1;rw[<-hN2]at H2;have l0:N0.length=4:=by rw[hN0];rfl
 have l1:N1.length=4:=by rw[hN1];rfl
 have l2:N2.length=4:=by rw[hN2];rfl
 have s1:au N0++au N1=au (N0++N1):=fM _ _;have s2:au (N0++N1)++au N2=au (m.pre 0):=by rw[fM,hN0,hN1,hN2];unfold Mt.pre;simp
 unfold Mt.val;clear hm hC hN0 hN1 hN2;go_enter Tryz.func105,Tryz.ntmps105;go_upto_region 1 with fail;have hb:=ax.new w 108 #[.int .i64 (m.r 0:Int),.int .i64 (m.r 1:Int),.int .i64 (m.r 2:Int),.int .i64 (m.r 3:Int),.int .i64 (m.high:Int),.int .i64 (m.free:Int),.int .i64 (m.cnt:Int)];have gK:=aa ((ah.refl No w).alloc (.cells #[.int .i64 (m.r 0:Int),.int .i64 (m.r 1:Int),.int .i64 (m.r 2:Int),.int .i64 (m.r 3:Int),.int .i64 (m.high:Int),.int .i64 (m.free:Int),.int .i64 (m.cnt:Int)] 108));generalize w.alloc (.cells #[.int .i64 (m.r 0:Int),.int .i64 (m.r 1:Int),.int .i64 (m.r 2:Int),.int .i64 (m.r 3:Int),.int .i64 (m.high:Int),.int .i64 (m.free:Int),.int .i64 (m.cnt:Int)] 108)=W at *;have HB:=aa hb;have k0:=hb.cell 0;have k1:=hb.cell 1;have k2:=hb.cell 2;have k3:=hb.cell 3;have k4:=hb.cell 4;have k5:=hb.cell 5;have k6:=hb.cell 6;simp at k0 k1 k2 k3 k4 k5 k6;have lw:=hb.lt;clear hb;refine fK (by kernel_rfl) (by kernel_rfl) ?_;(repeat (go_big_quiet_step ((go_at_call 106;first|(with_reducible exact Calls.vD (H0.out _))|(with_reducible exact Calls.vD (H1.out _))|(with_reducible exact Calls.vD (H2.out _))))));refine wpQuiet_nil ?_;intro _ Nf;obtain⟨⟨wq,hq⟩,jZ⟩:=Nf;change _=wq at jZ;subst jZ
 have fQ:=aa hq;have dO:=HB.out.ext hq (fun h=>h);have q0:=dO.cell 0;have q1:=dO.cell 1;have q2:=dO.cell 2;have q3:=dO.cell 3;simp at q0 q1 q2 q3;have lq:=dO.lt;clear hq dO k0 k1 k2 k3 k4 k5 k6 s1 s2 l0 l1 l2 H0 H1 H2;go_wp2_with fail;go_loopg [3,19] 4 (fun gk q3 q19 wr=>∃j:Nat,j+gk=4/\q19=.int .i64 (j:Int)/\q3=.string (au (m.pre j))/\Hid (ah No w wr))
 case atStart=>exact⟨0,rfl,rfl,rfl,aa (gK.out.ag fQ.out)⟩
 case round =>
  obtain⟨j,hj,rfl,rfl,HE⟩:=hrel;have HJ:=aa hj
  by_cases h4:j<4
  ·have H4:=aa h4
   have hix:=fun w=>Vp m j h4 w
   have Uc:(j:Int)<4:=by omega
   have HN:=aa (fun w=>TH.out (m.r j) (HM.out.r j) w);obtain⟨N,hN⟩:∃N,N=n4 (m.r j):=⟨_,rfl⟩;rw[<-hN]at HN;have Jt:=aa hN;have hl:(m.pre j).length<100:=by rw[m.Y5];omega
   have hn:N.length=4:=by rw[hN];rfl
   have s1:au (m.pre j)++au N=au (m.pre (j+1)):=by rw[fM,m.Kt,hN]
   obtain⟨P,hP⟩:∃P,P=m.pre j:=⟨_,rfl⟩;rw[<-hP]at s1 hl ⊢;clear hj h4 hN hP;go_wp2_with fail;refine(HN.out _).mono ?_;rintro e w1 ⟨rfl,aT⟩;have YK:=aa (HE.out.ag aT);clear aT;go_wp2_with fail;go_roundg (gk-1)
   case rel=>exact⟨j+1,by have:=HJ.out;have:=H4.out;omega,by go_num,rfl,YK⟩
   case measure=>have:=HJ.out;have:=H4.out;omega
  ·have Uc:j=4:=by omega
   subst Uc;have oG:Hid (C=m.pre 4):=aa (by rw[m.UN];exact HC.out);rw[<-oG.out];clear hj h4;go_wp2_with fail;go_ret;exact⟨rfl,HE.out⟩
end Go.Proofs.YtccnemmlkcmceaaGreatDoor
namespace Go.Proofs.YtccnemmlkcmceaaGreatDoor
open Go.RowKit Go.Maps Go.Sort Go.Shelf
def sv:Bs->Value:=fun b=>.string (au b)
def V.mt (v:V):Mt:=⟨v.r,v.high,v.free,v.cnt⟩
def pI (cr:Bs->Nat) (p:Nat×bB):Nat×Bs:=(p.1,dY cr p.1 p.2.kind p.2.body)
def fB (cr:Bs->Nat) (v:V) (ov:List (Nat×bB)):List (Nat×Bs):=ov.map (pI cr)++(if v.marked then [(0,dY cr 0 1 v.mt.body)]else [])
theorem Bt:∀{l m:List Nat},l.Nodup->(∀a∈l,a∈m)->l.length<=m.length
 | [],m,_,_=>by simp
 | a::l,m,h,hs=>by
  have h1:=List.nodup_cons.1 h
  have h2:l.length<=(m.erase a).length:=Bt h1.2 (fun b hb=>by
   exact(List.mem_erase_of_ne (by rintro rfl;exact h1.1 hb)).2 (hs b (by simp[hb])))
  have h3:=hs a (by simp);rw[List.length_erase_of_mem h3]at h2;have:0<m.length:=List.length_pos_of_mem h3;simp only[List.length_cons];omega
theorem vU {w:World}{b i:Nat}{o:Obj}(h:i≠b):(ChangeMaps.setBlock w b o).heap[i]?=w.heap[i]?:=by
 simp only[ChangeMaps.setBlock,Array.getElem?_setIfInBounds];rw[if_neg (fun e=>h e.symm)]
theorem FM {w:World}{b:Nat}{o:Obj}(h:b<w.heap.size):(ChangeMaps.setBlock w b o).heap[b]?=some o:=by
 simp[ChangeMaps.setBlock,h]
structure Bj (cr:Bs->Nat) (w wr:World) (bm r g:Nat) (es:Array MapEntry) (ov:List (Nat×bB)) (since:Nat) (dE:List MapEntry) (dP:List (Nat×bB)) (seen:Array Nat) (c0:Nat):Prop where
 kv:dE.map (fun e=>(e.key,e.val))=dP.map (fun p=>(Value.int .i64 (p.1:Int),p.2.val))
 sub:∀e∈dE,e∈es.toList
 abE:∀p∈dP,p∈ov
 sn:seen.toList=dE.map (·.born)
 nd:(dE.map (·.born)).Nodup
 it:wr.heap[r]?=some (.mapIter (some bm) since seen c0)
 le:since<=c0
 img:o6 sv wr g (dP.map (pI cr))
 x:ah No w wr
structure D_ (w:World) (bm:Nat) (es:Array MapEntry) (c:Nat) (ov:List (Nat×bB)):Prop where
 at_:w.heap[bm]?=some (.map es c)
 nodup:(ov.map (·.1)).Nodup
 Yt:es.toList.map (fun e=>(e.key,e.val))=ov.map (fun p=>(Value.int .i64 (p.1:Int),p.2.val))
 st:oW es c
section
variable {cr:Bs->Nat}{w wr:World}{bm r g c:Nat}{es:Array MapEntry}{ov:List (Nat×bB)}{dE:List MapEntry}{dP:List (Nat×bB)}{seen:Array Nat}{c0:Nat}
theorem D_.len (h:D_ w bm es c ov):es.toList.length=ov.length:=by
 have:=congrArg List.length h.Yt;simpa using this
theorem D_.pair (h:D_ w bm es c ov) {e:MapEntry}(he:e∈es.toList):∃p∈ov,e.key=.int .i64 (p.1:Int)/\e.val=p.2.val:=by
 have h1:(e.key,e.val)∈es.toList.map (fun e=>(e.key,e.val)):=List.mem_map.2 ⟨e,he,rfl⟩;rw[h.Yt]at h1;obtain⟨p,hp,e1⟩:=List.mem_map.1 h1;injection e1 with e1 e2;exact⟨p,hp,e1.symm,e2.symm⟩
theorem D_.abQ (h:D_ w bm es c ov) {e e':MapEntry}(he:e∈es.toList) (Fg:e'∈es.toList) (hk:e.key=e'.key):e=e':=by
 have wB:es.toList.map (·.key)=(ov.map (fun p=>p.1)).map (fun i:Nat=>Value.int .i64 (i:Int)):=by
  have:=congrArg (List.map Prod.fst) h.Yt;rw[List.map_map,List.map_map]at this;rw[List.map_map];exact this
 have gN:(es.toList.map (·.key)).Nodup:=by
  rw[wB];exact List.Pairwise.map (fun i:Nat=>Value.int .i64 (i:Int)) (fun a b hab e=>hab (by injection e with _ e;omega)) h.nodup
 obtain⟨i,hi⟩:=List.getElem?_of_mem he;obtain⟨j,hj⟩:=List.getElem?_of_mem Fg;have yE:=(List.getElem?_eq_some_iff.1 hi).1;have:i=j:=by
  have a1:(es.toList.map (·.key))[i]?=some e.key:=by rw[List.getElem?_map,hi];rfl
  have a2:(es.toList.map (·.key))[j]?=some e.key:=by rw[List.getElem?_map,hj,hk];rfl
  exact(List.getElem?_inj (by rw[List.length_map];exact yE) gN).1 (a1.trans a2.symm)
 subst this;rw[hi]at hj;exact Option.some.inj hj
theorem Bj.fresh (h:Bj cr w wr bm r g es ov c dE dP seen c0) (hm:D_ w bm es c ov) {e:MapEntry}(he:e∈(leftOf es seen).toList) {p:Nat×bB}(hp:e.key=.int .i64 (p.1:Int)):e∈es.toList/\e.born∉dE.map (·.born)/\p.1∉(dP.map (pI cr)).map (·.1):=by
 unfold leftOf at he;have Fg:e∈Array.filter (fun e=>!seen.contains e.born) es:=Array.mem_toList_iff.1 he;rw[Array.mem_filter]at Fg;have h1:e∈es.toList:=Array.mem_toList_iff.2 Fg.1;have h2:e.born∉dE.map (·.born):=by
  rw[<-h.sn];intro hm';have h3:seen.contains e.born=true:=Array.contains_iff_mem.2 (Array.mem_toList_iff.1 hm');rw[h3]at Fg;exact absurd Fg.2 (by simp)
 refine⟨h1,h2,fun hk=>h2 ?_⟩;rw[List.map_map]at hk;obtain⟨q,hq,e1⟩:=List.mem_map.1 hk;have e1:q.1=p.1:=e1;have h4:(Value.int .i64 (q.1:Int),q.2.val)∈dE.map (fun e=>(e.key,e.val)):=by rw[h.kv];exact List.mem_map.2 ⟨q,hq,rfl⟩
 obtain⟨e',Fg,e2⟩:=List.mem_map.1 h4;injection e2 with e2 _;have:e=e':=hm.abQ h1 (h.sub e' Fg) (by rw[hp,e2,e1]);subst this;exact List.mem_map.2 ⟨e,Fg,rfl⟩
theorem Bj.step (h:Bj cr w wr bm r g es ov c dE dP seen c0) (hm:D_ w bm es c ov) {e:MapEntry}(he:e∈(leftOf es seen).toList) {p:Nat×bB}(Ng:p∈ov) (hp:e.key=.int .i64 (p.1:Int)) (hv:e.val=p.2.val) {w':World}{clock:Nat}(wL:c<=clock)
  (hit:w'.heap[r]?=some (.mapIter (some bm) c (seen.push e.born) clock)) (ag2:o6 sv w' g (dP.map (pI cr) ++ [pI cr p])) (hx:ah No w w'):Bj cr w w' bm r g es ov c (dE ++ [e]) (dP ++ [p]) (seen.push e.born) clock:=by
 obtain⟨h1,h2,_⟩:=h.fresh hm he hp;refine⟨by simp[h.kv,hp,hv],fun x hx=>?_,fun x hx=>?_,by simp[h.sn],?_,hit,wL,by rw[List.map_append];exact ag2,hx⟩
 ·rcases List.mem_append.1 hx with hx|hx
  ·exact h.sub x hx
  ·rw[List.mem_singleton.1 hx];exact h1
 ·rcases List.mem_append.1 hx with hx|hx
  ·exact h.abE x hx
  ·rw[List.mem_singleton.1 hx];exact Ng
 ·rw[List.map_append]
  refine List.nodup_append.2 ⟨h.nd,by simp,?_⟩;intro a ha b hb e3;have:b=e.born:=by simpa using hb
  subst this;subst e3;exact h2 ha
theorem Bj.len (h:Bj cr w wr bm r g es ov c dE dP seen c0) (hm:D_ w bm es c ov):dP.length=dE.length/\dP.length<=ov.length:=by
 have h1:dE.length=dP.length:=by have:=congrArg List.length h.kv;simpa using this
 have h2:=Bt h.nd (m:=es.toList.map (·.born)) (fun a ha=>by
  obtain⟨e,he,rfl⟩:=List.mem_map.1 ha
  exact List.mem_map.2 ⟨e,h.sub e he,rfl⟩)
 rw[List.length_map,List.length_map,hm.len]at h2;omega
theorem Bj.all (h:Bj cr w wr bm r g es ov c dE dP seen c0) (hm:D_ w bm es c ov) (h0:(leftOf es seen).size=0):dP.Perm ov:=by
 have iL:∀e∈es.toList,e∈dE:=fun e he=>by
  have h1:e.born∈dE.map (·.born):=by
   rw[<-h.sn];rcases Classical.em (e.born∈seen.toList)with h1|h1
   ·exact h1
   ·exfalso
    have h2:e∈leftOf es seen:=by
     unfold leftOf;rw[Array.mem_filter];refine⟨Array.mem_toList_iff.1 he,?_⟩;have:seen.contains e.born=false:=by
      rw[Bool.eq_false_iff];intro h3;exact h1 (Array.mem_toList_iff.2 (Array.contains_iff_mem.1 h3))
     rw[this];rfl
    have h3:leftOf es seen = #[]:=Array.eq_empty_of_size_eq_zero h0;rw[h3]at h2;simp at h2
  obtain⟨e',Fg,e1⟩:=List.mem_map.1 h1;have:e=e':=by
   obtain⟨i,hi⟩:=List.getElem?_of_mem he;obtain⟨j,hj⟩:=List.getElem?_of_mem (h.sub e' Fg);have yE:=(List.getElem?_eq_some_iff.1 hi).1;have:i=j:=by
    have a1:(es.toList.map (·.born))[i]?=some e.born:=by rw[List.getElem?_map,hi];rfl
    have a2:(es.toList.map (·.born))[j]?=some e.born:=by rw[List.getElem?_map,hj];simp[e1]
    exact(List.getElem?_inj (by rw[List.length_map];exact yE) hm.st.2).1 (a1.trans a2.symm)
   subst this;rw[hi]at hj;exact Option.some.inj hj
  rw[this];exact Fg
 have mX:(dP.map (·.1)).Nodup:=by
  have:=h.img.nodup;rw[List.map_map]at this;exact this
 have hPn:dP.Nodup:=List.Pairwise.imp (fun hab e=>hab (by rw[e])) (List.pairwise_map.1 mX);have Nq:ov.Nodup:=List.Pairwise.imp (fun hab e=>hab (by rw[e])) (List.pairwise_map.1 hm.nodup);refine(List.perm_ext_iff_of_nodup hPn Nq).2 (fun p=>⟨h.abE p,fun hp=>?_⟩);have h1:(Value.int .i64 (p.1:Int),p.2.val)∈es.toList.map (fun e=>(e.key,e.val)):=by rw[hm.Yt];exact List.mem_map.2 ⟨p,hp,rfl⟩
 obtain⟨e,he,e1⟩:=List.mem_map.1 h1;have h2:(e.key,e.val)∈dP.map (fun p=>(Value.int .i64 (p.1:Int),p.2.val)):=by rw[<-h.kv];exact List.mem_map.2 ⟨e,iL e he,rfl⟩
 obtain⟨q,hq,e2⟩:=List.mem_map.1 h2;rw[e1]at e2;injection e2 with e2 _;have e3:q.1=p.1:=by injection e2 with _ e2;omega
 -- keys of ov are distinct
 have hqo:=h.abE q hq;have:q=p:=by
  obtain⟨i,hi⟩:=List.getElem?_of_mem hqo;obtain⟨j,hj⟩:=List.getElem?_of_mem hp;have yE:=(List.getElem?_eq_some_iff.1 hi).1;have:i=j:=by
   have a1:(ov.map (·.1))[i]?=some q.1:=by rw[List.getElem?_map,hi];rfl
   have a2:(ov.map (·.1))[j]?=some q.1:=by rw[List.getElem?_map,hj];simp[e3]
   exact(List.getElem?_inj (by rw[List.length_map];exact yE) hm.nodup).1 (a1.trans a2.symm)
  subst this;rw[hi]at hj;exact Option.some.inj hj
 rw[<-this];exact hq
end
end Go.Proofs.YtccnemmlkcmceaaGreatDoor
namespace Go.Proofs.YtccnemmlkcmceaaGreatDoor
open Go.RowKit Go.Maps Go.Sort Go.Shelf Go.BigFrame
theorem Lh (m:Nat) (w:World):Calls Tryz.prog 108 #[.map (some m)] w fun e w'=>e=.returned (.func (.func 157) #[] #[.pointer (some ⟨w.heap.size,0,none⟩)])/\w'=w.alloc (.cells #[.map (some m)] 132) :=
 callsIn_wide.1 (AnyZI.keys_in Tryz.aa0 Fence.wide 5 trivial rfl (some m) w)
theorem ET {w:World}{m:Nat}{ov:List (Nat×Bs)}(h:o6 sv w m ov) (hk:∀p∈ov,p.1<65536) (hn:ov.length<65536) :
  Calls Tryz.prog 107 #[.func (.func 157) #[] #[.pointer (some ⟨w.heap.size,0,none⟩)]] (w.alloc (.cells #[.map (some m)] 132)) fun e w'=>∃A c ks,e=.returned (.slice A ks.length c)/\ks.Perm (ov.map (·.1))/\w'.ownsRow w.heap.size 3 1 (.slice A ks.length c) ks.length (aK ks)/\ah No (w.alloc (.cells #[.map (some m)] 132)) w':=by
 obtain⟨D,aP,mq,vI⟩:=h.owns hk hn;have oN:=aP.lt;have agD:SeqGives Fence.wide 2 Tryz.prog 157 #[.pointer (some ⟨w.heap.size,0,none⟩)] encZ (fun ss=>ss.Perm (intKeys D)) (Maps.size D) (w.alloc (.cells #[.map (some m)] 132)) :=
  AnyZI.keys_gives (ρ:=Tryz.F6) { Tryz.aa0 with } Fence.wide _ trivial rfl (by omega) w.heap.size m ov.length D _ (by simp) (by simp) (by
   obtain⟨es,clock,hb,Ft,hs,hD⟩:=aP
   exact⟨es,clock,(Below.heap_alloc _ _ m oN).trans hb,Ft,hs,hD⟩)
 have cS:=AnyZI.sorted_in Tryz.YV Fence.wide 5 trivial trivial trivial trivial rfl (by omega) (Tryz.abG _) (enters_of Tryz.func156 (by kernel_rfl) rfl) 157 #[.pointer (some ⟨w.heap.size,0,none⟩)] trivial (enters_of Tryz.func157 (by kernel_rfl) rfl) _ _ (by rw[vI];unfold maxLen;omega) (by rw[vI];omega) _ agD;change CallsIn _ _ Tryz.prog 107 _ _ _ at cS;refine(callsIn_wide.1 cS).mono ?_;rintro e w' ⟨v,ss,rfl,hS,ZC,pW,hb⟩;have hp:ss.Perm (ov.map fun p=>(p.1:Int)):=hS.trans mq;obtain⟨ks,wK⟩:∃ks:List Nat,ks=(ss.mergeSort fun x y=>decide (x<=y)).map Int.toNat:=⟨_,rfl⟩;have Qp:(ss.mergeSort fun x y=>decide (x<=y)).Perm (ov.map fun p=>(p.1:Int)):=(List.mergeSort_perm _ _).trans hp;have bY:ks.length=ss.length:=by rw[wK,List.length_map];exact(List.mergeSort_perm _ _).length_eq
 have hkv:(ss.mergeSort fun x y=>decide (x<=y)).map encZ=aK ks:=by
  rw[wK];unfold aK;rw[List.map_map];apply List.map_congr_left;intro x hx;obtain⟨p,_,e⟩:=List.mem_map.1 (Qp.mem_iff.1 hx);subst e;rfl
 rw[hkv,<-bY]at ZC;obtain⟨A,c,hv⟩:=jo ZC;subst hv;refine⟨A,c,ks,rfl,?_,?_,ah.of_below hb No⟩
 ·rw[wK]
  refine(Qp.map Int.toNat).trans ?_;rw[List.map_map];have:(ov.map ((Int.toNat) ∘ fun p=>(p.1:Int)))=ov.map (·.1):=List.map_congr_left (fun p _=>Int.toNat_natCast _);rw[this]
 ·refine⟨ZC.1,?_⟩
  rcases ZC.2 with h0|⟨g,cap,cur,e1,hb1,r⟩
  ·exact .inl h0
  ·exact .inr ⟨g,cap,cur,e1,by simp at hb1;omega,r⟩
end Go.Proofs.YtccnemmlkcmceaaGreatDoor
namespace Go.Proofs.YtccnemmlkcmceaaGreatDoor
open Go.RowKit
structure dM (w:World) (D:Nat->Prop) (x d m:Nat) (l:Lg):Prop where
 cells:∃Ab cb Ar cr,ax w x 179 (l.cells d m Ab cb Ar cr none 0)/\QV w D x 9 (.slice Ar l.recs.length cr) l.recs.length (iU l.recs)/\(l.bytes = []->Ab=none/\cb=0)
 pe:l.pend = []
 xx:D x
 old:∀b,D b->b<w.heap.size
 m1:2<=m
 m2:m<=65536
def New (w w':World):Nat->Prop:=fun b=>w.heap.size<=b/\b<w'.heap.size
def mf (w:World):Nat->Prop:=fun b=>w.heap.size<=b
theorem ah.since {w w':World}(h:ah (mf w) w w'):ah No w w':=(ah.refl No w).trans h (fun i hi h1=>by have h2:w.heap.size<=i:=h1;omega)
theorem zo {k:Dk}(h:k.pd = []) (i:Nat):k.cur i=k.K i:=by unfold Dk.cur;rw[h];rfl
theorem adI (n:Nat) (h:n<1152921504606846976):vb (n8 n)=n:=by
 simp only[n8,n4,vb,List.foldr_append,List.foldr];simp only[UInt8.toNat_ofNat'];omega
theorem OV (cr:Bs->Nat) (e len:Nat):(au (bZ cr e len)).extract 4 12=au (n8 e)/\(au (bZ cr e len)).extract 12 16=au (n4 len):=by
 have Qu:(n8 e).length=8:=rfl;constructor
 ·have:=wY [65,81,87,76] (n8 e) (n4 len++(n4 (cr (om e len))++zs 44))
  rw[Qu]at this;have e1:bZ cr e len = [65,81,87,76]++(n8 e++(n4 len++(n4 (cr (om e len))++zs 44))):=by unfold bZ;rw[show om e len = [65,81,87,76]++(n8 e++n4 len)from rfl];simp only[List.append_assoc]
  rw[e1];exact this
 ·have:=wY ([65,81,87,76]++n8 e) (n4 len) (n4 (cr (om e len))++zs 44)
  rw[bX,List.length_append,Qu]at this;have e1:bZ cr e len=([65,81,87,76]++n8 e)++(n4 len++(n4 (cr (om e len))++zs 44)):=by unfold bZ;rw[show om e len = [65,81,87,76]++(n8 e++n4 len)from rfl];simp only[List.append_assoc]
  rw[e1];exact this
theorem ZN (cr:Bs->Nat) (e len:Nat):(bZ cr e len==zs 64)=false:=by
 have h1:bZ cr e len≠zs 64:=fun h=>by
  have h2:=congrArg (fun l:Bs=>l[0]?) h;have h3:(bZ cr e len)[0]?=some 65:=rfl;have h4:(zs 64)[0]?=some 0:=rfl;simp only[h3,h4]at h2;cases h2
 simpa using h1
theorem Uu {w:World}{D:Nat->Prop}{d kb:Nat}{k:Dk}(hd:aF w D d kb k) (tV:k.pd = []) (mX:k.down=false) (m:Nat) (Al:2<=m) (Ua:m<=k.n) (hz:k.K 0=zs 64) :
  Calls Tryz.prog 80 #[.pointer (some ⟨d,0,none⟩),.int .i64 0,.int .i64 (m:Int)] w fun e w'=>e=.returned (.tuple #[.pointer (some ⟨w.heap.size,0,none⟩),.int .i64 0])/\dM w' (New w w') w.heap.size d m ⟨0,[],[],[],false⟩/\ah No w w':=by
 have hn:=hd.n2;have h1:=hd.n1;have HD:=aa hd;have HS:=aa (fun w' (e:ah No w w')=>QJ (hd.ext e (fun _ _ h=>h)));have HW:=aa (fun w' (e:ah No w w')=>Jb (hd.ext e (fun _ _ h=>h)));have HR:=aa (fun w' (e:ah No w w')=>Ja (hd.ext e (fun _ _ h=>h)) 0 (by omega) (by rw[tV];decide) mX);rw[zo tV,hz]at HR;rw[mX]at HW;have HP:=aa (fun w=>Tryz.strings_Repeat ⟨#[0]⟩ 64 w (by omega) (by show 1*64<=_;omega));have Di:(⟨(Lib.repeatL (⟨#[0]⟩:ByteArray).data.toList 64).toArray⟩:ByteArray)=au (zs 64):=uG 64;rw[Di]at HP;obtain⟨z,Ip⟩:∃z,z=au (zs 64):=⟨_,rfl⟩;rw[<-Ip]at HR HP;generalize k.n=n at *;have g1:¬((m:Int)<2):=by omega
 have g2:¬((n:Int)<m):=by omega
 have g3:((n:Int)==0)=false:=by simpa using (by omega:¬(n:Int)=0)
 have g4:¬((n:Int)<0):=by omega
 have HM:=aa (show 2<=m/\m<=65536 from⟨Al,by omega⟩);clear hd Di Ip hz tV mX;go_enter Tryz.func80,Tryz.ntmps80;go_wp2_with (first|(go_at_call 93;refine(HS.out _ (ah.refl _ _)).mono ?_;rintro e w' ⟨rfl,rfl⟩)|(go_at_call 40;refine(HW.out _ (ah.refl _ _)).mono ?_;rintro e w' ⟨rfl,rfl⟩));have hb:=ax.new w 179 (gM d m);refine(HR.out _ ((ah.refl _ _).alloc _)).mono ?_;rintro e w1 ⟨rfl,aT⟩;have hb1:=hb.ext aT (fun h=>h);go_wp2_with fail;refine(HP.out _).mono ?_;rintro e w2 ⟨rfl,aH⟩;have gG:=ah.of_below aH No;have dO:=hb1.ext gG (fun h=>h);have hX:ah No w w2:=(((ah.refl No w).alloc _).ag aT).ag gG;go_wp2_with fail;go_ret2;exact⟨rfl,⟨⟨none,0,none,0,dO,⟨⟨rfl,.inl ⟨rfl,rfl⟩⟩,fun g hg=>by cases hg⟩,fun _=>⟨rfl,rfl⟩⟩,rfl,⟨Nat.le_refl _,dO.lt⟩,fun b hb=>hb.2,HM.out.1,HM.out.2⟩,hX⟩
theorem vM {p:UInt8->Bool}:∀{l:Bs},l.dropWhile p = []->∀x∈l,p x=true
 | [],_,x,h=>by cases h
 | a::l,h,x,hx=>by
  rw[List.dropWhile_cons]at h;split at h
  ·rename_i ha
   rcases List.mem_cons.1 hx with rfl|hx
   ·exact ha
   ·exact vM h x hx
  ·cases h
theorem vF {p:UInt8->Bool}:∀{l:Bs},∀x∈l.takeWhile p,p x=true
 | [],x,h=>by cases h
 | a::l,x,h=>by
  rw[List.takeWhile_cons]at h;split at h
  ·rename_i ha
   rcases List.mem_cons.1 h with rfl|h
   ·exact ha
   ·exact vF x h
  ·cases h
theorem Rb {l:Bs}{x:UInt8}(h:x∈l) (h0:x≠0):Lib.trimB l 0 ≠ []:=by
 intro e;unfold Lib.trimB Lib.trimLeftB Lib.trimRightB at e;have h1:=vM e;have h2:x∈l.reverse.takeWhile (· == 0)++l.reverse.dropWhile (· == 0):=by rw[List.takeWhile_append_dropWhile];exact List.mem_reverse.2 h
 rcases List.mem_append.1 h2 with h3|h3
 ·have:=vF x h3
  exact h0 (by simpa using this)
 ·have:=h1 x (List.mem_reverse.2 h3)
  exact h0 (by simpa using this)
theorem Tq (s:Bs) (hl:s.length=512) {x:UInt8}(hx:x∈s) (h0:x≠0) (w:World) :
  Calls Tryz.prog 84 #[.string (au s)] w fun e w'=>e=.returned (.bool false)/\ah No w w':=by
 have eZ:(au s).size=512:=by rw[az,hl]
 have HT:=aa (fun w=>Tryz.strings_Trim_one (au s) 0 (by decide) w (by omega));have ht:(⟨(Lib.trimB (au s).data.toList 0).toArray⟩:ByteArray)=au (Lib.trimB s 0):=by rw[jC];rfl
 rw[ht]at HT;have bQ:(Lib.trimB s 0).isEmpty=false:=by
  have:=Rb hx h0;cases hq:Lib.trimB s 0 with
  | nil=>exact absurd hq this
  | cons _ _=>rfl
 generalize Lib.trimB s 0=t at *;obtain⟨z,hz⟩:∃z,z=au s:=⟨_,rfl⟩;rw[<-hz]at HT eZ ⊢;clear hz ht hl hx;go_enter Tryz.func84,Tryz.ntmps84;go_wp2_with fail;refine(HT.out _).mono ?_;rintro e w1 ⟨rfl,hw⟩;have hE:ah No w w1:=by
  rcases hw with rfl|rfl
  ·exact ah.refl _ _
  ·exact(ah.refl _ _).drew
 go_wp2_with fail;go_ret;exact⟨rfl,hE⟩
theorem Jh {w:World}{D:Nat->Prop}{d kb x log:Nat}{k:Dk}(h:aF w D d kb k) (x0:w.cell? ⟨x,0,none⟩=some (.pointer (some ⟨d,0,none⟩))) (x2:w.cell? ⟨x,2,none⟩=some (.int .i64 (log:Int))) (hl:log<=k.n) :
  Calls Tryz.prog 56 #[.pointer (some ⟨x,0,none⟩)] w fun e w'=>e=.returned (.int .i64 (((k.n-log) / 8:Nat):Int))/\∃k,w'=w.drewN k:=by
 obtain⟨A,c,_,c0,_⟩:=h.c;have hn:=h.n2;have h1:=h.n1;generalize k.n=n at *;have zJ:=aa c0;have g1:(0:Int)<=(n:Int)-log:=by omega
 clear h c0;go_enter Tryz.func56,Tryz.ntmps56;go_wp2_with (go_at_call 76;refine(sJ x d _ x0).mono ?_;rintro e w' ⟨rfl,rfl⟩);go_quiet ((go_at_call 93;exact Calls.quiet_of_same ((pX d n ⟨kb,0,none⟩ _ (by exact zJ.out) h1).mono fun _ _ ⟨h1,h2⟩=>⟨h1,h2.symm⟩)));go_wp2;go_ret;exact⟨lF (by omega),_,rfl⟩
theorem Rl {w:World}{D:Nat->Prop}{d kb x log:Nat}{k:Dk}(h:aF w D d kb k) (x0:w.cell? ⟨x,0,none⟩=some (.pointer (some ⟨d,0,none⟩))) (x2:w.cell? ⟨x,2,none⟩=some (.int .i64 (log:Int))) (Yc:log<=k.n) (l:List (Nat×Bs)) (hl:mr ((k.n-log) / 8) l) :
  Calls Tryz.prog 82 #[.pointer (some ⟨x,0,none⟩),.string (au (aB l))] w fun e w'=>e=.returned (.bool true)/\ah No w w':=by
 have adu:=aa (fun w' (e:ah No w w')=>Jh (h.ext e (fun _ _ h=>h)) (aj e x0 (fun h=>h)) (aj e x2 (fun h=>h)) Yc);have Gh:(k.n-log) / 8<=8192:=by have:=h.n2;omega
 obtain⟨cap,hcap⟩:∃cap,cap=(k.n-log) / 8:=⟨_,rfl⟩;rw[<-hcap]at adu hl Gh;have HL:=aa hl;have HCB:=aa Gh;have Nn:=nK (l:=l) (fun p hp=>(hl.2.2 p hp).2);have bY:=hl.2.1;have tZ:l.length<128:=by omega
 obtain⟨rec,kU⟩:∃rec,rec=aB l:=⟨_,rfl⟩;rw[<-kU]at Nn bY ⊢;have jy:=aa kU
 have HV:Hid (∀w,Calls Tryz.prog 55 #[.string (au rec)] w fun e w'=>e=.returned (.int .i64 (l.length:Int))/\∃k,w'=w.drewN k):=aa (fun w=>by
  have h1:=iT (au rec) (by rw[az,Nn];omega) w;have h2:v4 (au rec)=l.length:=by rw[kU];exact o_ l.length (by omega) _
  rw[h2]at h1
  exact h1)
 obtain⟨n,hn⟩:∃n,n=rec.length:=⟨_,rfl⟩;have eZ:(au rec).size=n:=by rw[az,hn]
 rw[<-hn]at Nn;have XW:=aa Nn;have lL:=aa tZ;have g1:¬((n:Int)<4):=by omega
 have g2:((n:Int)-4).tmod 516=0:=by rw[Int.tmod_eq_emod_of_nonneg (by omega)];omega
 have g3:((n:Int)-4).tdiv 516=(l.length:Int):=by rw[Int.tdiv_eq_ediv_of_nonneg (by omega)];omega
 have g4:((n:Int)-4) / 516=(l.length:Int):=by omega
 have g5:((n:Int)-4)%516=0:=by omega
 have w1:IntKind.i64.wrap ((n:Int)-4)=(n:Int)-4:=bA _ (by omega) (by omega);have w2:IntKind.i64.wrap (l.length:Int)=(l.length:Int):=bA _ (by omega) (by omega);have w3:IntKind.i64.wrap (0:Int)=0:=by decide
 clear h x0 x2 Yc hl Gh hcap Nn kU bY tZ hn;go_enter Tryz.func82,Tryz.ntmps82;go_wp2_with fail;refine(HV.out _).mono ?_;rintro e w1' ⟨rfl,kv,rfl⟩;go_wp2_with fail;clear g1 g2 g3 g4 g5 w1 w2 w3;go_loopg [5] l.length (fun gk q5 wr=>∃j o:Nat,j+gk=l.length/\q5=.int .i64 (o:Int)/\Hid (o=4+j*516)/\Hid (ah No w wr))
 case atStart=>exact⟨0,4,by omega,rfl,aa rfl,aa ((ah.refl _ _).drewN _)⟩
 case round =>
  obtain⟨j,o,hj,rfl,HO,HX⟩:=hrel;have HJ:=aa hj
  by_cases bu:j<l.length
  ·have mQ:=aa bu
   obtain⟨p,hp⟩:∃p,l[j]?=some p:=⟨_,List.getElem?_eq_getElem bu⟩;have OG:=HL.out.2.2 _ (List.mem_of_getElem? hp);obtain⟨r,hr⟩:=Mi (fun q hq=>(HL.out.2.2 q hq).2) hp;rw[<-jy.out,<-HO.out]at hr;have sH:o+516<=n:=by have:=XW.out;have:=HO.out;omega
   have A_:n<70000:=by have:=XW.out;have:=lL.out;omega
   obtain⟨tl,Iw⟩:∃tl,tl=rec.drop o:=⟨_,rfl⟩;have pV:n=rec.length:=by rw[<-eZ,az]
   have x1:(au rec).extract o n=au tl:=by rw[Iw,pV];exact nk rec o
   have HV2:Hid (∀w,Calls Tryz.prog 55 #[.string (au tl)] w fun e w'=>e=.returned (.int .i64 (p.1:Int))/\∃k,w'=w.drewN k):=aa (fun w=>by
    have h1:=iT (au tl) (by rw[az,Iw,List.length_drop];omega) w;have h2:v4 (au tl)=p.1:=by rw[Iw,hr];exact o_ p.1 (by have:=HCB.out;omega) _
    rw[h2]at h1
    exact h1)
   have Nc:IntKind.i64.wrap ((o:Int)+516)=((o+516:Nat):Int):=by rw[show(o:Int)+516=((o+516:Nat):Int) by omega];exact bA _ (by omega) (by omega)
   obtain⟨o2,ho2⟩:∃o2,o2=o+516:=⟨_,rfl⟩;rw[<-ho2]at Nc;have sD:Hid (o2=4+(j+1)*516):=aa (by rw[ho2,HO.out];omega);have c1:(o:Int)<(n:Int):=by omega
   have c2:(o:Int)<=(n:Int):=by omega
   have c3:(0:Int)<=(o:Int):=by omega
   have c4:¬((cap:Int)<=(p.1:Int)):=by have:=OG.1;omega
   clear hj bu hp OG hr sH A_ Iw pV ho2;go_wp2_with fail;refine(HV2.out _).mono ?_;rintro e w2 ⟨rfl,k2,rfl⟩;go_wp2_with fail;refine(adu.out _ (HX.out.drewN k2)).mono ?_;rintro e w3 ⟨rfl,k3,rfl⟩;go_wp2_with fail;go_roundg (gk-1)
   case rel=>exact⟨j+1,o2,by have:=HJ.out;have:=mQ.out;omega,by go_num,sD,aa (HX.out.drewN (k2+k3))⟩
   case measure=>have:=HJ.out;have:=mQ.out;omega
  ·have IG:j=l.length:=by omega
   have iC:¬((o:Int)<(n:Int)):=by have:=HO.out;have:=XW.out;omega
   clear hj IG bu;go_wp2_with fail;go_ret;exact⟨rfl,HX.out⟩
end Go.Proofs.YtccnemmlkcmceaaGreatDoor
