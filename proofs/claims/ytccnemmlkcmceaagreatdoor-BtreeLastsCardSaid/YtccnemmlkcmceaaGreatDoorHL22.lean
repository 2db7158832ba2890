/- Proofs about the given program, joined out of the texts LS4. -/
import Derived.Test.YtccnemmlkcmceaaGreatDoorHL21
set_option linter.unusedVariables false
set_option linter.unusedSimpArgs false
set_option maxRecDepth 100000
set_option maxHeartbeats 6400000
namespace Go.Proofs.YtccnemmlkcmceaaGreatDoor
open Go.RowKit
theorem Tryz.abT:(Tryz.prog.info? 4).map (fun i=>(i.zero,i.size,i.bytes))=some (some (.bool false),1,1):=by kernel_rfl
theorem abL {w:World}{base n c:Nat}{e:TypeId}{A:Option Addr}{xs:List Value}{D:Nat->Prop}(h:w.ownsRow base e 1 (.slice A n c) n xs) (hx:xs.length=n) (hD:∀b,D b->b<base):Rd w D 1 A n xs:=by
 refine⟨by rw[hx,Nat.mul_one],fun hn=>?_⟩;obtain⟨g,hA,hg,_,_,hc⟩:=sW h hn;exact⟨g,0,hA,fun hd=>by have:=hD g hd;omega,fun j u hu=>by rw[Nat.zero_add];exact hc j u hu⟩
theorem CU (A:Option Addr) (l:List Ac) (c:Nat) (A2:Option Addr) (l2:List Ac) (c2:Nat) (n0 n1:Int) (w:World) (T:Nat->Nat) (hT:gJ w T) (hl:Rd w (fun b=>w.heap.size<=b) 4 A l.length (oV l)) (tZ:l.length<2^63) (hf:∀a∈l,a.fits)
  (vJ:Rd w (fun b=>w.heap.size<=b) 4 A2 l2.length (oV l2)) (aej:l2.length<2^63) (Fe:∀a∈l2,a.fits) (uN:-(2:Int)^63<=n0/\n0<2^63) (lY:-(2:Int)^63<=n1/\n1<2^63) :
  Calls Tryz.prog 11 #[.slice A l.length c,.slice A2 l2.length c2,.agg #[.int .i64 n0,.int .i64 n1]] w fun e w'=>e=.returned (.bool true)/\ah No w w':=by
 obtain⟨q,Qo,hq,Iz,rX⟩:=abJ n0 150 (by decide);have HQ:=aa (And.intro Qo (And.intro hq (And.intro Iz rX)));have HN0:=aa uN;have HN1:=aa lY;obtain⟨W0,LY⟩:∃W0,W0=w.alloc (.cells #[.int .i64 n0,.int .i64 n1] 83):=⟨_,rfl⟩;have wI:=aa (show ax W0 w.heap.size 83 #[.int .i64 n0,.int .i64 n1]from LY▸ax.new w 83 _);have wJ:ah No w W0:=LY▸(ah.refl _ _).alloc _;have TZ:W0.heap.size=w.heap.size+1:=by rw[LY];simp
 have HS0:=aa TZ;have wQ:=aa wJ;have HB:=aa (GV 200 (by decide) (by decide) W0);have HW:=aa Q_;have HL:=aa ((hl.ext wJ.of_no).mono (by decide) (G:=fun b=>W0.heap.size<=b) (fun b _ hb=>by show w.heap.size<=b;omega));have vQ:=aa ((vJ.ext wJ.of_no).mono (by decide) (G:=fun b=>W0.heap.size<=b) (fun b _ hb=>by show w.heap.size<=b;omega));have lL:=aa tZ;have ah_:=aa aej;have HFT:=aa hf;have aik:=aa Fe;have XF:=aa (hT.ext wJ (fun h=>h));clear hl tZ hf vJ aej Fe hT hq Qo Iz rX uN lY wJ TZ;go_enter Tryz.func11,Tryz.ntmps11;go_wp2_with fail;rw[<-LY];clear LY;refine(HB.out).mono ?_;rintro e w1 ⟨s,hF,rfl,aT,ht,hm,R_,_,hNA⟩;have HS:=aa hF.ok
 have HFF:Hid (∀b,s.F b->W0.heap.size<=b):=aa (fun b hb=>by
  rcases hb with rfl|rfl
  ·exact ht
  ·exact hm)
 have HOF:=aa (Ic (some ⟨s.t,0,none⟩) 0 (by decide) w1);obtain⟨W2,Ao⟩:∃W2,W2=w1.alloc (.cells #[.pointer (some ⟨s.t,0,none⟩),.int .i64 0] 70):=⟨_,rfl⟩;have dx:=aa (show ax W2 w1.heap.size 70 (av s 0)from Ao▸ax.new w1 70 _);have rq:=aa (show aD W2 s v0 from Ao▸hF.tx.no hF.ok ((ah.refl _ _).alloc _));have fQ:=aa (show ah No W0 W2 from Ao▸aT.alloc _);have hcap:s.cap=200:=hF.cap;obtain⟨a,Dd,Dl,hop,hsd,_,hbv⟩:=hNA.opened hF.ok rq.out.db (XF.out.ext fQ.out (fun h=>h)) (by decide) (by decide)
 have XU:=aa (WM s hF.ok W2 v0 rq.out w1.heap.size 0 dx.out (by decide) [] [] (vN.start hF (by decide) (by decide) 0) l A c
  ((HL.out.ext (fQ.out.of_no)).mono (by decide) (fun b _ hb=>HFF.out b hb)) lL.out HFT.out 15 (by rw[hcap];decide) (by decide))
 have hEl:(fE (l.take 15)).length<=15:=Nat.le_trans (Gv _) (by rw[List.length_take];omega);have HMY:=aa (SS (l.take 15));obtain⟨E1,mM⟩:∃E1,E1=fE (l.take 15):=⟨_,rfl⟩;rw[<-mM]at XU hEl HMY;have XW:=aa hEl;have TQ:=aa hcap;have HOP:=aa hop;have HBV:=aa hbv;have HSD:=aa hsd
 -- where the acW parts lie
 have afB:Hid (∀g,Dd g\/Dl g\/g=a.x->g<W2.heap.size):=aa (fun g hg=>by
  have h1:=hop.low g hg;have h2:=rq.out.old (b:=s.m) (.inr rfl)
  omega)
 have Sa:=hop.sx;have HSX:=aa Sa;clear hF aT ht hm R_ hcap mM hEl hNA hop hbv hsd Sa;go_wp2_with fail;refine(HOF.out).mono ?_;rintro e w2 ⟨rfl,rfl⟩;rw[show w1.alloc (.cells #[.pointer (some ⟨s.t,0,none⟩),.int .i64 ((0:Nat):Int)] 70)=W2 from Ao.symm];clear Ao;have XT:Hid (Calls Tryz.prog 14 #[.pointer (some ⟨w1.heap.size,0,none⟩),.slice A l.length c,.int .i64 15] W2 (PS s W2 v0 0 [] [] E1)):=aa XU.out;go_wp2_with fail;refine(XT.out).mono ?_;rintro e w3 ⟨⟨v',P',A',c',rfl,ht,ho,htr,hra,dw⟩,bC,hy3⟩;have rV:v'.spoilt=false:=by
  have h1:=ht.c10;rw[hy3]at h1;injection h1 with h1;injection h1 with h1;exact h1.symm
 obtain⟨W4,Yh⟩:∃W4,W4=w3.alloc (.cells #[.slice A' E1.length c'] 32):=⟨_,rfl⟩;have Zw:ah No w3 W4:=Yh▸(ah.refl _ _).alloc _;have hs4:W4.heap.size=w3.heap.size+1:=by rw[Yh];simp
 have Yp:ah s.F W2 W4:=bC.ag Zw.of_no;have abw:Hid (ah No W0 W4):=aa (fQ.out.trans Yp (fun i hi hb=>by have:=HFF.out i hb;omega));have aii:=aa (XF.out.ext abw.out (fun h=>h));have Ec:Hid (W2.heap.size<=w3.heap.size/\W4.heap.size=w3.heap.size+1):=aa ⟨bC.size,hs4⟩
 -- the map that was: its row,its cell lie where nothing is changed
 have ahQ:Hid (jL W4 (Pw W2.heap.size W4.heap.size) A' c' E1):=aa ((hra.ext Zw.of_no).mono (fun b hb h1=>by
  rcases h1 with h1|h1
  ·exact h1
  ·omega))
 have aix:=aa (show ax W4 w3.heap.size 32 #[.slice A' E1.length c']from Yh▸ax.new w3 32 _);have HCM:Hid (Calls Tryz.prog 32 #[.pointer (some ⟨s.t,0,none⟩)] W4 (X7 W0 W4 v' a Dd Dl T 0 200 (iq 2000))):=aa (HOP.out.aan (cap:=200) (by decide) (nN.fresh _ _ _) (ht.no HS.out Zw) aii.out ho.uZ.1 (dw.kd adK) (ho.mt (fun i hi=>by rw[htr.r i hi];show 0<65536;decide)) (by rw[HBV.out];exact dw) (by have h1:=ho.uZ.2.1;rw[TQ.out]at h1;omega) rV);have HO:=aa ho;have HR0:Hid (∀i,i≠0->v'.r i=0):=aa (fun i hi=>by rw[htr.r i hi];rfl);clear ht ho htr hra dw bC hy3 rV Zw hs4 Yp;go_upto_region 6 with fail;rw[<-Yh];clear Yh;go_wp2_with fail;refine(HCM.out).mono ?_;rintro e w5 ⟨⟨code,M_,Nw,b1,GX,rfl,aeG,wL,Wd,Wm,Yb⟩,bU⟩;have abv:Hid (ah No W0 w5):=aa (abw.out.trans bU (fun g hg h1=>by have:=HOP.out.new g h1;omega));rcases aeG with rfl|rfl
 · -- what the first aV left
  obtain⟨adX,k1,k2,k3,k4,k5⟩:=Wd rfl;have ahM:=aa adX;have aa7:vN 200 (b1.m.v GX) 0 [] P' E1:=by have h1:=HO.out.turn (w:=b1.m.v GX) k4 k1 k2 k3 k5;rw[TQ.out]at h1;exact h1
  have aaE:=aa aa7;have HR1:Hid (∀i,i≠0->(b1.m.v GX).r i=0):=aa (fun i hi=>by have e1:(b1.m.v GX).r=v'.r:=k4;rw[e1];exact HR0.out i hi);have wH:=aa (show b1.k.n=2000 from Wm)
  have abn:Hid (∀g,M_ g\/Nw g\/g=a.x->g<w5.heap.size):=aa (fun g hg=>by
   rcases hg with hg|hg|hg
   ·exact wL.db.disk.old g hg
   ·exact wL.db.o9.old g hg
   ·rw[hg];exact wL.db.db.lt)
  have kJ:∀g,Dd g\/Dl g\/g=a.x->Pw W2.heap.size W4.heap.size g:=fun g hg=>.inl (afB.out g hg)
  have aay:Hid (∀g,M_ g\/Nw g\/g=a.x->Pw W2.heap.size W4.heap.size g):=aa (fun g hg=>by
   rcases hg with hg|hg|hg
   ·rcases Yb g (.inl hg)with (h1|h1)|h1
    ·exact kJ g (.inl h1)
    ·exact kJ g (.inr (.inl h1))
    ·exact .inr h1
   ·rcases Yb g (.inr hg)with (h1|h1)|h1
    ·exact kJ g (.inl h1)
    ·exact kJ g (.inr (.inl h1))
    ·exact .inr h1
   ·exact kJ g (.inr (.inr hg)))
  have uM:∀g,W2.heap.size<=g->g<W4.heap.size->¬Pw W2.heap.size W4.heap.size g:=fun g h1 h2 h3=>by
   rcases h3 with h3|h3 <;> omega
  have PE:=aa uM;have ahP:=aa (ahQ.out.ext (bU.mono (fun g _ hg=>kJ g hg)));have aiw:=aa (aix.out.ext bU (fun hg=>uM _ Ec.out.1 (by have:=Ec.out.2;omega) (kJ _ hg)));have afl:Hid (W4.heap.size<=w5.heap.size):=aa bU.size;have acG:=wL.ac0 (by decide);rw[<-HSX.out]at acG;have aiD:=aa acG;have QX:=aa wL.new;clear adX k1 k2 k3 k4 k5 aa7 Wm Yb Wd kJ uM bU wL acG HCM XU XT HOF HB;go_wp2_with fail;refine(aiD.out).mono ?_;rintro e w6 ⟨s2,rfl,EZ,ht6,wN,kH,hf6,rW⟩;have Nt:=aa EZ.ok;have TF:=aa EZ;have HSE:=aa rW;have aiX:=aa wN;have HF2:=aa hf6;have LW:s2.cap=200:=by
   unfold bH.cap;rw[EZ.nn,EZ.UC,wH.out]
  have M7:=aa LW;have afO:Hid (ah No W0 w6):=aa (abv.out.trans kH (fun g hg h1=>by have h2:g=a.x:=(by rw[<-HSX.out];exact h1);have:=QX.out g (.inr (.inr h2));omega));have ahY:=aa (Ic (some ⟨s2.t,0,none⟩) 0 (by decide) w6);obtain⟨W7,hW7⟩:∃W7,W7=w6.alloc (.cells #[.pointer (some ⟨s2.t,0,none⟩),.int .i64 0] 70):=⟨_,rfl⟩;have Zv:ah No w6 W7:=hW7▸(ah.refl _ _).alloc _;have nS:=aa (show ax W7 w6.heap.size 70 (av s2 0)from hW7▸ax.new w6 70 _);have XY:=aa (afO.out.ag Zv);have FB:=aa (ht6.no EZ.ok Zv);have ZW:ah (On a.x) w5 W7:=(by rw[<-HSX.out];exact kH.ag Zv.of_no);have Yg:∀g,On a.x g->Pw W2.heap.size W4.heap.size g:=fun g hg=>aay.out g (.inr (.inr hg))
  have afo:=aa (ahP.out.ext (ZW.mono (fun g _ hg=>Yg g hg)));have adv:=aa (aiw.out.ext ZW (fun hg=>PE.out _ Ec.out.1 (by have:=Ec.out.2;omega) (Yg _ hg)));have aaD:Hid (w5.heap.size<=W7.heap.size):=aa ZW.size;obtain⟨V1,hV1⟩:∃V1,V1=b1.m.v GX:=⟨_,rfl⟩
  have aid:Hid V1.Kd:=aa (by
   rw[hV1];intro i h1 h2;have h3:=EZ.kept i h1 (by rw[EZ.bh];exact h2);rw[wN]at h3
   exact⟨h3.2.1,h3.2.2.1⟩)
  rw[<-hV1]at aaE HR1 FB;have HV1:=aa hV1
  -- the aiZ of what the loop and all behind it iE change
  obtain⟨Z,hZ⟩:∃Z:Nat->Prop,Z=fun g=>M_ g\/Nw g\/g=a.x\/s2.F g\/g=W7.heap.size:=⟨_,rfl⟩
  have HZ:=aa hZ;have HZF:Hid (∀b,s2.F b->Z b):=aa (fun b hb=>by rw[hZ];exact .inr (.inr (.inr (.inl hb))))
  have HZB:Hid (∀b,Z b->b<=W7.heap.size):=aa (fun b hb=>by
   rw[hZ]at hb;have h1:=abn.out b;have h2:=aaD.out;rcases hb with hb|hb|hb|hb|hb
   ·have:=h1 (.inl hb);omega
   ·have:=h1 (.inr (.inl hb));omega
   ·have:=h1 (.inr (.inr hb));omega
   ·have:=FB.out.old hb;omega
   ·omega)
  have HZO:Hid (∀b,Z b->Pw W2.heap.size W4.heap.size b):=aa (fun b hb=>by
   rw[hZ]at hb;have h2:=afl.out;rcases hb with hb|hb|hb|hb|hb
   ·exact aay.out b (.inl hb)
   ·exact aay.out b (.inr (.inl hb))
   ·exact aay.out b (.inr (.inr hb))
   ·have:=hf6 b hb;exact .inr (by omega)
   ·have:=aaD.out;exact .inr (by omega))
  have HZN:Hid (∀b,Z b->W0.heap.size<=b):=aa (fun b hb=>by
   rw[hZ]at hb;rcases hb with hb|hb|hb|hb|hb
   ·exact QX.out b (.inl hb)
   ·exact QX.out b (.inr (.inl hb))
   ·exact QX.out b (.inr (.inr hb))
   ·exact EZ.Zc b hb
   ·have:=XY.out.size;omega)
  have bw:=adv.out.cell 0;simp at bw;have bwl:=adv.out.lt;obtain⟨W8,hW8⟩:∃W8,W8=W7.alloc (.cells #[.slice A' E1.length c'] 32):=⟨_,rfl⟩;have Zt:ah No W7 W8:=hW8▸(ah.refl _ _).alloc _;have BD:La s2 Z W7 W8 V1 E1.length V1 P' E1 E1 A' c':=⟨FB.out.no EZ.ok Zt,by rw[LW];exact aaE.out,.refl,by rw[hV1];rfl,HR1.out,Nat.le_refl _,HMY.out,hW8▸ax.new W7 32 _,(afo.out.mono (fun b _ hb=>HZO.out b hb)).ext Zt.of_no,Zt.of_no⟩;have HLA:=aa BD;clear EZ rW wN hf6 LW ht6 kH Zv ZW Yg hV1 hZ Zt BD;go_wp2_with fail;refine(ahY.out).mono ?_;rintro e w7 ⟨rfl,rfl⟩;rw[show w6.alloc (.cells #[.pointer (some ⟨s2.t,0,none⟩),.int .i64 ((0:Nat):Int)] 70)=W7 from hW7.symm];clear hW7
  -- the puts of the second aaT,and the map's
  have afr:=aa (fun w' v key val (g1:aD w' s2 v) (g2:v.Good) (g3:ah s2.F W7 w')=>Kq s2 Nt.out w' v g1 g2 w6.heap.size 0 (nS.out.ext g3 (Ce FB.out nS.out)) (by decide) key val);have HL7:=aa ((vQ.out.ext XY.out.of_no).mono (by decide) (G:=s2.F) (fun b _ hb=>TF.out.Zc b hb));go_upto_block 0 with fail;rw[<-hW8];clear hW8;go_cut [] (fun wx=>∃(v:V) (P:List Nat) (E:List bK) (YM:Option Addr) (c'':Nat),Hid (La s2 Z W7 wx V1 (E1.length+8) v P E E YM c''))
  case first =>
   go_wp2_with fail;go_loopg [15] l2.length (fun gk iv wr=>∃(k:Nat) (v:V) (P:List Nat) (E:List bK) (YM:Option Addr) (c'':Nat),k+gk=l2.length/\k<=8/\iv=.int .i64 (k:Int)/\Hid (La s2 Z W7 wr V1 (E1.length+k) v P E E YM c''))
   case atStart=>exact⟨0,V1,P',E1,A',c',by omega,by omega,rfl,HLA⟩
   case round =>
    obtain⟨k,v,P,E,YM,c'',hk,JG,rfl,o8⟩:=hrel;have HK:=aa hk;have HKM:=aa JG;have tZ:=ah_.out
    by_cases hgo:k<l2.length/\k<8
    ·obtain⟨bu,iK⟩:=hgo
     obtain⟨ac,hac⟩:∃ac,l2[k]?=some ac:=⟨_,List.getElem?_eq_getElem bu⟩;obtain⟨b,o,hA,_,k0,k1,k2,k3⟩:=(HL7.out.ext o8.out.ex).aff hac;subst hA;have lc:=World.block_lt_of_cell? wr _ k0;simp only at lc;have iY:(k:Int)<(l2.length:Int):=by omega
     have aeg:(k:Int)<8:=by omega
     have Yf:=aik.out ac (List.mem_of_getElem? hac);have l_:ac.key.length<2^63:=Yf.2.2;have Su:(au ac.key).extract 0 (min (ac.key.length:Int) 130).toNat=au (ac.key.take 130):=by
      rw[pE];congr 1;rw[show(min (ac.key.length:Int) 130).toNat=min 130 ac.key.length by omega,<-List.take_take,List.take_length]
     have aeJ:(⟨#[107]⟩:ByteArray)++au (ac.key.take 130)=au ac.fD:=aaV _;have wK:=az ac.key;have HVW:Hid (∀w1,Calls Tryz.prog 26 #[.agg #[.int .i64 ac.kind,.int .i64 ac.n,.string (au ac.key),.string (au ac.val)]] w1 fun e w'=>e=.returned (.string (au ac.value))/\ah No w1 w'):=aa (fun w1=>B_ ac Yf.1 Yf.2.1 w1);have hvl:=ac.JY;have yZ:=ac.tQ ac.value hvl;have xO:E.length<100/\6*E.length+([]:List Nat).length+15<=s2.cap:=by
      have h1:=o8.out.le;have h2:=XW.out;rw[M7.out];show E.length<100/\6*E.length+0+15<=200;omega
     obtain⟨d1,P2,d3,d4⟩:=o8.out.one.put yZ hvl xO.1 xO.2;have rV:=V.Xt d1;have OP:mg ac.fD ac.value false E=wu ac.fD ac.value E:=Cy _ _ _ o8.out.one.sorted;obtain⟨W,hW⟩:∃W,W=wr.alloc (.cells #[.int .i64 ac.kind,.int .i64 ac.n,.string (au ac.key),.string (au ac.val)] 53):=⟨_,rfl⟩;have hew:ah No wr W:=hW▸(ah.refl _ _).alloc _;have HBW:=aa (show ax W wr.heap.size 53 #[.int .i64 ac.kind,.int .i64 ac.n,.string (au ac.key),.string (au ac.val)]from hW▸ax.new wr 53 _);have YF:=aa (o8.out.no Nt.out hew);have Lj:=o8.out.ex.size;have Sb:=(V.aN.refl (cap:=s2.cap) (sp:=true) (v:=v)).Put 0 ac.fD ac.value;obtain⟨v2,JE⟩:∃v2,v2=(v.Put s2.cap 0 ac.fD ac.value).2:=⟨_,rfl⟩
     have HDE:Hid (∀w1,ah No W w1->Calls Tryz.prog 25 #[.pointer (some ⟨w6.heap.size,0,none⟩),.string (au ac.fD),.string (au ac.value)] w1 fun e w2=>e=.returned (.int .i64 0)/\Hid (ax w2 wr.heap.size 53 #[.int .i64 ac.kind,.int .i64 ac.n,.string (au ac.key),.string (au ac.val)])/\Hid (La s2 Z W7 w2 V1 (E1.length+k) v2 P2 (wu ac.fD ac.value E) E YM c'')):=aa (by
      intro w1 e1;have Nl:=YF.out.no Nt.out e1;refine(afr.out w1 v ac.fD ac.value Nl.tx Nl.one.uZ.1 Nl.ex).mono ?_;rintro e w2 ⟨h1,h2,_,h3⟩;rw[d1]at h1;rw[<-JE]at h2 d3 Sb rV d4
      refine⟨h1,aa ((HBW.out.ext e1 (fun h=>h)).ext h3 (fun hf=>by have:=FB.out.old hf;omega)),aa (Nl.tree FB.out HZF.out h2 h3 d3 Sb rV (fun i hi=>d4.r i hi))⟩)
     have AB:Hid (∀w2,La s2 Z W7 w2 V1 (E1.length+k) v2 P2 (wu ac.fD ac.value E) E YM c''->Calls Tryz.prog 38 #[.pointer (some ⟨W7.heap.size,0,none⟩),.string (au ac.fD),.string (au ac.value)] w2 fun e w3=>e=.returned (.int .i64 0)/\Hid (∃A3 c3,La s2 Z W7 w3 V1 (E1.length+k+1) v2 P2 (wu ac.fD ac.value E) (wu ac.fD ac.value E) A3 c3)):=aa (by
      intro w2 Fe;refine(Cz w2 W7.heap.size YM c'' E ac.fD ac.value Fe.bm (Fe.ra.mono (fun _ _ h=>h.elim)) (by have:=xO.1;omega) yZ).mono ?_;intro e w3 hd;rw[OP]at hd;refine⟨hd.e,aa (Fe.map Nt.out FB.out HZB.out hd (by have:=CZ ac.fD ac.value E;have:=Fe.le;omega) (fun x hx=>?_))⟩;rcases xC hx with rfl|hx
      ·exact ac.tQ [] (by simp)
      ·exact Fe.U2 x hx)
     have mQ:=aa (And.intro bu iK);clear hk JG bu iK hac Yf Sb yZ d1 d3 d4 hvl OP rV xO JE hew Lj;go_wp2_with fail;rw[<-hW];refine(HVW.out _).mono ?_;rintro e w8 ⟨rfl,kK⟩;have MU:=aa kK;clear kK;go_wp2_with fail;refine(HDE.out _ MU.out).mono ?_;rintro e w9 ⟨rfl,En,Eg⟩;have b0:=En.out.cell 0;have b1':=En.out.cell 1;have b2:=En.out.cell 2;have b3:=En.out.cell 3;have bl:=En.out.lt;simp at b0 b1' b2 b3;clear k0 k1 k2 k3 lc hW HDE;go_wp2_with fail;refine(HVW.out _).mono ?_;rintro e w10 ⟨rfl,oJ⟩;have aib:=aa (Eg.out.no Nt.out oJ);clear oJ Eg;go_wp2_with fail;refine(AB.out _ aib.out).mono ?_;rintro e JX ⟨rfl,HLC⟩;go_wp2_with fail;go_roundg (gk-1)
     case rel =>
      obtain⟨A3,c3,h3⟩:=HLC.out;exact⟨k+1,v2,P2,_,A3,c3,by have:=HK.out;have:=mQ.out;omega,by have:=mQ.out;omega,by go_num,aa h3⟩
     case measure=>have:=HK.out;have:=mQ.out;omega
    ·have HEX:Hid (La s2 Z W7 wr V1 (E1.length+8) v P E E YM c''):=aa ⟨o8.out.tx,o8.out.one,o8.out.st,o8.out.sp,o8.out.r,by have:=o8.out.le;omega,o8.out.U2,o8.out.bm,o8.out.ra,o8.out.ex⟩
     by_cases bu:k<l2.length
     ·have iY:(k:Int)<(l2.length:Int):=by omega
      have iC:¬((k:Int)<8):=by omega
      clear hk JG hgo bu;go_wp2_with fail;go_meet;exact⟨v,P,E,YM,c'',HEX⟩
     ·have iC:¬((k:Int)<(l2.length:Int)):=by omega
      clear hk JG hgo bu;go_wp2_with fail;go_meet;exact⟨v,P,E,YM,c'',HEX⟩
  case rest =>
   obtain⟨v,P2,E2,A2',c2',aic⟩:=hcut;obtain⟨wl,gX⟩:∃wl,wl=wc:=⟨_,rfl⟩;subst gX;have BD:=aic.out;have Eh:Hid (ah No W0 wl):=aa (XY.out.trans BD.ex (fun i hi hb=>by have:=TF.out.Zc i hb;omega));have acx:=XF.out.ext Eh.out (fun h=>h);have Gd:=TF.out.db wl BD.tx.db acx;have agu:=BD.bm.lt
   -- what iE be changed from ajz on
   obtain⟨Z2,hZ2⟩:∃Z2:Nat->Prop,Z2=fun g=>M_ g\/Nw g\/g=a.x\/wl.heap.size<=g:=⟨_,rfl⟩
   have HZ2:=aa hZ2;have Vr:∀b,b<wl.heap.size->Z2 b->Z b:=fun b hb h1=>by
    rw[hZ2]at h1;rw[HZ.out];rcases h1 with h1|h1|h1|h1
    ·exact .inl h1
    ·exact .inr (.inl h1)
    ·exact .inr (.inr (.inl h1))
    ·omega
   have Tz:Hid (∀b,Z2 b->W0.heap.size<=b):=aa (fun b h1=>by
    by_cases hb:b<wl.heap.size
    ·exact HZN.out b (Vr b hb h1)
    ·have:=Eh.out.size;omega)
   have Qv:∀b,M_ b\/Nw b\/b=a.x->b<W7.heap.size:=fun b hb=>by have:=abn.out b hb;have:=aaD.out;omega
   have HRI:Hid (jL wl Z2 A2' c2' E2):=aa (BD.ra.mono Vr)
   have HBI:Hid (ax wl W7.heap.size 32 #[.slice A2' E2.length c2']/\¬Z2 W7.heap.size):=aa ⟨BD.bm,fun h1=>by
    rw[hZ2]at h1;rcases h1 with h1|h1|h1|h1
    ·have:=Qv _ (.inl h1);omega
    ·have:=Qv _ (.inr (.inl h1));omega
    ·have:=Qv _ (.inr (.inr h1));omega
    ·omega⟩
   have hfo:∀b,s2.F b->Pw W2.heap.size W4.heap.size b:=fun b hb=>HZO.out b (HZF.out b hb)
   have HRW:Hid (jL wl Z2 A' c' E1):=aa ((afo.out.ext (BD.ex.mono (fun b _ hb=>hfo b hb))).mono (fun b hb h1=>HZO.out b (Vr b hb h1)));have hgw:w3.heap.size<W7.heap.size:=by have:=Ec.out.2;have:=afl.out;have:=aaD.out;omega
   have HBW:Hid (ax wl w3.heap.size 32 #[.slice A' E1.length c']/\¬Z2 w3.heap.size):=aa ⟨adv.out.ext BD.ex (fun hf=>PE.out _ Ec.out.1 (by have:=Ec.out.2;omega) (hfo _ hf)),fun h1=>PE.out _ Ec.out.1 (by have:=Ec.out.2;omega) (HZO.out _ (Vr _ (by omega) h1))⟩;have ah7:=aa BD.U2;have aia:Hid (E2.length<100):=aa (by have:=BD.le;have:=XW.out;omega);have abl:=aa BD.one;have PD:Hid (1<=v.high/\v.high<=200/\v.cnt<=v.high):=aa ⟨BD.tx.h1,by have h1:=BD.tx.h2;rw[M7.out]at h1;exact h1,BD.tx.hc⟩
   have XD:Hid (1<=b1.m.high/\b1.m.high<=200/\b1.m.cnt<=b1.m.high):=aa (by
    have h2:=FB.out;rw[HV1.out]at h2;have h1:=h2.h2;rw[M7.out]at h1
    exact⟨h2.h1,h1,h2.hc⟩)
   have ajP:Hid (∀g,M_ g->g<wl.heap.size):=aa Gd.disk.old;have afY:Hid (M_ a.d):=aa Gd.disk.dd;obtain⟨Qo,hq',Iz,rX⟩:=HQ.out;have Iz:-(150:Int)<n0.tmod 150:=Iz;have rX:n0.tmod 150<(150:Int):=rX;have agt:IntKind.i64.wrap (n0.tmod 150)=n0.tmod 150:=by rw[qo];unfold wrap64;omega
   have ags:IntKind.i64.wrap (n0.tmod 150+150)=n0.tmod 150+150:=by rw[qo];unfold wrap64;omega
   have agr:IntKind.i64.wrap (q:Int)=(q:Int):=bA _ (by omega) (by omega);have hq':(n0.tmod 150+150).tmod 150=(q:Int):=hq';have Ev:=wI.out.ext Eh.out (fun h=>h);have z0:=Ev.cell 0;simp at z0;have zl:=Ev.lt;have adE:=aa (acU Gd.disk TF.out.lv.down q (by omega));rw[<-HSD.out]at adE
   have abo:Hid (∀w9,aF w9 M_ a.d a.kb { b1.k with armed:=true,left:=q }->ah (On a.d) wl w9->Calls Tryz.prog 32 #[.pointer (some ⟨s2.t,0,none⟩)] w9 (afg w9 a M_ Nw T 200 (b1.ak+1) (131072*(1+1)+110000) b1 GX v)):=aa (fun w9 g1 g2 =>
    TF.out.lost (cap:=200) (by decide) ahM.out HSE.out BD.tx acx BD.one.uZ.1 (BD.st.kd aid.out) (BD.one.mt (fun i hi=>by rw[BD.r i hi];decide)) (by rw[<-HV1.out];exact BD.st) PD.out.2.1 BD.sp (by omega) g1 g2)
   clear BD acx Gd agu hZ2 Vr Qv hfo hgw Qo Iz rX Ev;clear bw bwl;go_wp2_with fail;refine(adE.out).mono ?_;rintro e w9 ⟨rfl,ZP,jO⟩;rw[HSD.out]at ZP jO;have adl:=aa (abo.out w9 ZP jO);have qY:Hid (ah Z2 wl w9):=aa (jO.mono (fun b _ hb=>by have h1:b=a.d:=hb;rw[h1,HZ2.out];exact .inl afY.out));clear ZP jO z0 zl agt ags agr hq' adE abo;go_wp2_with fail;refine(adl.out).mono ?_;rintro e w10 ⟨⟨code,Dd2,kk,rfl,acE,vo,Ub,VU,aa1⟩,oJ⟩;have ae3:∀b,Dd2 b->Z2 b:=fun b hb=>by
    rw[HZ2.out];rcases vo b hb with h1|h1
    ·exact .inl h1
    ·have:=qY.out.size;exact .inr (.inr (.inr (by omega)))
   have aaK:=aa ae3
   have Fy:Hid (ah Z2 wl w10):=aa (qY.out.ag (oJ.mono (fun b _ hb=>by
    rw[HZ2.out];rcases hb with h1|h1|h1
    ·exact .inl h1
    ·exact .inr (.inl h1)
    ·exact .inr (.inr (.inl h1)))))
   have afZ:=aa acE;have QY:=aa Ub;have afH:=aa VU;have afk:=aa aa1;have HDN:=aa (Jb acE);rw[<-HSD.out]at HDN;clear acE vo Ub VU aa1 oJ ae3;go_upto_if 108 with (go_at_call 40;refine(HDN.out).mono ?_;rintro e JX ⟨rfl,rfl⟩);go_cut [] (fun wx=>∃k3,Hid (aF wx Dd2 a.d a.kb k3/\k3.K=kk.K/\k3.pd=kk.pd/\k3.down=true/\k3.n=kk.n/\k3.done=kk.done)/\Hid (ah Z2 wl wx))
   case first =>
    cases mX:kk.down
    ·have qd:=aa (acT afZ.out mX)
     rw[<-HSD.out]at qd;clear mX;go_wp2_with fail;refine(qd.out).mono ?_;rintro e JX ⟨rfl,Sv,Li⟩;rw[HSD.out]at Sv Li;go_wp2_with fail;go_meet;exact⟨_,aa ⟨Sv,rfl,rfl,rfl,rfl,rfl⟩,aa (Fy.out.ag (Li.mono (fun b _ hb=>by have h1:b=a.d:=hb;rw[h1,HZ2.out];exact .inl afY.out)))⟩
    ·have qd:=aa mX
     clear mX;go_wp2_with fail;go_meet;exact⟨kk,aa ⟨afZ.out,rfl,rfl,qd.out,rfl,rfl⟩,Fy⟩
   case rest =>
    obtain⟨k3,aiu,XA⟩:=hcut;obtain⟨JX,agv⟩:∃JX,JX=wc:=⟨_,rfl⟩;subst agv;obtain⟨i0,mi,eQ,fe,eP⟩:=info_parts Tryz.abT;have Ev:=wI.out.ext (Eh.out.trans XA.out (fun b hb h1=>by have:=Tz.out b h1;omega)) (fun h=>h);have aiH:=aa Ev;clear Ev;go_wp2_with fail;go_loopg [19,111] 300 (fun gk q19 age wr=>∃(j c9:Nat) (A9:Option Addr) (ks:List Bool),j+gk=300/\age=.int .i64 (j:Int)/\q19=.slice A9 j c9/\Hid (ks.length=j)/\Hid (wr.ownsRow JX.heap.size 4 1 (.slice A9 j c9) j (ks.map Value.bool))/\Hid (ah No JX wr))
    case atStart=>exact⟨0,0,none,[],by omega,rfl,rfl,aa rfl,aa (World.ownsRow_nil _ _ _ _),aa (ah.refl _ _)⟩
    case round =>
     obtain⟨j,c9,A9,ks,hj,rfl,rfl,AJ,TE,HXK⟩:=hrel;have HJ:=aa hj
     by_cases bu:j<300
     ·have mQ:=aa bu
      have Ev:=aiH.out.ext HXK.out (fun h=>h);have z1:=Ev.cell 1;simp at z1;have zl:=Ev.lt;obtain⟨r,hr⟩:∃r,r=j%60:=⟨_,rfl⟩;have ai7:r<60:=by omega
      have t1:(j:Int).tmod 60=(r:Int):=by rw[Int.tmod_eq_emod_of_nonneg (by omega)];omega
      have t2:IntKind.i64.wrap (r:Int)=(r:Int):=bA _ (by omega) (by omega);have t3:(0:Int)<=(r:Int):=by omega
      have t4:(r:Int)<64:=by omega
      have iY:(j:Int)<300:=by omega
      have C8:=HXK.out.size;have m1:j+1<=maxLen:=by unfold maxLen;omega
      have m2:(j+1)*1<=140737488355328:=by omega
      have gK:=aa (HXK.out.alloc (.cells #[.bool (bits BinOp.and IntKind.i64 (n1 / 2 ^ r) 1==1)] 4));have Nv:=aa (TE.out.alloc (.cells #[.bool (bits BinOp.and IntKind.i64 (n1 / 2 ^ r) 1==1)] 4));have Vv:JX.heap.size<=(wr.alloc (.cells #[.bool (bits BinOp.and IntKind.i64 (n1 / 2 ^ r) 1==1)] 4)).heap.size:=gK.out.size;clear hj bu Ev hr;go_wp2_with (at_builtin;refine wpList_append_lies _ (by rfl) _ _ 86 (by rfl) JX.heap.size 4 i0 (.bool false) 1 1 Tryz.underlying86 mi eQ fe eP (by rfl) (by decide) (.slice A9 j c9) j (ks.map Value.bool) (by rfl) Nv.out ⟨wr.heap.size,0,none⟩ 1 1 [.bool (bits BinOp.and IntKind.i64 (n1 / 2 ^ r) 1==1)] (by rfl) (by rfl) (by exact World.news_of_block (cs:=#[.bool (bits BinOp.and IntKind.i64 (n1 / 2 ^ r) 1==1)]) (t:=4) (fr:=(0,0)) (heap_alloc_new wr _)) (fun u hu=>by rw[List.mem_singleton.1 hu];rfl) (by decide) m1 m2 Vv _ rfl ?_);intro g cap w7 jc rJ JL tY;have HO7:Hid (w7.ownsRow JX.heap.size 4 1 (.slice (some ⟨g,0,none⟩) (j+1) cap) (j+1) ((ks ++ [bits BinOp.and IntKind.i64 (n1 / 2 ^ r) 1==1]).map Value.bool)):=aa (by rw[List.map_append];exact jc);have ahz:=aa (gK.out.grown rJ (fU Nv.out (Nat.le_refl _)));have hw9:IntKind.i64.wrap ((j:Int)+1)=(j:Int)+1:=bA _ (by omega) (by omega);clear jc rJ JL tY C8 Vv m1 m2 z1 zl t1 t2 t3 t4;go_wp2_with fail;go_roundg (gk-1)
      case rel=>exact⟨j+1,cap,some ⟨g,0,none⟩,ks ++ [bits BinOp.and IntKind.i64 (n1 / 2 ^ r) 1==1],by have:=HJ.out;have:=mQ.out;omega,by go_num,rfl,aa (by rw[List.length_append,AJ.out];rfl),HO7,ahz⟩
      case measure=>have:=HJ.out;have:=mQ.out;omega
     ·have hj3:j=300:=by omega
      subst hj3;clear hj bu;obtain⟨Sv,e1,e2,e3,e4,e5⟩:=aiu.out;have Dc:=HXK.out;have aeB:=Sv.ext Dc (fun _ _ h=>h);have Qw:k3.pd.length<2^30:=by rw[e2];have:=afH.out.2.2;omega
      have sH:=afb aeB e3 Qw A9 c9 ks (by rw[AJ.out];exact abL TE.out (by rw[List.length_map];exact AJ.out) (fun b hb=>Sv.old b hb)) (by rw[AJ.out];decide);rw[AJ.out,<-HSD.out]at sH;have HON:=aa sH;have aiV:Hid (ah No W0 wr):=aa ((Eh.out.trans XA.out (fun b hb h1=>by have:=Tz.out b h1;omega)).ag Dc);have BQ:Hid (ah Z2 wl wr):=aa (XA.out.ag Dc.of_no)
      -- what is found
      have aa6:nQ kk (k3.on ks).K:=by
       obtain⟨sub,g1,g2⟩:=Dk.Za k3 ks;exact nQ.same (k:=k3) ⟨sub,g1,g2⟩ e1 e2
      have ace:=aaE.out;rw[HV1.out,<-M7.out]at ace;obtain⟨g,m,bs,P3,E3,f1,f2,f3,f4,f5,f6,f7,f8⟩:=(afk.out _ aa6).one ace abl.out XD.out.1 XD.out.2.1 XD.out.2.2 PD.out.1 PD.out.2.1 PD.out.2.2;have HF1:=aa f1;have ain:=aa f2;have HF3:=aa f3;have HF4:=aa f4;have HF5:=aa f5;have HF6:=aa (And.intro f6 (And.intro f7 f8));have aem:(k3.on ks).n=2000:=by show k3.n=2000;rw[e4,QY.out,wH.out]
      have ad_:(k3.on ks).eD (131072*(1+1)+110000):=⟨by show 0<_;omega,by show k3.done<_;rw[e5];exact afH.out.2.1,by show 0<_;omega⟩
      have HRE:Hid (∀uY,aF uY Dd2 a.d a.kb (k3.on ks)->gJ uY T->W0.heap.size<=uY.heap.size->Calls Tryz.prog 43 #[.pointer (some ⟨s.d,0,none⟩),.int .i64 400] uY fun e w'=>∃a Dd Dl b,e=.returned (.tuple #[.pointer (some ⟨a.x,0,none⟩),.int .i64 0])/\uC W0 w' a Dd Dl T 5 b bs/\b.m=m/\b.k.n=2000/\uY.heap.size<=a.x/\ah Dd2 uY w'):=aa (fun uY g1 g2 g3=>by
       rw[HSD.out]
       exact abI g1 rfl ⟨rfl,rfl⟩ g2 (fun h0=>by have h1:=Tz.out 0 (aaK.out 0 h0);have:=HS0.out;omega) ad_ (by omega) aem (fun g hg=>Tz.out g (aaK.out g hg)) g3 (by have:=TF.out.lv.ep;omega) HF1.out ain.out HF3.out HF6.out.1 HF6.out.2.1 HF6.out.2.2)
      clear Sv e1 e2 e3 e4 e5 Dc aeB Qw sH aa6 ace f1 f2 f3 f4 f5 f6 f7 f8 aem ad_;go_wp2_with fail;refine(HON.out).mono ?_;rintro e uY ⟨rfl,acD,qM⟩;rw[HSD.out]at acD;have Xz:Hid (ah Z2 wl uY):=aa (BQ.out.ag (qM.mono (fun b _ hb=>aaK.out b hb)));have XV:Hid (ah No W0 uY):=aa (Eh.out.trans Xz.out (fun b hb h1=>by have:=Tz.out b h1;omega));have afp:=aa (HRE.out uY acD (XF.out.ext XV.out (fun h=>h)) XV.out.size);clear acD qM;go_wp2_with fail;refine(afp.out).mono ?_;rintro e yK ⟨a3,Dd3,Dl3,b3,rfl,aeI,aeO,aeN,ahi,vg⟩;have afj:Hid (ah Z2 wl yK):=aa (Xz.out.ag (vg.mono (fun b _ hb=>aaK.out b hb)));have af8:=aa (aeI.begin (by decide));have aiI:Hid (Z2 a3.x):=aa (by rw[HZ2.out];have:=Xz.out.size;exact .inr (.inr (.inr (by omega))));have af6:=aa (And.intro aeO aeN);clear aeI aeO aeN ahi vg;go_wp2_with fail;refine(af8.out).mono ?_;rintro e PX ⟨s3,rfl,Sg,adU,ahh,yU,_⟩;have Yy:=aa Sg.ok;have LV:s3.cap=200:=by
       unfold bH.cap;rw[Sg.nn,Sg.UC,af6.out.2]
      have aiW:=aa LV;have afi:Hid (ah Z2 wl PX):=aa (afj.out.ag (yU.mono (fun b _ hb=>by have h1:b=a3.x:=hb;rw[h1];exact aiI.out)));have ahX:=aa (Ic (some ⟨s3.t,0,none⟩) 0 (by decide) PX);obtain⟨W16,Z7⟩:∃W16,W16=PX.alloc (.cells #[.pointer (some ⟨s3.t,0,none⟩),.int .i64 0] 70):=⟨_,rfl⟩;have abX:ah No PX W16:=Z7▸(ah.refl _ _).alloc _;have ac5:=aa (show ax W16 PX.heap.size 70 (av s3 0)from Z7▸ax.new PX 70 _);have MS:Hid (ah Z2 wl W16):=aa (afi.out.ag abX.of_no);have Jz:Hid (ah No W0 W16):=aa (Eh.out.trans MS.out (fun b hb h1=>by have:=Tz.out b h1;omega));have ab0:=adU.no Sg.ok abX;rw[af6.out.1]at ab0;have aa3:=HRW.out.ext MS.out;have aa5:=HRI.out.ext MS.out;have fC:E3.length<100:=by
       rcases HF5.out with h1|⟨_,h1⟩
       ·rw[h1];exact aia.out
       ·rw[h1];have:=XW.out;omega
      have h4:=HF4.out;rw[M7.out,<-LV]at h4;have aeT:=afe Sg.ok ab0 ac5.out h4 fC (aa3.mono (fun _ _ h=>h.elim)) (aa5.mono (fun _ _ h=>h.elim)) HMY.out ah7.out;obtain⟨t1,t2⟩:=YS aaE.out.tree.sorted abl.out.tree.sorted HF5.out;have zK:=aa aeT;have rP:=aa (HBW.out.1.ext MS.out HBW.out.2);have rQ:=aa (HBI.out.1.ext MS.out HBI.out.2);clear Sg adU ahh yU LV abX ab0 aa3 aa5 fC h4 aeT;go_wp2_with fail;refine(ahX.out).mono ?_;rintro e w16 ⟨rfl,rfl⟩;rw[show PX.alloc (.cells #[.pointer (some ⟨s3.t,0,none⟩),.int .i64 ((0:Nat):Int)] 70)=W16 from Z7.symm];clear Z7;obtain⟨b1',acM⟩:∃b1',b1'=nG E3 E2:=⟨_,rfl⟩;obtain⟨b2',acK⟩:∃b2',b2'=kz E3 E2 E1:=⟨_,rfl⟩;obtain⟨b3',acJ⟩:∃b3',b3'=nG E3 E1:=⟨_,rfl⟩;obtain⟨b4',acI⟩:∃b4',b4'=kz E3 E1 E2:=⟨_,rfl⟩;rw[<-acM,<-acK,<-acJ,<-acI]at zK;rw[<-acM,<-acK]at t1 t2;rw[<-acJ,<-acI]at t2;have Uj:=aa t1;have TB:=aa t2;clear acM acK acJ acI t1 t2;go_wp2_with fail;refine(zK.out.chk _ (ah.refl _ _)).mono ?_;rintro e w17 ⟨rfl,adQ⟩;have Fw:=aa adQ;clear adQ;have nz:=rQ.out.ext Fw.out (fun h=>h);have kJ:=rP.out.ext Fw.out (fun h=>h);have zi:=nz.cell 0;have zw:=kJ.cell 0;simp at zi zw;have zO:=nz.lt;have zN:=kJ.lt;clear nz kJ
      by_cases hcd:code=0
      ·obtain⟨rfl,rfl⟩:=Uj.out hcd
       subst hcd;have jQ:(((0:Nat):Int)==0)=true:=rfl;clear TB;go_wp2_with fail;refine(zK.out.hd2 _ Fw.out).mono ?_;rintro e w18 ⟨rfl,Da⟩;have qZ:=aa (Fw.out.ag Da);clear Da zi zw zO zN;have nz:=rQ.out.ext qZ.out (fun h=>h);have kJ:=rP.out.ext qZ.out (fun h=>h);have zi:=nz.cell 0;have zw:=kJ.cell 0;simp at zi zw;have zO:=nz.lt;have zN:=kJ.lt;clear nz kJ;go_wp2_with fail;refine(zK.out.ct2 _ qZ.out).mono ?_;rintro e w19 ⟨rfl,C_⟩;have uy:=aa (qZ.out.ag C_);clear C_ zi zw zO zN;have nz:=rQ.out.ext uy.out (fun h=>h);have kJ:=rP.out.ext uy.out (fun h=>h);have zi:=nz.cell 0;have zw:=kJ.cell 0;simp at zi zw;have zO:=nz.lt;have zN:=kJ.lt;clear nz kJ;have ac6:=aa (HW.out w19);clear zi zw zO zN;go_wp2_with fail;refine(ac6.out).mono ?_;rintro e PW ⟨rfl,ve⟩;have nU:=aa (uy.out.ag ve);clear ve;go_wp2_with fail;go_ret;exact⟨rfl,wQ.out.ag (Jz.out.ag nU.out)⟩
      ·have jQ:((code:Int)==0)=false:=by simpa using hcd
       have JI:¬((code:Int)=0):=by omega
       clear hcd Uj;cases b1'
       ·have ht:b3'=true/\b4'=true:=by
         rcases TB.out with h1|h1
         ·cases h1.1
         ·exact h1
        obtain⟨rfl,rfl⟩:=ht;clear TB;go_wp2_with fail;refine(zK.out.hd2 _ Fw.out).mono ?_;rintro e w18 ⟨rfl,Da⟩;have qZ:=aa (Fw.out.ag Da);clear Da zi zw zO zN;have nz:=rQ.out.ext qZ.out (fun h=>h);have kJ:=rP.out.ext qZ.out (fun h=>h);have zi:=nz.cell 0;have zw:=kJ.cell 0;simp at zi zw;have zO:=nz.lt;have zN:=kJ.lt;clear nz kJ;go_wp2_with fail;refine(zK.out.hd1 _ qZ.out).mono ?_;rintro e w19 ⟨rfl,C_⟩;have uy:=aa (qZ.out.ag C_);clear C_ zi zw zO zN;have nz:=rQ.out.ext uy.out (fun h=>h);have kJ:=rP.out.ext uy.out (fun h=>h);have zi:=nz.cell 0;have zw:=kJ.cell 0;simp at zi zw;have zO:=nz.lt;have zN:=kJ.lt;clear nz kJ;go_wp2_with fail;refine(zK.out.ct1 _ uy.out).mono ?_;rintro e PW ⟨rfl,ve⟩;have nU:=aa (uy.out.ag ve);clear ve zi zw zO zN;have nz:=rQ.out.ext nU.out (fun h=>h);have kJ:=rP.out.ext nU.out (fun h=>h);have zi:=nz.cell 0;have zw:=kJ.cell 0;simp at zi zw;have zO:=nz.lt;have zN:=kJ.lt;clear nz kJ;have ahF:=aa (HW.out PW);clear zi zw zO zN;go_wp2_with fail;refine(ahF.out).mono ?_;rintro e w21 ⟨rfl,Iq⟩;have Pz:=aa (nU.out.ag Iq);clear Iq;go_wp2_with fail;go_ret;exact⟨rfl,wQ.out.ag (Jz.out.ag Pz.out)⟩
       ·cases b2'
        ·have ht:b3'=true/\b4'=true:=by
          rcases TB.out with h1|h1
          ·cases h1.2
          ·exact h1
         obtain⟨rfl,rfl⟩:=ht;clear TB;go_wp2_with fail;refine(zK.out.hd2 _ Fw.out).mono ?_;rintro e w18 ⟨rfl,Da⟩;have qZ:=aa (Fw.out.ag Da);clear Da zi zw zO zN;have nz:=rQ.out.ext qZ.out (fun h=>h);have kJ:=rP.out.ext qZ.out (fun h=>h);have zi:=nz.cell 0;have zw:=kJ.cell 0;simp at zi zw;have zO:=nz.lt;have zN:=kJ.lt;clear nz kJ;go_wp2_with fail;refine(zK.out.ct2 _ qZ.out).mono ?_;rintro e w19 ⟨rfl,C_⟩;have uy:=aa (qZ.out.ag C_);clear C_ zi zw zO zN;have nz:=rQ.out.ext uy.out (fun h=>h);have kJ:=rP.out.ext uy.out (fun h=>h);have zi:=nz.cell 0;have zw:=kJ.cell 0;simp at zi zw;have zO:=nz.lt;have zN:=kJ.lt;clear nz kJ;go_wp2_with fail;refine(zK.out.hd1 _ uy.out).mono ?_;rintro e PW ⟨rfl,ve⟩;have nU:=aa (uy.out.ag ve);clear ve zi zw zO zN;have nz:=rQ.out.ext nU.out (fun h=>h);have kJ:=rP.out.ext nU.out (fun h=>h);have zi:=nz.cell 0;have zw:=kJ.cell 0;simp at zi zw;have zO:=nz.lt;have zN:=kJ.lt;clear nz kJ;go_wp2_with fail;refine(zK.out.ct1 _ nU.out).mono ?_;rintro e w21 ⟨rfl,Iq⟩;have Pz:=aa (nU.out.ag Iq);clear Iq zi zw zO zN;have nz:=rQ.out.ext Pz.out (fun h=>h);have kJ:=rP.out.ext Pz.out (fun h=>h);have zi:=nz.cell 0;have zw:=kJ.cell 0;simp at zi zw;have zO:=nz.lt;have zN:=kJ.lt;clear nz kJ;have ahE:=aa (HW.out w21);clear zi zw zO zN;go_wp2_with fail;refine(ahE.out).mono ?_;rintro e w22 ⟨rfl,adP⟩;have ac4:=aa (Pz.out.ag adP);clear adP;go_wp2_with fail;go_ret;exact⟨rfl,wQ.out.ag (Jz.out.ag ac4.out)⟩
        ·clear TB
         go_wp2_with fail;refine(zK.out.hd2 _ Fw.out).mono ?_;rintro e w18 ⟨rfl,Da⟩;have qZ:=aa (Fw.out.ag Da);clear Da zi zw zO zN;have nz:=rQ.out.ext qZ.out (fun h=>h);have kJ:=rP.out.ext qZ.out (fun h=>h);have zi:=nz.cell 0;have zw:=kJ.cell 0;simp at zi zw;have zO:=nz.lt;have zN:=kJ.lt;clear nz kJ;go_wp2_with fail;refine(zK.out.ct2 _ qZ.out).mono ?_;rintro e w19 ⟨rfl,C_⟩;have uy:=aa (qZ.out.ag C_);clear C_ zi zw zO zN;have nz:=rQ.out.ext uy.out (fun h=>h);have kJ:=rP.out.ext uy.out (fun h=>h);have zi:=nz.cell 0;have zw:=kJ.cell 0;simp at zi zw;have zO:=nz.lt;have zN:=kJ.lt;clear nz kJ;have ac6:=aa (HW.out w19);clear zi zw zO zN;go_wp2_with fail;refine(ac6.out).mono ?_;rintro e PW ⟨rfl,ve⟩;have nU:=aa (uy.out.ag ve);clear ve;go_wp2_with fail;go_ret;exact⟨rfl,wQ.out.ag (Jz.out.ag nU.out)⟩
 ·have HW5:=aa (HW.out w5)
  clear wL Wd Wm Yb bU;go_wp2_with fail;refine(HW5.out).mono ?_;rintro e w9 ⟨rfl,jO⟩;go_wp2_with fail;go_ret;exact⟨rfl,wQ.out.ag (abv.out.ag jO)⟩
#print axioms CU
end Go.Proofs.YtccnemmlkcmceaaGreatDoor
