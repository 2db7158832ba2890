/- Proofs about the given program, joined out of the texts DK3, DK5, LG1, LG2, LG3, LG4, LG5, LG6, D4, OP1, OP2, LH. -/
import Derived.Test.YtccnemmlkcmceaaGreatDoorHL4
import Derived.Test.YtccnemmlkcmceaaGreatDoorHL5
import Derived.Lib.AtoiErrMem
import Derived.Deep.OwnRows
import Derived.Laws.ResultCell
set_option linter.unusedVariables false
set_option linter.unusedSimpArgs false
set_option maxRecDepth 100000
set_option maxHeartbeats 6400000
namespace Go.Proofs.YtccnemmlkcmceaaGreatDoor
open Go.RowKit
theorem aF.keep {w:World}{D:Nat->Prop}{d kb:Nat}{k:Dk}(h:aF w D d kb k) {i:Nat}{b:Bs}(hi:i<k.n) (hb:b.length=64) :
  aF (w.setCells kb (i*64) (dn b)) D d kb { k with K:=fun j=>if i=j then b else k.K j }:=by
 have hx:ah (On kb) w (w.setCells kb (i*64) (dn b)):=ah.uE (F:=On kb) (b:=kb) rfl _ _ (ah.refl _ _);obtain⟨A,c,h1,h2,h3⟩:=h.cells;obtain⟨cs,h4,h5,h6⟩:=h.kept;have hl:(dn b).length=64:=by rw[lK,hb]
 refine⟨⟨A,c,h1.ext hx (fun e=>h.ne e),?_,h3⟩,⟨_,ax.setCells _ h4,by rw[vG];exact h5,fun j hj x agp=>?_⟩,fun j hj=>?_,h.CG,h.dd,h.dk,h.ne,fun y hy=>Nat.lt_of_lt_of_le (h.old y hy) hx.size,h.n1,h.n2⟩
 ·refine⟨h2.1,?_⟩
  rcases h2.2 with h0|⟨g,cap,cur,e,hg,uO,r1,r2,r3,r4⟩
  ·exact .inl h0
  ·have hgD:=h3 g (by rw[e];rfl)
   refine .inr ⟨g,cap,cur,e,hg,?_,r1,r2,r3,r4⟩;rw[hx.block g (h.old g hgD.1) hgD.2.2];exact uO
 ·have hj':j<k.n:=hj
  rw[qD _ _ _ _ (by rw[hl,h5];omega),hl]
  by_cases Qx:i=j
  ·subst Qx
   rw[if_pos (by omega),show i*64+x-i*64=x by omega];show(dn b)[x]?=some (.int .u8 (((if i=i then b else k.K i).getD x 0).toNat:Int));rw[if_pos rfl];simp[dn,List.getElem?_eq_getElem (show x<b.length by omega)]
  ·rw[if_neg (by omega)]
   show cs[j*64+x]?=some (.int .u8 (((if i=j then b else k.K j).getD x 0).toNat:Int));rw[if_neg Qx];exact h6 j hj' x agp
 ·show(if i=j then b else k.K j).length=64
  split
  ·exact hb
  ·exact h.ES j hj
theorem aF.there {w:World}{D:Nat->Prop}{d kb:Nat}{k:Dk}(h:aF w D d kb k) {i:Nat}(hi:i<k.n):w.there kb (i*64) 64:=fun j hj=>by
 obtain⟨cs,h4,h5,h6⟩:=h.kept;refine⟨?_,h4.frozen _⟩;rw[h4.cell,h6 i hi j hj];rfl
theorem Jn {b:Bs}:∀v∈dn b,v.oneCell'=true:=fun v hv=>by
 obtain⟨u,_,rfl⟩:=List.mem_map.1 hv;rfl
theorem aF.QI {w:World}{D:Nat->Prop}{d kb:Nat}{k:Dk}(h:aF w D d kb k):aF (w.setCell ⟨d,1,none⟩ (.slice none 0 0)) D d kb { k with pd:=[] }:=by
 have hx:ah (On d) w (w.setCell ⟨d,1,none⟩ (.slice none 0 0)):=(ah.refl _ _).ay (F:=On d) rfl 1 _;obtain⟨A,c,h1,h2,h3⟩:=h.cells;obtain⟨cs,h4,h5,h6⟩:=h.kept;refine⟨⟨none,0,h1.aQ 1 _,⟨rfl,.inl ⟨rfl,rfl⟩⟩,(fun g hg=>by cases hg)⟩,⟨cs,h4.ext hx (fun e=>h.ne e.symm),h5,h6⟩,h.ES,(fun p hp=>by cases hp),h.dd,h.dk,h.ne,fun y hy=>Nat.lt_of_lt_of_le (h.old y hy) hx.size,h.n1,h.n2⟩
def Dk.upto (k:Dk) (j:Nat):Dk:={ k with K:=fun i=>(k.pd.take j).foldl (fun b p=>if p.1=i then p.2 else b) (k.K i) }
theorem Dk.Ra {k:Dk}{j:Nat}{p:Nat×Bs}(hp:k.pd[j]?=some p):{ k.upto j with K:=fun i=>if p.1=i then p.2 else (k.upto j).K i }=k.upto (j+1):=by
 have hj:=(List.getElem?_eq_some_iff.1 hp).1;have e:(fun i=>if p.1=i then p.2 else (k.upto j).K i)=(k.upto (j+1)).K:=by
  funext i;show _=(k.pd.take (j+1)).foldl (fun b p=>if p.1=i then p.2 else b) (k.K i);rw[List.take_add_one,hp,Option.toList_some,yc];rfl
 rw[e];rfl
def Dk.I6 (k:Dk):Dk:={ k.upto k.pd.length with pd:=[] }
theorem Dk.WI {k:Dk}(hd:k.down=false):k.flush=if k.does.1≠0 then k.does else (0,k.does.2.I6):=by
 have h1:=k.fI;have e:k.does.2.I6 = { k.does.2 with K:=k.cur,pd:=[] }:=by
  unfold Dk.I6 Dk.upto Dk.cur;simp[h1.2.1,h1.2.2.1]
 unfold Dk.flush;rw[hd,e];rfl
theorem uj {w:World}{D:Nat->Prop}{d kb:Nat}{k:Dk}(h:aF w D d kb k) (hl:k.left<2^40) (mX:k.done<2^40) (tV:k.pd.length<2^30) :
  Calls Tryz.prog 110 #[.pointer (some ⟨d,0,none⟩)] w fun e w'=>e=.returned (.int .i64 ((k.flush).1:Int))/\aF w' D d kb k.flush.2/\ah D w w':=by
 have HU:=aa (Ml h);have YL:=aa (QL h hl mX);have HH:=aa h;have sH:∀b,On d b->D b:=fun b hb=>by have:b=d:=hb;rw[this];exact HH.out.dd
 cases hd:k.down
 ·have e0:=Dk.WI hd
  rw[e0];rw[hd]at HU;clear h hd;rcases k.uU with hc|hc
  ·rw[if_neg (by omega)]
   rw[hc]at YL;have rY:k.does.2.pd=k.pd:=k.fI.2.2.1;have hK1:k.does.2.n=k.n:=k.fI.1;have sG:(k.does.2.pd.length:Int)<1073741824:=by rw[rY];omega
   have kV:=HH.out.CG;rw[<-rY,<-hK1]at kV;have HPL:=aa kV;clear kV;generalize k.does.2=k2 at *;clear rY hK1 e0;go_enter Tryz.func110,Tryz.ntmps110;go_wp2_with fail;refine(HU.out).mono ?_;rintro e w1 ⟨rfl,rfl⟩;go_wp2_with fail;refine(YL.out).mono ?_;rintro e w1 ⟨rfl,hd1,aT⟩;have JP:=aa hd1;have gK:=aa (aT.mono (fun b _=>sH b));clear hd1 aT YL HU;obtain⟨A,c,_,_,c1,_,_,_,_,bu,_⟩:=JP.out.c;have rC:=aa c1;go_wp2_with fail;clear c1;go_loopg [22] k2.pd.length (fun gk q22 wr=>∃j:Nat,j+gk=k2.pd.length/\q22=.int .i64 (j:Int)/\Hid (aF wr D d kb (k2.upto j))/\Hid (ah D w wr)/\Hid (wr.cell? ⟨d,1,none⟩=some (.slice A k2.pd.length c)))
   case atStart=>exact⟨0,by omega,rfl,JP,gK,rC⟩
   case round =>
    obtain⟨j,hk,rfl,HD,HX,HC⟩:=hrel;have HK:=aa hk
    by_cases hj:j<k2.pd.length
    ·obtain⟨p,hp⟩:∃p,k2.pd[j]?=some p:=⟨_,List.getElem?_eq_getElem hj⟩
     obtain⟨g,c9,x1,x2,x3,x4⟩:=yP HD.out hp;have hAc:A=some ⟨g,0,none⟩/\c=c9:=by
      rw[HC.out]at x1;injection x1 with e;injection e with e1 e2 e3;exact⟨e1,e3⟩
     obtain⟨rfl,rfl⟩:=hAc;have OG:=HPL.out p (List.mem_of_getElem? hp);have kV:=OG.2;have hpn:=OG.1;have iF:=aa x3;have YA:=aa kV;have dw:=oH wr (i:=p.1) kV;have gX:=dK (i:=p.1) kV;have HB:=aa (ax.new wr 144 (aZ p.1 p.2).toArray);have Ns:=aa ((ah.refl No wr).alloc (.cells (aZ p.1 p.2).toArray 144));have bu:d<wr.heap.size:=HD.out.old d HD.out.dd;have agQ:kb<wr.heap.size:=HD.out.old kb HD.out.dk;have hj1:(0:Int)<=j:=by omega
     have ZL:(j:Int)<k2.pd.length:=by omega
     clear hk x1 x3 OG;go_upto_region 9 with fail;refine wp_region_lit ?_
     iterate 1 (refine wpList_step (fun K hK=>?_);go_simp;refine hK _ _ ?_;clear hK K)
     refine wpList_load_mid (P:=Tryz.prog) (by rfl) 144 (.tmp 24) (by rfl) g (j*65) (by rfl) (aZ p.1 p.2) _ iF.out Tryz.underlying144 rfl (by rw[dK YA.out];kernel_rfl) ?_;refine wpList_step (fun K hK=>?_);go_simp;refine hK _ _ ?_;clear hK K
     refine wpList_step (fun K hK=>?_);go_simp;refine hK _ _ ?_;clear hK K dw gX
     have hWs:(wr.alloc (.cells (aZ p.1 p.2).toArray 144)).heap.size=wr.heap.size+1:=by simp
     generalize wr.alloc (.cells (aZ p.1 p.2).toArray 144)=W at *;have HDW:=aa (HD.out.ext Ns.out (fun _ _ h=>h));go_upto_region 10 with fail;have gF:=aa (HDW.out.ext ((ah.refl No W).drew) (fun _ _ h=>h));have nT:W.drew.cell? ⟨d,0,none⟩=some (.slice (some ⟨kb,0,none⟩) k2.n k2.n):=by
      obtain⟨_,_,_,y0,_⟩:=gF.out.c;exact y0
     have rW:W.drew.cell? ⟨wr.heap.size,0,none⟩=some (.int .i64 (p.1:Int)):=(HB.out.drewN 1).cell 0;have OD:W.drew.rangeAt wr.heap.size 1 (dn p.2):=fun x u hx=>by
      rw[show W.drew.cell? ⟨wr.heap.size,1+x,none⟩=_ from(HB.out.drewN 1).cell (1+x),Nat.add_comm];simpa[aZ]using hx
     have acH:(dn p.2).length=64:=by rw[lK,kV]
     have TW:ah (On kb) W.drew (W.drew.setCells kb (p.1*64) (dn p.2)):=ah.uE (F:=On kb) (b:=kb) rfl _ _ (ah.refl _ _);have hS':((W.drew.setCells kb (p.1*64) (dn p.2)).cell? ⟨d,0,none⟩=some (.slice (some ⟨kb,0,none⟩) k2.n k2.n)/\(W.drew.setCells kb (p.1*64) (dn p.2)).cell? ⟨wr.heap.size,0,none⟩=some (.int .i64 (p.1:Int))/\(W.drew.setCells kb (p.1*64) (dn p.2)).rangeAt wr.heap.size 1 (dn p.2)):=by
      have Dp:¬On kb d:=fun e=>HH.out.ne e
      have tX:¬On kb wr.heap.size:=fun e=>by have:wr.heap.size=kb:=e;omega
      refine⟨aj TW nT Dp,aj TW rW tX,World.rangeAt_setCells_apart OD _ _ _ (.inl tX)⟩
     have M5:=aa (gF.out.keep hpn kV);rw[Dk.Ra hp]at M5;have HTH:=aa (gF.out.there hpn);have HXF:=aa ((HX.out.ag (Ns.out.of_no)).drew |>.trans TW (fun b _ hb=>by have:b=kb:=hb;rw[this];exact HH.out.dk));have HC9:Hid ((W.drew.setCells kb (p.1*64) (dn p.2)).cell? ⟨d,1,none⟩=some (.slice (some ⟨g,0,none⟩) k2.pd.length c)):=aa (aj TW (aj ((ah.refl No W).drew) (aj Ns.out HC.out (fun h=>h)) (fun h=>h)) (fun e=>HH.out.ne e));have yE:(0:Int)<=p.1:=by omega
     have Dw:(p.1:Int)<k2.n:=by omega
     have Vz:=Tryz.underlying142;have V6:(Tryz.prog.info? 142).map (·.size)=some (dn p.2).length:=by rw[acH];kernel_rfl
     have acd:∀v∈dn p.2,v.oneCell'=true:=Jn;have hth:=HTH.out;clear TW;go_region_held3 (fun w'=>w'.cell? ⟨d,0,none⟩=some (.slice (some ⟨kb,0,none⟩) k2.n k2.n)/\w'.cell? ⟨wr.heap.size,0,none⟩=some (.int .i64 (p.1:Int))/\w'.rangeAt wr.heap.size 1 (dn p.2)) (first|exact⟨nT,rW,OD⟩|exact hS') (fail)
     clear nT rW OD hS' acd V6 Vz hth;clear HB HDW gF HTH;generalize W.drew.setCells kb (p.1*64) (dn p.2)=W9 at *;go_wp2_with fail;go_roundg (gk-1)
     case rel=>exact⟨j+1,by have:=HK.out;omega,by go_num,M5,HXF,HC9⟩
     case measure=>have:=HK.out;omega
    ·have iC:¬((j:Int)<(k2.pd.length:Int)):=by omega
     have IG:j=k2.pd.length:=by omega
     have HR:=aa HD.out.QI;rw[IG]at HR;have BQ:=aa (HX.out.ay (F:=D) HH.out.dd 1 (.slice none 0 0));have hf:=HC.out;obtain⟨_,_,wM,_⟩:=HD.out.cells;have f1:=wM.frozen 1;have bu:d<wr.heap.size:=HD.out.old d HD.out.dd;clear hk IG wM;go_wp2_with fail;go_ret;exact⟨rfl,HR.out,BQ.out⟩
  ·rw[if_pos (by omega),hc]
   rw[hc]at YL;go_enter Tryz.func110,Tryz.ntmps110;go_wp2_with fail;refine(HU.out).mono ?_;rintro e w1 ⟨rfl,rfl⟩;go_wp2_with fail;refine(YL.out).mono ?_;rintro e w1 ⟨rfl,hd1,aT⟩;go_wp2_with fail;go_ret;exact⟨rfl,hd1,aT.mono (fun b _ hb=>sH b hb)⟩
 ·have e0:k.flush=(10,k):=by unfold Dk.flush;rw[hd];rfl
  rw[e0];rw[hd]at HU;clear h hd;go_enter Tryz.func110,Tryz.ntmps110;go_wp2_with fail;refine(HU.out).mono ?_;rintro e w1 ⟨rfl,rfl⟩;go_wp2_with fail;go_ret;exact⟨rfl,HH.out,ah.refl _ _⟩
theorem World.rE {w:World}{b o:Nat}{cs:List Value}(h:w.rangeAt b o cs) {p:Addr}(hp:b≠p.block) {v:Value}:(w.setCell p v).rangeAt b o cs:=fun j u hu=>by
 rw[World.cell?_setCell_far _ _ _ _ (fun e=>hp e.symm)];exact h j u hu
theorem xY {w:World}{D:Nat->Prop}{d kb:Nat}{k:Dk}(h:aF w D d kb k) (i:Nat) (hi:i<k.n) (s:Bs) (hs:s.length<=64) (hl:k.left<2^40) (mX:k.done<2^40) (tV:k.pd.length<2^30) :
  Calls Tryz.prog 161 #[.pointer (some ⟨d,0,none⟩),.int .i64 (i:Int),.string (au s)] w fun e w'=>e=.returned (.int .i64 ((k.write i s).1:Int))/\aF w' (bz D w w') d kb (k.write i s).2/\ah D w w':=by
 have HU:=aa (Ml h);have HI:=aa (abh h i hi);have YL:=aa (QL h hl mX);have HH:=aa h;have hss:=az s;have h64:¬((64:Int)<(s.length:Int)):=by omega
 cases hd:k.down
 ·have e0:k.write i s=if k.does.1≠0 then k.does else (0,{ k.does.2 with pd:=k.pd ++ [(i,fO s)] }):=by unfold Dk.write;rw[hd];rfl
  rw[e0];rw[hd]at HU;clear h hd;rcases k.uU with hc|hc
  ·rw[if_neg (by omega)]
   rw[hc]at YL;go_enter Tryz.func161,Tryz.ntmps161;go_wp2_with fail;refine(HU.out).mono ?_;rintro e w1 ⟨rfl,rfl⟩;go_wp2_with fail;refine(HI.out).mono ?_;rintro e w1 ⟨rfl,rfl⟩;go_wp2_with fail;refine(YL.out).mono ?_;rintro e w1 ⟨rfl,hd1,aT⟩;have JP:=aa hd1;have gK:=aa aT;clear hd1 aT;have IJ:=aat w1 i;have QE:=Pn w1 i hs;go_upto_region 13 with fail;clear IJ QE;have HBX:=aa (ax.new w1 144 (aZ i (fO s)).toArray);have mE:=aa (JP.out.ext ((ah.refl No w1).alloc (.cells (aZ i (fO s)).toArray 144)) (fun _ _ h=>h));have dx:=aa (gK.out.alloc (.cells (aZ i (fO s)).toArray 144));have eZ:(w1.alloc (.cells (aZ i (fO s)).toArray 144)).heap.size=w1.heap.size+1:=by simp
   generalize w1.alloc (.cells (aZ i (fO s)).toArray 144)=W at *;have AV:=UF hs;obtain⟨i0,mi,eQ,fe,eP⟩:=info_parts Tryz.Qj;have rY:k.does.2.pd=k.pd:=k.fI.2.2.1;have vk:w1.heap.size<W.heap.size:=by omega
   obtain⟨A,c,Np,aP,Wn⟩:=mE.out.cells;rw[rY]at aP;have XM:=aa aP;have yJ:=aa Np;clear aP Np;have c1:W.cell? ⟨d,1,none⟩=some (.slice A k.pd.length c):=by rw[yJ.out.cell 1,<-rY];rfl
   have f1:W.frozen? ⟨d,1,none⟩=false:=yJ.out.frozen 1;have Dp:(Value.slice A k.pd.length c).ownBlock≠some w1.heap.size:=fun e=>by
    have:=JP.out.old _ (Wn _ (by rw[rY];exact e)).1;omega
   have ZH:(Value.slice A k.pd.length c).ownBlock≠some d:=fun e=>(Wn _ (by rw[rY];exact e)).2.1 rfl
   have bu:d<w1.heap.size:=JP.out.old d JP.out.dd;have tX:d≠w1.heap.size:=by omega
   clear Wn
   refine wp_region_held_drew (S:=fun w'=>w'.rangeAt w1.heap.size 0 (aZ i (fO s))) (by kernel_rfl) (fun j v hv=>by
    rw[Nat.zero_add,show W.drew.cell? ⟨w1.heap.size,j,none⟩=(aZ i (fO s)).toArray[j]? from(HBX.out.drewN 1).cell j]
    simpa using hv) (fun hS0=>?_)
   (refine wpAnyH_take (i:=0) (v:=?_) rfl (by kernel_rfl) (by kernel_rfl) (by kernel_rfl) (fun _ _ _ h=>h) (Or.inl ⟨by rfl,?_⟩) hS0 ?_;rotate_left;(intro w _;go_simp;try with_reducible rfl);rotate_left)
   (refine wpAnyH_take (i:=1) (v:=?_) rfl (by kernel_rfl) (by kernel_rfl) (by kernel_rfl) (fun _ _ _ h=>h) (Or.inl ⟨by rfl,?_⟩) hS0 ?_;rotate_left;(intro w _;go_simp;try with_reducible rfl);rotate_left)
   (refine wpAnyH_take (i:=2) (v:=?_) rfl (by kernel_rfl) (by kernel_rfl) (by kernel_rfl) (fun _ _ _ h=>h) (Or.inl ⟨by rfl,?_⟩) hS0 ?_;rotate_left;(intro w _;go_simp;try with_reducible rfl);rotate_left)
   (refine wpAnyH_take (i:=3) (v:=?_) rfl (by kernel_rfl) (by kernel_rfl) (by kernel_rfl) (fun _ _ _ h=>h) (Or.inl ⟨by rfl,?_⟩) hS0 ?_;rotate_left;(intro w _;go_simp;try with_reducible rfl);rotate_left)
   refine' wpAnyH_take (i:=5) (v:=_) rfl (by kernel_rfl) (by kernel_rfl) (by kernel_rfl) (fun _ _ _ h=>h) (yieldsIf_load_mid (by rfl) 144 (.tmp 9) rfl _ _ rfl (aZ i (fO s)) _ (fun _ h=>h) Tryz.underlying144 rfl (by rw[dK AV];kernel_rfl)) hS0 ?_;refine wpAnyH_ready (rs:=[4,6]) (by kernel_rfl) (by simp) ?_;have mY:(W.drew.alloc (.cells (aZ i (fO s)).toArray 144)).rangeAt w1.heap.size 0 (aZ i (fO s)):=World.rangeAt_alloc hS0 _;have Wt:ah No W (W.drew.alloc (.cells (aZ i (fO s)).toArray 144)):=((ah.refl No W).drewN 1).alloc (.cells (aZ i (fO s)).toArray 144);have YE:=aa (ax.new W.drew 144 (aZ i (fO s)).toArray);have MX:=aa (jY XM.out Wt (fun _ _ h=>h));have G6:W.drew.heap.size=W.heap.size:=rfl;refine AllReadyH.cons rfl (fun K hK=>?_) (AllReadyH.cons rfl (fun K hK=>?_) AllReadyH.nil)
   ·go_simp
    refine hK.out _ _ hS0 (fun _=>?_);clear hK K;refine wpAnyH_ready (rs:=[6]) (by kernel_rfl) (by simp) ?_;refine AllReadyH.cons rfl (fun K hK=>?_) AllReadyH.nil;refine sS rfl (by rfl) (.tmp 40) (by rfl) (by rfl) (by rw[List.size_toArray,dK AV]) ?_;refine hK.out _ _ mY (fun _=>?_);clear hK K;refine wpAnyH_ready (rs:=[7]) (by kernel_rfl) (by simp) ?_;refine AllReadyH.cons rfl (fun K hK=>?_) AllReadyH.nil;refine step_append_lies (P:=Tryz.prog) _ (by rfl) (.tmp 39) (.tmp 41) 138 (by rfl) 0 144 i0 (.agg BV) 65 72 Tryz.underlying138 mi eQ fe eP (by exact sI) (by omega) _ k.pd.length (dZ k.pd) (by rfl) MX.out ⟨W.heap.size,0,none⟩ 1 1 (aZ i (fO s)) (by first|rfl|(rw[eZ];rfl)) (dK AV) (World.news_of_block YE.out) (Nz (p:=(i,fO s))) (by omega) (by unfold maxLen;omega) (by omega) (Nat.zero_le _) _ rfl ?_;intro g cap w7 jc rJ JL tY;have Z9:w7.rangeAt w1.heap.size 0 (aZ i (fO s)):=fun j v hv=>by
     rw[Nat.zero_add,World.cell?_of_block (rJ.block w1.heap.size (by simp;omega) (fun e=>Dp e.symm))];exact(Nat.zero_add j)▸mY j v hv
    obtain⟨ZP,jO⟩:=GD (w:=w) (p:=(i,fO s)) mE.out yJ.out (by have:=gK.out.size;omega) HH.out.old Wt (by rw[rY];exact jc) (by rw[rY];exact rJ) (by rw[rY];exact JL) tY ⟨by rw[k.fI.1];exact hi,AV⟩;rw[rY]at ZP jO;have c17:w7.cell? ⟨d,1,none⟩=some (.slice A k.pd.length c):=by
     rw[rJ.cell_far ⟨d,1,none⟩ (by simp;omega) (fun e=>ZH e.symm)];exact(yJ.out.ext Wt (fun h=>h)).cell 1 |>.trans (by rw[<-rY];rfl)
    have f17:w7.frozen? ⟨d,1,none⟩=false:=by
     rw[rJ.frozen_far ⟨d,1,none⟩ (by simp;omega) (fun e=>ZH e.symm)];exact(yJ.out.ext Wt (fun h=>h)).frozen 1
    refine hK.out _ _ Z9 (fun _=>?_);clear hK K jc rJ JL tY
    (refine wpAnyH_take (i:=8) (v:=?_) rfl (by kernel_rfl) (by kernel_rfl) (by kernel_rfl) (fun _ _ _ h=>h) (Or.inl ⟨by rfl,?_⟩) Z9 ?_;rotate_left;(intro w _;go_simp;try with_reducible rfl);rotate_left)
    (refine wpAnyH_take (i:=9) (v:=?_) rfl (by kernel_rfl) (by kernel_rfl) (by kernel_rfl) (fun _ _ _ h=>h) (Or.inl ⟨by rfl,?_⟩) Z9 ?_;rotate_left;(intro w _;go_simp;try with_reducible rfl);rotate_left)
    refine wpAnyH_ready (rs:=[10]) (by kernel_rfl) (by simp) ?_;refine AllReadyH.cons rfl (fun K hK=>?_) AllReadyH.nil;go_simp
    refine hK.out _ _ (World.rE Z9 tX.symm) (fun _=>?_);clear hK K;refine wpAnyH_done (by kernel_rfl) ?_ _;go_wp2_with fail;go_ret;exact⟨rfl,ZP,(dx.out.mono (fun b _ hb=>by have:b=d:=hb;rw[this];exact HH.out.dd)).trans jO (fun _ _ h=>h)⟩
   ·refine sS rfl (by rfl) (.tmp 40) (by rfl) (by rfl) (by rw[List.size_toArray,dK AV]) ?_
    refine hK.out _ _ mY (fun _=>?_);clear hK K;refine wpAnyH_ready (rs:=[4]) (by kernel_rfl) (by simp) ?_;refine AllReadyH.cons rfl (fun K hK=>?_) AllReadyH.nil;go_simp
    refine hK.out _ _ mY (fun _=>?_);clear hK K;refine wpAnyH_ready (rs:=[7]) (by kernel_rfl) (by simp) ?_;refine AllReadyH.cons rfl (fun K hK=>?_) AllReadyH.nil;refine step_append_lies (P:=Tryz.prog) _ (by rfl) (.tmp 39) (.tmp 41) 138 (by rfl) 0 144 i0 (.agg BV) 65 72 Tryz.underlying138 mi eQ fe eP (by exact sI) (by omega) _ k.pd.length (dZ k.pd) (by rfl) MX.out ⟨W.heap.size,0,none⟩ 1 1 (aZ i (fO s)) (by first|rfl|(rw[eZ];rfl)) (dK AV) (World.news_of_block YE.out) (Nz (p:=(i,fO s))) (by omega) (by unfold maxLen;omega) (by omega) (Nat.zero_le _) _ rfl ?_;intro g cap w7 jc rJ JL tY;have Z9:w7.rangeAt w1.heap.size 0 (aZ i (fO s)):=fun j v hv=>by
     rw[Nat.zero_add,World.cell?_of_block (rJ.block w1.heap.size (by simp;omega) (fun e=>Dp e.symm))];exact(Nat.zero_add j)▸mY j v hv
    obtain⟨ZP,jO⟩:=GD (w:=w) (p:=(i,fO s)) mE.out yJ.out (by have:=gK.out.size;omega) HH.out.old Wt (by rw[rY];exact jc) (by rw[rY];exact rJ) (by rw[rY];exact JL) tY ⟨by rw[k.fI.1];exact hi,AV⟩;rw[rY]at ZP jO;have c17:w7.cell? ⟨d,1,none⟩=some (.slice A k.pd.length c):=by
     rw[rJ.cell_far ⟨d,1,none⟩ (by simp;omega) (fun e=>ZH e.symm)];exact(yJ.out.ext Wt (fun h=>h)).cell 1 |>.trans (by rw[<-rY];rfl)
    have f17:w7.frozen? ⟨d,1,none⟩=false:=by
     rw[rJ.frozen_far ⟨d,1,none⟩ (by simp;omega) (fun e=>ZH e.symm)];exact(yJ.out.ext Wt (fun h=>h)).frozen 1
    refine hK.out _ _ Z9 (fun _=>?_);clear hK K jc rJ JL tY
    (refine wpAnyH_take (i:=8) (v:=?_) rfl (by kernel_rfl) (by kernel_rfl) (by kernel_rfl) (fun _ _ _ h=>h) (Or.inl ⟨by rfl,?_⟩) Z9 ?_;rotate_left;(intro w _;go_simp;try with_reducible rfl);rotate_left)
    (refine wpAnyH_take (i:=9) (v:=?_) rfl (by kernel_rfl) (by kernel_rfl) (by kernel_rfl) (fun _ _ _ h=>h) (Or.inl ⟨by rfl,?_⟩) Z9 ?_;rotate_left;(intro w _;go_simp;try with_reducible rfl);rotate_left)
    refine wpAnyH_ready (rs:=[10]) (by kernel_rfl) (by simp) ?_;refine AllReadyH.cons rfl (fun K hK=>?_) AllReadyH.nil;go_simp
    refine hK.out _ _ (World.rE Z9 tX.symm) (fun _=>?_);clear hK K;refine wpAnyH_done (by kernel_rfl) ?_ _;go_wp2_with fail;go_ret;exact⟨rfl,ZP,(dx.out.mono (fun b _ hb=>by have:b=d:=hb;rw[this];exact HH.out.dd)).trans jO (fun _ _ h=>h)⟩
  ·rw[if_pos (by omega),hc]
   rw[hc]at YL;go_enter Tryz.func161,Tryz.ntmps161;go_wp2_with fail;refine(HU.out).mono ?_;rintro e w1 ⟨rfl,rfl⟩;go_wp2_with fail;refine(HI.out).mono ?_;rintro e w1 ⟨rfl,rfl⟩;go_wp2_with fail;refine(YL.out).mono ?_;rintro e w1 ⟨rfl,hd1,aT⟩;go_wp2_with fail;go_ret;exact⟨rfl,hd1.mono (fun _ hb=>.inl hb) (bz.old HH.out.old aT.size),aT.mono (fun b _ hb=>by have:b=d:=hb;rw[this];exact HH.out.dd)⟩
 ·have e0:k.write i s=(10,k):=by unfold Dk.write;rw[hd];rfl
  rw[e0];rw[hd]at HU;clear h hd;go_enter Tryz.func161,Tryz.ntmps161;go_wp2_with fail;refine(HU.out).mono ?_;rintro e w1 ⟨rfl,rfl⟩;go_wp2_with fail;go_ret;exact⟨rfl,HH.out.mono (fun _ hb=>.inl hb) (bz.old HH.out.old (Nat.le_refl _)),ah.refl _ _⟩
structure Lg where
 ak:Nat
 bytes:Bs
 recs:List Bs
 pend:List Bs
 lost:Bool
def iU (l:List Bs):List Value:=l.map fun s=>.string (au s)
structure QV (w:World) (D:Nat->Prop) (x:Nat) (e:TypeId) (v:Value) (n:Nat) (xs:List Value):Prop where
 row:w.ownsRow 0 e 1 v n xs
 at_:∀g,v.ownBlock=some g->D g/\g≠x
theorem QV.ext {w w':World}{D F:Nat->Prop}{x:Nat}{e:TypeId}{v:Value}{n:Nat}{xs:List Value}(h:QV w D x e v n xs) (hx:ah F w w') (hF:∀b,D b->b≠x->¬F b):QV w' D x e v n xs :=
 ⟨jY h.row hx (fun g hg=>hF g (h.at_ g hg).1 (h.at_ g hg).2),h.at_⟩
theorem QV.mono {w:World}{D D':Nat->Prop}{x:Nat}{e:TypeId}{v:Value}{n:Nat}{xs:List Value}(h:QV w D x e v n xs) (hD:∀b,D b->D' b):QV w D' x e v n xs :=
 ⟨h.row,fun g hg=>⟨hD g (h.at_ g hg).1,(h.at_ g hg).2⟩⟩
def Lg.cells (l:Lg) (d m:Nat) (Ab:Option Addr) (cb:Nat) (Ar:Option Addr) (cr:Nat) (Ap:Option Addr) (cp:Nat):Array Value :=
 #[.pointer (some ⟨d,0,none⟩),.int .i64 0,.int .i64 (m:Int),.int .i64 (l.ak:Int),.slice Ab l.bytes.length cb,.slice Ar l.recs.length cr,.slice Ap l.pend.length cp,.bool l.lost]
structure dW (w:World) (D:Nat->Prop) (x d m:Nat) (l:Lg):Prop where
 cells:∃Ab cb Ar cr Ap cp,ax w x 179 (l.cells d m Ab cb Ar cr Ap cp)/\QV w D x 5 (.slice Ab l.bytes.length cb) l.bytes.length (dn l.bytes)/\QV w D x 9 (.slice Ar l.recs.length cr) l.recs.length (iU l.recs) /\
  QV w D x 9 (.slice Ap l.pend.length cp) l.pend.length (iU l.pend)/\∀g,(Value.slice Ar l.recs.length cr).ownBlock=some g->(Value.slice Ap l.pend.length cp).ownBlock≠some g
 xx:D x
 old:∀b,D b->b<w.heap.size
 m1:2<=m
 m2:m<=65536
theorem dW.ext {w w':World}{D F:Nat->Prop}{x d m:Nat}{l:Lg}(h:dW w D x d m l) (hx:ah F w w') (hF:∀b,D b->¬F b):dW w' D x d m l:=by
 obtain⟨Ab,cb,Ar,cr,Ap,cp,h1,h2,h3,h4,h5⟩:=h.cells;exact⟨⟨Ab,cb,Ar,cr,Ap,cp,h1.ext hx (hF x h.xx),h2.ext hx (fun b hb _=>hF b hb),h3.ext hx (fun b hb _=>hF b hb),h4.ext hx (fun b hb _=>hF b hb),h5⟩,h.xx,fun b hb=>Nat.lt_of_lt_of_le (h.old b hb) hx.size,h.m1,h.m2⟩
section
variable {w:World}{D:Nat->Prop}{x d m:Nat}{l:Lg}
theorem dW.c (h:dW w D x d m l):∃Ab cb Ar cr Ap cp,ax w x 179 (l.cells d m Ab cb Ar cr Ap cp)/\w.cell? ⟨x,0,none⟩=some (.pointer (some ⟨d,0,none⟩))/\w.cell? ⟨x,1,none⟩=some (.int .i64 0)/\w.cell? ⟨x,2,none⟩=some (.int .i64 (m:Int)) /\
  w.cell? ⟨x,3,none⟩=some (.int .i64 (l.ak:Int))/\w.cell? ⟨x,4,none⟩=some (.slice Ab l.bytes.length cb)/\w.cell? ⟨x,5,none⟩=some (.slice Ar l.recs.length cr)/\w.cell? ⟨x,6,none⟩=some (.slice Ap l.pend.length cp)/\w.cell? ⟨x,7,none⟩=some (.bool l.lost) /\
  x<w.heap.size/\(∀i,w.frozen? ⟨x,i,none⟩=false):=by
 obtain⟨Ab,cb,Ar,cr,Ap,cp,h1,_,_,_,_⟩:=h.cells;exact⟨Ab,cb,Ar,cr,Ap,cp,h1,h1.cell 0,h1.cell 1,h1.cell 2,h1.cell 3,h1.cell 4,h1.cell 5,h1.cell 6,h1.cell 7,h1.lt,fun i=>h1.frozen i⟩
theorem Ih (h:dW w D x d m l):Calls Tryz.prog 109 #[.pointer (some ⟨x,0,none⟩)] w fun e w'=>e=.returned (.bool false)/\w=w':=by
 obtain⟨Ab,cb,Ar,cr,Ap,cp,_,c0,_,_,_,_,_,_,_,bu,_⟩:=h.c;clear h;go_enter Tryz.func109,Tryz.ntmps109;go_wp2_with fail;go_ret;exact⟨rfl,rfl⟩
theorem U9 (h:dW w D x d m l):Calls Tryz.prog 112 #[.pointer (some ⟨x,0,none⟩)] w fun e w'=>e=.returned (.int .i64 (if l.lost then 10 else 0))/\w=w':=by
 have HN:=aa (Ih h);obtain⟨Ab,cb,Ar,cr,Ap,cp,_,_,_,_,_,_,_,_,c7,bu,_⟩:=h.c;clear h;cases hd:l.lost
 ·rw[hd]at c7
  go_enter Tryz.func112,Tryz.ntmps112;go_wp2_with (go_at_call 109;refine(HN.out).mono ?_;rintro e w' ⟨rfl,rfl⟩);go_ret;exact⟨rfl,rfl⟩
 ·rw[hd]at c7
  go_enter Tryz.func112,Tryz.ntmps112;go_wp2_with (go_at_call 109;refine(HN.out).mono ?_;rintro e w' ⟨rfl,rfl⟩);go_ret;exact⟨rfl,rfl⟩
theorem dW.U3 (h:dW w D x d m l) (b:Bool):dW (w.setCell ⟨x,7,none⟩ (.bool b)) D x d m { l with lost:=b }:=by
 have hx:ah (On x) w (w.setCell ⟨x,7,none⟩ (.bool b)):=(ah.refl _ _).ay (F:=On x) rfl 7 _;obtain⟨Ab,cb,Ar,cr,Ap,cp,h1,h2,h3,h4,h5⟩:=h.cells;exact⟨⟨Ab,cb,Ar,cr,Ap,cp,h1.aQ 7 _,h2.ext hx (fun b _ bQ=>bQ),h3.ext hx (fun b _ bQ=>bQ),h4.ext hx (fun b _ bQ=>bQ),h5⟩,h.xx,fun b hb=>Nat.lt_of_lt_of_le (h.old b hb) hx.size,h.m1,h.m2⟩
theorem Ii (h:dW w D x d m l) (c:Nat) (hl:l.lost=false):Calls Tryz.prog 115 #[.pointer (some ⟨x,0,none⟩),.int .i64 (c:Int)] w fun e w'=>e=.returned (.int .i64 (c:Int))/\dW w' D x d m { l with lost:=decide (c≠0) }/\ah (On x) w w':=by
 have HL:=aa h.U3;obtain⟨Ab,cb,Ar,cr,Ap,cp,_,_,_,_,_,_,_,_,c7,bu,xI⟩:=h.c;have f7:=xI 7;rw[hl]at c7;clear h xI
 by_cases hc:c=0
 ·subst hc
  go_enter Tryz.func115,Tryz.ntmps115;go_wp2_with fail;go_ret;exact⟨rfl,HL.out false,(ah.refl _ _).ay (F:=On x) rfl 7 _⟩
 ·have OY:((c:Int) != 0)=true:=by simp;omega
  have e:decide (c≠0)=true:=by simp[hc]
  rw[e];clear hc e;go_enter Tryz.func115,Tryz.ntmps115;go_wp2_with fail;go_ret;exact⟨rfl,HL.out true,(ah.refl _ _).ay (F:=On x) rfl 7 _⟩
theorem Qe (h:dW w D x d m l) (hp:l.pend = []) (hb:l.bytes.length<=64*(m-1)):Calls Tryz.prog 68 #[.pointer (some ⟨x,0,none⟩)] w fun e w'=>e=.returned (.int .i64 ((64*(m-1)-l.bytes.length:Nat):Int))/\ah No w w':=by
 have HN:=aa (Ih h);have Et:=h.m1;have Al:=h.m2;obtain⟨Ab,cb,Ar,cr,Ap,cp,_,c0,_,c2,_,c4,_,c6,_,bu,_⟩:=h.c;rw[hp]at c6;clear h hp;have e1:(64:Int)*((m:Int)-1)-(l.bytes.length:Int)=((64*(m-1)-l.bytes.length:Nat):Int):=by omega
 have ajb:(2:Int)<=m:=by omega
 have aja:(m:Int)<=65536:=by omega
 have oN:(l.bytes.length:Int)<=4194304:=by omega
 obtain⟨R,hR⟩:∃R:Int,R=((64*(m-1)-l.bytes.length:Nat):Int):=⟨_,rfl⟩;rw[<-hR];rw[<-hR]at e1;clear hR Et Al hb;go_enter Tryz.func68,Tryz.ntmps68;go_wp2_with (go_at_call 109;refine(HN.out).mono ?_;rintro e w' ⟨rfl,rfl⟩)
 go_region
 go_wp2_with fail;go_loopg [3,25] 0 (fun gk q3 q25 wr=>q3=.int .i64 R/\q25=.int .i64 0/\w.drew=wr)
 case atStart=>exact⟨rfl,rfl,rfl⟩
 case round =>
  obtain⟨rfl,rfl,rfl⟩:=hrel;go_wp2_with fail;go_ret;exact⟨rfl,(ah.refl No w).drew⟩
end
def nb (x:Nat):Nat->Bs
 | 0=>[]
 | n+1=>UInt8.ofNat x::nb (x / 256) n
theorem Oc:∀(n x:Nat),(nb x n).length=n
 | 0,_=>rfl
 | n+1,x=>by simp[nb,Oc n]
theorem U0:∀(n x i:Nat),i<n->(nb x n)[i]?=some (UInt8.ofNat (x / 256 ^ i))
 | n+1,x,0,_=>by simp[nb]
 | n+1,x,i+1,h=>by
  have:=U0 n (x / 256) i (by omega);rw[nb,List.getElem?_cons_succ,this,Nat.div_div_eq_div_mul,Nat.pow_succ,Nat.mul_comm]
def iX (x n k:Nat):Array Value:=((List.range n).map fun i=>Value.int .u8 (if i<k then ((UInt8.ofNat (x / 256 ^ i)).toNat:Int)else 0)).toArray
theorem lW {x n k i:Nat}(h:i<n):(iX x n k)[i]?=some (.int .u8 (if i<k then ((UInt8.ofNat (x / 256 ^ i)).toNat:Int)else 0)):=by
 simp[iX,h]
theorem KN {x n k:Nat}(h:k<n):(iX x n k).setIfInBounds k (.int .u8 ((UInt8.ofNat (x / 256 ^ k)).toNat:Int))=iX x n (k+1):=by
 apply Array.ext_getElem?;intro i
 by_cases hi:i<n
 ·rw[Array.getElem?_setIfInBounds,lW hi]
  by_cases e:k=i
  ·subst e;simp[iX,h]
  ·rw[if_neg e,lW hi]
   congr 2
   by_cases h1:i<k
   ·rw[if_pos h1,if_pos (by omega)]
   ·rw[if_neg h1,if_neg (by omega)]
 ·simp[iX,hi,show ¬i<n from hi]
theorem Ig (x n:Nat):madeCells #[.int .u8 0] n=iX x n 0:=by
 apply Array.ext_getElem?;intro i
 by_cases hi:i<n
 ·rw[lW hi,if_neg (by omega)]
  have:i%1=0:=by omega
  simp[madeCells,hi,this]
 ·simp[iX,madeCells,hi,show ¬i<n from hi]
theorem Zd {w:World}{g x n:Nat}(h:ax w g 5 (iX x n n)):(convert 98 9 (.slice (some ⟨g,0,none⟩) n n)).run Tryz.prog w=.ok (.string (au (nb x n))) w:=by
 have h1:=run_convert_bytes_back (P:=Tryz.prog) w 98 9 5 ⟨g,0,none⟩ n (nb x n) Tryz.underlying98 Tryz.underlying5 Tryz.underlying9 (fun j hj=>by
  rw[Oc]at hj;rw[Addr.iP,Nat.zero_add,h.cell,lW hj,if_pos hj];have:=U0 n x j hj;have h2:=(List.getElem?_eq_some_iff.1 this).2
  rw[<-h2])
 rw[Oc]at h1;exact h1
theorem Ie (x n:Nat) (hx:x<18446744073709551616) (hn:n<=8) (w:World):Calls Tryz.prog 159 #[.int .u64 (x:Int),.int .i64 (n:Int)] w fun e w'=>e=.returned (.string (au (nb x n)))/\ah No w w':=by
 have h1:(n:Int)<=8:=by omega
 have h0:(0:Int)<=n:=by omega
 have OL:=run_make_row' (P:=Tryz.prog) 98 5 (.int .u8 0) 1 Tryz.underlying98 (by kernel_rfl) rfl .i64 .i64 n (by omega) (by omega) w;rw[Ig x]at OL;go_enter Tryz.func159,Tryz.ntmps159;go_wp2_with fail;clear OL;have HB:=aa (ax.new w 5 (iX x n 0));have HX:=aa ((ah.refl No w).alloc (.cells (iX x n 0) 5));generalize w.alloc (.cells (iX x n 0) 5)=W at *;go_loopg [11] n (fun gk q11 wr=>∃k:Nat,k+gk=n/\q11=.int .i64 (k:Int)/\Hid (ax wr w.heap.size 5 (iX x n k))/\Hid (ah No w wr))
 case atStart=>exact⟨0,by omega,rfl,HB,HX⟩
 case round =>
  obtain⟨k,hk,rfl,HK,HE⟩:=hrel;have wR:=aa hk
  by_cases Ub:k<n
  ·have bu:=HK.out.lt
   have c1:=HK.out.cell k;rw[lW Ub,if_neg (by omega)]at c1;have f1:=HK.out.frozen k;have j_:(0:Int)<=k:=by omega
   have lJ:(k:Int)<n:=by omega
   have Qw:(8:Int)*(k:Int)<64:=by omega
   have hsh:x / 2 ^ (8*k)=x / 256 ^ k:=by rw[Nat.pow_mul]
   have HN:=aa (HK.out.aQ k (.int .u8 ((UInt8.ofNat (x / 256 ^ k)).toNat:Int)));rw[KN Ub]at HN;have hv:((UInt8.ofNat (x / 256 ^ k)).toNat:Int)=(x:Int) / 2 ^ (8*k)%256:=by
    rw[<-hsh,UInt8.toNat_ofNat',Int.natCast_emod,Int.natCast_ediv,Int.natCast_pow];rfl
   have YK:=aa (HE.out.ai (b:=w.heap.size) (Nat.le_refl _) k (.int .u8 ((UInt8.ofNat (x / 256 ^ k)).toNat:Int)));rw[hv]at HN YK;clear hv hsh;clear hk;go_wp2_with fail;go_roundg (gk-1)
   case rel=>exact⟨k+1,by have:=wR.out;omega,by go_num,HN,YK⟩
   case measure=>have:=wR.out;omega
  ·have aen:k=n:=by omega
   have iC:¬((k:Int)<(n:Int)):=by omega
   rw[aen]at HK;have QD:=Zd HK.out;clear hk aen;go_wp2_with fail;go_ret;exact⟨rfl,HE.out⟩
theorem RL (n:Nat):UInt8.ofNat (n%256)=UInt8.ofNat n:=by
 apply UInt8.toNat_inj.1;rw[UInt8.toNat_ofNat',UInt8.toNat_ofNat'];omega
theorem xu (x:Nat):nb x 4=n4 x:=by
 simp only[nb,n4,RL];rw[show x / 256 / 256=x / 65536 by omega,show x / 65536 / 256=x / 16777216 by omega]
theorem U1 (x:Nat):nb x 8=n8 x:=by
 have e:nb x 8=nb x 4++nb (x / 4294967296) 4:=by
  simp only[nb];rw[show x / 4294967296=x / 256 / 256 / 256 / 256 by omega];rfl
 rw[e,xu,xu];rfl
theorem Oi (T:Nat->Nat) (w:World) (h:gJ w T) (s:Bs) (hs:s.length<2^30):Calls Tryz.prog 160 #[.string (au s)] w fun e w'=>e=.returned (.string (au (n4 (bT T s))))/\ah No w w':=by
 have QD:=Lib.run_convert_string_bytes (P:=Tryz.prog) w 9 98 5 (au s) (u:=.string) Tryz.underlying9 Tryz.underlying98 Tryz.underlying5;have hX:ah No w (Lib.bytesWorld w 5 (au s)):=ah.of_below (Lib.bytesWorld_below w 5 (au s)) No
 have hR:Rd (Lib.bytesWorld w 5 (au s)) No 1 (some ⟨w.heap.size,0,none⟩) s.length (dn s):=⟨by rw[lK];omega,fun _=>⟨w.heap.size,0,rfl,fun h=>h,fun j u hu=>by
  have hj:=(List.getElem?_eq_some_iff.1 hu).1;rw[lK]at hj;have:=Lib.bytesWorld_cell w 5 (au s) j (by rw[az];exact hj);rw[Nat.zero_add,this];rw[<-hu]
  simp[dn,hj,au]⟩⟩
 have HS:=aa (fun c=>Hr T _ (h.ext hX (fun h=>h)) _ s c hR (by omega));have HN:=aa (fun w=>Ie (bT T s) 4 (by have:=Jf h.lt s;omega) (by omega) w);rw[xu]at HN;have wL:((bT T s:Nat):Int)<4294967296:=by have:=Jf h.lt s;omega
 rw[az]at QD;have HX:=aa hX;clear h hX hR;generalize Lib.bytesWorld w 5 (au s)=W at *;generalize bT T s=C at *;go_enter Tryz.func160,Tryz.ntmps160;go_wp2_with fail;refine(HS.out _).mono ?_;rintro e w1 ⟨rfl,rfl⟩;go_wp2_with fail;refine(HN.out _).mono ?_;rintro e w1 ⟨rfl,aT⟩;go_wp2_with fail;go_ret;exact⟨rfl,HX.out.ag aT⟩
theorem Vb (T:Nat->Nat) (w:World) (h:gJ w T) (s:Bs) (hs:s.length<2^29):Calls Tryz.prog 114 #[.string (au s)] w fun e w'=>e=.returned (.string (au (aM (bT T) s)))/\ah No w w':=by
 have HN:=aa (fun w=>Ie s.length 4 (by omega) (by omega) w);rw[xu]at HN;have HS:=aa (fun w (h:gJ w T)=>Oi T w h (n4 s.length++s) (by rw[List.length_append,bX];omega));have HH:=aa h;have AV:(s.length:Int)<536870912:=by omega
 obtain⟨N,hN⟩:∃N,N=n4 s.length:=⟨_,rfl⟩;obtain⟨C,hC⟩:∃C,C=n4 (bT T (N++s)):=⟨_,rfl⟩;have hF:aM (bT T) s=N++(C++s):=by unfold aM;rw[<-hN,<-hC]
 rw[hF];rw[<-hN]at HN HS;rw[<-hC]at HS;have lN:N.length=4:=by rw[hN];rfl
 have lC:C.length=4:=by rw[hC];rfl
 have z1:¬(9223372036854775807<4+s.length):=by omega
 have z2:¬(9223372036854775807<8+s.length):=by omega
 have a1:au N++au s=au (N++s):=fM _ _;have a2:au N++au C=au (N++C):=fM _ _;have a3:au (N++C)++au s=au (N++(C++s)):=by rw[fM,List.append_assoc]
 clear h hF hN hC;go_enter Tryz.func114,Tryz.ntmps114;go_wp2_with fail;refine(HN.out _).mono ?_;rintro e w1 ⟨rfl,aT⟩;have gK:=aa aT;have HT:=aa (HH.out.ext aT (fun h=>h));clear aT;go_wp2_with fail;refine(HS.out _ HT.out).mono ?_;rintro e w2 ⟨rfl,aH⟩;go_wp2_with fail;go_ret;exact⟨rfl,gK.out.ag aH⟩
theorem Ij (T:Nat->Nat) (w:World) (h:gJ w T) (ak len:Nat) (he:ak<2^60) (hl:len<2^32):Calls Tryz.prog 122 #[.int .i64 (ak:Int),.int .i64 (len:Int)] w fun e w'=>e=.returned (.string (au (bZ (bT T) ak len)))/\ah No w w':=by
 have HN:=aa (fun w=>Ie ak 8 (by omega) (by omega) w);have HM:=aa (fun w=>Ie len 4 (by omega) (by omega) w);rw[U1]at HN;rw[xu]at HM;have HS:=aa (fun w (h:gJ w T)=>Oi T w h (om ak len) (by simp[om,n8,n4]));have HP:=aa (fun w=>Tryz.strings_Repeat ⟨#[0]⟩ 44 w (by omega) (by show 1*44<=_;omega));have Di:(⟨(Lib.repeatL (⟨#[0]⟩:ByteArray).data.toList 44).toArray⟩:ByteArray)=au (zs 44):=uG 44;rw[Di]at HP;have HH:=aa h;have ZO:(ak:Int)<1152921504606846976:=by omega
 have JF:(len:Int)<4294967296:=by omega
 obtain⟨Z,hZ⟩:∃Z,Z=zs 44:=⟨_,rfl⟩;obtain⟨G,hG⟩:∃G:Bs,G = [65,81,87,76]:=⟨_,rfl⟩;obtain⟨N,hN⟩:∃N,N=n8 ak:=⟨_,rfl⟩;obtain⟨M,hM⟩:∃M,M=n4 len:=⟨_,rfl⟩;obtain⟨C,hC⟩:∃C,C=n4 (bT T (om ak len)):=⟨_,rfl⟩;have h0:om ak len=G++(N++M):=by unfold om;rw[<-hG,<-hN,<-hM]
 have hF:bZ (bT T) ak len=G++(N++(M++(C++Z))):=by unfold bZ;rw[<-hC,<-hZ,h0];simp only[List.append_assoc]
 rw[hF];rw[<-hN]at HN;rw[<-hM]at HM;rw[<-hC,h0]at HS;rw[<-hZ]at HP;have lG:G.length=4:=by rw[hG];rfl
 have lN:N.length=8:=by rw[hN];rfl
 have lM:M.length=4:=by rw[hM];rfl
 have lC:C.length=4:=by rw[hC];rfl
 have lZ:Z.length=44:=by rw[hZ];exact ni 44
 have a1:(⟨#[65,81,87,76]⟩:ByteArray)++au N=au (G++N):=by rw[hG];exact fM [65,81,87,76] N
 have a2:au (G++N)++au M=au (G++(N++M)):=by rw[fM,List.append_assoc]
 have a3:au (G++(N++M))++au C=au (G++(N++(M++C))):=by rw[fM];simp only[List.append_assoc]
 have a4:au (G++(N++(M++C)))++au Z=au (G++(N++(M++(C++Z)))):=by rw[fM];simp only[List.append_assoc]
 clear h hF hN hC Di h0 hG hM hZ;go_enter Tryz.func122,Tryz.ntmps122;go_wp2_with fail;refine(HN.out _).mono ?_;rintro e w1 ⟨rfl,aT⟩;have gK:=aa aT;clear aT;go_wp2_with fail;refine(HM.out _).mono ?_;rintro e w2 ⟨rfl,aH⟩;have dx:=aa (gK.out.ag aH);have HT:=aa (HH.out.ext dx.out (fun h=>h));clear aH gK;go_wp2_with fail;refine(HS.out _ HT.out).mono ?_;rintro e w3 ⟨rfl,bC⟩;have iF:=aa (dx.out.ag bC);clear bC dx;go_wp2_with fail;refine(HP.out _).mono ?_;rintro e w4 ⟨rfl,hb4⟩;go_wp2_with fail;go_ret;exact⟨rfl,iF.out.ag (ah.of_below hb4 No)⟩
theorem bz.of {D:Nat->Prop}{w w1 w2 w':World}(h1:w.heap.size<=w1.heap.size) (h2:w2.heap.size<=w'.heap.size) {b:Nat}(h:bz D w1 w2 b):bz D w w' b:=by
 rcases h with h|h
 ·exact .inl h
 ·exact .inr ⟨by omega,by omega⟩
theorem bz.back {D:Nat->Prop}{w w1 w2:World}(h1:w.heap.size<=w1.heap.size) {b:Nat}(hb:b<w.heap.size) (h:bz D w1 w2 b):D b:=by
 rcases h with h|h
 ·exact h
 ·omega
def Dk.eD (k:Dk) (n:Nat):Prop:=k.left<n/\k.done<n/\k.pd.length<n
theorem Dk.Gz {k:Dk}{n:Nat}(h:k.eD n):k.does.2.eD (n+1):=by
 obtain⟨h1,h2,h3⟩:=h;unfold Dk.does;split
 ·exact⟨by show k.left<_;omega,by show k.done<_;omega,by show k.pd.length<_;omega⟩
 ·refine⟨?_,by show k.done+1<_;omega,by show k.pd.length<_;omega⟩
  show(if k.armed then k.left-1 else k.left)<n+1;split <;> omega
theorem Dk.eD.mono {k:Dk}{n n':Nat}(h:k.eD n) (hn:n<=n'):k.eD n':=⟨by have:=h.1;omega,by have:=h.2.1;omega,by have:=h.2.2;omega⟩
theorem Dk.kM {k:Dk}{n:Nat}(h:k.eD n) (i:Nat) (s:Bs):(k.write i s).2.eD (n+1):=by
 have h1:=Dk.Gz h;have h2:=k.fI.2.2.1;unfold Dk.write;split
 ·exact h.mono (by omega)
 ·split
  ·exact h1
  ·refine⟨h1.1,h1.2.1,?_⟩
   show(k.pd ++ [(i,fO s)]).length<n+1;have:=h.2.2;simp;omega
theorem Dk.nJ {k:Dk}{n:Nat}(h:k.eD n):k.flush.2.eD (n+1):=by
 have h1:=Dk.Gz h;unfold Dk.flush;split
 ·exact h.mono (by omega)
 ·split
  ·exact h1
  ·exact⟨h1.1,h1.2.1,by show(0:Nat)<_;omega⟩
theorem KX {w:World}{D Dd:Nat->Prop}{x d m kb:Nat}{l:Lg}{k:Dk}{T:Nat->Nat}(h:dW w D x d m l) (hd:aF w Dd d kb k) (hT:gJ w T) (xM:∀b,D b->¬Dd b) (hk:k.eD (2^29)) (ak len:Nat) (he:ak<2^60) (hl:len<2^32) :
  Calls Tryz.prog 117 #[.pointer (some ⟨x,0,none⟩),.int .i64 (ak:Int),.int .i64 (len:Int)] w fun e w'=>e=.returned (.int .i64 ((k.aO (bT T) ak len).1:Int))/\aF w' (bz Dd w w') d kb (k.aO (bT T) ak len).2/\ah Dd w w':=by
 obtain⟨H,hH⟩:∃H,H=bZ (bT T) ak len:=⟨_,rfl⟩;have HHD:=aa (fun w hT=>Ij T w hT ak len he hl);rw[<-hH]at HHD;have bY:H.length=64:=by rw[hH];exact xJ _ _ _
 have e0:k.aO (bT T) ak len=if (k.write 0 H).1≠0 then k.write 0 H else (k.write 0 H).2.flush:=by unfold Dk.aO;rw[hH]
 rw[e0];have lY:0<k.n:=hd.n1;have HW:=aa (fun(w:World) (hd:aF w Dd d kb k)=>xY hd 0 lY H (by omega) (by have:=hk.1;omega) (by have:=hk.2.1;omega) (by have:=hk.2.2;omega));have j_:=Dk.kM hk 0 H;have HF:=aa (fun(w:World) (D:Nat->Prop) (hd:aF w D d kb (k.write 0 H).2)=>uj hd (by have:=j_.1;omega) (by have:=j_.2.1;omega) (by have:=j_.2.2;omega));have HL:=aa h;have gF:=aa hd;have XF:=aa hT;have Q4:=aa xM;have vO:=aa hd.old;obtain⟨_,_,_,_,_,_,_,c0,c1,_,_,_,_,_,_,bu,_⟩:=h.c;clear h hd hT xM e0 hH hk j_;generalize k.write 0 H=kw at *;obtain⟨R,hR⟩:∃R,R=if kw.1≠0 then kw else kw.2.flush:=⟨_,rfl⟩
 rw[<-hR];have HR:=aa hR;clear hR;have zJ:=aa c0;have rC:=aa c1;go_enter Tryz.func117,Tryz.ntmps117;go_upto_region 1 with fail;clear c0 c1;have nT:w.drew.cell? ⟨x,0,none⟩=some (.pointer (some ⟨d,0,none⟩)):=aj ((ah.refl No w).drew) zJ.out (fun h=>h);have rW:w.drew.cell? ⟨x,1,none⟩=some (.int .i64 0):=aj ((ah.refl No w).drew) rC.out (fun h=>h);have wJ:ah No w w.drew:=(ah.refl No w).drew;have wQ:=aa wJ;have Uj:=aa (XF.out.ext wJ (fun h=>h));have yG:Hid (¬Dd x):=aa (Q4.out x HL.out.xx);clear wJ
 go_region_held3 (fun w'=>w'.cell? ⟨x,0,none⟩=some (.pointer (some ⟨d,0,none⟩))/\w'.cell? ⟨x,1,none⟩=some (.int .i64 0)) (first|exact⟨nT,rW⟩|exact⟨aj bC (aj (wQ.out.ag aH) zJ.out (fun h=>h)) yG.out,aj bC (aj (wQ.out.ag aH) rC.out (fun h=>h)) yG.out⟩|exact⟨aj (wQ.out.ag aH) zJ.out (fun h=>h),aj (wQ.out.ag aH) rC.out (fun h=>h)⟩) (first
  | (go_at_call 122;refine(HHD.out _ Uj.out).mono ?_;rintro e w2 ⟨rfl,aH⟩)
  | (go_at_call 161;refine(HW.out _ (gF.out.ext (wQ.out.ag aH) (fun _ _ h=>h))).mono ?_;rintro e w3 ⟨rfl,za,bC⟩))
 have dx:=aa (wQ.out.ag aH);have iF:=aa ((dx.out.of_no).ag bC);have yH:=aa za;have c3:=aj bC (aj dx.out zJ.out (fun h=>h)) yG.out;have yV:=bC.size;clear za aH nT rW
 by_cases hc:kw.1=0
 ·have hR:R=kw.2.flush:=by rw[HR.out,if_neg (by omega)]
  have jQ:(kw.1:Int)=0:=by omega
  rw[jQ];have Uk:=aa hR;clear hR;have Vu:x<w3.heap.size:=by have:=iF.out.size;omega
  clear hc jQ bC;go_wp2_with fail;refine(HF.out _ _ yH.out).mono ?_;rintro e w4 ⟨rfl,QC,ib⟩;go_wp2_with fail;go_ret;rw[Uk.out];exact⟨rfl,QC.mono (fun b hb=>bz.of dx.out.size ib.size hb) (bz.old vO.out (Nat.le_trans iF.out.size ib.size)),iF.out.trans ib (fun b hb hg=>bz.back dx.out.size hb hg)⟩
 ·have hR:R=kw:=by rw[HR.out,if_pos hc]
  have Uk:=aa hR;clear hR;have jQ:((kw.1:Int)==0)=false:=by simp;omega
  have JI:((kw.1:Int) != 0)=true:=by simp;omega
  clear hc bC;go_wp2_with fail;go_ret;rw[Uk.out];exact⟨rfl,yH.out.mono (fun b hb=>bz.of dx.out.size (Nat.le_refl _) hb) (bz.old vO.out iF.out.size),iF.out⟩
theorem bA (a:Int) (h0:0<=a) (h1:a<1099511627776):IntKind.i64.wrap a=a:=by
 rw[qo];unfold wrap64;omega
theorem Ti {w:World}{g c o n:Nat}{all:Bs}(hA:∀j u,(dn all)[j]?=some u->w.cell? ⟨g,j,none⟩=some u) (ho:o<all.length) (hn:n=((all.drop o).take 64).length):(convert 98 9 (.slice (some ⟨g,o,none⟩) n c)).run Tryz.prog w=.ok (.string (au ((all.drop o).take 64))) w:=by
 have h1:=run_convert_bytes_back (P:=Tryz.prog) w 98 9 5 ⟨g,o,none⟩ c ((all.drop o).take 64) Tryz.underlying98 Tryz.underlying5 Tryz.underlying9 (fun j hj=>by
  rw[Addr.iP];refine hA (o+j) _ ?_;rw[List.length_take,List.length_drop]at hj
  simp[dn,List.getElem?_eq_getElem (show o+j<all.length by omega)])
 rw[<-hn]at h1;exact h1
def qab (q N j:Nat) (all:Bs):List (Nat×Bs):=gD (1+q+j) (jg (N-j) (all.drop ((q+j)*64)))
theorem RY {q N j:Nat}{all:Bs}(h:j<N):qab q N j all=(1+q+j,(all.drop ((q+j)*64)).take 64)::qab q N (j+1) all:=by
 unfold qab;obtain⟨n,hn⟩:∃n,N-j=n+1:=⟨N-j-1,by omega⟩;rw[hn,show N-(j+1)=n by omega,jg,gD,List.drop_drop,show 1+q+j+1=1+q+(j+1) by omega,show(q+j)*64+64=(q+(j+1))*64 by omega]
theorem Ve {q N j:Nat}{all:Bs}(h:N<=j):qab q N j all = []:=by
 unfold qab;rw[show N-j=0 by omega];rfl
theorem abO {w:World}{D Dd:Nat->Prop}{x d m kb g c:Nat}{l:Lg}{k:Dk}(h:dW w D x d m l) (hd:aF w Dd d kb k) (xM:∀b,D b->¬Dd b) (hk:k.eD (2^28)) (all:Bs) (hA:∀j u,(dn all)[j]?=some u->w.cell? ⟨g,j,none⟩=some u) (hg:¬Dd g) (kL:g<w.heap.size) (hc:all.length<=c) (gP:all.length<=64*(m-1)) (oN:l.bytes.length<=all.length) (Ua:m<=k.n) :
  Calls Tryz.prog 116 #[.pointer (some ⟨x,0,none⟩),.slice (some ⟨g,0,none⟩) all.length c] w fun e w'=>e=.returned (.int .i64 ((k.bV l.bytes all).1:Int))/\aF w' (bz Dd w w') d kb (k.bV l.bytes all).2/\ah Dd w w':=by
 obtain⟨q,hq⟩:∃q,q=l.bytes.length / 64:=⟨_,rfl⟩;obtain⟨N,hN⟩:∃N,N=(all.length+63) / 64-q:=⟨_,rfl⟩;have e0:k.bV l.bytes all=if (k.writes (qab q N 0 all)).1≠0 then k.writes (qab q N 0 all)else (k.writes (qab q N 0 all)).2.flush:=by
  unfold Dk.bV qab;rw[<-hq,<-hN,Nat.sub_zero,Nat.add_zero,Nat.add_zero]
 obtain⟨R,hR⟩:∃R,R=k.bV l.bytes all:=⟨_,rfl⟩;rw[<-hR];rw[e0]at hR;have HR:=aa hR;have HL:=aa h;have gF:=aa hd;have Q4:=aa xM;have HA:=aa hA;have vO:=aa hd.old;have Et:=h.m1;have Al:=h.m2;have yG:Hid (¬Dd x):=aa (xM x h.xx);have HNG:=aa hg;have HGL:=aa kL;have HK:=aa hk;have HMN:=aa Ua;have hql:((l.bytes.length:Nat):Int) / 64=(q:Int):=by omega
 have hqb:l.bytes.length / 64=q:=hq.symm;obtain⟨Ab,cb,_,_,_,_,_,c0,c1,_,_,c4,_,_,_,bu,_⟩:=h.c;obtain⟨L,hL⟩:∃L,L=l.bytes.length:=⟨_,rfl⟩;rw[<-hL]at c4 hql hqb oN;have r_:(L:Int)<9223372036854775807:=by
  omega
 have zJ:=aa c0;have rC:=aa c1;have ZZ:(all.length:Int)<=4194304:=by omega
 clear h hd xM hA hg hk Ua e0 hR hq hL;go_enter Tryz.func116,Tryz.ntmps116;go_wp2_with fail;clear c4 c0 c1;have wG:Hid (all.length<=64*(m-1)/\L<=all.length/\L / 64=q/\N=(all.length+63) / 64-q/\2<=m/\m<=65536):=aa ⟨gP,oN,hqb,hN,Et,Al⟩;clear gP oN hqb hN Et Al hql r_;go_loopg [5] N (fun gk q5 wr=>∃(j:Nat) (k':Dk),j+gk=N/\q5=.int .i64 (((q+j)*64:Nat):Int)/\Hid (k.writes (qab q N 0 all)=k'.writes (qab q N j all))/\Hid (aF wr (bz Dd w wr) d kb k')/\Hid (ah Dd w wr)/\Hid (k'.eD (2^28+j))/\Hid (k'.n=k.n))
 case atStart=>exact⟨0,k,by omega,by go_num,aa rfl,aa (gF.out.mono (fun _ hb=>.inl hb) (bz.old vO.out (Nat.le_refl _))),aa (ah.refl _ _),HK,aa rfl⟩
 case round =>
  obtain⟨j,k',hj,rfl,o7,HD,HX,uA,QY⟩:=hrel;have HJ:=aa hj
  by_cases hjn:j<N
  ·have HJN:=aa hjn
   obtain⟨o,ho⟩:∃o,o=(q+j)*64:=⟨_,rfl⟩;obtain⟨f1,f2,f3,f4,f5,f6⟩:=wG.out;have hol:o<all.length:=by omega
   obtain⟨e,he⟩:∃e,e=min (o+64) all.length:=⟨_,rfl⟩;have hoe:o<=e:=by omega
   have Nn:e<=all.length:=by omega
   have aee:min ((o:Int)+64) (all.length:Int)=(e:Int):=by omega
   have ah3:Hid (¬bz Dd w wr g):=aa (fun hg=>by
    rcases hg with hg|hg
    ·exact HNG.out hg
    ·have:=HGL.out;omega)
   have JM:∀j u,(dn all)[j]?=some u->wr.drew.cell? ⟨g,j,none⟩=some u:=fun j u hu=>aj HX.out.drew (HA.out j u hu) HNG.out
   have HCV:=aa (fun(w':World) (JM:∀j u,(dn all)[j]?=some u->w'.cell? ⟨g,j,none⟩=some u)=>Ti (c:=all.length-o) JM hol (n:=e-o) (by rw[List.length_take,List.length_drop];omega));have HA2:=aa JM;rw[<-ho];have g1:(0:Int)<=o:=by omega
   have g2:(o:Int)<=e:=by omega
   have g3:(e:Int)<=all.length:=by omega
   have g4:(o:Int)<all.length:=by omega
   have g5:(all.length:Int)<=c:=by omega
   have HO:=aa ho;have HE:=aa (And.intro hoe (And.intro Nn hol));clear hj ho he f1 f2 f3 f4 f5 f6 JM hc hoe Nn hol;obtain⟨i1,yE⟩:∃i1,i1=1+q+j:=⟨_,rfl⟩;have Z4:(1:Int)+(o:Int) / 64=(i1:Int):=by have:=HO.out;omega
   have hob:(o:Int) / 64<65537:=by have:=HE.out;omega
   have agG:(0:Int)<=(o:Int) / 64:=by omega
   have vk:IntKind.i64.wrap 1=1:=by decide
   have Nc:IntKind.i64.wrap ((o:Int) / 64)=(o:Int) / 64:=bA _ (by omega) (by omega);have Iu:IntKind.i64.wrap (1+(o:Int) / 64)=(i1:Int):=by rw[<-Z4];exact bA _ (by omega) (by omega)
   clear Z4 hob agG;obtain⟨S,hS⟩:∃S,S=(all.drop o).take 64:=⟨_,rfl⟩;have AV:S.length<=64:=by rw[hS,List.length_take];omega
   rw[<-hS]at HCV;have iL:i1<k'.n:=by
    have h1:=wG.out;have h2:=QY.out;have h3:=HMN.out;omega
   have HW:=aa (xY (HD.out.ext ((ah.refl No wr).drew) (fun _ _ h=>h)) i1 iL S AV (by have:=uA.out.1;have:=wG.out;omega) (by have:=uA.out.2.1;have:=wG.out;omega) (by have:=uA.out.2.2;have:=wG.out;omega));have j_:=aa (Dk.kM uA.out i1 S);have VV:=aa ((Dk.qj k' i1 S).trans QY.out)
   have Ee:Hid (k'.writes (qab q N j all)=if (k'.write i1 S).1≠0 then k'.write i1 S else (k'.write i1 S).2.writes (qab q N (j+1) all)):=aa (by
    rw[RY hjn,<-HO.out,<-hS,<-yE];rfl)
   generalize k'.write i1 S=kw at *;have nT:wr.drew.cell? ⟨x,0,none⟩=some (.pointer (some ⟨d,0,none⟩)):=aj HX.out.drew zJ.out yG.out;have rW:wr.drew.cell? ⟨x,1,none⟩=some (.int .i64 0):=aj HX.out.drew rC.out yG.out;have OD:=HCV.out _ HA2.out;have HS1:=aa nT;have Nt:=aa rW
   have XP:Hid (¬bz Dd w wr x):=aa (fun hg=>by
    rcases hg with hg|hg
    ·exact yG.out hg
    ·omega)
   have hxr:x<wr.heap.size:=by have:=HX.out.size;omega
   clear yE hS iL hjn;go_upto_region 5 with fail
   go_region_held3 (fun w'=>w'.cell? ⟨x,0,none⟩=some (.pointer (some ⟨d,0,none⟩))/\w'.cell? ⟨x,1,none⟩=some (.int .i64 0)/\(convert 98 9 (.slice (some ⟨g,o,none⟩) (e-o) (all.length-o))).run Tryz.prog w'=.ok (.string (au S)) w') (first|exact⟨nT,rW,OD⟩|exact⟨aj bC HS1.out XP.out,aj bC Nt.out XP.out,HCV.out _ (fun j u hu=>aj bC (HA2.out j u hu) ah3.out)⟩) (first
    | (go_at_call 161;refine(HW.out).mono ?_;rintro e w3 ⟨rfl,za,bC⟩))
   have zD:=aa (HX.out.trans ((ah.refl (bz Dd w wr) wr).drew.ag bC) (fun b hb hg=>bz.back (Nat.le_refl _) hb hg));have eZ:=bC.size;have agz:wr.drew.heap.size=wr.heap.size:=rfl;have yH:=aa (za.mono (D':=bz Dd w w3) (fun b hb=>bz.trans (w1:=wr) HX.out.size (by omega) (by rcases hb with hb|hb;exact .inl hb;exact .inr ⟨by omega,hb.2⟩)) (bz.old vO.out zD.out.size));clear za bC nT rW OD vk Nc Iu
   by_cases hc:kw.1=0
   ·have Ao:Hid (k.writes (qab q N 0 all)=kw.2.writes (qab q N (j+1) all)):=aa (by rw[o7.out,Ee.out,if_neg (by omega)])
    have jQ:(kw.1:Int)=0:=by omega
    rw[jQ];have hmb:(o:Int)<4194304:=by omega
    clear hc jQ o7 Ee;go_wp2_with fail;go_roundg (gk-1)
    case rel=>exact⟨j+1,kw.2,by have:=HJ.out;have:=HJN.out;omega,by have:=HO.out;go_num,Ao,yH,zD,j_,VV⟩
    case measure=>have:=HJ.out;have:=HJN.out;omega
   ·have hRk:R=kw:=by rw[HR.out,o7.out,Ee.out,if_pos hc,if_pos hc]
    have TD:=aa hRk;have jQ:((kw.1:Int) != 0)=true:=by simp;omega
    clear hc hRk;go_wp2_with fail;go_ret;rw[TD.out];exact⟨rfl,yH.out,zD.out⟩
  ·have hjN:j=N:=by omega
   obtain⟨f1,f2,f3,f4,f5,f6⟩:=wG.out;have iC:¬((((q+j)*64:Nat):Int)<(all.length:Int)):=by omega
   have hk9:k.writes (qab q N 0 all)=(0,k'):=by rw[o7.out,Ve (by omega)];rfl
   have HR9:Hid (R=k'.flush):=aa (by rw[HR.out,hk9];rfl);have HFL:=aa (uj HD.out (by have:=uA.out.1;omega) (by have:=uA.out.2.1;omega) (by have:=uA.out.2.2;omega));have hc9:=aj HX.out zJ.out yG.out;have Vu:x<wr.heap.size:=by have:=HX.out.size;omega
   generalize (((q+j)*64:Nat):Int)=oo at *;clear hj hjN f1 f2 f3 f4 f5 f6 hk9 hjn;go_wp2_with fail;refine(HFL.out).mono ?_;rintro e w4 ⟨rfl,QC,ib⟩;go_wp2_with fail;go_ret;rw[HR9.out];exact⟨rfl,QC.mono (fun b hb=>bz.of (Nat.le_refl _) ib.size hb) (bz.old vO.out (Nat.le_trans HX.out.size ib.size)),HX.out.trans ib (fun b hb hg=>bz.back (Nat.le_refl _) hb hg)⟩
theorem dW.anew {w:World}{D:Nat->Prop}{x d m:Nat}{l:Lg}(h:dW w D x d m l):dW (((w.setCell ⟨x,3,none⟩ (.int .i64 ((l.ak:Int)+1))).setCell ⟨x,4,none⟩ (.slice none 0 0)).setCell ⟨x,5,none⟩ (.slice none 0 0)) D x d m { l with ak:=l.ak+1,bytes:=[],recs:=[] }:=by
 obtain⟨Ab,cb,Ar,cr,Ap,cp,h1,h2,h3,h4,h5⟩:=h.cells;have hx:ah (On x) w (((w.setCell ⟨x,3,none⟩ (.int .i64 ((l.ak:Int)+1))).setCell ⟨x,4,none⟩ (.slice none 0 0)).setCell ⟨x,5,none⟩ (.slice none 0 0)):=(((ah.refl _ _).ay (F:=On x) rfl 3 _).ay (F:=On x) rfl 4 _).ay (F:=On x) rfl 5 _;refine⟨⟨none,0,none,0,Ap,cp,((h1.aQ 3 _).aQ 4 _).aQ 5 _,⟨⟨rfl,.inl ⟨rfl,rfl⟩⟩,fun g hg=>by cases hg⟩,⟨⟨rfl,.inl ⟨rfl,rfl⟩⟩,fun g hg=>by cases hg⟩,h4.ext hx (fun b _ bQ=>bQ),fun g hg=>by cases hg⟩,h.xx,fun b hb=>Nat.lt_of_lt_of_le (h.old b hb) hx.size,h.m1,h.m2⟩
theorem U_ {w:World}{D Dd:Nat->Prop}{x d m kb:Nat}{l:Lg}{k:Dk}{T:Nat->Nat}(h:dW w D x d m l) (hd:aF w Dd d kb k) (hT:gJ w T) (h0:¬Dd 0) (xM:∀b,D b->¬Dd b) (hk:k.eD (2^29)) (he:l.ak<2^59) (hl:l.lost=false) (hp:l.pend = []) :
  Calls Tryz.prog 111 #[.pointer (some ⟨x,0,none⟩)] w fun e w'=>e=.returned (.int .i64 ((k.aO (bT T) (l.ak+1) 0).1:Int))/\aF w' (bz Dd w w') d kb (k.aO (bT T) (l.ak+1) 0).2 /\
   dW w' D x d m (if (k.aO (bT T) (l.ak+1) 0).1≠0 then { l with lost:=true } else { l with ak:=l.ak+1,bytes:=[],recs:=[] })/\ah (fun b=>Dd b\/On x b) w w':=by
 have HU:=aa (U9 h);rw[hl]at HU;have HW:=aa (KX h hd hT xM hk (l.ak+1) 0 (by omega) (by omega));have HL:=aa h;have Q4:=aa xM;have vO:=aa hd.old;have R_:=xM x h.xx;obtain⟨R,hR⟩:∃R,R=k.aO (bT T) (l.ak+1) 0:=⟨_,rfl⟩;rw[<-hR]at HW ⊢;obtain⟨l9,h9⟩:∃l9:Lg,l9=(if R.1≠0 then { l with lost:=true } else { l with ak:=l.ak+1,bytes:=[],recs:=[] }):=⟨_,rfl⟩;rw[<-h9];have H9:=aa h9;clear h9;obtain⟨Ab,cb,Ar,cr,Ap,cp,_,c0,_,_,c3,c4,_,c6,_,bu,xI⟩:=h.c;rw[hp]at c6;have f3:=xI 3;have heb:(l.ak:Int)<576460752303423488:=by omega
 have bQ:((l.ak:Int)==4611686018427387904)=false:=by simp;omega
 rw[show((l.ak+1:Nat):Int)=(l.ak:Int)+1 by omega]at HW;have hwp:IntKind.i64.wrap ((l.ak:Int)+1)=(l.ak:Int)+1:=by rw[qo];unfold wrap64;omega
 have yG:Hid (¬Dd x):=aa R_;have HC3:=aa c3;have lL:=aa hl;clear h hd hT xM hk hR xI hp hl;go_enter Tryz.func111,Tryz.ntmps111;go_wp2_with fail;refine(HU.out).mono ?_;rintro e w1 ⟨rfl,rfl⟩;go_wp2_with fail;refine(HW.out).mono ?_;rintro e w2 ⟨rfl,hd2,aH⟩;have mE:=aa hd2;have dx:=aa aH;have vQ:=aa (HL.out.ext aH Q4.out);have XQ:=aa (Ii vQ.out R.1 lL.out);clear hd2 aH c0 c3 c4 c6 f3;go_wp2_with fail;refine(XQ.out).mono ?_;rintro e w3 ⟨rfl,BF,bC⟩;have G8:=aa BF;have gN:∀b,bz Dd w w2 b->¬On x b:=fun b hb e=>by
  have e':b=x:=e;subst e';rcases hb with hb|hb
  ·exact yG.out hb
  ·omega
 have yH:=aa (mE.out.ext bC gN);have iF:Hid (ah (fun b=>Dd b\/On x b) w w3):=aa ((dx.out.mono (fun b _ hb=>.inl hb)).ag (bC.mono (fun b _ hb=>.inr hb)));have yV:=bC.size;have OB:=dx.out.size;have HND:=aa gN;clear BF gN R_
 by_cases hc:R.1=0
 ·have jQ:(R.1:Int)=0:=by omega
  have oG:=aa hc
  have M4:Hid (dW w3 D x d m l):=aa (by
   have:=G8.out;rw[hc]at this;have e:({ l with lost:=decide ((0:Nat)≠0) }:Lg)=l:=by
    have:=lL.out;cases l;simp_all
   rw[e]at this
   exact this)
  have HR4:=aa M4.out.anew;obtain⟨_,_,_,_,_,_,_,_,_,_,y3,_,_,_,_,ylt,YN⟩:=M4.out.c;have g3:=YN 3;have g4:=YN 4;have g5:=YN 5;rw[jQ];clear hc jQ bC YN;go_wp2_with fail;go_ret;rw[H9.out,if_neg (by have:=oG.out;omega)];refine⟨by rw[oG.out];rfl,?_,HR4.out,((iF.out.ay (F:=fun b=>Dd b\/On x b) (.inr rfl) 3 _).ay (F:=fun b=>Dd b\/On x b) (.inr rfl) 4 _).ay (F:=fun b=>Dd b\/On x b) (.inr rfl) 5 _⟩;have jO:ah (On x) w3 (((w3.setCell ⟨x,3,none⟩ (.int .i64 ((l.ak:Int)+1))).setCell ⟨x,4,none⟩ (.slice none 0 0)).setCell ⟨x,5,none⟩ (.slice none 0 0)):=(((ah.refl _ _).ay (F:=On x) rfl 3 _).ay (F:=On x) rfl 4 _).ay (F:=On x) rfl 5 _;exact(yH.out.ext jO HND.out).mono (fun b hb=>bz.of (Nat.le_refl _) (Nat.le_trans yV jO.size) hb) (bz.old vO.out (Nat.le_trans OB (Nat.le_trans yV jO.size)))
 ·have jQ:((R.1:Int) != 0)=true:=by simp;omega
  have oG:=aa hc
  have M4:Hid (dW w3 D x d m { l with lost:=true }):=aa (by
   have:=G8.out;rw[show decide (R.1≠0)=true by simp[hc]]at this
   exact this)
  clear hc bC;go_wp2_with fail;go_ret;rw[H9.out,if_pos oG.out];exact⟨rfl,yH.out.mono (fun b hb=>bz.of (Nat.le_refl _) yV hb) (bz.old vO.out (by omega)),M4.out,iF.out⟩
theorem KF {w:World}{e:TypeId}{v:Value}{n:Nat}{xs:List Value}(h:w.ownsRow 0 e 1 v n xs) {b:Nat}(hb:v.ownBlock=some b):∃cur,w.heap[b]?=some (.cells cur e (0,0)):=by
 rcases h.2 with ⟨h0,_⟩|⟨g,cap,cur,e1,_,hg,_⟩
 ·rw[h0]at hb;cases hb
 ·rw[e1]at hb
  have:g=b:=by simpa[Value.ownBlock]using hb
  subst this;exact⟨cur,hg⟩
theorem Oa {w:World}{e e':TypeId}{v v':Value}{n n':Nat}{xs xs':List Value}(h:w.ownsRow 0 e 1 v n xs) (h':w.ownsRow 0 e' 1 v' n' xs') (bQ:e≠e') {b:Nat}(hb:v.ownBlock=some b) (xL:v'.ownBlock=some b):False:=by
 obtain⟨c,hc⟩:=KF h hb;obtain⟨c',OY⟩:=KF h' xL;rw[hc]at OY;simp only[Option.some.injEq,Obj.cells.injEq]at OY;exact bQ OY.2.1
theorem dW.abK {w W w7:World}{D:Nat->Prop}{x d m cp:Nat}{l:Lg}{rec:Bs}(h:dW W D x d m l) (hw:w.heap.size<=W.heap.size) (hD:∀b,D b->b<w.heap.size) {Ap:Option Addr}(hc:W.cell? ⟨x,6,none⟩=some (.slice Ap 0 cp)) (hp:l.pend = []) {g cap:Nat}
  (aP:w7.ownsRow 0 9 1 (.slice (some ⟨g,0,none⟩) 1 cap) 1 [.string (au rec)]) {W6:World}(hx:ah No W W6) (hg:W6.grownBy w7 (Value.slice Ap 0 cp).ownBlock) (ha:(Value.slice Ap 0 cp).ownBlock=some g\/g=W6.heap.size) (bu:g<w7.heap.size) :
  dW (w7.setCell ⟨x,6,none⟩ (.slice (some ⟨g,0,none⟩) 1 cap)) (bz D w (w7.setCell ⟨x,6,none⟩ (.slice (some ⟨g,0,none⟩) 1 cap))) x d m { l with pend:=[rec] }/\ah D W (w7.setCell ⟨x,6,none⟩ (.slice (some ⟨g,0,none⟩) 1 cap)):=by
 obtain⟨Ab,cb,Ar,cr,Ap2,cp2,h1,h2,h3,h4,h5⟩:=h.cells;rw[hp]at h4 h5;have e:Ap2=Ap/\cp2=cp:=by
  have:=h1.cell 6;rw[hc]at this;simp only[Lg.cells,hp]at this;simp at this;exact⟨this.1.symm,this.2.symm⟩
 obtain⟨rfl,rfl⟩:=e;have eX:ah (fun b=>(Value.slice Ap2 0 cp2).ownBlock=some b) W w7:=⟨hg.os.trans hx.os,hg.tape.trans hx.tape,hg.output.trans hx.output,Nat.le_trans hx.size hg.size,fun b oN bQ=>(hg.block b (Nat.lt_of_lt_of_le oN hx.size) (fun e=>bQ e.symm)).trans (hx.block b oN (fun h=>h))⟩;have Sa:=hx.size;have ZA:=eX.size;have hgx:g≠x:=by
  rcases ha with ha|ha
  ·exact(h4.at_ g ha).2
  ·have:=h.old x h.xx;omega
 have hDW:ah D W w7:=eX.mono (fun b _ hb=>(h4.at_ b hb).1);have R_:ah (On x) w7 (w7.setCell ⟨x,6,none⟩ (.slice (some ⟨g,0,none⟩) 1 cap)):=(ah.refl _ _).ay (F:=On x) rfl 6 _;have LX:ax w7 x 179 (l.cells d m Ab cb Ar cr Ap2 cp2):=h1.ext eX (fun e=>(h4.at_ x e).2 rfl);have h2b:QV w7 D x 5 (.slice Ab l.bytes.length cb) l.bytes.length (dn l.bytes):=⟨jY h2.row eX (fun b hb e=>Oa h2.row h4.row (by decide) hb e),h2.at_⟩;have h3b:QV w7 D x 9 (.slice Ar l.recs.length cr) l.recs.length (iU l.recs):=⟨jY h3.row eX (fun b hb e=>h5 b hb e),h3.at_⟩;refine⟨⟨⟨Ab,cb,Ar,cr,some ⟨g,0,none⟩,cap,?_,?_,?_,?_,?_⟩,.inl h.xx,bz.old hD (by have:=R_.size;omega),h.m1,h.m2⟩,hDW.ay (F:=D) h.xx 6 _⟩
 ·have e2:({ l with pend:=[rec] }:Lg).cells d m Ab cb Ar cr (some ⟨g,0,none⟩) cap=(l.cells d m Ab cb Ar cr Ap2 cp2).setIfInBounds 6 (.slice (some ⟨g,0,none⟩) 1 cap):=rfl
  rw[e2];exact LX.aQ 6 _
 ·exact(h2b.ext R_ (fun b _ bQ=>bQ)).mono (fun _ hb=>.inl hb)
 ·exact(h3b.ext R_ (fun b _ bQ=>bQ)).mono (fun _ hb=>.inl hb)
 ·refine⟨jY aP R_ (fun b hb e=>?_),fun b hb=>?_⟩
  ·have xL:g=b:=by simpa[Value.ownBlock]using hb
   have e':b=x:=e;omega
  ·have xL:g=b:=by simpa[Value.ownBlock]using hb
   subst xL;refine⟨?_,hgx⟩;rcases ha with ha|ha
   ·exact .inl (h4.at_ g ha).1
   ·exact .inr ⟨by omega,by have:=R_.size;omega⟩
 ·intro b hb e
  have xL:g=b:=by simpa[Value.ownBlock]using e
  subst xL;rcases ha with ha|ha
  ·exact h5 g hb ha
  ·have:=h.old g (h3.at_ g hb).1
   omega
theorem abP {w:World}{D:Nat->Prop}{x d m:Nat}{l:Lg}(h:dW w D x d m l) (hl:l.lost=false) (hp:l.pend = []) (hb:l.bytes.length<=64*(m-1)) (rec:Bs) (hr:rec.length<=65536) (hrm:rec.length+8<=64*(m-1)-l.bytes.length) :
  Calls Tryz.prog 71 #[.pointer (some ⟨x,0,none⟩),.string (au rec)] w fun e w'=>e=.returned (.int .i64 0)/\dW w' (bz D w w') x d m { l with pend:=[rec] }/\ah D w w':=by
 have HU:=aa (U9 h);rw[hl]at HU;have HR:=aa (Qe h hp hb);have HL:=aa h;have HP:=aa hp;obtain⟨rm,adY⟩:∃rm,rm=64*(m-1)-l.bytes.length:=⟨_,rfl⟩;rw[<-adY]at HR hrm;have bu:=h.c;obtain⟨Ab,cb,Ar,cr,Ap,cp,_,_,_,_,_,_,_,c6,_,BC,xI⟩:=bu;rw[hp]at c6;have HC6:=aa c6;have q1:¬((65536:Int)<(rec.length:Int)):=by omega
 have q2:¬((rm:Int)<8+(rec.length:Int)):=by omega
 have q3:(rec.length:Int)<=65536:=by omega
 obtain⟨l9,h9⟩:∃l9:Lg,l9 = { l with pend:=[rec] }:=⟨_,rfl⟩;rw[<-h9];have H9:=aa h9;clear h hl hp hb hrm adY hr xI h9 c6;go_enter Tryz.func71,Tryz.ntmps71;go_wp2_with fail;refine(HU.out).mono ?_;rintro e w1 ⟨rfl,rfl⟩;go_wp2_with fail;refine(HR.out).mono ?_;rintro e w2 ⟨rfl,aH⟩;have dx:=aa aH;have vQ:=aa (HL.out.ext aH (fun _ _ h=>h));have c62:=aj aH HC6.out (fun h=>h);have f62:w2.frozen? ⟨x,6,none⟩=false:=by
  obtain⟨_,_,_,_,_,_,_,_,_,_,_,_,_,_,_,_,z⟩:=vQ.out.c;exact z 6
 have abV:x<w2.heap.size:=by have:=aH.size;omega
 clear aH;obtain⟨i0,mi,eQ,fe,eP⟩:=info_parts Tryz.Ak;have Wt:ah No w2 (w2.alloc (.cells #[.string (au rec)] 9)):=(ah.refl No w2).alloc _
 have TE:Hid ((w2.alloc (.cells #[.string (au rec)] 9)).ownsRow 0 9 1 (.slice Ap 0 cp) 0 []/\(Value.slice Ap 0 cp).ownBlock≠some x):=aa (by
  obtain⟨_,_,_,_,Ap2,cp2,z1,_,_,z4,_⟩:=vQ.out.cells;have:=z1.cell 6;rw[c62]at this;simp only[Lg.cells,HP.out]at this;simp at this;obtain⟨rfl,rfl⟩:=this;rw[HP.out]at z4
  exact⟨jY z4.row Wt (fun _ _ h=>h),fun e=>(z4.at_ x e).2 rfl⟩)
 have wP:=aa Wt;have af1:=aa c62;have vO:=aa HL.out.old;clear Wt;go_upto_region 8 with fail;go_wp2_with (at_builtin;refine wpList_append_lies _ (by rfl) _ _ 38 (by rfl) 0 9 i0 (.string ⟨#[]⟩) 1 16 Tryz.underlying38 mi eQ fe eP (by rfl) (by decide) (.slice Ap 0 cp) 0 [] (by rfl) TE.out.1 ⟨w2.heap.size,0,none⟩ 1 1 [.string (au rec)] (by rfl) (by rfl) (by exact World.news_of_block (cs:=#[.string (au rec)]) (t:=9) (fr:=(0,0)) (heap_alloc_new w2 _)) (fun u hu=>by rw[List.mem_singleton.1 hu];rfl) (by decide) (by unfold maxLen;omega) (by omega) (Nat.zero_le _) _ rfl ?_);intro g cap w7 jc rJ JL tY;have hPE:=dW.abK (w:=w) vQ.out dx.out.size vO.out af1.out HP.out jc wP.out rJ (by simpa using JL) tY;have HPE:=aa hPE;have Zu:x<(w2.alloc (.cells #[.string (au rec)] 9)).heap.size:=Nat.lt_of_lt_of_le abV wP.out.size;have c67:w7.cell? ⟨x,6,none⟩=some (.slice Ap 0 cp):=by
  rw[rJ.cell_far ⟨x,6,none⟩ Zu (fun e=>TE.out.2 e.symm)];exact aj wP.out af1.out (fun h=>h)
 have f67:w7.frozen? ⟨x,6,none⟩=false:=by
  rw[rJ.frozen_far ⟨x,6,none⟩ Zu (fun e=>TE.out.2 e.symm)];obtain⟨_,_,_,_,_,_,_,_,_,_,_,_,_,_,_,_,z⟩:=(vQ.out.ext wP.out (fun _ _ h=>h)).c;exact z 6
 have ai2:x<w7.heap.size:=Nat.lt_of_lt_of_le Zu rJ.size;clear jc rJ JL tY hPE Zu;go_wp2_with fail;go_ret;rw[H9.out];exact⟨rfl,HPE.out.1,dx.out.of_no.ag HPE.out.2⟩
theorem vw.fail {w w':World}{o:Option Nd}(h:ah No w w') (ho:o=none):vw w o (.returned (.tuple #[Nd.zero,.int .i64 5])) w':=by
 subst ho;exact⟨h,rfl⟩
theorem vS {s:Bs}(h:s ≠ []):(au s==⟨#[]⟩)=false:=by
 match s,h with
 | [],h=>exact absurd rfl h
 | a::l,_=>rfl
theorem gQ {Q:Ending->World->Prop}{a:Act}{w:World}(b:Nat) (cs:Array Value) (hb:ax w b 40 cs) {v:Value}(hs:some 4=some cs.size) (hp:a.tmps.getD 2 undef=.pointer (some ⟨b,0,none⟩)) (h3:a.tmps.getD 3 undef=v) (hd:a.defers = [])
  (h:Q (.returned (.tuple #[.agg cs,v])) w):bodyPost Tryz.prog Tryz.f48 Q Exit.ret a w:=by
 refine bodyPost_ret (v:=.tuple #[.agg cs,v]) (w:=w) ?_ hd h;have hl:=run_loadVar_row w b 40 40 cs (0,0) _ hb Tryz.underlying40 rfl (by rw[<-hs];kernel_rfl);rw[results_cell_tmp rfl,hp,h3];simp[asAddr,Result.andThen,hl]
theorem Xa (s:Bs) (w:World) (hl:s.length<=500) (hk:(⟨s,false⟩:bF).byte.1=1) :
  Calls Tryz.prog 48 #[.string (au s)] w (vw w (GH s)):=by
 have eZ:=az s;have l1:=(⟨s,false⟩:bF).oz;have l2:=(⟨s,false⟩:bF).byte.2.oz;have OX:=(⟨s,false⟩:bF).byte.2.yh;have HB:=aa (fun p w h=>qb ⟨s,false⟩ (show s.length<1000000 by omega) p w h);have ng:=aa (fun p w h=>qb (⟨s,false⟩:bF).byte.2 (by simp only at l1;omega) p w h)
 have HD:Hid (GH s=if (bD (⟨s,false⟩:bF).byte.2.byte.1 ⟨true,[],[],[]⟩ (⟨s,false⟩:bF).byte.2.byte.2).2.bad then none
  else if (bD (⟨s,false⟩:bF).byte.2.byte.1 ⟨true,[],[],[]⟩ (⟨s,false⟩:bF).byte.2.byte.2).2.s.length≠0 then none
  else if (bD (⟨s,false⟩:bF).byte.2.byte.1 ⟨true,[],[],[]⟩ (⟨s,false⟩:bF).byte.2.byte.2).1.ok then some (bD (⟨s,false⟩:bF).byte.2.byte.1 ⟨true,[],[],[]⟩ (⟨s,false⟩:bF).byte.2.byte.2).1 else none):=by
  show _=_;simp[GH,show ¬500<s.length by omega,bF.loop,bF.head,hk]
 rw[hk]at HB;have bY:(⟨s,false⟩:bF).byte.2.byte.2.s.length<1000000:=by simp only at l1;omega
 generalize (⟨s,false⟩:bF).byte.2.byte.2=r2 at ng HD bY;generalize (⟨s,false⟩:bF).byte.2.byte.1=cnt at ng HD OX;generalize (⟨s,false⟩:bF).byte.2=r1 at HB ng;generalize GH s=D at HD;clear l1 l2 hk;go_enter Tryz.func48,Tryz.ntmps48;go_wp2_with fail;have ea:ah No w (((w.alloc (.cells #[.bool false,.slice none 0 0,.slice none 0 0,.slice none 0 0] 40)).alloc (.cells #[.string (au s),.bool false] 155)).alloc (.cells #[.bool false,.slice none 0 0,.slice none 0 0,.slice none 0 0] 40)):=(((ah.refl _ w).alloc _).alloc _).alloc _;have br:=((ax.new w 40 #[.bool false,.slice none 0 0,.slice none 0 0,.slice none 0 0]).alloc (.cells #[.string (au s),.bool false] 155)).alloc (.cells #[.bool false,.slice none 0 0,.slice none 0 0,.slice none 0 0] 40);have bn:=ax.aS (b:=w.heap.size+1+1) ((w.alloc (.cells #[.bool false,.slice none 0 0,.slice none 0 0,.slice none 0 0] 40)).alloc (.cells #[.string (au s),.bool false] 155)) 40 #[.bool false,.slice none 0 0,.slice none 0 0,.slice none 0 0] (by simp);have bp:gy (((w.alloc (.cells #[.bool false,.slice none 0 0,.slice none 0 0,.slice none 0 0] 40)).alloc (.cells #[.string (au s),.bool false] 155)).alloc (.cells #[.bool false,.slice none 0 0,.slice none 0 0,.slice none 0 0] 40)) (w.heap.size+1) ⟨s,false⟩:=(ax.aS (w.alloc (.cells #[.bool false,.slice none 0 0,.slice none 0 0,.slice none 0 0] 40)) 155 #[.string (au s),.bool false] (by simp)).alloc (.cells #[.bool false,.slice none 0 0,.slice none 0 0,.slice none 0 0] 40);refine(HB.out _ _ bp).mono ?_;rintro e w1 ⟨rfl,Iz,aT⟩;have en:¬On (w.heap.size+1) w.heap.size:=fun h=>by unfold On at h;omega
 have SX:¬On (w.heap.size+1) (w.heap.size+1+1):=fun h=>by unfold On at h;omega
 have br:=br.ext aT en;have bn:=bn.ext aT SX;have ea1:=ea.kR aT (by omega);clear bp ea;go_wp2_with fail;refine(ng.out _ _ Iz).mono ?_;rintro e w2 ⟨rfl,rX,aH⟩;have br:=br.ext aH en;have bn:=bn.ext aH SX;have ea2:=ea1.kR aH (by omega);obtain⟨p0,p1,p2,p3,g0,g1,g2,g3,ln⟩:=bn.p4;clear Iz aT aH ea1;go_wp2_with fail;have Fu:ax (w2.setCell ⟨w.heap.size+1+1,0,none⟩ (.bool true)) (w.heap.size+1+1) 40 #[.bool true,.slice none 0 0,.slice none 0 0,.slice none 0 0]:=bn.aQ 0 (.bool true);have GR:ax (w2.setCell ⟨w.heap.size+1+1,0,none⟩ (.bool true)) w.heap.size 40 #[.bool false,.slice none 0 0,.slice none 0 0,.slice none 0 0]:=br.far (show w.heap.size≠w.heap.size+1+1 by omega) _;have Ep:gy (w2.setCell ⟨w.heap.size+1+1,0,none⟩ (.bool true)) (w.heap.size+1) r2:=ax.far rX (show w.heap.size+1≠w.heap.size+1+1 by omega) _;have ea3:ah No w (w2.setCell ⟨w.heap.size+1+1,0,none⟩ (.bool true)):=ea2.ai (by omega) _ _;clear p0 p1 p2 p3 g0 g1 g2 g3 br bn rX ea2;obtain⟨i0,mi,eQ,fe,eP⟩:=info_parts Tryz.yS;go_loopg [33] cnt (fun gk i wr=>∃(k:Nat) (A:Option Addr) (cap:Nat) (cs:List aA) (r:bF),k+gk=cnt/\i=.int .i64 (k:Int)/\cs.length=k/\wr.ownsRow (w.heap.size+3) 45 4 (.slice A cs.length cap) cs.length (aC cs)/\ax wr (w.heap.size+1+1) 40 #[.bool true,.slice A cs.length cap,.slice none 0 0,.slice none 0 0]/\ax wr w.heap.size 40 #[.bool false,.slice none 0 0,.slice none 0 0,.slice none 0 0]/\gy wr (w.heap.size+1) r/\r.s.length<1000000/\(∀c∈cs,c.fits)/\Hid (bD gk ⟨true,cs,[],[]⟩ r=bD cnt ⟨true,[],[],[]⟩ r2)/\ah No w wr)
 case atStart=>exact⟨0,none,0,[],r2,by omega,rfl,rfl,World.ownsRow_nil _ _ _ _,Fu,GR,Ep,bY,by simp,aa rfl,ea3⟩
 case round =>
  clear Fu GR Ep ea3 bY;obtain⟨k,A,cap,cs,r,jK,rfl,Am,aP,bn,br,hr,bY,gP,hd,hE⟩:=hrel;have jS:=aa jK;have HO:=aa aP;have HE:=aa hE;have HFI:=aa gP;have hk:k<=cnt:=by omega
  have Gh:cs.length<256:=by omega
  have Un:=aa Am;clear jK Am aP hE gP;obtain⟨p0,p1,p2,p3,g0,g1,g2,g3,ln⟩:=bn.p4;obtain⟨x0,x1,x2,x3,y0,y1,y2,y3,lr⟩:=br.p4;have z1:=hr.cell 1;have z0:=hr.cell 0;simp at z0 z1
  by_cases bu:k<cnt
  ·cases eY:r.bad
   ·rw[eY]at z1
    have M8:=aa eY;clear eY;have G_:=aa (fun p w h=>Tm r bY p w h);have Fh:=r.Tn;have aeH:=r.aaq;generalize hc:r.cell=q at G_ Fh aeH;obtain⟨c,r'⟩:=q;have HQ:=aa hc;clear hc;have HCF:=aa Fh;simp only[aA.agg]at G_ aeH;have m0:w.heap.size+3<=wr.heap.size:=by omega
    have m2:cs.length+1<=maxLen:=by unfold maxLen;omega
    have m3:(cs.length+1)*48<=140737488355328:=by omega
    have en3:∀g,w.heap.size+3<=g->¬On (w.heap.size+1) g:=fun g hg=>v_ (by omega)
    go_wp2_with fail
    go_region_law
     (first
      | (go_simp;go_at_call 89;refine(G_.out _ _ (by exact hr)).mono ?_;rintro e w5 ⟨rfl,VI,bU⟩;have p5:=aj bU (g:=w.heap.size+1+1) (i:=1) (u:=.slice A cs.length cap) p1 SX;have wO:=ax.aY bU bn SX;have g5:=wO.frozen 1;have l5:=wO.lt;have m5:w.heap.size+3<=w5.heap.size:=Nat.le_trans m0 bU.size;have m6:∀o,w.heap.size+3<=(w5.alloc o).heap.size:=(fun o=>by simp;omega);have m7:∀o,(w5.alloc o).heap.size=w5.heap.size+1:=(fun o=>by simp);have HO5:=aa (kQ bU HO.out en3);have jl:=aa bU;have XJ:=aa VI;clear bU VI)
      | ((refine step_append_lies _ (by rfl) _ _ _ (by rfl) (w.heap.size+3) 45 i0 (.agg #[.string ⟨#[]⟩,.string ⟨#[]⟩,.int .i64 0,.int .i64 0]) 4 48 Tryz.underlying37 mi eQ fe eP rfl (by decide) (.slice A cs.length cap) cs.length (aC cs) (by rfl) (by exact HO5.out.alloc _) ⟨w5.heap.size,0,none⟩ 1 1 c.vals (by rfl) (by rfl) (by exact World.news_of_block (cs:=#[.string (au c.key),.string (au c.val),.int .i64 (c.over:Int),.int .i64 (c.len:Int)]) (t:=45) (fr:=(0,0)) (heap_alloc_new w5 _)) (by exact c.one) (by decide) m2 m3 (by exact m6 _) (w5.heap.size+1) (by exact m7 _) ?_);intro g2 cap2 w6 bJ a_ uf iK;have MX:=aa (UR bJ);clear bJ;have Bh:=(wO.alloc _).grown a_ (gZ HO.out (by omega));have g6:=Bh.frozen 1;have p6:=Bh.cell 1;simp at p6;have l6:=Bh.lt))
    all_goals (
     go_wp2_with fail;go_roundg (gk-1)
     case rel =>
      have hd1:bD (gk-1) ⟨true,cs ++ [c],[],[]⟩ r'=bD gk ⟨true,cs,[],[]⟩ r:=by
       obtain⟨j,rfl⟩:∃j,gk=j+1:=⟨gk-1,by have:=jS.out;omega⟩;simp[bD,M8.out,Nd.one,HQ.out]
      have Am:=Un.out;have ek:(cs ++ [c]).length=k+1:=by simp;omega
      have h6:=(MX.out.lt g2 rfl).1;have Sq:g2≠w.heap.size+1+1:=by omega
      refine⟨k+1,some ⟨g2,0,none⟩,cap2,cs ++ [c],r',by have:=jS.out;omega,by go_num,ek,?_,?_,?_,?_,by omega,?_,aa (hd1.trans hd.out),?_⟩
      ·exact ownsRow_setCell_other MX.out (by simp[Value.ownBlock];omega) _
      ·have:=Bh.aQ 1 (.slice (some ⟨g2,0,none⟩) (cs.length+1) cap2)
       rw[ek,<-Am];exact this
      ·exact ax.far (((ax.aY jl.out br en).alloc _).grown a_ (gZ HO.out (by omega))) (show w.heap.size≠w.heap.size+1+1 by omega) _
      ·exact ax.far ((ax.alloc XJ.out _).grown a_ (gZ HO.out (by omega))) (show w.heap.size+1≠w.heap.size+1+1 by omega) _
      ·intro d Gf
       rcases List.mem_append.1 Gf with h|h
       ·exact HFI.out d h
       ·simp at h;subst h;exact HCF.out
      ·exact((((HE.out.drew).kR jl.out (by omega)).alloc _).grown a_ (mI HO.out (by omega))).ai (by omega) _ _
     case measure=>have:=jS.out;omega)
   ·have M8:=aa eY
    rw[eY]at z1;clear eY;have mX:D=none:=by
     rw[HD.out,<-hd.out,xZ _ _ _ M8.out];simp[M8.out]
    clear HD;go_wp2_with fail;have ji:=br.eu (.bool false) (.slice none 0 0) (.slice none 0 0) (.slice none 0 0);refine gQ w.heap.size _ ji rfl rfl rfl rfl ?_;exact vw.fail ((((HE.out.ai (by omega) _ _).ai (by omega) _ _).ai (by omega) _ _).ai (by omega) _ _) mX
  ·have hg0:gk=0:=by have:=jS.out;omega
   subst hg0;have qN:k=cnt:=by omega
   subst qN;have dL:=hd.out;simp only[bD]at dL;rw[<-dL]at HD;clear dL;cases eY:r.bad
   ·rw[eY]at z1
    simp only[eY]at HD;clear eY
    by_cases TZ:r.s = []
    ·simp only[TZ]at HD z0
     clear TZ;have hcap:=dX HO.out;have hn:aW wr (Lo (w.heap.size+3)) A cap none 0 none 0 ⟨true,cs,[],[]⟩:=⟨Rd.jf HO.out (by omega),Rd.lV _,Rd.lV _,hcap,by simp,by simp,by simp only;omega,by simp,by simp,dA HO.out,fun _=>rfl,fun _=>rfl⟩;have hf:(⟨true,cs,[],[]⟩:Nd).fits:=⟨HFI.out,by simp,by simp⟩;have HC:=aa (fun w' hn=>dG ⟨true,cs,[],[]⟩ w' (Lo (w.heap.size+3)) A cap none 0 none 0 hn hf);simp only[Nd.value]at HC;go_wp2_with fail;refine(HC.out _ hn).mono ?_;rintro e w5 ⟨rfl,bU⟩;have wO:=bn.ext bU (fun h=>h);have Fs:=br.ext bU (fun h=>h);obtain⟨p0,p1,p2,p3,g0,g1,g2,g3,ln⟩:=wO.p4;obtain⟨x0,x1,x2,x3,y0,y1,y2,y3,lr⟩:=Fs.p4;cases aX:(⟨true,cs,[],[]⟩:Nd).ok
     ·have mX:D=none:=by rw[HD.out];simp[aX]
      simp only[Nd.oq aX];clear HD HC;go_wp2_with fail;have ji:=Fs.eu (.bool false) (.slice none 0 0) (.slice none 0 0) (.slice none 0 0);refine gQ w.heap.size _ ji rfl rfl rfl rfl ?_;exact vw.fail (((((HE.out.ag bU).ai (by omega) _ _).ai (by omega) _ _).ai (by omega) _ _).ai (by omega) _ _) mX
     ·have mX:D=some ⟨true,cs,[],[]⟩:=by rw[HD.out];simp[aX]
      simp only[Nd.jh aX];clear HD HC;go_wp2_with fail;have ji:=Fs.eu (.bool true) (.slice A cs.length cap) (.slice none 0 0) (.slice none 0 0);refine gQ w.heap.size _ ji rfl rfl rfl rfl ?_;refine⟨((((HE.out.ag bU).ai (by omega) _ _).ai (by omega) _ _).ai (by omega) _ _).ai (by omega) _ _,?_⟩;rw[mX];have iL:Lo (w.heap.size+3) w.heap.size:=by unfold Lo;omega
      have hz:ah (Lo (w.heap.size+3)) wr ((((w5.setCell ⟨w.heap.size,0,none⟩ (.bool true)).setCell ⟨w.heap.size,1,none⟩ (.slice A cs.length cap)).setCell ⟨w.heap.size,2,none⟩ (.slice none 0 0)).setCell ⟨w.heap.size,3,none⟩ (.slice none 0 0)):=(((bU.of_no.ay iL _ _).ay iL _ _).ay iL _ _).ay iL _ _;exact⟨A,cap,none,0,none,0,rfl,(hn.ext hz).mono (fun b _ hb=>by unfold gB at hb;unfold Lo;omega)⟩
    ·have mX:D=none:=by
      rw[HD.out];simp[TZ]
     clear HD;have bQ:=vS TZ;go_wp2_with fail;have ji:=br.eu (.bool false) (.slice none 0 0) (.slice none 0 0) (.slice none 0 0);refine gQ w.heap.size _ ji rfl rfl rfl rfl ?_;exact vw.fail ((((HE.out.ai (by omega) _ _).ai (by omega) _ _).ai (by omega) _ _).ai (by omega) _ _) mX
   ·have mX:D=none:=by
     rw[HD.out];simp[eY]
    rw[eY]at z1;clear HD eY;go_wp2_with fail;have ji:=br.eu (.bool false) (.slice none 0 0) (.slice none 0 0) (.slice none 0 0);refine gQ w.heap.size _ ji rfl rfl rfl rfl ?_;exact vw.fail ((((HE.out.ai (by omega) _ _).ai (by omega) _ _).ai (by omega) _ _).ai (by omega) _ _) mX
def vb (s:Bs):Nat:=s.foldr (fun b n=>b.toNat+256*n) 0
theorem PY (b:UInt8) (s:Bs):vb (b::s)=b.toNat+256*vb s:=rfl
theorem aaR:∀(s:Bs),vb s<256 ^ s.length
 | []=>by simp[vb]
 | b::s=>by
  have h1:=aaR s;have h2:=b.toNat_lt;rw[PY,List.length_cons,Nat.pow_succ];omega
theorem wU (a:Nat) (h:a<18446744073709551616):IntKind.u64.wrap (a:Int)=(a:Int):=by
 show(a:Int)%18446744073709551616=(a:Int);omega
theorem FW (a:Nat) (ha:a<18446744073709551616):(BitVec.ofInt 64 (a:Int)).toNat=a:=by
 rw[BitVec.ofInt_natCast,BitVec.toNat_ofNat];exact Nat.mod_eq_of_lt (by omega)
theorem NC (a b:Nat) (ha:a<18446744073709551616) (hb:b<18446744073709551616):bits .or .u64 (a:Int) (b:Int)=((a ||| b:Nat):Int):=by
 have hx:a ||| b<2 ^ 64:=Nat.or_lt_two_pow (by omega) (by omega)
 show IntKind.u64.wrap ((BitVec.ofInt 64 (a:Int) ||| BitVec.ofInt 64 (b:Int)).toNat:Int)=_;rw[BitVec.toNat_or,FW a ha,FW b hb,wU _ (by omega)]
theorem YZ {a b:Int}(h:a=b):Value.int .u64 a=Value.int .u64 b:=by rw[h]
theorem Uw (n b:Nat) (hn:n<72057594037927936) (hb:b<256):bits .or .u64 (IntKind.u64.wrap ((n:Int)*256)) (IntKind.u64.wrap (b:Int))=((b+256*n:Nat):Int):=by
 rw[show((n:Int)*256)=((n*2 ^ 8:Nat):Int) by omega,wU _ (by omega),wU _ (by omega),NC _ _ (by omega) (by omega),Nat.or_comm,sZ _ _ 8 (by omega)];omega
theorem Hl (s:Bs) (hs:s.length<=8) (w:World):Calls Tryz.prog 121 #[.string (au s)] w fun e w'=>e=.returned (.int .u64 (vb s:Int))/\w=w':=by
 have hk:=az s;have HL:=aa hs;have hl9:s.length<9:=by omega
 have hw0:IntKind.i64.wrap ((s.length:Int)-1)=(s.length:Int)-1:=by rw[qo];unfold wrap64;omega
 clear hs;go_enter Tryz.func121,Tryz.ntmps121;go_wp2_with fail;go_loopg [3,4] s.length (fun gk n i wr=>i=.int .i64 ((gk:Int)-1)/\n=.int .u64 (vb (s.drop gk):Int)/\Hid (gk<=s.length)/\w=wr)
 case atStart=>exact⟨rfl,by rw[List.drop_length];rfl,aa (Nat.le_refl _),rfl⟩
 case round =>
  obtain⟨rfl,rfl,HG,rfl⟩:=hrel
  by_cases h0:gk=0
  ·subst h0
   rw[List.drop_zero];go_wp2_with fail;go_ret;exact⟨rfl,rfl⟩
  ·obtain⟨j,rfl⟩:∃j,gk=j+1:=⟨gk-1,by omega⟩
   have hji:(((j+1:Nat):Int)-1)=(j:Int):=by omega
   rw[hji];have AV:s.drop j=s[j]'(by have:=HG.out;omega)::s.drop (j+1):=List.drop_eq_getElem_cons (by have:=HG.out;omega);have hb:vb (s.drop (j+1))<72057594037927936:=by
    have h1:=aaR (s.drop (j+1));have h2:(s.drop (j+1)).length<=7:=by rw[List.length_drop];have:=HL.out;have:=HG.out;omega
    have h3:(256:Nat) ^ (s.drop (j+1)).length<=256 ^ 7:=Nat.pow_le_pow_right (by decide) h2;omega
   have ru:Hid (∀hx:j<(au s).size,bits BinOp.or IntKind.u64 (IntKind.u64.wrap ((vb (List.drop (j+1) s):Int)*256)) (IntKind.u64.wrap (((au s)[j]'hx).toNat:Int))=(vb (s.drop j):Int)):=aa (fun hx=>by
    rw[Uw _ _ hb ((au s)[j]'hx).toNat_lt,AV,PY];rfl)
   clear AV hb;have hj0:(0:Int)<=(j:Int):=by omega
   have hj1:(j:Int)<(s.length:Int):=by have:=HG.out;omega
   clear h0 hji;go_wp2_with fail;go_roundg j
   case rel=>exact⟨rfl,YZ (ru.out _),aa (by have:=HG.out;omega),rfl⟩
   case measure=>omega
theorem wY (a b c:Bs):(au (a++(b++c))).extract a.length (a.length+b.length)=au b:=by
 refine qa _ _ ?_;simp[au]
theorem aaQ (n:Nat) (h:n<4294967296):vb (n4 n)=n:=by
 simp only[n4,vb,List.foldr];simp only[UInt8.toNat_ofNat'];omega
theorem JZ (T:Nat->Nat) (w:World) (hT:gJ w T) (rec rest:Bs) (hr:rec.length<=65536) (hl:(aM (bT T) rec++rest).length<2^29) :
  Calls Tryz.prog 123 #[.string (au (aM (bT T) rec++rest))] w fun e w'=>e=.returned (.tuple #[.string (au rec),.int .i64 ((rec.length+8:Nat):Int),.bool true])/\ah No w w':=by
 obtain⟨B,hB⟩:∃B,B=aM (bT T) rec++rest:=⟨_,rfl⟩;rw[<-hB]at hl ⊢;have SG:B=n4 rec.length++(n4 (bT T (n4 rec.length++rec))++(rec++rest)):=by rw[hB];simp[aM]
 have e04:(au B).extract 0 4=au (n4 rec.length):=by
  have:=wY [] (n4 rec.length) (n4 (bT T (n4 rec.length++rec))++(rec++rest));rw[bX,List.length_nil,Nat.zero_add,List.nil_append]at this;rw[SG];exact this
 have e48:(au B).extract 4 8=au (n4 (bT T (n4 rec.length++rec))):=by
  have:=wY (n4 rec.length) (n4 (bT T (n4 rec.length++rec))) (rec++rest);rw[bX,bX]at this;rw[SG];exact this
 have e8n:(au B).extract 8 (rec.length+8)=au rec:=by
  have:=wY (n4 rec.length++n4 (bT T (n4 rec.length++rec))) rec rest;rw[List.length_append,bX,bX,List.append_assoc,show 4+4=8 from rfl,Nat.add_comm 8]at this;rw[SG];exact this
 have oN:B.length=8+rec.length+rest.length:=by rw[SG];simp[bX];omega
 have HV:=aa (fun w=>Hl (n4 rec.length) (by rw[bX];decide) w);rw[aaQ _ (by omega)]at HV;have HS:=aa (fun w' (e:ah No w w')=>Oi T w' (hT.ext e (fun h=>h)) (n4 rec.length++rec) (by rw[List.length_append,bX];omega));have xM:au (n4 rec.length)++au rec=au (n4 rec.length++rec):=fM _ _;have wK:=az B;obtain⟨L,hL⟩:∃L,L=B.length:=⟨_,rfl⟩;obtain⟨n,hn⟩:∃n,n=rec.length:=⟨_,rfl⟩;rw[<-hL]at wK hl oN;rw[<-hn]at e8n hr oN HV e04 e48 xM HS ⊢;have h8:¬((L:Int)<8):=by omega
 have hgt:¬((65536:Int)<(n:Int)):=by omega
 have iC:¬((L:Int)-8<(n:Int)):=by omega
 have vk:IntKind.i64.wrap (n:Int)=(n:Int):=bA _ (by omega) (by omega);obtain⟨M,hM⟩:∃M,M=n+8:=⟨_,rfl⟩;rw[<-hM]at e8n ⊢;have Nc:IntKind.i64.wrap (8+(n:Int))=(M:Int):=by rw[show 8+(n:Int)=(M:Int) by omega];exact bA _ (by omega) (by omega)
 have Iu:IntKind.i64.wrap ((L:Int)-8)=(L:Int)-8:=bA _ (by omega) (by omega);have h4:(4:Int)<=(L:Int):=by omega
 have h88:(8:Int)<=(L:Int):=by omega
 have pV:(M:Int)<=(L:Int):=by omega
 have Qu:(8:Int)<=(M:Int):=by omega
 have nT:(au (n4 n)).size=4:=by rw[az,bX]
 have rW:(au rec).size=n:=by rw[az,hn]
 have G6:=aa (show(au (n4 n)).size=4/\(au rec).size=n from⟨nT,rW⟩);clear nT rW;have HGT:=aa hgt;have HGE:=aa iC;have Q0:=aa e48;have zH:=aa e8n;have HW1:=aa vk;have XC:=aa Nc;have HW3:=aa Iu;have HN1:=aa pV;have TK:=aa Qu;have HA:=aa xM;clear hB SG hT oN hl hr hL hn hM hgt iC e48 e8n vk Nc Iu pV Qu xM h88;go_enter Tryz.func123,Tryz.ntmps123;go_wp2_with fail;refine(HV.out _).mono ?_;rintro e w1 ⟨rfl,rfl⟩;have hgt:=HGT.out;have iC:=HGE.out;have vk:=HW1.out;have Iu:=HW3.out;go_upto_region 6 with fail;clear hgt iC Iu;have Nc:=XC.out;have pV:=HN1.out;have Qu:=TK.out;have e8n:=zH.out;go_upto_region 7 with fail;have e48:=Q0.out;have xM:=HA.out;have nT:=G6.out.1;have rW:=G6.out.2;have hgt:=HGT.out;have TV:rec.length<=65536:=by have h1:=rW;rw[az]at h1;omega
 have Na:(n4 n).length=4:=bX _;have z1:¬(9223372036854775807<4+rec.length):=by omega
 have z3:¬(9223372036854775807<4+n):=by omega
 clear TV
 go_region_held3 (fun w'=>True) (trivial) (first
  | (go_at_call 160;refine(HS.out _ (ah.refl No w).drew).mono ?_;rintro e w2 ⟨rfl,aH⟩))
 have dx:=aa ((ah.refl No w).drew.ag aH);clear aH;go_wp2_with fail
 go_ret3
 exact⟨rfl,dx.out⟩
def Gi:List Int:=[0,274646895,549293790,820201905,1098587580,1361435347,1640403810,1905808397,2197175160,2460548119,2722870694,2987750089,3280807620,3553878443,3811616794,4084100981]
def Gj (i:Nat):Nat:=(Gi.getD i 0).toNat
theorem Ws (i:Nat):Gj i<4294967296:=by
 unfold Gj;rcases Nat.lt_or_ge i 16 with h|h
 ·have fF:∀j,j<16->(Gi.getD j 0).toNat<4294967296:=by decide
  exact fF i h
 ·rw[List.getD_eq_getElem?_getD,List.getElem?_eq_none (by simpa[Gi]using h)];decide
theorem IQ {rest:List (String×DataW Unit)}{W:World}(h:laidMet Tryz.prog (("aquifer/castagnoli.half",Rows.laid_aquifer_castagnoli_half)::rest) W):gJ W Gj:=by
 have h1:Lib.TabIs Tryz.prog W "aquifer/castagnoli.half" .u32 Gi:=Lib.tabIs_of_head (rest:=rest) (t:=258) (e:=192) (n:=16) abg (by kernel_rfl) (by kernel_rfl) (by kernel_rfl) (by kernel_rfl) (by kernel_rfl) h;refine⟨fun i hi=>?_,Ws⟩;have h2:=h1.cell abg i (by simpa[Gi]using hi);rw[h2];have fF:∀j,j<16->(0:Int)<=Gi.getD j 0:=by decide
 unfold Gj;rw[Int.toNat_of_nonneg (fF i hi)]
end Go.Proofs.YtccnemmlkcmceaaGreatDoor
