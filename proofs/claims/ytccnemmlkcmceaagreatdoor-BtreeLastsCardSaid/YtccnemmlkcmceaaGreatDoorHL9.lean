/- Proofs about the given program, joined out of the texts D5, D6, F1, F2, G0, G1, G2, G3, K1, LG7, OF1, OF2. -/
import Derived.Test.YtccnemmlkcmceaaGreatDoorHL7
import Derived.Lib.AppendZeros
import Derived.Laws.AppendOwnNone
import Derived.Maps.AppendAt
import Derived.Lib.SliceRun
set_option linter.unusedVariables false
set_option linter.unusedSimpArgs false
set_option maxRecDepth 100000
set_option maxHeartbeats 6400000
namespace Go.Proofs.YtccnemmlkcmceaaGreatDoor
open Go.RowKit
theorem RG {w:World}{base g cap:Nat}{ks:List Bs}{x:Bs}(h:w.ownsRow base 9 1 (.slice (some ⟨g,0,none⟩) (ks.length+1) cap) (ks.length+1) (aG ks ++ [.string (au x)])) :
  w.ownsRow base 9 1 (.slice (some ⟨g,0,none⟩) (ks ++ [x]).length cap) (ks ++ [x]).length (aG (ks ++ [x])):=by
 simpa[aG]using h
theorem RF {w:World}{base g cap:Nat}{ks:List Nat}{x:Nat}(h:w.ownsRow base 3 1 (.slice (some ⟨g,0,none⟩) (ks.length+1) cap) (ks.length+1) (aK ks ++ [.int .i64 (x:Int)])) :
  w.ownsRow base 3 1 (.slice (some ⟨g,0,none⟩) (ks ++ [x]).length cap) (ks ++ [x]).length (aK (ks ++ [x])):=by
 simpa[aK]using h
theorem FU {w:World}{base base':Nat}{e e':TypeId}{sz sz' n n':Nat}{v v':Value}{xs xs':List Value}(h:w.ownsRow base e sz v n xs) (h':w.ownsRow base' e' sz' v' n' xs') (bQ:e≠e'):v.ownBlock=none\/v.ownBlock≠v'.ownBlock:=by
 rcases h.2 with ⟨rfl,_⟩|⟨g,cap,cur,rfl,_,hg,_⟩
 ·exact .inl rfl
 ·refine .inr ?_
  rcases h'.2 with ⟨rfl,_⟩|⟨g',cap',cur',rfl,_,qO,_⟩
  ·simp[Value.ownBlock]
  ·intro e2
   simp[Value.ownBlock]at e2;subst e2;rw[hg]at qO;injection qO with qO;injection qO with _ qO;exact bQ qO
structure BS (w wx:World) (A2:Option Addr) (c2:Nat) (A3:Option Addr) (c3:Nat) (ks:List Bs) (jk:List Nat) (r:bF):Prop where
 o2:wx.ownsRow (w.heap.size+3) 9 1 (.slice A2 ks.length c2) ks.length (aG ks)
 o3:wx.ownsRow (w.heap.size+3) 3 1 (.slice A3 jk.length c3) jk.length (aK jk)
 bn:ax wx (w.heap.size+1+1) 40 #[.bool false,.slice none 0 0,.slice A2 ks.length c2,.slice A3 jk.length c3]
 br:ax wx w.heap.size 40 #[.bool false,.slice none 0 0,.slice none 0 0,.slice none 0 0]
 hr:gy wx (w.heap.size+1) r
 hE:ah No w wx
theorem P_ (x:Int):∀u ∈ [Value.int .i64 x],u.oneCell'=true:=by simp[Value.oneCell']
theorem Y_ (x:ByteArray):∀u ∈ [Value.string x],u.oneCell'=true:=by simp[Value.oneCell']
theorem BS.step {w wx w5:World}{A2:Option Addr}{c2:Nat}{A3:Option Addr}{c3:Nat}{ks:List Bs}{jk:List Nat}{r r':bF}(h:BS w wx A2 c2 A3 c3 ks jk r) (hx:ah (On (w.heap.size+1)) wx w5) (hr:gy w5 (w.heap.size+1) r') (o:Obj) :
  BS w (w5.alloc o) A2 c2 A3 c3 ks jk r' :=
 ⟨(lH h.o2 hx (fun g hg=>v_ (by omega))).alloc o,(lH h.o3 hx (fun g hg=>v_ (by omega))).alloc o,(h.bn.ext hx (v_ (by omega))).alloc o,(h.br.ext hx (v_ (by omega))).alloc o,ax.alloc hr o,(h.hE.kR hx (by omega)).alloc o⟩
theorem BS.drew {w wx:World}{A2:Option Addr}{c2:Nat}{A3:Option Addr}{c3:Nat}{ks:List Bs}{jk:List Nat}{r:bF}(h:BS w wx A2 c2 A3 c3 ks jk r):BS w wx.drew A2 c2 A3 c3 ks jk r :=
 ⟨h.o2.drew,h.o3.drew,h.bn,h.br,h.hr,h.hE.drew⟩
theorem BS.keys {w w5 w6:World}{A2:Option Addr}{c2:Nat}{A3:Option Addr}{c3:Nat}{ks:List Bs}{jk:List Nat}{r:bF}{g cap:Nat}{x:Bs}(h:BS w w5 A2 c2 A3 c3 ks jk r)
  (ho:w6.ownsRow (w.heap.size+3) 9 1 (.slice (some ⟨g,0,none⟩) (ks.length+1) cap) (ks.length+1) (aG ks ++ [.string (au x)])) (hg:w5.grownBy w6 (Value.slice A2 ks.length c2).ownBlock) :
  BS w (w6.setCell ⟨w.heap.size+1+1,2,none⟩ (.slice (some ⟨g,0,none⟩) (ks.length+1) cap)) (some ⟨g,0,none⟩) cap A3 c3 (ks ++ [x]) jk r:=by
 have hs:=h.hE.size;have hg1:=(ho.lt g rfl).1;have h3:=h.o3.kept hg (FU h.o3 h.o2 (by decide));refine⟨ownsRow_setCell_other (RG ho) (by show some g≠some (w.heap.size+1+1);intro e;injection e with e;omega) _,ownsRow_setCell_other h3 (Ne.symm (gZ h3 (show w.heap.size+1+1<w.heap.size+3 by omega))) _,?_,?_,?_,?_⟩
 ·have:=(h.bn.grown hg (gZ h.o2 (by omega))).aQ 2 (.slice (some ⟨g,0,none⟩) (ks.length+1) cap)
  simpa using this
 ·exact ax.far (h.br.grown hg (gZ h.o2 (by omega))) (show w.heap.size≠w.heap.size+1+1 by omega) _
 ·exact ax.far (ax.grown hg h.hr (gZ h.o2 (by omega))) (show w.heap.size+1≠w.heap.size+1+1 by omega) _
 ·exact(h.hE.grown hg (mI h.o2 (by omega))).ai (by omega) _ _
theorem BS.kids {w w5 w6:World}{A2:Option Addr}{c2:Nat}{A3:Option Addr}{c3:Nat}{ks:List Bs}{jk:List Nat}{r:bF}{g cap:Nat}{x:Nat}(h:BS w w5 A2 c2 A3 c3 ks jk r)
  (ho:w6.ownsRow (w.heap.size+3) 3 1 (.slice (some ⟨g,0,none⟩) (jk.length+1) cap) (jk.length+1) (aK jk ++ [.int .i64 (x:Int)])) (hg:w5.grownBy w6 (Value.slice A3 jk.length c3).ownBlock) :
  BS w (w6.setCell ⟨w.heap.size+1+1,3,none⟩ (.slice (some ⟨g,0,none⟩) (jk.length+1) cap)) A2 c2 (some ⟨g,0,none⟩) cap ks (jk ++ [x]) r:=by
 have hs:=h.hE.size;have hg1:=(ho.lt g rfl).1;have h3:=h.o2.kept hg (FU h.o2 h.o3 (by decide));refine⟨ownsRow_setCell_other h3 (Ne.symm (gZ h3 (show w.heap.size+1+1<w.heap.size+3 by omega))) _,ownsRow_setCell_other (RF ho) (by show some g≠some (w.heap.size+1+1);intro e;injection e with e;omega) _,?_,?_,?_,?_⟩
 ·have:=(h.bn.grown hg (gZ h.o3 (by omega))).aQ 3 (.slice (some ⟨g,0,none⟩) (jk.length+1) cap)
  simpa using this
 ·exact ax.far (h.br.grown hg (gZ h.o3 (by omega))) (show w.heap.size≠w.heap.size+1+1 by omega) _
 ·exact ax.far (ax.grown hg h.hr (gZ h.o3 (by omega))) (show w.heap.size+1≠w.heap.size+1+1 by omega) _
 ·exact(h.hE.grown hg (mI h.o3 (by omega))).ai (by omega) _ _
theorem O_ (s:Bs) (w:World) (hl:s.length<=500) (hk:(⟨s,false⟩:bF).byte.1≠1) :
  Calls Tryz.prog 48 #[.string (au s)] w (vw w (GH s)):=by
 have eZ:=az s;have l1:=(⟨s,false⟩:bF).oz;have l2:=(⟨s,false⟩:bF).byte.2.oz;have OX:=(⟨s,false⟩:bF).byte.2.yh;have HB:=aa (fun p w h=>qb ⟨s,false⟩ (show s.length<1000000 by omega) p w h);have ng:=aa (fun p w h=>qb (⟨s,false⟩:bF).byte.2 (by simp only at l1;omega) p w h);have mW:((⟨s,false⟩:bF).byte.1:Int)≠1:=by omega
 have HF:=aa (fun p w h=>uP (⟨s,false⟩:bF).byte.2.byte.2 (by simp only at l1;omega) p w h)
 have HD:Hid (GH s=if (bD (⟨s,false⟩:bF).byte.2.byte.1 ⟨false,[],[],[(⟨s,false⟩:bF).byte.2.byte.2.four.1]⟩ (⟨s,false⟩:bF).byte.2.byte.2.four.2).2.bad then none
  else if (bD (⟨s,false⟩:bF).byte.2.byte.1 ⟨false,[],[],[(⟨s,false⟩:bF).byte.2.byte.2.four.1]⟩ (⟨s,false⟩:bF).byte.2.byte.2.four.2).2.s.length≠0 then none
  else if (⟨s,false⟩:bF).byte.1≠2 then none
  else if (bD (⟨s,false⟩:bF).byte.2.byte.1 ⟨false,[],[],[(⟨s,false⟩:bF).byte.2.byte.2.four.1]⟩ (⟨s,false⟩:bF).byte.2.byte.2.four.2).1.ok then some (bD (⟨s,false⟩:bF).byte.2.byte.1 ⟨false,[],[],[(⟨s,false⟩:bF).byte.2.byte.2.four.1]⟩ (⟨s,false⟩:bF).byte.2.byte.2.four.2).1 else none):=by
  show _=_;simp[GH,show ¬500<s.length by omega,bF.loop,bF.head,hk]
 have yF:=(⟨s,false⟩:bF).byte.2.byte.2.BL;have hfe:=(⟨s,false⟩:bF).byte.2.byte.2.xR;have bY:(⟨s,false⟩:bF).byte.2.byte.2.four.2.s.length<1000000:=by simp only at l1;omega
 generalize (⟨s,false⟩:bF).byte.2.byte.2.four.1=k0 at HF HD yF;generalize (⟨s,false⟩:bF).byte.2.byte.2.four.2=r3 at HF HD bY hfe;generalize (⟨s,false⟩:bF).byte.2.byte.2=r2 at ng HF hfe;generalize (⟨s,false⟩:bF).byte.2.byte.1=cnt at ng HD OX;generalize (⟨s,false⟩:bF).byte.2=r1 at HB ng;generalize (⟨s,false⟩:bF).byte.1=kd at HB HD hk mW;generalize GH s=D at HD;clear l1 l2 hfe;have j_:((kd:Int)==1)=false:=by simp;omega
 clear hk mW;go_enter Tryz.func48,Tryz.ntmps48;go_wp2_with fail;have ea:ah No w (((w.alloc (.cells #[.bool false,.slice none 0 0,.slice none 0 0,.slice none 0 0] 40)).alloc (.cells #[.string (au s),.bool false] 155)).alloc (.cells #[.bool false,.slice none 0 0,.slice none 0 0,.slice none 0 0] 40)):=(((ah.refl _ w).alloc _).alloc _).alloc _;have br:=((ax.new w 40 #[.bool false,.slice none 0 0,.slice none 0 0,.slice none 0 0]).alloc (.cells #[.string (au s),.bool false] 155)).alloc (.cells #[.bool false,.slice none 0 0,.slice none 0 0,.slice none 0 0] 40);have bn:=ax.aS (b:=w.heap.size+1+1) ((w.alloc (.cells #[.bool false,.slice none 0 0,.slice none 0 0,.slice none 0 0] 40)).alloc (.cells #[.string (au s),.bool false] 155)) 40 #[.bool false,.slice none 0 0,.slice none 0 0,.slice none 0 0] (by simp);have bp:gy (((w.alloc (.cells #[.bool false,.slice none 0 0,.slice none 0 0,.slice none 0 0] 40)).alloc (.cells #[.string (au s),.bool false] 155)).alloc (.cells #[.bool false,.slice none 0 0,.slice none 0 0,.slice none 0 0] 40)) (w.heap.size+1) ⟨s,false⟩:=(ax.aS (w.alloc (.cells #[.bool false,.slice none 0 0,.slice none 0 0,.slice none 0 0] 40)) 155 #[.string (au s),.bool false] (by simp)).alloc (.cells #[.bool false,.slice none 0 0,.slice none 0 0,.slice none 0 0] 40);refine(HB.out _ _ bp).mono ?_;rintro e w1 ⟨rfl,Iz,aT⟩;have en:¬On (w.heap.size+1) w.heap.size:=fun h=>by unfold On at h;omega
 have SX:¬On (w.heap.size+1) (w.heap.size+1+1):=fun h=>by unfold On at h;omega
 have br:=br.ext aT en;have bn:=bn.ext aT SX;have ea1:=ea.kR aT (by omega);clear bp ea;go_wp2_with fail;refine(ng.out _ _ Iz).mono ?_;rintro e w2 ⟨rfl,rX,aH⟩;have br:=br.ext aH en;have bn:=bn.ext aH SX;have ea2:=ea1.kR aH (by omega);obtain⟨p0,p1,p2,p3,g0,g1,g2,g3,ln⟩:=bn.p4;clear Iz aT aH ea1;go_upto_region 8 with fail;have Fu:ax (w2.setCell ⟨w.heap.size+1+1,0,none⟩ (.bool false)) (w.heap.size+1+1) 40 #[.bool false,.slice none 0 0,.slice none 0 0,.slice none 0 0]:=bn.aQ 0 (.bool false);have GR:ax (w2.setCell ⟨w.heap.size+1+1,0,none⟩ (.bool false)) w.heap.size 40 #[.bool false,.slice none 0 0,.slice none 0 0,.slice none 0 0]:=br.far (show w.heap.size≠w.heap.size+1+1 by omega) _;have Ep:gy (w2.setCell ⟨w.heap.size+1+1,0,none⟩ (.bool false)) (w.heap.size+1) r2:=ax.far rX (show w.heap.size+1≠w.heap.size+1+1 by omega) _;have ea3:ah No w (w2.setCell ⟨w.heap.size+1+1,0,none⟩ (.bool false)):=ea2.ai (by omega) _ _;clear p0 p1 p2 p3 g0 g1 g2 g3 br bn rX ea2;have hB3:BS w (w2.setCell ⟨w.heap.size+1+1,0,none⟩ (.bool false)) none 0 none 0 [] [] r2:=⟨World.ownsRow_nil _ _ _ _,World.ownsRow_nil _ _ _ _,Fu,GR,Ep,ea3⟩;generalize w2.setCell ⟨w.heap.size+1+1,0,none⟩ (.bool false)=w3 at hB3 ⊢;clear Fu GR Ep ea3;obtain⟨i0,mi,eQ,fe,eP⟩:=info_parts Tryz.info3;go_cut [29] (fun v wx=>∃A3 c3,Hid (BS w wx none 0 A3 c3 [] [k0] r3))
 case first =>
  obtain⟨p0,p1,p2,p3,g0,g1,g2,g3,ln⟩:=hB3.bn.p4;have hr:=hB3.hr;have X6:=aa hB3;have m0:w.heap.size+3<=w3.heap.size:=by omega
  have bn:=hB3.bn;have m2:0+1<=maxLen:=by unfold maxLen;omega
  have m3:(0+1)*8<=140737488355328:=by omega
  have en3:∀g,w.heap.size+3<=g->¬On (w.heap.size+1) g:=fun g hg=>v_ (by omega)
  simp only[List.length_nil]at p2 p3;clear hB3;go_wp2_with fail
  go_region_law
   (first
    | (go_simp;go_at_call 88;refine(HF.out _ _ (by exact hr)).mono ?_;rintro e w5 ⟨rfl,VI,bU⟩;have p5:=aj bU (g:=w.heap.size+1+1) (i:=3) (u:=.slice none 0 0) p3 SX;have wO:=ax.aY bU bn SX;have g5:=wO.frozen 3;have l5:=wO.lt;have m5:w.heap.size+3<=w5.heap.size:=Nat.le_trans m0 bU.size;have m6:∀o,w.heap.size+3<=(w5.alloc o).heap.size:=(fun o=>by simp;omega);have m7:∀o,(w5.alloc o).heap.size=w5.heap.size+1:=(fun o=>by simp);have HO5:=aa (kQ bU X6.out.o3 en3);have jl:=aa bU;have XJ:=aa VI;clear bU VI)
    | ((refine step_append_lies _ (by rfl) _ _ _ (by rfl) (w.heap.size+3) 3 i0 (.int .i64 0) 1 8 Tryz.underlying35 mi eQ fe eP rfl (by decide) (.slice none 0 0) ([]:List Nat).length (aK ([]:List Nat)) (by rfl) (by exact HO5.out.alloc _) ⟨w5.heap.size,0,none⟩ 1 1 [.int .i64 (k0:Int)] (by rfl) (by rfl) (by exact World.news_of_block (cs:=#[.int .i64 (k0:Int)]) (t:=3) (fr:=(0,0)) (heap_alloc_new w5 _)) (by exact P_ _) (by decide) m2 m3 (by exact m6 _) (w5.heap.size+1) (by exact m7 _) ?_);intro g2 cap2 w6 bJ a_ uf iK;have MX:=aa bJ;clear bJ;have Bh:=(wO.alloc _).grown a_ (gZ X6.out.o3 (by omega));have g6:=Bh.frozen 3;have p6:=Bh.cell 3;simp at p6;have l6:=Bh.lt))
  all_goals (
   go_wp2_with fail;go_meet
   exact⟨_,_,aa (BS.kids (x:=k0) (BS.step X6.out.drew jl.out XJ.out _) MX.out a_)⟩)
 case rest =>
  obtain⟨A3,c3,Q3⟩:=hcut;clear hB3;obtain⟨i1,yY,adW,Iy,OB⟩:=info_parts Tryz.Ak;go_wp2_with fail;go_loopg [33] cnt (fun gk i wr=>∃(k:Nat) (A2:Option Addr) (c2:Nat) (A3:Option Addr) (c3:Nat) (ks:List Bs) (jk:List Nat) (r:bF),k+gk=cnt/\i=.int .i64 (k:Int)/\ks.length=k/\jk.length=k+1/\BS w wr A2 c2 A3 c3 ks jk r/\r.s.length<1000000/\(∀k∈ks,k.length<65536)/\(∀i∈jk,i<4294967296)/\Hid (bD gk ⟨false,[],ks,jk⟩ r=bD cnt ⟨false,[],[],[k0]⟩ r3))
  case atStart=>exact⟨0,none,0,A3,c3,[],[k0],r3,by omega,rfl,rfl,rfl,Q3.out,bY,by simp,by simpa using yF,aa rfl⟩
  case round =>
   clear Q3 bY HB ng HF;obtain⟨k,A2,c2,A3,c3,ks,jk,r,jK,rfl,Am,hci,hB,bY,hfk,hfi,hd⟩:=hrel;have jS:=aa jK;have Un:=aa Am;have HCI:=aa hci;have HB:=aa hB;have HFK:=aa hfk;have HFI:=aa hfi;have hk:k<=cnt:=by omega
   have Gh:ks.length<256:=by omega
   have BG:jk.length<257:=by omega
   obtain⟨p0,p1,p2,p3,g0,g1,g2,g3,ln⟩:=hB.bn.p4;obtain⟨x0,x1,x2,x3,y0,y1,y2,y3,lr⟩:=hB.br.p4;have hr:=hB.hr;have bn:=hB.bn;have br:=hB.br;have z1:=hr.cell 1;have z0:=hr.cell 0;simp at z0 z1;clear jK Am hci hB hfk hfi
   by_cases bu:k<cnt
   ·cases eY:r.bad
    ·rw[eY]at z1
     have M8:=aa eY;clear eY;have vJ:=r.Bq;have BF:=r.text.2.xR;have Iw:=r.Ch;have hf4:=r.text.2.BL;have HT:=aa (fun p w h=>yM r bY p w h);have HF:=aa (fun p w h=>uP r.text.2 (by omega) p w h);have HQ:Hid (Nd.one ⟨false,[],ks,jk⟩ r=(⟨false,[],ks ++ [r.text.1],jk ++ [r.text.2.four.1]⟩,r.text.2.four.2)):=aa rfl;generalize r.text.2.four.1=x4 at HF HQ hf4;generalize r.text.2.four.2=r5 at HF HQ BF;generalize r.text.1=xt at HT HQ Iw;generalize r.text.2=r4 at HT HF vJ BF;have m0:w.heap.size+3<=wr.heap.size:=by omega
     have m2:ks.length+1<=maxLen:=by unfold maxLen;omega
     have m3:(ks.length+1)*16<=140737488355328:=by omega
     have m2':jk.length+1<=maxLen:=by unfold maxLen;omega
     have m3':(jk.length+1)*8<=140737488355328:=by omega
     have en3:∀g,w.heap.size+3<=g->¬On (w.heap.size+1) g:=fun g hg=>v_ (by omega)
     go_upto_region 14 with fail;go_cut [52] (fun v wx=>∃A2' c2',Hid (BS w wx A2' c2' A3 c3 (ks ++ [xt]) jk r4))
     case first =>
      go_wp2_with fail
      go_region_law
       (first
      | (go_simp;go_at_call 90;refine(HT.out _ _ (by exact hr)).mono ?_;rintro e w5 ⟨rfl,VI,bU⟩;have p5:=aj bU (g:=w.heap.size+1+1) (i:=2) (u:=.slice A2 ks.length c2) p2 SX;have wO:=ax.aY bU bn SX;have g5:=wO.frozen 2;have l5:=wO.lt;have m5:w.heap.size+3<=w5.heap.size:=Nat.le_trans m0 bU.size;have m6:∀o,w.heap.size+3<=(w5.alloc o).heap.size:=(fun o=>by simp;omega);have m7:∀o,(w5.alloc o).heap.size=w5.heap.size+1:=(fun o=>by simp);have HO5:=aa (kQ bU HB.out.o2 en3);have jl:=aa bU;have XJ:=aa VI;clear bU VI)
      | ((refine step_append_lies _ (by rfl) _ _ _ (by rfl) (w.heap.size+3) 9 i1 (.string ⟨#[]⟩) 1 16 Tryz.underlying38 yY adW Iy OB rfl (by decide) (.slice A2 ks.length c2) ks.length (aG ks) (by rfl) (by exact HO5.out.alloc _) ⟨w5.heap.size,0,none⟩ 1 1 [.string (au xt)] (by rfl) (by rfl) (by exact World.news_of_block (cs:=#[.string (au xt)]) (t:=9) (fr:=(0,0)) (heap_alloc_new w5 _)) (by exact Y_ _) (by decide) m2 m3 (by exact m6 _) (w5.heap.size+1) (by exact m7 _) ?_);intro g2 cap2 w6 bJ a_ uf iK;have MX:=aa bJ;clear bJ;have Bh:=(wO.alloc _).grown a_ (gZ HB.out.o2 (by omega));have g6:=Bh.frozen 2;have p6:=Bh.cell 2;simp at p6;have l6:=Bh.lt))
      all_goals (
       go_wp2_with fail;go_meet
       exact⟨_,_,aa (BS.keys (BS.step HB.out.drew jl.out XJ.out _) MX.out a_)⟩)
     case rest =>
      obtain⟨A2',c2',JB⟩:=hcut;clear p0 p1 p2 p3 g0 g1 g2 g3 ln x0 x1 x2 x3 y0 y1 y2 y3 lr hr bn br z0 z1 m0;have hB7:=JB.out;obtain⟨p0,p1,p2,p3,g0,g1,g2,g3,ln⟩:=hB7.bn.p4;have hr:=hB7.hr;have bn:=hB7.bn;have m0:w.heap.size+3<=_:=Nat.succ_le_of_lt ln;clear hB7;go_wp2_with fail
      go_region_law
       (first
      | (go_simp;go_at_call 88;refine(HF.out _ _ (by exact hr)).mono ?_;rintro e w5 ⟨rfl,VI,bU⟩;have p5:=aj bU (g:=w.heap.size+1+1) (i:=3) (u:=.slice A3 jk.length c3) p3 SX;have wO:=ax.aY bU bn SX;have g5:=wO.frozen 3;have l5:=wO.lt;have m5:w.heap.size+3<=w5.heap.size:=Nat.le_trans m0 bU.size;have m6:∀o,w.heap.size+3<=(w5.alloc o).heap.size:=(fun o=>by simp;omega);have m7:∀o,(w5.alloc o).heap.size=w5.heap.size+1:=(fun o=>by simp);have HO5:=aa (kQ bU JB.out.o3 en3);have jl:=aa bU;have XJ:=aa VI;clear bU VI)
      | ((refine step_append_lies _ (by rfl) _ _ _ (by rfl) (w.heap.size+3) 3 i0 (.int .i64 0) 1 8 Tryz.underlying35 mi eQ fe eP rfl (by decide) (.slice A3 jk.length c3) jk.length (aK jk) (by rfl) (by exact HO5.out.alloc _) ⟨w5.heap.size,0,none⟩ 1 1 [.int .i64 (x4:Int)] (by rfl) (by rfl) (by exact World.news_of_block (cs:=#[.int .i64 (x4:Int)]) (t:=3) (fr:=(0,0)) (heap_alloc_new w5 _)) (by exact P_ _) (by decide) m2' m3' (by exact m6 _) (w5.heap.size+1) (by exact m7 _) ?_);intro g2 cap2 w6 bJ a_ uf iK;have MX:=aa bJ;clear bJ;have Bh:=(wO.alloc _).grown a_ (gZ JB.out.o3 (by omega));have g6:=Bh.frozen 3;have p6:=Bh.cell 3;simp at p6;have l6:=Bh.lt))
      all_goals (
       go_wp2_with fail;go_roundg (gk-1)
       case rel =>
        have hd1:bD (gk-1) ⟨false,[],ks ++ [xt],jk ++ [x4]⟩ r5=bD gk ⟨false,[],ks,jk⟩ r:=by
         obtain⟨j,rfl⟩:∃j,gk=j+1:=⟨gk-1,by have:=jS.out;omega⟩;simp[bD,M8.out,HQ.out]
        have Am:=Un.out;have hci:=HCI.out;refine⟨k+1,A2',c2',_,_,ks ++ [xt],jk ++ [x4],r5,by have:=jS.out;omega,by go_num,by simp;omega,by simp;omega,BS.kids (BS.step JB.out.drew jl.out XJ.out _) MX.out a_,by omega,?_,?_,aa (hd1.trans hd.out)⟩
        ·intro y hy
         rcases List.mem_append.1 hy with h|h
         ·exact HFK.out y h
         ·simp at h;subst h;omega
        ·intro y hy
         rcases List.mem_append.1 hy with h|h
         ·exact HFI.out y h
         ·simp at h;subst h;omega
       case measure=>have:=jS.out;omega)
    ·have M8:=aa eY
     rw[eY]at z1;clear eY;have mX:D=none:=by
      rw[HD.out,<-hd.out,xZ _ _ _ M8.out];simp[M8.out]
     clear HD;go_wp2_with fail;have ji:=br.eu (.bool false) (.slice none 0 0) (.slice none 0 0) (.slice none 0 0);refine gQ w.heap.size _ ji rfl rfl rfl rfl ?_;exact vw.fail ((((HB.out.hE.ai (by omega) _ _).ai (by omega) _ _).ai (by omega) _ _).ai (by omega) _ _) mX
   ·have hg0:gk=0:=by have:=jS.out;omega
    subst hg0;have qN:k=cnt:=by omega
    subst qN;have dL:=hd.out;simp only[bD]at dL;rw[<-dL]at HD;clear dL;cases eY:r.bad
    ·rw[eY]at z1
     simp only[eY]at HD;clear eY
     by_cases TZ:r.s = []
     ·simp only[TZ]at HD z0
      clear TZ
      by_cases lJ:kd=2
      ·subst lJ
       have hc2:=dX HB.out.o2;have hc3:=dX HB.out.o3;have hn:aW wr (Lo (w.heap.size+3)) none 0 A2 c2 A3 c3 ⟨false,[],ks,jk⟩:=⟨Rd.lV _,Rd.jf HB.out.o2 (by omega),Rd.jf HB.out.o3 (by omega),by simp,hc2,hc3,by simp,by simp only;omega,by simp only;omega,fun _=>rfl,dA HB.out.o2,dA HB.out.o3⟩;have hf:(⟨false,[],ks,jk⟩:Nd).fits:=⟨by simp,HFK.out,HFI.out⟩;have HC:=aa (fun w' hn=>dG ⟨false,[],ks,jk⟩ w' (Lo (w.heap.size+3)) none 0 A2 c2 A3 c3 hn hf);simp only[Nd.value]at HC;go_wp2_with fail;refine(HC.out _ hn).mono ?_;rintro e w5 ⟨rfl,bU⟩;have wO:=bn.ext bU (fun h=>h);have Fs:=br.ext bU (fun h=>h);obtain⟨p0,p1,p2,p3,g0,g1,g2,g3,ln⟩:=wO.p4;obtain⟨x0,x1,x2,x3,y0,y1,y2,y3,lr⟩:=Fs.p4;cases aX:(⟨false,[],ks,jk⟩:Nd).ok
       ·have mX:D=none:=by rw[HD.out];simp[aX]
        simp only[Nd.oq aX];clear HD HC;go_wp2_with fail;have ji:=Fs.eu (.bool false) (.slice none 0 0) (.slice none 0 0) (.slice none 0 0);refine gQ w.heap.size _ ji rfl rfl rfl rfl ?_;exact vw.fail (((((HB.out.hE.ag bU).ai (by omega) _ _).ai (by omega) _ _).ai (by omega) _ _).ai (by omega) _ _) mX
       ·have mX:D=some ⟨false,[],ks,jk⟩:=by rw[HD.out];simp[aX]
        simp only[Nd.jh aX];clear HD HC;go_wp2_with fail;have ji:=Fs.eu (.bool false) (.slice none 0 0) (.slice A2 ks.length c2) (.slice A3 jk.length c3);refine gQ w.heap.size _ ji rfl rfl rfl rfl ?_;refine⟨((((HB.out.hE.ag bU).ai (by omega) _ _).ai (by omega) _ _).ai (by omega) _ _).ai (by omega) _ _,?_⟩;rw[mX];have iL:Lo (w.heap.size+3) w.heap.size:=by unfold Lo;omega
        have hz:ah (Lo (w.heap.size+3)) wr ((((w5.setCell ⟨w.heap.size,0,none⟩ (.bool false)).setCell ⟨w.heap.size,1,none⟩ (.slice none 0 0)).setCell ⟨w.heap.size,2,none⟩ (.slice A2 ks.length c2)).setCell ⟨w.heap.size,3,none⟩ (.slice A3 jk.length c3)):=(((bU.of_no.ay iL _ _).ay iL _ _).ay iL _ _).ay iL _ _;exact⟨none,0,A2,c2,A3,c3,rfl,(hn.ext hz).mono (fun b _ hb=>by unfold gB at hb;unfold Lo;omega)⟩
      ·have mX:D=none:=by
        rw[HD.out];simp[lJ]
       have aep:((kd:Int)==2)=false:=by simp;omega
       clear HD;go_wp2_with fail;have ji:=br.eu (.bool false) (.slice none 0 0) (.slice none 0 0) (.slice none 0 0);refine gQ w.heap.size _ ji rfl rfl rfl rfl ?_;exact vw.fail ((((HB.out.hE.ai (by omega) _ _).ai (by omega) _ _).ai (by omega) _ _).ai (by omega) _ _) mX
     ·have mX:D=none:=by
       rw[HD.out];simp[TZ]
      clear HD;have bQ:=vS TZ;go_wp2_with fail;have ji:=br.eu (.bool false) (.slice none 0 0) (.slice none 0 0) (.slice none 0 0);refine gQ w.heap.size _ ji rfl rfl rfl rfl ?_;exact vw.fail ((((HB.out.hE.ai (by omega) _ _).ai (by omega) _ _).ai (by omega) _ _).ai (by omega) _ _) mX
    ·have mX:D=none:=by
      rw[HD.out];simp[eY]
     rw[eY]at z1;clear HD eY;go_wp2_with fail;have ji:=br.eu (.bool false) (.slice none 0 0) (.slice none 0 0) (.slice none 0 0);refine gQ w.heap.size _ ji rfl rfl rfl rfl ?_;exact vw.fail ((((HB.out.hE.ai (by omega) _ _).ai (by omega) _ _).ai (by omega) _ _).ai (by omega) _ _) mX
theorem O9 (s:Bs) (w:World) (hs:s.length<1000000):Calls Tryz.prog 48 #[.string (au s)] w (vw w (GH s)):=by
 by_cases hl:s.length<=500
 ·by_cases hk:(⟨s,false⟩:bF).byte.1=1
  ·exact Xa s w hl hk
  ·exact O_ s w hl hk
 ·have hd:GH s=none:=by simp[GH];omega
  have eZ:=az s;have LG:(500:Int)<s.length:=by omega
  rw[hd];clear hd hl;go_enter Tryz.func48,Tryz.ntmps48;go_wp2_with fail;have br:=(ax.new w 40 #[.bool false,.slice none 0 0,.slice none 0 0,.slice none 0 0]);refine gQ w.heap.size _ br rfl rfl rfl rfl ?_;exact vw.fail ((ah.refl No w).alloc _) rfl
def Nd.out (n:Nd):Bs×Nat:=if n.ok=false then ([],2)else if 500<n.size then ([],3)else (n.enc,0)
theorem O5 (n:Nd) (w:World) (F:Nat->Prop) (A1:Option Addr) (c1:Nat) (A2:Option Addr) (c2:Nat) (A3:Option Addr) (c3:Nat) (hn:aW w F A1 c1 A2 c2 A3 c3 n) (hf:n.fits) :
  Calls Tryz.prog 180 #[n.value A1 c1 A2 c2 A3 c3] w fun e w'=>e=.returned (.tuple #[.string (au n.out.1),.int .i64 n.out.2])/\ah No w w':=by
 unfold Nd.out;cases aX:n.ok
 ·simpa using aah n w F A1 c1 A2 c2 A3 c3 hn hf aX
 ·by_cases hl:500<n.size
  ·simpa[hl]using WQ n w F A1 c1 A2 c2 A3 c3 hn hf aX hl
  ·cases bL:n.leaf
   ·simpa[hl]using O6 n w F A1 c1 A2 c2 A3 c3 hn aX (by omega) bL
   ·simpa[hl]using WT n w F A1 c1 A2 c2 A3 c3 hn aX (by omega) bL
theorem Cj (a b:Bs) (n:Nat) (h:a.length=n):(⟨a++b,false⟩:bF).take n=(a,⟨b,false⟩):=by
 unfold bF.take;rw[if_neg (by simp;omega)];subst h;simp
theorem nM (x:UInt8) (b:Bs):(⟨x::b,false⟩:bF).byte=(x.toNat,⟨b,false⟩):=by
 unfold bF.byte;have:=Cj [x] b 1 rfl;simp only[List.singleton_append]at this;rw[this];rfl
theorem wV (s b:Bs) (h:s.length<256):(⟨ND s++b,false⟩:bF).text=(s,⟨b,false⟩):=by
 unfold bF.text ND;simp only[List.cons_append];rw[nM];have:(UInt8.ofNat s.length).toNat=s.length:=by simp;omega
 simp only[this];exact Cj s b _ rfl
theorem xS (n:Nat) (b:Bs) (h:n<4294967296):(⟨n4 n++b,false⟩:bF).four=(n,⟨b,false⟩):=by
 unfold bF.four;rw[Cj (n4 n) b 4 rfl];have:=o_ n h [];simp only[List.append_nil]at this;rw[this]
theorem Xf (c:aA) (b:Bs) (h:c.ok=true):(⟨c.enc++b,false⟩:bF).cell=(c,⟨b,false⟩):=by
 have hb:=aA.iW h;unfold aA.enc bF.cell
 by_cases ho:0<c.over
 ·rw[if_pos ho]
  simp only[List.append_assoc,List.cons_append];rw[wV _ _ (by omega)];simp only[nM];rw[if_neg (by decide),if_pos (by decide),xS _ _ (by omega)];simp only;rw[xS _ _ (by omega)];have hv:c.val = []:=by
   unfold aA.ok at h;rw[if_neg (by omega)]at h;simp only[Bool.and_eq_true]at h;simpa using h.2
  have:decide (c.over=0)=false:=by simp;omega
  simp only[this,Bool.or_self,<-hv]
 ·rw[if_neg ho]
  simp only[List.append_assoc,List.cons_append];rw[wV _ _ (by omega)];simp only[nM];rw[if_pos (by decide),wV _ _ (by omega)];have h0:c.over=0:=by omega
  have hl:c.len=0:=by
   unfold aA.ok at h;rw[if_pos h0]at h;simp only[Bool.and_eq_true,decide_eq_true_eq]at h;exact h.1.2
  simp only[<-h0];cases c;simp at h0 hl;simp[h0,hl]
theorem Od (cs:List aA):∀(cs0:List aA) (b:Bs),(∀c∈cs,c.ok=true)->bD cs.length ⟨true,cs0,[],[]⟩ ⟨bW cs++b,false⟩=(⟨true,cs0++cs,[],[]⟩,⟨b,false⟩):=by
 induction cs with
 | nil=>intro cs0 b _;simp[bD,bW]
 | cons c cs ih =>
  intro cs0 b h;have h1:=h c (by simp);simp only[List.length_cons,bD,Bool.false_eq_true,if_false];have e:bW (c::cs)++b=c.enc++(bW cs++b):=by simp[bW]
  rw[e];have e1:Nd.one ⟨true,cs0,[],[]⟩ ⟨c.enc++(bW cs++b),false⟩=(⟨true,cs0 ++ [c],[],[]⟩,⟨bW cs++b,false⟩):=by
   unfold Nd.one;rw[Xf c _ h1];rfl
  rw[e1,ih _ _ (fun d hd=>h d (by simp[hd]))];simp
theorem RQ (ks:List Bs):∀(is:List Nat) (ks0:List Bs) (is0:List Nat) (b:Bs),is.length=ks.length->(∀k∈ks,k.length<256)->(∀i∈is,i<4294967296) ->
  bD ks.length ⟨false,[],ks0,is0⟩ ⟨b_ ks is++b,false⟩=(⟨false,[],ks0++ks,is0++is⟩,⟨b,false⟩):=by
 induction ks with
 | nil =>
      intro is ks0 is0 b hl _ _;have:is = []:=by simpa using hl
      subst this;simp[bD,b_]
 | cons k ks ih =>
  intro is ks0 is0 b hl hk hi
  match is,hl with
  | i::is,hl =>
   have h1:=hk k (by simp);have h2:=hi i (by simp);simp only[List.length_cons,bD,Bool.false_eq_true,if_false];have e:b_ (k::ks) (i::is)++b=ND k++(n4 i++(b_ ks is++b)):=by simp[b_]
   rw[e];have e1:Nd.one ⟨false,[],ks0,is0⟩ ⟨ND k++(n4 i++(b_ ks is++b)),false⟩=(⟨false,[],ks0 ++ [k],is0 ++ [i]⟩,⟨b_ ks is++b,false⟩):=by
    unfold Nd.one;rw[wV k _ h1];simp only;rw[xS i _ h2];rfl
   rw[e1,ih _ _ _ _ (by simpa using hl) (fun d hd=>hk d (by simp[hd])) (fun d hd=>hi d (by simp[hd]))];simp
theorem aak (n:Nd) (aX:n.ok=true) (hl:n.enc.length<=500):GH n.enc=some n:=by
 have hO:=Nd.Ok.of aX;cases bL:n.leaf
 ·obtain⟨h1,h2⟩:=hO.br bL
  obtain⟨lf,cs,ks,is⟩:=n;simp only at bL h1 h2;subst bL;subst h1
  match is,h2 with
  | i0::is,h2 =>
   have OQ:=hO.fits.i i0 (by simp);have wK:ks.length<256:=by have:=hO.a2;simp only at this;omega
   have hb:∀k∈ks,k.length<256:=fun k hk=>by have:=dF (hO.k k hk);omega
   have hkt:(UInt8.ofNat ks.length).toNat=ks.length:=by simp;omega
   have e:(⟨false,[],ks,i0::is⟩:Nd).enc=2::UInt8.ofNat ks.length::(n4 i0++(b_ ks is ++ [])):=by simp[Nd.enc]
   rw[e]at hl ⊢;have e1:(⟨2::UInt8.ofNat ks.length::(n4 i0++(b_ ks is ++ [])),false⟩:bF).byte=(2,⟨UInt8.ofNat ks.length::(n4 i0++(b_ ks is ++ [])),false⟩):=nM _ _;have e2:(⟨UInt8.ofNat ks.length::(n4 i0++(b_ ks is ++ [])),false⟩:bF).byte=(ks.length,⟨n4 i0++(b_ ks is ++ []),false⟩):=by rw[nM,hkt]
   have e3:=xS i0 (b_ ks is ++ []) OQ;have e4:(⟨2::UInt8.ofNat ks.length::(n4 i0++(b_ ks is ++ [])),false⟩:bF).loop=(⟨false,[],ks,i0::is⟩,⟨[],false⟩):=by
    unfold bF.loop bF.head;simp only[e1,e2,e3];rw[if_neg (by decide)];rw[RQ ks is [] [i0] [] (by simp at h2;omega) hb (fun i hi=>hO.fits.i i (by simp[hi]))];simp
   unfold GH;rw[if_neg (by omega)];simp only[e4,e1];simp[aX]
 ·obtain⟨h1,h2⟩:=hO.lf bL
  obtain⟨lf,cs,ks,is⟩:=n;simp only at bL h1 h2;subst bL;subst h1;subst h2;have xK:cs.length<256:=by have:=hO.a1;simp only at this;omega
  have hkt:(UInt8.ofNat cs.length).toNat=cs.length:=by simp;omega
  have e:(⟨true,cs,[],[]⟩:Nd).enc=1::UInt8.ofNat cs.length::(bW cs ++ []):=by simp[Nd.enc]
  rw[e]at hl ⊢;have e1:(⟨1::UInt8.ofNat cs.length::(bW cs ++ []),false⟩:bF).byte=(1,⟨UInt8.ofNat cs.length::(bW cs ++ []),false⟩):=nM _ _;have e2:(⟨UInt8.ofNat cs.length::(bW cs ++ []),false⟩:bF).byte=(cs.length,⟨bW cs ++ [],false⟩):=by rw[nM,hkt]
  have e4:(⟨1::UInt8.ofNat cs.length::(bW cs ++ []),false⟩:bF).loop=(⟨true,cs,[],[]⟩,⟨[],false⟩):=by
   unfold bF.loop bF.head;simp only[e1,e2];simp only[if_true];rw[Od cs [] [] hO.c];simp
  unfold GH;rw[if_neg (by omega)];simp only[e4,e1];simp[aX]
theorem NB (x y:UInt8) (h1:¬x<y) (h2:¬y<x):x=y:=by
 rw[UInt8.lt_iff_toNat_lt]at h1 h2;exact UInt8.toNat_inj.1 (by omega)
theorem acX (a b:Bs):Lib.compareBytes a b<0↔fA a b=true:=by
 induction a generalizing b with
 | nil=>cases b <;> simp[Lib.compareBytes,fA,Op.bytesLess]
 | cons x a ih =>
  match b with
  | []=>simp[Lib.compareBytes,fA,Op.bytesLess]
  | y::b =>
   unfold Lib.compareBytes fA Op.bytesLess
   by_cases h1:x<y
   ·simp[h1]
   ·by_cases h2:y<x
    ·have:¬(x==y)=true:=by intro e;have:=eq_of_beq e;subst this;exact h1 h2
     simp[h1,h2,this]
    ·have:x=y:=NB x y h1 h2
     subst this;simp[h1];exact ih b
theorem acY (a b:Bs):Lib.compareBytes a b=0↔a=b:=by
 induction a generalizing b with
 | nil=>cases b <;> simp[Lib.compareBytes]
 | cons x a ih =>
  match b with
  | []=>simp[Lib.compareBytes]
  | y::b =>
   unfold Lib.compareBytes
   by_cases h1:x<y
   ·have:x≠y:=by rintro rfl;exact absurd h1 (UInt8.lt_irrefl _)
    simp[h1,this]
   ·by_cases h2:y<x
    ·have:x≠y:=by rintro rfl;exact absurd h2 (UInt8.lt_irrefl _)
     simp[h1,h2,this]
    ·have:x=y:=NB x y h1 h2
     subst this;simp[h1,ih]
theorem Gt (c:aA) (k:Bs) (w:World) :
  Calls Tryz.prog 137 #[c.agg,.string (au k)] w fun e w'=>e=.returned (.int .i64 (Lib.compareBytes c.key k))/\∃o,w'=w.alloc o:=by
 have HC:=aa (fun w=>Tryz.strings_Compare (au c.key) (au k) w);simp only[jC]at HC;go_enter Tryz.func137,Tryz.ntmps137;simp only[aA.agg];go_wp2_with fail;refine(HC.out _).mono ?_;rintro e w1 ⟨rfl,rfl⟩;go_wp2_with fail;go_ret;exact⟨rfl,_,rfl⟩
structure Az (ks:List Bs) (key:Bs) (i:Nat):Prop where
 le:i<=ks.length
 at_:∀(j:Nat) (k:Bs),ks[j]?=some k->fA k key=decide (j<i)
theorem aas (cs:List aA) (key:Bs) (i0:Nat) (hp:Az (cs.map aA.key) key i0) (w:World) (F:Nat->Prop) (A:Option Addr) (cap:Nat) (hr:Rd w F 4 A cs.length (aC cs)) (hb:cs.length<65536) (hc:cs.length<=cap) :
  Calls Tryz.prog 136 #[.slice A cs.length cap,.string (au key),.func (.func 137) #[] #[]] w fun e w'=>e=.returned (.tuple #[.int .i64 (i0:Int),.bool (decide ((cs[i0]?).map aA.key=some key))])/\ah No w w':=by
 have VZ:i0<=cs.length:=by simpa using hp.le
 have HR:=aa hr;have HP:=aa hp;clear hr hp;go_enter Tryz.func136,Tryz.ntmps136;go_wp2_with fail;go_loopg [9,10] cs.length (fun gk vi vj wr=>∃(i j:Nat),vi=.int .i64 (i:Int)/\vj=.int .i64 (j:Int)/\i<=i0/\i0<=j/\j<=cs.length/\gk+i=j/\ah No w wr)
 case atStart=>exact⟨0,cs.length,rfl,rfl,by omega,by omega,by omega,by omega,ah.refl _ _⟩
 case round =>
  obtain⟨i,j,rfl,rfl,h1,h2,h3,h4,hE⟩:=hrel;have H4:=aa h4;have HE:=aa hE;clear h4 hE
  by_cases bu:i<j
  ·obtain⟨h,hh⟩:∃h,(i+j) / 2=h:=⟨_,rfl⟩
   have hh1:h<j:=by omega
   have hh2:i<=h:=by omega
   obtain⟨c,hc⟩:∃c,cs[h]?=some c:=⟨_,List.getElem?_eq_getElem (by omega)⟩;obtain⟨b,o,hA,_,e0,e1,e2,e3⟩:=(HR.out.ext HE.out.of_no).cellAt hc;subst hA;have e1':IntKind.i64.wrap (((i:Int)+j) / 2)=h:=by rw[IntKind.wrap_i64];omega
   have HF:=aa (fun w=>Gt c key w);have qP:=HP.out.at_ h c.key (by simp[hc]);have LQ:=acX c.key key;generalize Lib.compareBytes c.key key=cv at HF LQ;rw[qP]at LQ;have HC:=aa LQ;have lb:=World.block_lt_of_cell? wr _ e0;simp only[aA.agg]at HF;clear qP LQ hc;go_wp2_with fail;refine(HF.out _).mono ?_;rintro e w1 ⟨rfl,o1,rfl⟩
   by_cases iK:h<i0
   ·have QD:cv<0:=HC.out.2 (by simpa using iK)
    go_wp2_with fail;go_roundg (gk-(h+1-i))
    case rel=>exact⟨h+1,j,by go_num,rfl,by omega,h2,h3,by have:=H4.out;omega,HE.out.alloc _⟩
    case measure=>have:=H4.out;omega
   ·have QD:¬cv<0:=fun h'=>by have:=HC.out.1 h';simp at this;omega
    go_wp2_with fail;go_roundg (gk-(j-h))
    case rel=>exact⟨i,h,rfl,rfl,h1,by omega,by omega,by have:=H4.out;omega,HE.out.alloc _⟩
    case measure=>have:=H4.out;omega
  ·have Qx:i=i0:=by omega
   subst Qx
   by_cases iY:i<cs.length
   ·obtain⟨c,hc⟩:∃c,cs[i]?=some c:=⟨_,List.getElem?_eq_getElem iY⟩
    obtain⟨b,o,hA,_,e0,e1,e2,e3⟩:=(HR.out.ext HE.out.of_no).cellAt hc;subst hA;have HF:=aa (fun w=>Gt c key w);have LQ:=acY c.key key;have hd:decide ((cs[i]?).map aA.key=some key)=decide (c.key=key):=by simp[hc]
    have gF:=aa hd;generalize Lib.compareBytes c.key key=cv at HF LQ;simp only[aA.agg]at HF;have HC:=aa LQ;clear LQ hd hc;go_wp2_with fail;refine(HF.out _).mono ?_;rintro e w1 ⟨rfl,o1,rfl⟩;go_wp2_with fail;go_ret2;refine⟨?_,HE.out.alloc _⟩;have hb:(cv==0)=decide (c.key=key):=by rw[Bool.eq_iff_iff];simpa using HC.out
    rw[gF.out,<-hb];rfl
   ·have hd:decide ((cs[i]?).map aA.key=some key)=false:=by rw[List.getElem?_eq_none (by omega)];simp
    have gF:=aa hd;clear hd;go_wp2_with fail;go_ret2;exact⟨by rw[gF.out];rfl,HE.out⟩
theorem Vd (a b:Bs) (w:World):Calls Tryz.prog 178 #[.string (au a),.string (au b)] w fun e w'=>e=.returned (.bool (fA a b))/\w=w':=by
 go_enter Tryz.func178,Tryz.ntmps178;go_wp2;go_ret;exact⟨iH (by simp),rfl⟩
theorem Ze (a:Bs) (w:World):Calls Tryz.prog 179 #[.string (au a)] w fun e w'=>e=.returned (.bool false)/\w=w':=by
 go_enter Tryz.func179,Tryz.ntmps179;go_wp2;go_ret;exact⟨iH (by simp),rfl⟩
theorem acZ (ks:List Bs) (key:Bs) (i0:Nat) (hp:Az ks key i0) (w:World) (F:Nat->Prop) (A:Option Addr) (cap:Nat) (hr:Rd w F 1 A ks.length (aG ks)) (hb:ks.length<65536) (hc:ks.length<=cap) :
  Calls Tryz.prog 139 #[.slice A ks.length cap,.string (au key)] w fun e w'=>e=.returned (.tuple #[.int .i64 (i0:Int),.bool (decide (ks[i0]?=some key))])/\ah No w w':=by
 have VZ:i0<=ks.length:=by simpa using hp.le
 have HR:=aa hr;have HP:=aa hp;have HL:=aa (fun a w=>Vd a key w);clear hr hp;go_enter Tryz.func139,Tryz.ntmps139;go_wp2_with fail;go_loopg [7,8] ks.length (fun gk vi vj wr=>∃(i j:Nat),vi=.int .i64 (i:Int)/\vj=.int .i64 (j:Int)/\i<=i0/\i0<=j/\j<=ks.length/\gk+i=j/\ah No w wr)
 case atStart=>exact⟨0,ks.length,rfl,rfl,by omega,by omega,by omega,by omega,ah.refl _ _⟩
 case round =>
  obtain⟨i,j,rfl,rfl,h1,h2,h3,h4,hE⟩:=hrel;have H4:=aa h4;have HE:=aa hE;clear h4 hE
  by_cases bu:i<j
  ·obtain⟨h,hh⟩:∃h,(i+j) / 2=h:=⟨_,rfl⟩
   have hh1:h<j:=by omega
   have hh2:i<=h:=by omega
   obtain⟨c,hc⟩:∃c,ks[h]?=some c:=⟨_,List.getElem?_eq_getElem (by omega)⟩;obtain⟨b,o,hA,_,e0⟩:=(HR.out.ext HE.out.of_no).rF hc;subst hA;have e1':IntKind.i64.wrap (((i:Int)+j) / 2)=h:=by rw[IntKind.wrap_i64];omega
   have qP:=HP.out.at_ h c hc;have lb:=World.block_lt_of_cell? wr _ e0;clear hc;go_wp2_with fail;refine(HL.out _ _).mono ?_;rintro e w1 ⟨rfl,rfl⟩
   by_cases iK:h<i0
   ·have l_:fA c key=true:=by simpa[iK]using qP
    simp only[l_];clear qP;go_wp2_with fail;go_roundg (gk-(h+1-i))
    case rel=>exact⟨h+1,j,by go_num,rfl,by omega,h2,h3,by have:=H4.out;omega,HE.out⟩
    case measure=>have:=H4.out;omega
   ·have l_:fA c key=false:=by simpa[iK]using qP
    simp only[l_];clear qP;go_wp2_with fail;go_roundg (gk-(j-h))
    case rel=>exact⟨i,h,rfl,rfl,h1,by omega,by omega,by have:=H4.out;omega,HE.out⟩
    case measure=>have:=H4.out;omega
  ·have Qx:i=i0:=by omega
   subst Qx
   by_cases iY:i<ks.length
   ·obtain⟨c,hc⟩:∃c,ks[i]?=some c:=⟨_,List.getElem?_eq_getElem iY⟩
    obtain⟨b,o,hA,_,e0⟩:=(HR.out.ext HE.out.of_no).rF hc;subst hA;have hd:decide (ks[i]?=some key)=decide (c=key):=by simp[hc]
    have gF:=aa hd;clear hd hc
    by_cases Am:c=key
    ·have hd2:=aa (show decide (c=key)=true by simpa using Am)
     have bQ:(c==key)=true:=by simpa using Am
     clear Am;go_wp2_with fail;go_ret2;exact⟨by rw[gF.out,hd2.out];rfl,HE.out⟩
    ·have hd2:=aa (show decide (c=key)=false by simpa using Am)
     have bQ:(c==key)=false:=by simpa using Am
     go_wp2_with (go_at_call 179;refine(Ze _ _).mono ?_;rintro e w1 ⟨rfl,rfl⟩);go_ret2;exact⟨by rw[gF.out,hd2.out];rfl,HE.out⟩
   ·have hd:decide (ks[i]?=some key)=false:=by rw[List.getElem?_eq_none (by omega)];simp
    have gF:=aa hd;clear hd;go_wp2_with fail;go_ret2;exact⟨by rw[gF.out];rfl,HE.out⟩
theorem CW (x y:UInt8) (a b:Bs):fA (x::a) (y::b)=(decide (x<y)||(x==y&&fA a b)):=rfl
theorem lI (a:Bs):fA a []=false:=by cases a <;> rfl
theorem ny (a:Bs):fA a a=false:=by
 induction a with
 | nil=>rfl
 | cons x a ih=>rw[CW,ih];simp
theorem dD {a b c:Bs}(h1:fA a b=true) (h2:fA b c=true):fA a c=true:=by
 induction a generalizing b c with
 | nil =>
  match b,c,h1,h2 with
  | [],_,h1,_=>cases h1
  | _::_,[],_,h2=>cases h2
  | _::_,_::_,_,_=>rfl
 | cons x a ih =>
  match b,c,h1,h2 with
  | [],_,h1,_=>cases h1
  | _::_,[],_,h2=>cases h2
  | y::b,z::c,h1,h2 =>
   rw[CW]at *;simp only[Bool.or_eq_true,decide_eq_true_eq,Bool.and_eq_true,beq_iff_eq]at *;rcases h1 with h1|⟨rfl,h1⟩
   ·rcases h2 with h2|⟨rfl,h2⟩
    ·left;rw[UInt8.lt_iff_toNat_lt]at *;omega
    ·left;exact h1
   ·rcases h2 with h2|⟨rfl,h2⟩
    ·left;exact h2
    ·exact .inr ⟨rfl,ih h1 h2⟩
theorem Bv (a b:Bs) (h1:fA a b=false) (h2:fA b a=false):a=b:=by
 induction a generalizing b with
 | nil =>
  match b,h1 with
  | [],_=>rfl
  | _::_,h1=>cases h1
 | cons x a ih =>
  match b,h1,h2 with
  | [],_,h2=>cases h2
  | y::b,h1,h2 =>
   rw[CW]at *;simp only[Bool.or_eq_false_iff,decide_eq_false_iff_not,Bool.and_eq_false_imp,beq_iff_eq]at *;have:=NB x y h1.1 h2.1;subst this;rw[ih b (h1.2 rfl) (h2.2 rfl)]
theorem jJ {a b:Bs}(h:fA a b=true):fA b a=false:=by
 cases h2:fA b a
 ·rfl
 ·have:=dD h h2;rw[ny]at this;cases this
theorem qJ {a b:Bs}(h:fA a b=true):a≠b:=by
 rintro rfl;rw[ny]at h;cases h
theorem R6 {a b c:Bs}(h1:fA b a=false) (h2:fA b c=true):fA a c=true:=by
 cases h:fA a b
 ·have:=Bv a b h h1;subst this;exact h2
 ·exact dD h h2
abbrev ed (ks:List Bs):Prop:=ks.Pairwise fun a b=>fA a b=true
def jX (ks:List Bs) (key:Bs):Nat:=(ks.takeWhile fun k=>fA k key).length
theorem xe (ks:List Bs) (key:Bs):jX ks key<=ks.length:=by
 unfold jX;exact(List.takeWhile_prefix _).length_le
theorem Az.uI {ks:List Bs}(h:ed ks) (key:Bs):Az ks key (jX ks key):=by
 refine⟨xe _ _,?_⟩
 induction ks with
 | nil=>intro j k hj;simp at hj
 | cons x ks ih =>
  rw[ed,List.pairwise_cons]at h;intro j k hj;cases hx:fA x key
  ·have hr:jX (x::ks) key=0:=by simp[jX,hx]
   rw[hr]
   match j,hj with
   | 0,hj=>simp at hj;subst hj;rw[hx];rfl
   | j+1,hj =>
    have hk:=List.mem_of_getElem? (by simpa using hj:ks[j]?=some k);have:=h.1 k hk;cases qg:fA k key
    ·rfl
    ·have:=dD this qg;rw[hx]at this;cases this
  ·have hr:jX (x::ks) key=jX ks key+1:=by simp[jX,hx]
   rw[hr]
   match j,hj with
   | 0,hj=>simp at hj;subst hj;rw[hx];simp
   | j+1,hj =>
    rw[ih h.2 j k (by simpa using hj)];simp
theorem Cq (ks:List Bs):∀k,k<=ks.length->EK ks k=true->ed (ks.take k)
 | 0,_,_=>by simp
 | k+1,hk,h=>by
  simp only[EK,Bool.and_eq_true]at h;have ih:=Cq ks k (by omega) h.1;obtain⟨x,hx⟩:∃x,ks[k]?=some x:=⟨_,List.getElem?_eq_getElem (by omega)⟩;have h2:=h.2;rw[hx]at h2;simp only[Bool.and_eq_true]at h2;rw[List.take_add_one,hx,ed,List.pairwise_append];refine⟨ih,by simp,?_⟩;intro a ha b hb;simp at hb;subst hb
  match k,h2.2,ih,ha with
  | 0,_,_,ha=>simp at ha
  | j+1,h3,ih,ha =>
   obtain⟨y,hj⟩:∃y,ks[j]?=some y:=⟨_,List.getElem?_eq_getElem (by omega)⟩;simp only[hj]at h3;rw[List.take_add_one,hj,ed,List.pairwise_append]at ih;rw[List.take_add_one,hj]at ha;rcases List.mem_append.1 ha with ha|ha
   ·exact dD (ih.2.2 a ha _ (by simp)) h3
   ·simp at ha;subst ha;exact h3
theorem Cr (cs:List aA):∀k,k<=cs.length->EL cs k=true->ed ((cs.take k).map aA.key)
 | 0,_,_=>by simp
 | k+1,hk,h=>by
  simp only[EL,Bool.and_eq_true]at h;have ih:=Cr cs k (by omega) h.1;obtain⟨x,hx⟩:∃x,cs[k]?=some x:=⟨_,List.getElem?_eq_getElem (by omega)⟩;have h2:=h.2;rw[hx]at h2;simp only[Bool.and_eq_true]at h2;rw[List.take_add_one,hx,ed,List.map_append,List.pairwise_append];refine⟨ih,by simp,?_⟩;intro a ha b hb;simp at hb;subst hb
  match k,h2.2,ih,ha with
  | 0,_,_,ha=>simp at ha
  | j+1,h3,ih,ha =>
   obtain⟨y,hj⟩:∃y,cs[j]?=some y:=⟨_,List.getElem?_eq_getElem (by omega)⟩;simp only[hj]at h3;rw[List.take_add_one,hj,ed,List.map_append,List.pairwise_append]at ih;rw[List.take_add_one,hj,List.map_append]at ha;rcases List.mem_append.1 ha with ha|ha
   ·exact dD (ih.2.2 a ha _ (by simp)) h3
   ·simp at ha;subst ha;exact h3
theorem Nd.Ok.mH {n:Nd}(h:n.ok=true):ed n.keys:=by
 unfold Nd.ok at h;simp only[Bool.and_eq_true]at h;have:=Cq n.keys _ (Nat.le_refl _) h.1.2;rwa[List.take_length]at this
theorem Nd.Ok.jW {n:Nd}(h:n.ok=true):ed (n.cells.map aA.key):=by
 unfold Nd.ok at h;simp only[Bool.and_eq_true]at h;have:=Cr n.cells _ (Nat.le_refl _) h.1.1.2;rwa[List.take_length]at this
def Nd.find (n:Nd) (key:Bs):Nat×Bool :=
 if n.leaf then (jX (n.cells.map aA.key) key,decide ((n.cells[jX (n.cells.map aA.key) key]?).map aA.key=some key))
 else (jX n.keys key+(if n.keys[jX n.keys key]?=some key then 1 else 0),decide (n.keys[jX n.keys key]?=some key))
theorem Mg (n:Nd) (key:Bs) (w:World) (F:Nat->Prop) (A1:Option Addr) (c1:Nat) (A2:Option Addr) (c2:Nat) (A3:Option Addr) (c3:Nat) (hn:aW w F A1 c1 A2 c2 A3 c3 n)
  (h1:n.leaf=true->ed (n.cells.map aA.key)) (h2:n.leaf=false->ed n.keys) :
  Calls Tryz.prog 95 #[n.value A1 c1 A2 c2 A3 c3,.string (au key)] w fun e w'=>e=.returned (.tuple #[.int .i64 ((n.find key).1:Int),.bool (n.find key).2])/\ah No w w':=by
 cases bL:n.leaf
 ·have HB:=aa (fun w h=>acZ n.keys key _ (Az.uI (h2 bL) key) w F A2 c2 h hn.b2 hn.l2)
  have hf:n.find key=(jX n.keys key+(if n.keys[jX n.keys key]?=some key then 1 else 0),decide (n.keys[jX n.keys key]?=some key)):=by simp[Nd.find,bL]
  rw[hf];have T9:=xe n.keys key;have dO:=hn.b2;have HK:=aa hn.keys;generalize jX n.keys key=i at HB T9
  by_cases he:n.keys[i]?=some key
  ·rw[if_pos he]
   have hd:decide (n.keys[i]?=some key)=true:=by simpa using he
   rw[hd]at HB ⊢;simp only[Nd.value,bL];clear he hd hf bL hn h1 h2;go_enter Tryz.func95,Tryz.ntmps95;go_wp2_with fail;refine(HB.out _ (HK.out.ext ((ah.refl _ w).alloc _))).mono ?_;rintro e w1 ⟨rfl,hx⟩;go_wp2_with fail;go_ret2;exact⟨by go_num,((ah.refl No w).alloc _).ag hx⟩
  ·rw[if_neg he]
   have hd:decide (n.keys[i]?=some key)=false:=by simpa using he
   rw[hd]at HB ⊢;simp only[Nd.value,bL];clear he hd hf bL hn h1 h2;go_enter Tryz.func95,Tryz.ntmps95;go_wp2_with fail;refine(HB.out _ (HK.out.ext ((ah.refl _ w).alloc _))).mono ?_;rintro e w1 ⟨rfl,hx⟩;go_wp2_with fail;go_ret2;exact⟨rfl,((ah.refl No w).alloc _).ag hx⟩
 ·have HB:=aa (fun w h=>aas n.cells key _ (Az.uI (h1 bL) key) w F A1 c1 h hn.b1 hn.l1)
  have hf:n.find key=(jX (n.cells.map aA.key) key,decide ((n.cells[jX (n.cells.map aA.key) key]?).map aA.key=some key)):=by simp[Nd.find,bL]
  rw[hf];have HK:=aa hn.cells;generalize jX (n.cells.map aA.key) key=i at HB;generalize decide ((n.cells[i]?).map aA.key=some key)=d at HB;simp only[Nd.value,bL];clear hf bL hn h1 h2;go_enter Tryz.func95,Tryz.ntmps95;go_wp2_with fail;refine(HB.out _ (HK.out.ext ((ah.refl _ w).alloc _))).mono ?_;rintro e w1 ⟨rfl,hx⟩;go_wp2_with fail;go_ret2;exact⟨rfl,((ah.refl No w).alloc _).ag hx⟩
theorem fT {w:World}(t ty:TypeId) (base:Nat) (e:TypeId) (i:TypeInfo) (z:Value) (size bytes:Nat) (ht:Tryz.prog.underlying t=some (.slice e)) (hi:Tryz.prog.info? e=some i) (hz:i.zero=some z)
  (vI:i.size=size) (Sy:i.bytes=bytes) (hzs:z.cells.size=size) (eZ:0<size) (v:Value) (n:Nat) (xs:List Value) (aP:w.ownsRow base e size v n xs)
  (F:Nat->Prop) (A:Option Addr) (m c:Nat) (news:List Value) (hr:Rd w F size A m news) (pW:A=none->c=0) (h1:∀u∈news,u.oneCell'=true) (h63:n+m<=maxLen) (DD:(n+m)*bytes<=140737488355328) (DI:base<=w.heap.size) :
  ∃v' w',(Builtin.append_ #[t,t] ty #[v,.slice A m c]).run Tryz.prog w=.ok v' w'/\w'.ownsRow base e size v' (n+m) (xs++news)/\w.grownBy w' v.ownBlock:=by
 have go:∀ad,A=some ad->(∀j u,news[j]?=some u->w.cell? (ad.add j)=some u)->∃v' w',(Builtin.append_ #[t,t] ty #[v,.slice A m c]).run Tryz.prog w=.ok v' w'/\w'.ownsRow base e size v' (n+m) (xs++news)/\w.grownBy w' v.ownBlock:=by
  rintro ad rfl aea;obtain⟨v',w',g_,h2,h3,_,_⟩:=run_append_own_at (P:=Tryz.prog) w base t ty e i z size bytes ht hi hz vI Sy hzs eZ v n xs aP ad m c news hr.1 aea h1 h63 DD DI;exact⟨v',w',g_,h2,h3⟩
 rcases Nat.eq_zero_or_pos m with hm|hm
 ·have uN:news = []:=List.eq_nil_of_length_eq_zero (by rw[hr.1,hm,Nat.zero_mul])
  cases A with
  | none =>
   have hc:=pW rfl;subst hm;subst hc;subst uN;exact⟨v,w,run_append_owned_none (P:=Tryz.prog) (w:=w) base t ty e i size ht hi v n xs aP,by simpa using aP,⟨rfl,rfl,rfl,Nat.le_refl _,fun _ _ _=>rfl⟩⟩
  | some ad=>exact go ad rfl (fun j u hu=>by rw[uN]at hu;simp at hu)
 ·obtain⟨b,o,hA,_,hc⟩:=hr.2 hm
  refine go _ hA (fun j u hu=>?_);have Z4:(⟨b,o,none⟩:Addr).add j=⟨b,o+j,none⟩:=by
   unfold Addr.add;split
   ·rename_i h;have:j=0:=by simpa using h
    subst this;rfl
   ·rfl
  rw[Z4];exact hc j u hu
theorem jo {w:World}{base:Nat}{e:TypeId}{sz n:Nat}{v:Value}{xs:List Value}(h:w.ownsRow base e sz v n xs):∃A c,v=.slice A n c:=by
 rcases h.2 with ⟨rfl,rfl⟩|⟨g,cap,cur,rfl,_⟩
 ·exact⟨none,0,rfl⟩
 ·exact⟨_,_,rfl⟩
theorem fU {w:World}{base:Nat}{e:TypeId}{sz n:Nat}{v:Value}{xs:List Value}(h:w.ownsRow base e sz v n xs) {F:Nat->Prop}{B:Nat}(hB:B<=base):∀g',v.ownBlock=some g'->F g'\/B<=g':=by
 intro g' e';have:=h.lt g' e';exact .inr (by omega)
def zu (e:TypeId) (sz:Nat) (w:World) (xs:List Value) (n:Nat) (en:Ending) (w':World):Prop :=
 ∃A c,en=.returned (.slice A n c)/\w'.ownsRow w.heap.size e sz (.slice A n c) n xs/\ah No w w'
structure dC where
 A:Option Addr
 n:Nat
 c:Nat
 xs:List Value
structure dC.Ok (w:World) (sz:Nat) (p:dC):Prop where
 rd:Rd w No sz p.A p.n p.xs
 e:p.A=none->p.c=0
 one:∀u∈p.xs,u.oneCell'=true
 cap:p.n<=p.c
def dC.v (p:dC):Value:=.slice p.A p.n p.c
def bP (ps:List dC):Nat:=(ps.map dC.n).sum
def eO (ps:List dC):List Value:=ps.flatMap dC.xs
theorem kN (ps:List dC) (k:Nat) (p:dC) (h:ps[k]?=some p):bP (ps.take (k+1))=bP (ps.take k)+p.n:=by
 rw[List.take_add_one,h];simp[bP]
theorem tT (ps:List dC) (k:Nat) (p:dC) (h:ps[k]?=some p):eO (ps.take (k+1))=eO (ps.take k)++p.xs:=by
 rw[List.take_add_one,h];simp[eO]
theorem Cf (ps:List dC):∀k,bP (ps.take k)<=bP ps:=by
 induction ps with
 | nil=>intro k;simp
 | cons p ps ih =>
  intro k
  match k with
  | 0=>simp[bP]
  | k+1=>have:=ih k;simp only[bP,List.take_succ_cons,List.map_cons,List.sum_cons]at *;omega
theorem I1 (n:Nat) (w:World) (hn:n<100000) :
  Calls Tryz.prog 176 #[.slice none 0 0,.int .i64 (n:Int)] w (zu 9 1 w [] 0):=by
 obtain⟨i0,mi,eQ,fe,eP⟩:=info_parts Tryz.Ak
 by_cases h0:n=0
 ·subst h0
  go_enter Tryz.func176,Tryz.ntmps176;go_wp2_with fail;go_ret;exact⟨none,0,rfl,World.ownsRow_nil _ _ _ _,ah.refl _ _⟩
 ·have hp:0<n:=by omega
  have g_:=fun(w:World)=>Lib.run_append_nil_zeros (P:=Tryz.prog) w 38 3 38 9 i0 _ .i64 .i64 Tryz.underlying38 Tryz.underlying3 mi eQ n hp (by omega) (by omega) (by rw[eP];omega)
  have iC:=grownCap_ge w n 0 9;have LF:=grownCap_le_maxLen w n 0 9 (by unfold maxLen;omega);have HG:=aa iC;have HR:=aa g_;have HL:=aa LF;unfold maxLen at LF;clear g_ h0;generalize hcap:grownCap w n 0 9=cp at iC LF;have hcp:(0:Int)<=(cp:Int):=by omega
  go_enter Tryz.func176,Tryz.ntmps176;go_wp2_with (at_builtin;refine Lib.wpList_append_run _ rfl (.tmp 20) (.tmp 21) 38 3 rfl _ _ rfl rfl _ _ (HR.out _) ?_);go_ret;refine⟨some ⟨w.heap.size,0,none⟩,cp,rfl,⟨by simp,.inr ⟨w.heap.size,cp,_,rfl,Nat.le_refl _,heap_alloc_new w _,by omega,by rw[<-hcap];exact HL.out,?_,by simp⟩⟩,((ah.refl No w).alloc _).drew⟩;rw[Array.size_append,size_zeroCells,size_zeroCells];show n*1+(cp-n)*1=cp*1;omega
theorem um (ps:List dC) (b m cap:Nat) (w:World) (hm:ps.length=m) (hps:∀p∈ps,p.Ok w 1) (yX:bP ps<100000) (hml:m<100) (hmc:m<=cap)
  (hc:∀j p,ps[j]?=some p->w.cell? ⟨b,j,none⟩=some p.v) :
  Calls Tryz.prog 135 #[.slice (some ⟨b,0,none⟩) m cap] w (zu 9 1 w (eO ps) (bP ps)):=by
 obtain⟨i0,mi,eQ,fe,eP⟩:=info_parts Tryz.Ak;have HP:=aa hps;have HC:=aa hc;have HM:=aa hm;have Ul:=aa (fun w=>I1 (bP ps) w yX);have HT:=aa (fun k=>Cf ps k);clear hps hc hm;go_enter Tryz.func135,Tryz.ntmps135;go_wp2_with fail;go_loopg [3,11] m (fun gk s i wr=>∃(k:Nat),k+gk=m/\i=.int .i64 (k:Int)/\s=.int .i64 (bP (ps.take k):Int)/\w=wr)
 case atStart=>exact⟨0,by omega,rfl,rfl,rfl⟩
 case round =>
  obtain⟨k,jK,rfl,rfl,rfl⟩:=hrel;have jS:=aa jK;have hk:k<=m:=by omega
  clear jK;have ht:=HT.out k
  by_cases bu:k<m
  ·obtain⟨p,hp⟩:∃p,ps[k]?=some p:=⟨_,List.getElem?_eq_getElem (by rw[HM.out];exact bu)⟩
   have e0:=HC.out k p hp;have HE:=aa (kN ps k p hp);have Qn:=HT.out (k+1);rw[HE.out]at Qn;generalize bP (ps.take k)=s0 at ht Qn HE ⊢;clear hp;unfold dC.v at e0;go_wp2_with fail;go_roundg (gk-1)
   case rel=>exact⟨k+1,by have:=jS.out;omega,by go_num,by rw[HE.out];go_num,rfl⟩
   case measure=>have:=jS.out;omega
  ·have qN:k=m:=by omega
   have TY:bP (ps.take k)=bP ps:=by rw[qN,<-HM.out,List.take_length]
   rw[TY];clear TY qN ht;go_wp2_with fail;refine(Ul.out _).mono ?_;rintro e w1 ⟨A,c,rfl,ik,hx⟩;have TG:=aa ik;have HX:=aa hx;have eZ:=hx.size;clear ik hx;go_wp2_with fail;go_loopg [6,27] m (fun gk v i wr=>∃(k:Nat),k+gk=m/\i=.int .i64 (k:Int)/\wr.ownsRow w.heap.size 9 1 v (bP (ps.take k)) (eO (ps.take k))/\ah No w wr)
   case atStart=>exact⟨0,by omega,rfl,by simpa[bP,eO]using TG.out,HX.out⟩
   case round =>
    obtain⟨k,jK,rfl,aP,hE⟩:=hrel;have jS:=aa jK;have HO:=aa aP;have HE:=aa hE;have hk:k<=m:=by omega
    have eZ:=hE.size;clear jK aP hE;have ht:=HT.out k
    by_cases bu:k<m
    ·obtain⟨p,hp⟩:∃p,ps[k]?=some p:=⟨_,List.getElem?_eq_getElem (by rw[HM.out];exact bu)⟩
     have e0:=aj HE.out (HC.out k p hp) (fun h=>h);have yz:=aa (kN ps k p hp);have fQ:=aa (tT ps k p hp);have Qn:=HT.out (k+1);have Ng:=HP.out p (List.mem_of_getElem? hp);rw[yz.out]at Qn;unfold dC.v at e0;clear hp;obtain⟨v',w2,g_,bJ,hg⟩:=fT 38 38 w.heap.size 9 i0 _ 1 16 Tryz.underlying38 mi eQ fe eP rfl (by decide) _ _ _ HO.out No p.A p.n p.c p.xs (Ng.rd.ext HE.out) Ng.e Ng.one (by unfold maxLen;omega) (by omega) eZ;have sD:=aa bJ;have HG:=aa hg;have Js:=aa g_;clear bJ hg Ng g_;go_wp2_with (at_builtin;refine Lib.wpList_append_run _ rfl (.tmp 31) (.tmp 32) 38 38 rfl _ _ rfl rfl _ _ Js.out ?_);go_wp2_with fail;go_roundg (gk-1)
     case rel=>exact⟨k+1,by have:=jS.out;omega,by go_num,by rw[yz.out,fQ.out];exact sD.out,HE.out.grown HG.out (fU HO.out (Nat.le_refl _))⟩
     case measure=>have:=jS.out;omega
    ·have qN:k=m:=by omega
     have HKE:=aa qN;obtain⟨A',c',hv⟩:=jo HO.out;subst hv;clear qN ht;go_wp2_with fail;go_ret;have hT:=HO.out;have e1:ps.take k=ps:=by rw[HKE.out,<-HM.out,List.take_length]
     rw[e1]at hT ⊢;exact⟨A',c',rfl,hT,HE.out⟩
theorem O3 (n:Nat) (w:World) (hn:n<100000) :
  Calls Tryz.prog 187 #[.slice none 0 0,.int .i64 (n:Int)] w (zu 45 4 w [] 0):=by
 obtain⟨i0,mi,eQ,fe,eP⟩:=info_parts Tryz.yS
 by_cases h0:n=0
 ·subst h0
  go_enter Tryz.func187,Tryz.ntmps187;go_wp2_with fail;go_ret;exact⟨none,0,rfl,World.ownsRow_nil _ _ _ _,ah.refl _ _⟩
 ·have hp:0<n:=by omega
  have g_:=fun(w:World)=>Lib.run_append_nil_zeros (P:=Tryz.prog) w 37 3 37 45 i0 _ .i64 .i64 Tryz.underlying37 Tryz.underlying3 mi eQ n hp (by omega) (by omega) (by rw[eP];omega)
  have iC:=grownCap_ge w n 0 45;have LF:=grownCap_le_maxLen w n 0 45 (by unfold maxLen;omega);have HG:=aa iC;have HR:=aa g_;have HL:=aa LF;unfold maxLen at LF;clear g_ h0;generalize hcap:grownCap w n 0 45=cp at iC LF;have hcp:(0:Int)<=(cp:Int):=by omega
  go_enter Tryz.func187,Tryz.ntmps187;go_wp2_with (at_builtin;refine Lib.wpList_append_run _ rfl (.tmp 20) (.tmp 21) 37 3 rfl _ _ rfl rfl _ _ (HR.out _) ?_);go_ret;refine⟨some ⟨w.heap.size,0,none⟩,cp,rfl,⟨by simp,.inr ⟨w.heap.size,cp,_,rfl,Nat.le_refl _,heap_alloc_new w _,by omega,by rw[<-hcap];exact HL.out,?_,by simp⟩⟩,((ah.refl No w).alloc _).drew⟩;rw[Array.size_append,size_zeroCells,size_zeroCells];show n*4+(cp-n)*4=cp*4;omega
theorem kC (ps:List dC) (b m cap:Nat) (w:World) (hm:ps.length=m) (hps:∀p∈ps,p.Ok w 4) (yX:bP ps<100000) (hml:m<100) (hmc:m<=cap)
  (hc:∀j p,ps[j]?=some p->w.cell? ⟨b,j,none⟩=some p.v) :
  Calls Tryz.prog 147 #[.slice (some ⟨b,0,none⟩) m cap] w (zu 45 4 w (eO ps) (bP ps)):=by
 obtain⟨i0,mi,eQ,fe,eP⟩:=info_parts Tryz.yS;have HP:=aa hps;have HC:=aa hc;have HM:=aa hm;have Ul:=aa (fun w=>O3 (bP ps) w yX);have HT:=aa (fun k=>Cf ps k);clear hps hc hm;go_enter Tryz.func147,Tryz.ntmps147;go_wp2_with fail;go_loopg [3,11] m (fun gk s i wr=>∃(k:Nat),k+gk=m/\i=.int .i64 (k:Int)/\s=.int .i64 (bP (ps.take k):Int)/\w=wr)
 case atStart=>exact⟨0,by omega,rfl,rfl,rfl⟩
 case round =>
  obtain⟨k,jK,rfl,rfl,rfl⟩:=hrel;have jS:=aa jK;have hk:k<=m:=by omega
  clear jK;have ht:=HT.out k
  by_cases bu:k<m
  ·obtain⟨p,hp⟩:∃p,ps[k]?=some p:=⟨_,List.getElem?_eq_getElem (by rw[HM.out];exact bu)⟩
   have e0:=HC.out k p hp;have HE:=aa (kN ps k p hp);have Qn:=HT.out (k+1);rw[HE.out]at Qn;generalize bP (ps.take k)=s0 at ht Qn HE ⊢;clear hp;unfold dC.v at e0;go_wp2_with fail;go_roundg (gk-1)
   case rel=>exact⟨k+1,by have:=jS.out;omega,by go_num,by rw[HE.out];go_num,rfl⟩
   case measure=>have:=jS.out;omega
  ·have qN:k=m:=by omega
   have TY:bP (ps.take k)=bP ps:=by rw[qN,<-HM.out,List.take_length]
   rw[TY];clear TY qN ht;go_wp2_with fail;refine(Ul.out _).mono ?_;rintro e w1 ⟨A,c,rfl,ik,hx⟩;have TG:=aa ik;have HX:=aa hx;have eZ:=hx.size;clear ik hx;go_wp2_with fail;go_loopg [6,27] m (fun gk v i wr=>∃(k:Nat),k+gk=m/\i=.int .i64 (k:Int)/\wr.ownsRow w.heap.size 45 4 v (bP (ps.take k)) (eO (ps.take k))/\ah No w wr)
   case atStart=>exact⟨0,by omega,rfl,by simpa[bP,eO]using TG.out,HX.out⟩
   case round =>
    obtain⟨k,jK,rfl,aP,hE⟩:=hrel;have jS:=aa jK;have HO:=aa aP;have HE:=aa hE;have hk:k<=m:=by omega
    have eZ:=hE.size;clear jK aP hE;have ht:=HT.out k
    by_cases bu:k<m
    ·obtain⟨p,hp⟩:∃p,ps[k]?=some p:=⟨_,List.getElem?_eq_getElem (by rw[HM.out];exact bu)⟩
     have e0:=aj HE.out (HC.out k p hp) (fun h=>h);have yz:=aa (kN ps k p hp);have fQ:=aa (tT ps k p hp);have Qn:=HT.out (k+1);have Ng:=HP.out p (List.mem_of_getElem? hp);rw[yz.out]at Qn;unfold dC.v at e0;clear hp;obtain⟨v',w2,g_,bJ,hg⟩:=fT 37 37 w.heap.size 45 i0 _ 4 48 Tryz.underlying37 mi eQ fe eP rfl (by decide) _ _ _ HO.out No p.A p.n p.c p.xs (Ng.rd.ext HE.out) Ng.e Ng.one (by unfold maxLen;omega) (by omega) eZ;have sD:=aa bJ;have HG:=aa hg;have Js:=aa g_;clear bJ hg Ng g_;go_wp2_with (at_builtin;refine Lib.wpList_append_run _ rfl (.tmp 31) (.tmp 32) 37 37 rfl _ _ rfl rfl _ _ Js.out ?_);go_wp2_with fail;go_roundg (gk-1)
     case rel=>exact⟨k+1,by have:=jS.out;omega,by go_num,by rw[yz.out,fQ.out];exact sD.out,HE.out.grown HG.out (fU HO.out (Nat.le_refl _))⟩
     case measure=>have:=jS.out;omega
    ·have qN:k=m:=by omega
     have HKE:=aa qN;obtain⟨A',c',hv⟩:=jo HO.out;subst hv;clear qN ht;go_wp2_with fail;go_ret;have hT:=HO.out;have e1:ps.take k=ps:=by rw[HKE.out,<-HM.out,List.take_length]
     rw[e1]at hT ⊢;exact⟨A',c',rfl,hT,HE.out⟩
theorem SI (n:Nat) (w:World) (hn:n<100000) :
  Calls Tryz.prog 225 #[.slice none 0 0,.int .i64 (n:Int)] w (zu 3 1 w [] 0):=by
 obtain⟨i0,mi,eQ,fe,eP⟩:=info_parts Tryz.info3
 by_cases h0:n=0
 ·subst h0
  go_enter Tryz.func225,Tryz.ntmps225;go_wp2_with fail;go_ret;exact⟨none,0,rfl,World.ownsRow_nil _ _ _ _,ah.refl _ _⟩
 ·have hp:0<n:=by omega
  have g_:=fun(w:World)=>Lib.run_append_nil_zeros (P:=Tryz.prog) w 35 3 35 3 i0 _ .i64 .i64 Tryz.underlying35 Tryz.underlying3 mi eQ n hp (by omega) (by omega) (by rw[eP];omega)
  have iC:=grownCap_ge w n 0 3;have LF:=grownCap_le_maxLen w n 0 3 (by unfold maxLen;omega);have HG:=aa iC;have HR:=aa g_;have HL:=aa LF;unfold maxLen at LF;clear g_ h0;generalize hcap:grownCap w n 0 3=cp at iC LF;have hcp:(0:Int)<=(cp:Int):=by omega
  go_enter Tryz.func225,Tryz.ntmps225;go_wp2_with (at_builtin;refine Lib.wpList_append_run _ rfl (.tmp 20) (.tmp 21) 35 3 rfl _ _ rfl rfl _ _ (HR.out _) ?_);go_ret;refine⟨some ⟨w.heap.size,0,none⟩,cp,rfl,⟨by simp,.inr ⟨w.heap.size,cp,_,rfl,Nat.le_refl _,heap_alloc_new w _,by omega,by rw[<-hcap];exact HL.out,?_,by simp⟩⟩,((ah.refl No w).alloc _).drew⟩;rw[Array.size_append,size_zeroCells,size_zeroCells];show n*1+(cp-n)*1=cp*1;omega
theorem Mw (ps:List dC) (b m cap:Nat) (w:World) (hm:ps.length=m) (hps:∀p∈ps,p.Ok w 1) (yX:bP ps<100000) (hml:m<100) (hmc:m<=cap)
  (hc:∀j p,ps[j]?=some p->w.cell? ⟨b,j,none⟩=some p.v) :
  Calls Tryz.prog 207 #[.slice (some ⟨b,0,none⟩) m cap] w (zu 3 1 w (eO ps) (bP ps)):=by
 obtain⟨i0,mi,eQ,fe,eP⟩:=info_parts Tryz.info3;have HP:=aa hps;have HC:=aa hc;have HM:=aa hm;have Ul:=aa (fun w=>SI (bP ps) w yX);have HT:=aa (fun k=>Cf ps k);clear hps hc hm;go_enter Tryz.func207,Tryz.ntmps207;go_wp2_with fail;go_loopg [3,11] m (fun gk s i wr=>∃(k:Nat),k+gk=m/\i=.int .i64 (k:Int)/\s=.int .i64 (bP (ps.take k):Int)/\w=wr)
 case atStart=>exact⟨0,by omega,rfl,rfl,rfl⟩
 case round =>
  obtain⟨k,jK,rfl,rfl,rfl⟩:=hrel;have jS:=aa jK;have hk:k<=m:=by omega
  clear jK;have ht:=HT.out k
  by_cases bu:k<m
  ·obtain⟨p,hp⟩:∃p,ps[k]?=some p:=⟨_,List.getElem?_eq_getElem (by rw[HM.out];exact bu)⟩
   have e0:=HC.out k p hp;have HE:=aa (kN ps k p hp);have Qn:=HT.out (k+1);rw[HE.out]at Qn;generalize bP (ps.take k)=s0 at ht Qn HE ⊢;clear hp;unfold dC.v at e0;go_wp2_with fail;go_roundg (gk-1)
   case rel=>exact⟨k+1,by have:=jS.out;omega,by go_num,by rw[HE.out];go_num,rfl⟩
   case measure=>have:=jS.out;omega
  ·have qN:k=m:=by omega
   have TY:bP (ps.take k)=bP ps:=by rw[qN,<-HM.out,List.take_length]
   rw[TY];clear TY qN ht;go_wp2_with fail;refine(Ul.out _).mono ?_;rintro e w1 ⟨A,c,rfl,ik,hx⟩;have TG:=aa ik;have HX:=aa hx;have eZ:=hx.size;clear ik hx;go_wp2_with fail;go_loopg [6,27] m (fun gk v i wr=>∃(k:Nat),k+gk=m/\i=.int .i64 (k:Int)/\wr.ownsRow w.heap.size 3 1 v (bP (ps.take k)) (eO (ps.take k))/\ah No w wr)
   case atStart=>exact⟨0,by omega,rfl,by simpa[bP,eO]using TG.out,HX.out⟩
   case round =>
    obtain⟨k,jK,rfl,aP,hE⟩:=hrel;have jS:=aa jK;have HO:=aa aP;have HE:=aa hE;have hk:k<=m:=by omega
    have eZ:=hE.size;clear jK aP hE;have ht:=HT.out k
    by_cases bu:k<m
    ·obtain⟨p,hp⟩:∃p,ps[k]?=some p:=⟨_,List.getElem?_eq_getElem (by rw[HM.out];exact bu)⟩
     have e0:=aj HE.out (HC.out k p hp) (fun h=>h);have yz:=aa (kN ps k p hp);have fQ:=aa (tT ps k p hp);have Qn:=HT.out (k+1);have Ng:=HP.out p (List.mem_of_getElem? hp);rw[yz.out]at Qn;unfold dC.v at e0;clear hp;obtain⟨v',w2,g_,bJ,hg⟩:=fT 35 35 w.heap.size 3 i0 _ 1 8 Tryz.underlying35 mi eQ fe eP rfl (by decide) _ _ _ HO.out No p.A p.n p.c p.xs (Ng.rd.ext HE.out) Ng.e Ng.one (by unfold maxLen;omega) (by omega) eZ;have sD:=aa bJ;have HG:=aa hg;have Js:=aa g_;clear bJ hg Ng g_;go_wp2_with (at_builtin;refine Lib.wpList_append_run _ rfl (.tmp 31) (.tmp 32) 35 35 rfl _ _ rfl rfl _ _ Js.out ?_);go_wp2_with fail;go_roundg (gk-1)
     case rel=>exact⟨k+1,by have:=jS.out;omega,by go_num,by rw[yz.out,fQ.out];exact sD.out,HE.out.grown HG.out (fU HO.out (Nat.le_refl _))⟩
     case measure=>have:=jS.out;omega
    ·have qN:k=m:=by omega
     have HKE:=aa qN;obtain⟨A',c',hv⟩:=jo HO.out;subst hv;clear qN ht;go_wp2_with fail;go_ret;have hT:=HO.out;have e1:ps.take k=ps:=by rw[HKE.out,<-HM.out,List.take_length]
     rw[e1]at hT ⊢;exact⟨A',c',rfl,hT,HE.out⟩
theorem gY (p:dC) (w:World) (hp:p.Ok w 1) (hn:p.n<100000) :
  Calls Tryz.prog 124 #[p.v] w (zu 9 1 w p.xs p.n):=by
 obtain⟨i0,mi,eQ,fe,eP⟩:=info_parts Tryz.Ak;obtain⟨A,n,c,xs⟩:=p;have bY:=hp.rd.1;simp only[dC.v]at hn bY ⊢;cases A with
 | none =>
  have hc:c=0:=hp.e rfl;have uN:n=0:=by
   rcases Nat.eq_zero_or_pos n with h|h
   ·exact h
   ·obtain⟨b,o,hA,_⟩:=hp.rd.2 h;cases hA
  subst hc;subst uN;have hx:xs = []:=List.eq_nil_of_length_eq_zero (by simpa using bY);subst hx;clear hp bY;have he:=fun w=>Lib.run_eql_slice_nil (P:=Tryz.prog) w 38 9 none 0 0 0 0 Tryz.underlying38
  simp only[Option.isNone_none]at he;go_enter Tryz.func124,Tryz.ntmps124;go_wp2_with fail;go_ret;exact⟨none,0,rfl,World.ownsRow_nil _ _ _ _,ah.refl _ _⟩
 | some ad =>
  have hx:ah No w (w.alloc (.cells #[] 9)):=(ah.refl No w).alloc _;have ik:=World.ownsRow_lit (base:=w.heap.size) (e:=9) (size:=1) w #[] 0 (Nat.le_refl _) (by decide) (by simp);obtain⟨v',w2,g_,bJ,hg⟩:=fT (w:=w.alloc (.cells #[] 9)) 38 38 w.heap.size 9 i0 _ 1 16 Tryz.underlying38 mi eQ fe eP rfl (by decide) _ _ _ ik No (some ad) n c xs (hp.rd.ext hx) hp.e hp.one (by unfold maxLen;omega) (by omega) (by simp);have sD:=aa bJ;have HG:=aa hg;have Js:=aa g_;have HX:=aa hx;have TG:=aa ik;clear hp bY bJ hg g_ hx ik;have he:=fun w=>Lib.run_eql_slice_nil (P:=Tryz.prog) w 38 9 (some ad) n c 0 0 Tryz.underlying38
  simp only[Option.isNone_some]at he;go_enter Tryz.func124,Tryz.ntmps124;go_wp2_with (at_builtin;refine Lib.wpList_append_run _ rfl (.tmp 5) (.tmp 6) 38 38 rfl _ _ rfl rfl _ _ Js.out ?_);obtain⟨A',c',hv⟩:=jo sD.out;subst hv;go_wp2_with fail;go_ret;have hT:=sD.out;simp only[Nat.zero_add,List.nil_append]at hT ⊢;exact⟨A',c',rfl,by simpa using hT,HX.out.grown HG.out (fU TG.out (Nat.le_refl _))⟩
theorem MB (p:dC) (w:World) (hp:p.Ok w 4) (hn:p.n<100000) :
  Calls Tryz.prog 204 #[p.v] w (zu 45 4 w p.xs p.n):=by
 obtain⟨i0,mi,eQ,fe,eP⟩:=info_parts Tryz.yS;obtain⟨A,n,c,xs⟩:=p;have bY:=hp.rd.1;simp only[dC.v]at hn bY ⊢;cases A with
 | none =>
  have hc:c=0:=hp.e rfl;have uN:n=0:=by
   rcases Nat.eq_zero_or_pos n with h|h
   ·exact h
   ·obtain⟨b,o,hA,_⟩:=hp.rd.2 h;cases hA
  subst hc;subst uN;have hx:xs = []:=List.eq_nil_of_length_eq_zero (by simpa using bY);subst hx;clear hp bY;have he:=fun w=>Lib.run_eql_slice_nil (P:=Tryz.prog) w 37 45 none 0 0 0 0 Tryz.underlying37
  simp only[Option.isNone_none]at he;go_enter Tryz.func204,Tryz.ntmps204;go_wp2_with fail;go_ret;exact⟨none,0,rfl,World.ownsRow_nil _ _ _ _,ah.refl _ _⟩
 | some ad =>
  have hx:ah No w (w.alloc (.cells #[] 45)):=(ah.refl No w).alloc _;have ik:=World.ownsRow_lit (base:=w.heap.size) (e:=45) (size:=4) w #[] 0 (Nat.le_refl _) (by decide) (by simp);obtain⟨v',w2,g_,bJ,hg⟩:=fT (w:=w.alloc (.cells #[] 45)) 37 37 w.heap.size 45 i0 _ 4 48 Tryz.underlying37 mi eQ fe eP rfl (by decide) _ _ _ ik No (some ad) n c xs (hp.rd.ext hx) hp.e hp.one (by unfold maxLen;omega) (by omega) (by simp);have sD:=aa bJ;have HG:=aa hg;have Js:=aa g_;have HX:=aa hx;have TG:=aa ik;clear hp bY bJ hg g_ hx ik;have he:=fun w=>Lib.run_eql_slice_nil (P:=Tryz.prog) w 37 45 (some ad) n c 0 0 Tryz.underlying37
  simp only[Option.isNone_some]at he;go_enter Tryz.func204,Tryz.ntmps204;go_wp2_with (at_builtin;refine Lib.wpList_append_run _ rfl (.tmp 5) (.tmp 6) 37 37 rfl _ _ rfl rfl _ _ Js.out ?_);obtain⟨A',c',hv⟩:=jo sD.out;subst hv;go_wp2_with fail;go_ret;have hT:=sD.out;simp only[Nat.zero_add,List.nil_append]at hT ⊢;exact⟨A',c',rfl,by simpa using hT,HX.out.grown HG.out (fU TG.out (Nat.le_refl _))⟩
theorem wF (p:dC) (w:World) (hp:p.Ok w 1) (hn:p.n<100000) :
  Calls Tryz.prog 146 #[p.v] w (zu 3 1 w p.xs p.n):=by
 obtain⟨i0,mi,eQ,fe,eP⟩:=info_parts Tryz.info3;obtain⟨A,n,c,xs⟩:=p;have bY:=hp.rd.1;simp only[dC.v]at hn bY ⊢;cases A with
 | none =>
  have hc:c=0:=hp.e rfl;have uN:n=0:=by
   rcases Nat.eq_zero_or_pos n with h|h
   ·exact h
   ·obtain⟨b,o,hA,_⟩:=hp.rd.2 h;cases hA
  subst hc;subst uN;have hx:xs = []:=List.eq_nil_of_length_eq_zero (by simpa using bY);subst hx;clear hp bY;have he:=fun w=>Lib.run_eql_slice_nil (P:=Tryz.prog) w 35 3 none 0 0 0 0 Tryz.underlying35
  simp only[Option.isNone_none]at he;go_enter Tryz.func146,Tryz.ntmps146;go_wp2_with fail;go_ret;exact⟨none,0,rfl,World.ownsRow_nil _ _ _ _,ah.refl _ _⟩
 | some ad =>
  have hx:ah No w (w.alloc (.cells #[] 3)):=(ah.refl No w).alloc _;have ik:=World.ownsRow_lit (base:=w.heap.size) (e:=3) (size:=1) w #[] 0 (Nat.le_refl _) (by decide) (by simp);obtain⟨v',w2,g_,bJ,hg⟩:=fT (w:=w.alloc (.cells #[] 3)) 35 35 w.heap.size 3 i0 _ 1 8 Tryz.underlying35 mi eQ fe eP rfl (by decide) _ _ _ ik No (some ad) n c xs (hp.rd.ext hx) hp.e hp.one (by unfold maxLen;omega) (by omega) (by simp);have sD:=aa bJ;have HG:=aa hg;have Js:=aa g_;have HX:=aa hx;have TG:=aa ik;clear hp bY bJ hg g_ hx ik;have he:=fun w=>Lib.run_eql_slice_nil (P:=Tryz.prog) w 35 3 (some ad) n c 0 0 Tryz.underlying35
  simp only[Option.isNone_some]at he;go_enter Tryz.func146,Tryz.ntmps146;go_wp2_with (at_builtin;refine Lib.wpList_append_run _ rfl (.tmp 5) (.tmp 6) 35 35 rfl _ _ rfl rfl _ _ Js.out ?_);obtain⟨A',c',hv⟩:=jo sD.out;subst hv;go_wp2_with fail;go_ret;have hT:=sD.out;simp only[Nat.zero_add,List.nil_append]at hT ⊢;exact⟨A',c',rfl,by simpa using hT,HX.out.grown HG.out (fU TG.out (Nat.le_refl _))⟩
theorem Tryz.Ot:(Tryz.prog.info? 5).map (fun i=>(i.zero,i.size,i.bytes))=some (some (.int .u8 0),1,1):=by kernel_rfl
theorem MC (p:dC) (w:World) (hp:p.Ok w 1) (hn:p.n<5000000) :
  Calls Tryz.prog 113 #[p.v] w (zu 5 1 w p.xs p.n):=by
 obtain⟨i0,mi,eQ,fe,eP⟩:=info_parts Tryz.Ot;obtain⟨A,n,c,xs⟩:=p;have bY:=hp.rd.1;simp only[dC.v]at hn bY ⊢;cases A with
 | none =>
  have hc:c=0:=hp.e rfl;have uN:n=0:=by
   rcases Nat.eq_zero_or_pos n with h|h
   ·exact h
   ·obtain⟨b,o,hA,_⟩:=hp.rd.2 h;cases hA
  subst hc;subst uN;have hx:xs = []:=List.eq_nil_of_length_eq_zero (by simpa using bY);subst hx;clear hp bY;have he:=fun w=>Lib.run_eql_slice_nil (P:=Tryz.prog) w 98 5 none 0 0 0 0 Tryz.underlying98
  simp only[Option.isNone_none]at he;go_enter Tryz.func113,Tryz.ntmps113;go_wp2_with fail;go_ret;exact⟨none,0,rfl,World.ownsRow_nil _ _ _ _,ah.refl _ _⟩
 | some ad =>
  have hx:ah No w (w.alloc (.cells #[] 5)):=(ah.refl No w).alloc _;have ik:=World.ownsRow_lit (base:=w.heap.size) (e:=5) (size:=1) w #[] 0 (Nat.le_refl _) (by decide) (by simp);obtain⟨v',w2,g_,bJ,hg⟩:=fT (w:=w.alloc (.cells #[] 5)) 98 98 w.heap.size 5 i0 _ 1 1 Tryz.underlying98 mi eQ fe eP rfl (by decide) _ _ _ ik No (some ad) n c xs (hp.rd.ext hx) hp.e hp.one (by unfold maxLen;omega) (by omega) (by simp);have sD:=aa bJ;have HG:=aa hg;have Js:=aa g_;have HX:=aa hx;have TG:=aa ik;clear hp bY bJ hg g_ hx ik;have he:=fun w=>Lib.run_eql_slice_nil (P:=Tryz.prog) w 98 5 (some ad) n c 0 0 Tryz.underlying98
  simp only[Option.isNone_some]at he;go_enter Tryz.func113,Tryz.ntmps113;go_wp2_with (at_builtin;refine Lib.wpList_append_run _ rfl (.tmp 5) (.tmp 6) 98 98 rfl _ _ rfl rfl _ _ Js.out ?_);obtain⟨A',c',hv⟩:=jo sD.out;subst hv;go_wp2_with fail;go_ret;have hT:=sD.out;simp only[Nat.zero_add,List.nil_append]at hT ⊢;exact⟨A',c',rfl,by simpa using hT,HX.out.grown HG.out (fU TG.out (Nat.le_refl _))⟩
section
variable {w:World}{D:Nat->Prop}{d kb:Nat}{k:Dk}
theorem acU (h:aF w D d kb k) (hd:k.down=false) (n:Nat) (hn:n<1000):Calls Tryz.prog 39 #[.pointer (some ⟨d,0,none⟩),.int .i64 (n:Int)] w fun e w'=>e=.returned (.int .i64 0)/\aF w' D d kb { k with armed:=true,left:=n }/\ah (On d) w w':=by
 have HU:=aa (Ml h);rw[hd]at HU;obtain⟨A,c,hb,c0,c1,c2,c3,c4,c5,bu,xI⟩:=h.c;have f3:=xI 3;have f4:=xI 4;have sH:On d d:=rfl
 have HR:Hid (aF ((w.setCell ⟨d,3,none⟩ (.bool true)).setCell ⟨d,4,none⟩ (.int .i64 (n:Int))) D d kb { k with armed:=true,left:=n }):=aa (by
  have h1:=h.set (k':={ k with armed:=true }) hb ((ah.refl _ _).ay (F:=On d) sH 3 (.bool true)) (hb.aQ 3 _) rfl rfl rfl
  exact h1.set (k':={ k with armed:=true,left:=n }) (hb.aQ 3 _) ((ah.refl _ _).ay (F:=On d) sH 4 _) ((hb.aQ 3 _).aQ 4 _) rfl rfl rfl)
 have iC:(0:Int)<=n:=by omega
 have T_:max (n:Int) 0=(n:Int):=by omega
 clear h xI;go_enter Tryz.func39,Tryz.ntmps39;go_wp2_with fail;refine(HU.out).mono ?_;rintro e w1 ⟨rfl,rfl⟩;go_wp2_with fail;go_ret;exact⟨rfl,HR.out,((ah.refl _ _).ay (F:=On d) sH 3 _).ay (F:=On d) sH 4 _⟩
theorem acT (h:aF w D d kb k) (hd:k.down=false):Calls Tryz.prog 41 #[.pointer (some ⟨d,0,none⟩)] w fun e w'=>e=.returned (.int .i64 0)/\aF w' D d kb { k with down:=true }/\ah (On d) w w':=by
 have HU:=aa (Ml h);rw[hd]at HU;obtain⟨A,c,hb,c0,c1,c2,c3,c4,c5,bu,xI⟩:=h.c;have f2:=xI 2;have sH:On d d:=rfl;have HR:Hid (aF (w.setCell ⟨d,2,none⟩ (.bool true)) D d kb { k with down:=true }):=aa (h.set hb ((ah.refl _ _).ay (F:=On d) sH 2 _) (hb.aQ 2 _) rfl rfl rfl);clear h xI;go_enter Tryz.func41,Tryz.ntmps41;go_wp2_with fail;refine(HU.out).mono ?_;rintro e w1 ⟨rfl,rfl⟩;go_wp2_with fail;go_ret;exact⟨rfl,HR.out,(ah.refl _ _).ay (F:=On d) sH 2 _⟩
end
def EH (ks:List Bool) (pd:List (Nat×Bs)):Nat->List (Nat×Bs)
 | 0=>[]
 | j+1=>EH ks pd j++(if ks.getD j false then (pd[j]?).toList else [])
theorem Kv (ks:List Bool) (pd:List (Nat×Bs)):∀j,(EH ks pd j).Sublist (pd.take j)
 | 0=>List.Sublist.refl _
 | j+1=>by
  rw[EH,List.take_add_one];refine(Kv ks pd j).append ?_;split
  ·exact List.Sublist.refl _
  ·exact List.nil_sublist _
def Dk.onto (k:Dk) (ks:List Bool) (j:Nat):Dk:={ k with K:=fun i=>(EH ks k.pd j).foldl (fun b p=>if p.1=i then p.2 else b) (k.K i) }
theorem Dk.RJ {k:Dk}{ks:List Bool}{j:Nat}{p:Nat×Bs}(hp:k.pd[j]?=some p) (hk:ks.getD j false=true):{ k.onto ks j with K:=fun i=>if p.1=i then p.2 else (k.onto ks j).K i }=k.onto ks (j+1):=by
 have e:(fun i=>if p.1=i then p.2 else (k.onto ks j).K i)=(k.onto ks (j+1)).K:=by
  funext i;show _=(EH ks k.pd (j+1)).foldl (fun b p=>if p.1=i then p.2 else b) (k.K i);rw[EH,if_pos hk,hp,Option.toList_some,yc];rfl
 rw[e];rfl
theorem Dk.FV {k:Dk}{ks:List Bool}{j:Nat}(hk:ks.getD j false=false):k.onto ks (j+1)=k.onto ks j:=by
 unfold Dk.onto;rw[show EH ks k.pd (j+1)=EH ks k.pd j by rw[EH,if_neg (by rw[hk];decide),List.append_nil]]
def Dk.on (k:Dk) (ks:List Bool):Dk:={ k.onto ks k.pd.length with pd:=[],down:=false,armed:=false,left:=0 }
theorem Dk.Za (k:Dk) (ks:List Bool):∃sub:List (Nat×Bs),sub.Sublist k.pd/\∀j,(k.on ks).K j=sub.foldl (fun b p=>if p.1=j then p.2 else b) (k.K j) :=
 ⟨EH ks k.pd k.pd.length,by have:=Kv ks k.pd k.pd.length;rwa[List.take_length]at this,fun _=>rfl⟩
theorem afb {w:World}{D:Nat->Prop}{d kb:Nat}{k:Dk}(h:aF w D d kb k) (mX:k.down=true) (tV:k.pd.length<2^30) (A0:Option Addr) (c0:Nat) (ks:List Bool) (wK:Rd w D 1 A0 ks.length (ks.map Value.bool)) (l_:ks.length<2^30) :
  Calls Tryz.prog 42 #[.pointer (some ⟨d,0,none⟩),.slice A0 ks.length c0] w fun e w'=>e=.returned (.int .i64 0)/\aF w' D d kb (k.on ks)/\ah D w w':=by
 have HN:=aa (QK h);have HH:=aa h;have HKS:=aa wK;obtain⟨A,c,_,y0,y1,y2,_,_,_,bu,_⟩:=h.c;rw[mX]at y2;have rC:=aa y1;have kV:=h.CG;have HPL:=aa kV;have sG:(k.pd.length:Int)<1073741824:=by omega
 have Yd:(ks.length:Int)<1073741824:=by omega
 clear h wK kV;go_enter Tryz.func42,Tryz.ntmps42;go_wp2_with fail;refine(HN.out).mono ?_;rintro e w1 ⟨rfl,rfl⟩;go_wp2_with fail;clear y0 y1 y2;go_loopg [21] k.pd.length (fun gk q21 wr=>∃j:Nat,j+gk=k.pd.length/\q21=.int .i64 (j:Int)/\Hid (aF wr D d kb (k.onto ks j))/\Hid (ah D w wr)/\Hid (wr.cell? ⟨d,1,none⟩=some (.slice A k.pd.length c)))
 case atStart=>exact⟨0,by omega,rfl,HH,aa (ah.refl _ _),rC⟩
 case round =>
  obtain⟨j,hk,rfl,HD,HX,HC⟩:=hrel;have HK:=aa hk
  by_cases hj:j<k.pd.length
  ·obtain⟨p,hp⟩:∃p,k.pd[j]?=some p:=⟨_,List.getElem?_eq_getElem hj⟩
   obtain⟨g,c9,x1,x2,x3,x4⟩:=yP HD.out hp;have hAc:A=some ⟨g,0,none⟩/\c=c9:=by
    rw[HC.out]at x1;injection x1 with e;injection e with e1 e2 e3;exact⟨e1,e3⟩
   obtain⟨rfl,rfl⟩:=hAc;have OG:=HPL.out p (List.mem_of_getElem? hp);have kV:=OG.2;have hpn:=OG.1;have iF:=aa x3;have YA:=aa kV;have dw:=oH wr (i:=p.1) kV;have gX:=dK (i:=p.1) kV;have HB:=aa (ax.new wr 144 (aZ p.1 p.2).toArray);have Ns:=aa ((ah.refl No wr).alloc (.cells (aZ p.1 p.2).toArray 144));have bu:d<wr.heap.size:=HD.out.old d HD.out.dd;have agQ:kb<wr.heap.size:=HD.out.old kb HD.out.dk;have hj1:(0:Int)<=j:=by omega
   have ZL:(j:Int)<k.pd.length:=by omega
   clear hk x1 x3 OG;go_upto_region 7 with fail;refine wp_region_lit ?_
   iterate 2 (refine wpList_step (fun K hK=>?_);go_simp;refine hK _ _ ?_;clear hK K)
   refine wpList_load_mid (P:=Tryz.prog) (by rfl) 144 (.tmp 24) (by rfl) g (j*65) (by rfl) (aZ p.1 p.2) _ iF.out Tryz.underlying144 rfl (by rw[dK YA.out];kernel_rfl) ?_;refine wpList_step (fun K hK=>?_);go_simp;refine hK _ _ ?_;clear hK K
   refine wpList_step (fun K hK=>?_);go_simp;refine hK _ _ ?_;clear hK K
   refine wpList_step (fun K hK=>?_);go_simp;refine hK _ _ ?_;clear hK K dw gX
   have hWs:(wr.alloc (.cells (aZ p.1 p.2).toArray 144)).heap.size=wr.heap.size+1:=by simp
   generalize wr.alloc (.cells (aZ p.1 p.2).toArray 144)=W at *;have HDW:=aa (HD.out.ext Ns.out (fun _ _ h=>h))
   by_cases iL:j<ks.length
   ·obtain⟨kb2,ko,u,hA0,_,hu,ku⟩:=((HKS.out.ext (HX.out.ag Ns.out.of_no))).at1 iL
    subst hA0;have lk:=World.block_lt_of_cell? W _ ku;simp only at lk;obtain⟨bb,uO⟩:∃bb,ks[j]?=some bb:=⟨_,List.getElem?_eq_getElem iL⟩;have hub:u=.bool bb:=by
     rw[List.getElem?_map,uO]at hu;exact(Option.some.inj hu).symm
    subst hub;have OT:ks.getD j false=bb:=by rw[List.getD_eq_getElem?_getD,uO];rfl
    have mo:(j:Int)<(ks.length:Int):=by omega
    cases bb
    ·have HSK:=aa (show k.onto ks (j+1)=k.onto ks j from Dk.FV OT)
     have HXF:=aa (HX.out.ag Ns.out.of_no);have HC9:Hid (W.cell? ⟨d,1,none⟩=some (.slice (some ⟨g,0,none⟩) k.pd.length c)):=aa (aj Ns.out HC.out (fun h=>h));clear uO OT iL hu hp;go_wp2_with fail;go_roundg (gk-1)
     case rel=>exact⟨j+1,by have:=HK.out;omega,by go_num,aa (by rw[HSK.out];exact HDW.out),HXF,HC9⟩
     case measure=>have:=HK.out;omega
    ·have HKB:=aa OT
     clear uO OT hu;go_upto_region 9 with fail;clear ku;have gF:=aa (HDW.out.ext ((ah.refl No W).drew) (fun _ _ h=>h));have nT:W.drew.cell? ⟨d,0,none⟩=some (.slice (some ⟨kb,0,none⟩) k.n k.n):=by
      obtain⟨_,_,_,y0,_⟩:=gF.out.c;exact y0
     have rW:W.drew.cell? ⟨wr.heap.size,0,none⟩=some (.int .i64 (p.1:Int)):=(HB.out.drewN 1).cell 0;have OD:W.drew.rangeAt wr.heap.size 1 (dn p.2):=fun x u hx=>by
      rw[show W.drew.cell? ⟨wr.heap.size,1+x,none⟩=_ from(HB.out.drewN 1).cell (1+x),Nat.add_comm];simpa[aZ]using hx
     have acH:(dn p.2).length=64:=by rw[lK,kV]
     have TW:ah (On kb) W.drew (W.drew.setCells kb (p.1*64) (dn p.2)):=ah.uE (F:=On kb) (b:=kb) rfl _ _ (ah.refl _ _);have hS':((W.drew.setCells kb (p.1*64) (dn p.2)).cell? ⟨d,0,none⟩=some (.slice (some ⟨kb,0,none⟩) k.n k.n)/\(W.drew.setCells kb (p.1*64) (dn p.2)).cell? ⟨wr.heap.size,0,none⟩=some (.int .i64 (p.1:Int))/\(W.drew.setCells kb (p.1*64) (dn p.2)).rangeAt wr.heap.size 1 (dn p.2)):=by
      have Dp:¬On kb d:=fun e=>HH.out.ne e
      have tX:¬On kb wr.heap.size:=fun e=>by have:wr.heap.size=kb:=e;omega
      refine⟨aj TW nT Dp,aj TW rW tX,World.rangeAt_setCells_apart OD _ _ _ (.inl tX)⟩
     have M5:=aa (gF.out.keep hpn kV);rw[Dk.RJ hp HKB.out]at M5;have HTH:=aa (gF.out.there hpn);have HXF:=aa ((HX.out.ag (Ns.out.of_no)).drew |>.trans TW (fun b _ hb=>by have:b=kb:=hb;rw[this];exact HH.out.dk));have HC9:Hid ((W.drew.setCells kb (p.1*64) (dn p.2)).cell? ⟨d,1,none⟩=some (.slice (some ⟨g,0,none⟩) k.pd.length c)):=aa (aj TW (aj ((ah.refl No W).drew) (aj Ns.out HC.out (fun h=>h)) (fun h=>h)) (fun e=>HH.out.ne e));have yE:(0:Int)<=p.1:=by omega
     have Dw:(p.1:Int)<k.n:=by omega
     have Vz:=Tryz.underlying142;have V6:(Tryz.prog.info? 142).map (·.size)=some (dn p.2).length:=by rw[acH];kernel_rfl
     have acd:∀v∈dn p.2,v.oneCell'=true:=Jn;have hth:=HTH.out;clear TW;go_region_held3 (fun w'=>w'.cell? ⟨d,0,none⟩=some (.slice (some ⟨kb,0,none⟩) k.n k.n)/\w'.cell? ⟨wr.heap.size,0,none⟩=some (.int .i64 (p.1:Int))/\w'.rangeAt wr.heap.size 1 (dn p.2)) (first|exact⟨nT,rW,OD⟩|exact hS') (fail)
     clear nT rW OD hS' acd V6 Vz hth;clear HB HDW gF HTH;generalize W.drew.setCells kb (p.1*64) (dn p.2)=W9 at *;go_wp2_with fail;go_roundg (gk-1)
     case rel=>exact⟨j+1,by have:=HK.out;omega,by go_num,M5,HXF,HC9⟩
     case measure=>have:=HK.out;omega
   ·have iC:¬((j:Int)<(ks.length:Int)):=by omega
    have HSK:=aa (show k.onto ks (j+1)=k.onto ks j from Dk.FV (by rw[List.getD_eq_getElem?_getD,List.getElem?_eq_none (by omega)];rfl));have HXF:=aa (HX.out.ag Ns.out.of_no);have HC9:Hid (W.cell? ⟨d,1,none⟩=some (.slice (some ⟨g,0,none⟩) k.pd.length c)):=aa (aj Ns.out HC.out (fun h=>h));clear iL hp;go_wp2_with fail;go_roundg (gk-1)
    case rel=>exact⟨j+1,by have:=HK.out;omega,by go_num,aa (by rw[HSK.out];exact HDW.out),HXF,HC9⟩
    case measure=>have:=HK.out;omega
  ·have iC:¬((j:Int)<(k.pd.length:Int)):=by omega
   have IG:j=k.pd.length:=by omega
   have hR:=HD.out.QI;obtain⟨A9,c9,b9,_⟩:=hR.c;have sH:On d d:=rfl;have h1:=hR.set (k':={ { k.onto ks j with pd:=[] } with down:=false }) b9 ((ah.refl _ _).ay (F:=On d) sH 2 (.bool false)) (b9.aQ 2 _) rfl rfl rfl;have h2:=h1.set (k':={ { { k.onto ks j with pd:=[] } with down:=false } with armed:=false }) (b9.aQ 2 _) ((ah.refl _ _).ay (F:=On d) sH 3 (.bool false)) ((b9.aQ 2 _).aQ 3 _) rfl rfl rfl;have h3:=h2.set (k':=(k.on ks)) ((b9.aQ 2 _).aQ 3 _) ((ah.refl _ _).ay (F:=On d) sH 4 (.int .i64 0)) (((b9.aQ 2 _).aQ 3 _).aQ 4 _) rfl (by subst IG;rfl) rfl;have HR:=aa h3;have BQ:=aa ((((HX.out.ay (F:=D) HH.out.dd 1 (.slice none 0 0)).ay (F:=D) HH.out.dd 2 (.bool false)).ay (F:=D) HH.out.dd 3 (.bool false)).ay (F:=D) HH.out.dd 4 (.int .i64 0));obtain⟨_,_,wM,_⟩:=HD.out.cells;have f1:=wM.frozen 1;have f2:=wM.frozen 2;have f3:=wM.frozen 3;have f4:=wM.frozen 4;have q1:=wM.cell 1;have q2:=wM.cell 2;have q3:=wM.cell 3;have q4:=wM.cell 4;simp[Dk.cells]at q1 q2 q3 q4;have bu:d<wr.heap.size:=HD.out.old d HD.out.dd;clear hk IG wM hR b9 h1 h2 h3;go_wp2_with fail;go_ret;exact⟨rfl,HR.out,BQ.out⟩
end Go.Proofs.YtccnemmlkcmceaaGreatDoor
