/- Proofs about the given program, joined out of the texts P5, J1, J2, VA, Y5. -/
import Derived.Test.YtccnemmlkcmceaaGreatDoorHL13
import Derived.Test.YtccnemmlkcmceaaGreatDoorHL14
set_option linter.unusedVariables false
set_option linter.unusedSimpArgs false
set_option maxRecDepth 100000
set_option maxHeartbeats 6400000
namespace Go.Proofs.YtccnemmlkcmceaaGreatDoor
open Go.RowKit
theorem NU {fn:Func}{p q u x:Tmp}{ty ty':TypeId}(h:fn.results = #[.cell p ty,.cell q ty',.tmp u,.tmp x]) (tmps:Array Value) (P:Program) (w:World) :
  (results fn tmps).run P w=((asAddr (tmps.getD p undef)).run P w).andThen fun a w1=>((loadVar ty a).run P w1).andThen fun v w2=>((asAddr (tmps.getD q undef)).run P w2).andThen fun b w3=>((loadVar ty' b).run P w3).andThen fun v' w4 =>
   .ok (.tuple #[v,v',tmps.getD u undef,tmps.getD x undef]) w4:=by
 simp only[results,h];simp[Sem.run_bind,Result.andThen]
theorem Co {Q:Ending->World->Prop}{a:Act}{w:World}(b b':Nat) (cs cs':Array Value) (hb:ax w b 40 cs) (xL:ax w b' 40 cs') {v v':Value}(hs:some 4=some cs.size) (hs':some 4=some cs'.size)
  (hp:a.tmps.getD 2 undef=.pointer (some ⟨b,0,none⟩)) (hp':a.tmps.getD 3 undef=.pointer (some ⟨b',0,none⟩)) (h4:a.tmps.getD 4 undef=v) (h5:a.tmps.getD 5 undef=v') (hd:a.defers = [])
  (h:Q (.returned (.tuple #[.agg cs,.agg cs',v,v'])) w):bodyPost Tryz.prog Tryz.f143 Q Exit.ret a w:=by
 refine bodyPost_ret (v:=.tuple #[.agg cs,.agg cs',v,v']) (w:=w) ?_ hd h;have hl:=run_loadVar_row w b 40 40 cs (0,0) _ hb Tryz.underlying40 rfl (by rw[<-hs];kernel_rfl);have LG:=run_loadVar_row w b' 40 40 cs' (0,0) _ xL Tryz.underlying40 rfl (by rw[<-hs'];kernel_rfl);rw[NU rfl,hp,hp',h4,h5];simp[asAddr,Result.andThen,hl,LG]
theorem Nd.gW {n:Nd}(h:n.fits) (f t:Nat):(n.part f t).fits:=by
 unfold Nd.part;split
 ·exact⟨fun c hc=>h.c c (List.mem_of_mem_drop (List.mem_of_mem_take hc)),by simp,by simp⟩
 ·exact⟨by simp,fun c hc=>h.k c (List.mem_of_mem_drop (List.mem_of_mem_take hc)),fun c hc=>h.i c (List.mem_of_mem_drop (List.mem_of_mem_take hc))⟩
theorem KC (n:Nd) (f t:Nat) (w:World) (F:Nat->Prop) (A1:Option Addr) (c1:Nat) (A2:Option Addr) (c2:Nat) (A3:Option Addr) (c3:Nat) (hn:aW w F A1 c1 A2 c2 A3 c3 n)
  (aX:n.ok=true) (hf:f<t) (ht:t<=n.all) :
  Calls Tryz.prog 182 #[n.value A1 c1 A2 c2 A3 c3,.int .i64 (f:Int),.int .i64 (t:Int)] w (zA w (n.part f t)):=by
 unfold Nd.all at ht;cases hl:n.leaf
 ·rw[hl]at ht
  exact Kz n f t w F A1 c1 A2 c2 A3 c3 hn hl hf (by simpa using ht) ((Nd.Ok.of aX).br hl).2
 ·rw[hl]at ht
  simp only[if_true]at ht;exact Rz n f t w F A1 c1 A2 c2 A3 c3 hn hl (by omega) hf ht
theorem Aw (n:Nd) (hi:Nat):∀(f i:Nat) (r:Nat×Nat),1<=i->i+f<=hi->1<=r.1->r.1<hi->1<=(n.dm f i r).1/\(n.dm f i r).1<hi
 | 0,_,r,_,_,h1,h2=>⟨h1,h2⟩
 | f+1,i,r,h0,h,h1,h2=>by
  rw[Nd.dm];refine Aw n hi f (i+1) _ (by omega) (by omega) ?_ ?_
  ·split
   ·exact h0
   ·exact h1
  ·split
   ·simp only;omega
   ·exact h2
theorem QR {n:Nd}(h:2+n.gap<=n.all):1<=n.fV/\n.fV<n.all-n.gap:=by
 unfold Nd.fV;exact Aw n (n.all-n.gap) _ 1 _ (by omega) (by omega) (by omega) (by simp only;omega)
def zt (w:World) (o:Option (Nd×Nd×Bs)) (e:Ending) (w':World):Prop :=
 ah No w w'/\match o with
  | none=>e=.returned (.tuple #[Nd.zero,Nd.zero,.string (au []),.int .i64 2])
  | some (l,r,key)=>∃a b:jT,e=.returned (.tuple #[l.value a.A1 a.c1 a.A2 a.c2 a.A3 a.c3,r.value b.A1 b.c1 b.A2 b.c2 b.A3 b.c3,.string (au key),.int .i64 0])/\aU w' (gB w) a l/\aU w' (gB w) b r
theorem NH (n:Nd) (w:World) (F:Nat->Prop) (A1:Option Addr) (c1:Nat) (A2:Option Addr) (c2:Nat) (A3:Option Addr) (c3:Nat) (hn:aW w F A1 c1 A2 c2 A3 c3 n) (aX:n.ok=true) (bL:n.leaf=true) (h2:2+0<=n.cells.length) :
  Calls Tryz.prog 143 #[n.value A1 c1 A2 c2 A3 c3] w (zt w (some (n.part 0 n.fV,n.part (n.fV+0) n.cells.length,n.mid n.fV))):=by
 have Aq:=Nd.Ok.of aX;have gP:=Nd.Ok.fits Aq;have fF:n.all=n.cells.length:=by simp[Nd.all,bL]
 have oL:n.gap=0:=by simp[Nd.gap,bL]
 have HC:=aa (fun w hn=>dG n w F A1 c1 A2 c2 A3 c3 hn gP);rw[Nd.jh aX]at HC;have HP:=aa (fun f t w (hn:aW w F A1 c1 A2 c2 A3 c3 n) (hf:f<t) (ht:t<=n.cells.length)=>KC n f t w F A1 c1 A2 c2 A3 c3 hn aX hf (by rw[fF];exact ht));have HS:=aa (fun f t w F A1 c1 A2 c2 A3 c3 (hn:aW w F A1 c1 A2 c2 A3 c3 (n.part f t))=>pF (n.part f t) w F A1 c1 A2 c2 A3 c3 hn (Nd.gW gP f t));have HBI:=aa (QR (n:=n) (by rw[fF,oL];exact h2));have JQ:Hid (n.fV=(n.dm (n.cells.length-0-1) 1 (1,1073741824)).1):=aa (by unfold Nd.fV;rw[fF,oL]);have Fz:Hid (∀i,n.lS i=max (n.part 0 i).size (n.part (i+0) n.cells.length).size):=aa (fun i=>by unfold Nd.lS;rw[fF,oL]);have hb1:=hn.b1;have dO:=hn.b2;have HN:=aa hn;have H2:=aa h2;have hg1:¬((n.cells.length:Int)<2+0):=by omega
 have agE:n.cells.length<=255:=Aq.a1;have ab8:n.keys.length<=255:=Aq.a2
 have G6:Hid (∀f t,(n.part f t).size<1000000000):=aa (fun f t=>by
  have h:=qA (n.part f t).cells (Nd.gW gP f t).c;have h':=qy (n.part f t).keys (Nd.gW gP f t).k;have e1:(n.part f t).cells.length<=255:=by unfold Nd.part;split <;> simp <;> omega
  have e2:(n.part f t).keys.length<=255:=by unfold Nd.part;split <;> simp <;> omega
  unfold Nd.size
  split <;> omega)
 simp only[Nd.value,bL]at HC HP ⊢;clear hn aX Aq gP fF oL h2;go_enter Tryz.func143,Tryz.ntmps143;go_wp2_with fail;have sj:ah No w (((w.alloc (.cells #[.bool true,.slice A1 n.cells.length c1,.slice A2 n.keys.length c2,.slice A3 n.kids.length c3] 40)).alloc (.cells #[.bool false,.slice none 0 0,.slice none 0 0,.slice none 0 0] 40)).alloc (.cells #[.bool false,.slice none 0 0,.slice none 0 0,.slice none 0 0] 40)):=(((ah.refl No w).alloc _).alloc _).alloc _;refine(HC.out _ (HN.out.ext sj.of_no)).mono ?_;rintro e w1 ⟨rfl,aT⟩;have bn1:=(((ax.new w 40 #[.bool true,.slice A1 n.cells.length c1,.slice A2 n.keys.length c2,.slice A3 n.kids.length c3]).alloc (.cells #[.bool false,.slice none 0 0,.slice none 0 0,.slice none 0 0] 40)).alloc (.cells #[.bool false,.slice none 0 0,.slice none 0 0,.slice none 0 0] 40)).ext aT (fun h=>h);have JN:=((ax.aS (b:=w.heap.size+1) (w.alloc (.cells #[.bool true,.slice A1 n.cells.length c1,.slice A2 n.keys.length c2,.slice A3 n.kids.length c3] 40)) 40 #[.bool false,.slice none 0 0,.slice none 0 0,.slice none 0 0] (by simp)).alloc (.cells #[.bool false,.slice none 0 0,.slice none 0 0,.slice none 0 0] 40)).ext aT (fun h=>h);have QQ:=(ax.aS (b:=w.heap.size+2) ((w.alloc (.cells #[.bool true,.slice A1 n.cells.length c1,.slice A2 n.keys.length c2,.slice A3 n.kids.length c3] 40)).alloc (.cells #[.bool false,.slice none 0 0,.slice none 0 0,.slice none 0 0] 40)) 40 #[.bool false,.slice none 0 0,.slice none 0 0,.slice none 0 0] (by simp)).ext aT (fun h=>h);have yz:=aa (sj.ag aT);have adA:=aa bn1;have ady:=aa JN;have adx:=aa QQ;clear sj aT bn1 JN QQ;go_wp2_with fail;go_loopg [8,9,10] (n.cells.length-0-1) (fun gk k b IV wr=>∃(K B i:Nat),k=.int .i64 (K:Int)/\b=.int .i64 (B:Int)/\IV=.int .i64 (i:Int)/\i+gk=n.cells.length-0/\1<=i/\Hid (n.dm gk i (K,B)=n.dm (n.cells.length-0-1) 1 (1,1073741824))/\B<=1073741824/\ah No w1 wr)
 case atStart=>exact⟨1,1073741824,1,rfl,rfl,rfl,by have:=H2.out;omega,by omega,aa rfl,by omega,ah.refl _ _⟩
 case round =>
  obtain⟨K,B,i,rfl,rfl,rfl,hI,h1,hb,hB,hE⟩:=hrel;have HI:=aa hI;have HE:=aa hE;have HH1:=aa h1;have HHB:=aa hB;have bnr:=adA.out.ext hE (fun h=>h);have Jj:ax wr.drew w.heap.size 40 #[.bool true,.slice A1 n.cells.length c1,.slice A2 n.keys.length c2,.slice A3 n.kids.length c3]:=bnr;obtain⟨p0,p1,p2,p3,g0,g1,g2,g3,ln⟩:=Jj.p4;have wH:=aa Jj;have uA:=aa (HN.out.ext ((yz.out.ag hE).drew.of_no))
  by_cases bu:i<n.cells.length-0
  ·have mQ:=aa bu
   have iY:(i:Int)<(n.cells.length:Int)-0:=by omega
   have BG:(i:Int)<1000:=by omega
   have Lj:IntKind.i64.wrap (i:Int)=(i:Int):=IntWalk.i64_in _ (by omega);have YD:Hid (∀w,aW w F A1 c1 A2 c2 A3 c3 n->Calls Tryz.prog 182 #[.agg #[.bool true,.slice A1 n.cells.length c1,.slice A2 n.keys.length c2,.slice A3 n.kids.length c3],.int .i64 0,.int .i64 (i:Int)] w (zA w (n.part 0 i))):=aa (fun w hn=>HP.out 0 i w hn (by omega) (by omega));have YC:Hid (∀w,aW w F A1 c1 A2 c2 A3 c3 n->Calls Tryz.prog 182 #[.agg #[.bool true,.slice A1 n.cells.length c1,.slice A2 n.keys.length c2,.slice A3 n.kids.length c3],.int .i64 (i:Int),.int .i64 (n.cells.length:Int)] w (zA w (n.part (i+0) n.cells.length))):=aa (fun w hn=>HP.out (i+0) n.cells.length w hn (by omega) (Nat.le_refl _));clear hI hE bnr Jj bu h1 hB;go_wp2_with fail;go_region_held3 (fun w'=>w'.cell? ⟨w.heap.size,0,none⟩=some (.bool true)/\w'.cell? ⟨w.heap.size,1,none⟩=some (.slice A1 n.cells.length c1)/\w'.cell? ⟨w.heap.size,2,none⟩=some (.slice A2 n.keys.length c2)/\w'.cell? ⟨w.heap.size,3,none⟩=some (.slice A3 n.kids.length c3)) (go_keep)
    (first
     | (have _g:=nS.out;clear _g;go_at_call 181;refine(HS.out (i+0) n.cells.length _ _ _ _ _ _ _ _ PG.out).mono ?_;rintro e w8 ⟨rfl,kK⟩;have MU:=aa kK;have b8:=ax.aY kK JB.out (fun h=>h);have JR:=aa b8;obtain⟨p0,p1,p2,p3,g0,g1,g2,g3,ln⟩:=b8.p4;clear kK)
     | (have _g:=wP.out;clear _g;go_at_call 182;refine(YC.out _ (uA.out.ext (jl.out.ag wP.out).of_no)).mono ?_;rintro e w7 ⟨eX,C1,f1,C2,f2,C3,f3,rfl,A_⟩;have nS:=aa eX;have PG:=aa A_;have b7:=ax.aY eX Ha.out (fun h=>h);have JB:=aa b7;obtain⟨p0,p1,p2,p3,g0,g1,g2,g3,ln⟩:=b7.p4;clear eX A_)
     | (go_at_call 181;refine(HS.out 0 i _ _ _ _ _ _ _ _ HN5.out).mono ?_;rintro e w6 ⟨rfl,kH⟩;have wP:=aa kH;have b6:=ax.aY kH AL.out (fun h=>h);have Ha:=aa b6;obtain⟨p0,p1,p2,p3,g0,g1,g2,g3,ln⟩:=b6.p4;clear kH)
     | (go_at_call 182;refine(YD.out _ uA.out).mono ?_;rintro e w5 ⟨bU,B1,d1,B2,d2,B3,d3,rfl,OJ⟩;have jl:=aa bU;have HN5:=aa OJ;have b5:=ax.aY bU wH.out (fun h=>h);have AL:=aa b5;obtain⟨p0,p1,p2,p3,g0,g1,g2,g3,ln⟩:=b5.p4;clear bU OJ))
   all_goals (
    have zH:=aa ((((HE.out.drew.ag jl.out).ag wP.out).ag nS.out).ag MU.out);have Na:=G6.out 0 i;have TV:=G6.out (i+0) n.cells.length;obtain⟨j,hj⟩:∃j,gk=j+1:=⟨gk-1,by have:=HI.out;have:=mQ.out;omega⟩;have HJ:=aa hj;have uO:=hb.out;rw[hj,Nd.dm,Fz.out i]at uO;obtain⟨sa,hsa⟩:∃sa,sa=(n.part 0 i).size:=⟨_,rfl⟩;obtain⟨sb,Sc⟩:∃sb,sb=(n.part (i+0) n.cells.length).size:=⟨_,rfl⟩;have OC:(n.part (i+0) n.cells.length).size=sb:=Sc.symm
    try simp only[Nat.add_zero]at OC uO TV
    rw[<-hsa]at uO Na ⊢;rw[OC]at uO TV ⊢;have T_:max (sa:Int) (sb:Int)=((max sa sb:Nat):Int):=by
     rcases Nat.le_total sa sb with h|h
     ·rw[Nat.max_eq_right h,Int.max_eq_right (by omega)]
     ·rw[Nat.max_eq_left h,Int.max_eq_left (by omega)]
    rw[T_];obtain⟨T,hT⟩:∃T,T=max sa sb:=⟨_,rfl⟩;rw[<-hT]at uO ⊢;have HBB:=aa uO;have hTb:T<1000000000:=by omega
    clear uO Na TV hsa Sc OC T_ hT hj
    by_cases iK:T<B
    ·have h3:(T:Int)<(B:Int):=by omega
     go_wp2_with fail;go_roundg j
     case rel =>
      have h5:=HBB.out;rw[if_pos iK]at h5;exact⟨i,T,i+1,rfl,rfl,by go_num,by have:=HI.out;have:=HJ.out;omega,by omega,aa h5,by omega,zH.out⟩
     case measure=>have:=HJ.out;omega
    ·have h3:¬((T:Int)<(B:Int)):=by omega
     go_wp2_with fail;go_roundg j
     case rel =>
      have h5:=HBB.out;rw[if_neg iK]at h5;exact⟨K,B,i+1,rfl,rfl,by go_num,by have:=HI.out;have:=HJ.out;omega,by omega,aa h5,HHB.out,zH.out⟩
     case measure=>have:=HJ.out;omega)
  ·have hie:i=n.cells.length-0:=by omega
   have hg0:gk=0:=by omega
   subst hg0;have hbK:n.fV=K:=by rw[JQ.out,<-hb.out];rfl
   obtain⟨j_,lJ⟩:=HBI.out;rw[hbK]at j_ lJ ⊢;have hkA:K+0<n.cells.length:=by
    have h1:n.all=n.cells.length:=by simp[Nd.all,bL]
    have h2:n.gap=0:=by simp[Nd.gap,bL]
    rw[h1,h2]at lJ;omega
   have HKA:=aa hkA;have TN:=aa j_;have YD:Hid (∀w,aW w F A1 c1 A2 c2 A3 c3 n->Calls Tryz.prog 182 #[.agg #[.bool true,.slice A1 n.cells.length c1,.slice A2 n.keys.length c2,.slice A3 n.kids.length c3],.int .i64 0,.int .i64 (K:Int)] w (zA w (n.part 0 K))):=aa (fun w hn=>HP.out 0 K w hn (by omega) (by omega));have YC:Hid (∀w,aW w F A1 c1 A2 c2 A3 c3 n->Calls Tryz.prog 182 #[.agg #[.bool true,.slice A1 n.cells.length c1,.slice A2 n.keys.length c2,.slice A3 n.kids.length c3],.int .i64 (K:Int),.int .i64 (n.cells.length:Int)] w (zA w (n.part (K+0) n.cells.length))):=aa (fun w hn=>HP.out (K+0) n.cells.length w hn (by omega) (Nat.le_refl _));have Lj:IntKind.i64.wrap (K:Int)=(K:Int):=IntWalk.i64_in _ (by omega);have pV:¬((i:Int)<(n.cells.length:Int)-0):=by omega
   have hkI:(K:Int)<(n.cells.length:Int):=by omega
   have OZ:=ady.out.ext hE (fun h=>h);have IJ:=adx.out.ext hE (fun h=>h);have PR:Hid (ax wr.drew (w.heap.size+1) 40 #[.bool false,.slice none 0 0,.slice none 0 0,.slice none 0 0]):=aa OZ;have yI:Hid (ax wr.drew (w.heap.size+1+1) 40 #[.bool false,.slice none 0 0,.slice none 0 0,.slice none 0 0]):=aa IJ;clear OZ IJ;have ne1:¬(w.heap.size=w.heap.size+1+1):=by omega
   have ne2:¬(w.heap.size+1+1=w.heap.size):=by omega
   have yJ:=aa hbK;clear hI hE bnr Jj bu h1 hB j_ lJ hkA hbK hie;go_wp2_with fail;go_region_held3 (fun w'=>w'.cell? ⟨w.heap.size,0,none⟩=some (.bool true)/\w'.cell? ⟨w.heap.size,1,none⟩=some (.slice A1 n.cells.length c1)/\w'.cell? ⟨w.heap.size,2,none⟩=some (.slice A2 n.keys.length c2)/\w'.cell? ⟨w.heap.size,3,none⟩=some (.slice A3 n.kids.length c3)) (go_keep)
    (first
     | (have _g:=jl.out;clear _g;go_at_call 182;refine(YC.out _ (uA.out.ext jl.out.of_no)).mono ?_;rintro e w7 ⟨eX,C1,f1,C2,f2,C3,f3,rfl,A_⟩;have nS:=aa eX;have PG:=aa A_;have b7:=ax.aY eX AL.out (fun h=>h);obtain⟨p0,p1,p2,p3,g0,g1,g2,g3,ln⟩:=b7.p4;have br7:=ax.aY eX XJ.out (fun h=>h);have XI:=aa br7;obtain⟨r0,r1,r2,r3,s0,s1,s2,s3,lr⟩:=br7.p4;have Tp:=ax.aY eX HS5.out (fun h=>h);have HS7:=aa Tp;obtain⟨y0,y1,y2,y3,z0,z1,z2,z3,lz⟩:=Tp.p4;clear eX A_ b7 br7 Tp;simp only[Nd.value])
     | (go_at_call 182;refine(YD.out _ uA.out).mono ?_;rintro e w5 ⟨bU,B1,d1,B2,d2,B3,d3,rfl,OJ⟩;have jl:=aa bU;have HN5:=aa OJ;have b5:=ax.aY bU wH.out (fun h=>h);have AL:=aa b5;obtain⟨p0,p1,p2,p3,g0,g1,g2,g3,ln⟩:=b5.p4;have Fs:=ax.aY bU PR.out (fun h=>h);have XJ:=aa Fs;obtain⟨r0,r1,r2,r3,s0,s1,s2,s3,lr⟩:=Fs.p4;have Xh:=ax.aY bU yI.out (fun h=>h);have HS5:=aa Xh;obtain⟨y0,y1,y2,y3,z0,z1,z2,z3,lz⟩:=Xh.p4;clear bU OJ b5 Fs Xh;simp only[Nd.value]))
   all_goals (
    obtain⟨L,hL⟩:∃L,L=n.part 0 K:=⟨_,rfl⟩;obtain⟨R,hR⟩:∃R,R=n.part (K+0) n.cells.length:=⟨_,rfl⟩;have HL:=aa hL;have HR:=aa hR;have hR':n.part (K+0) n.cells.length=R:=hR.symm
    try simp only[Nat.add_zero]at hR'
    rw[<-hL,hR'];clear hL hR hR';obtain⟨W,hW⟩:∃W,W=(((((((w7.setCell ⟨w.heap.size+1,0,none⟩ (.bool L.leaf)).setCell ⟨w.heap.size+1,1,none⟩ (.slice B1 L.cells.length d1)).setCell ⟨w.heap.size+1,2,none⟩ (.slice B2 L.keys.length d2)).setCell ⟨w.heap.size+1,3,none⟩ (.slice B3 L.kids.length d3)).setCell ⟨w.heap.size+1+1,0,none⟩ (.bool R.leaf)).setCell ⟨w.heap.size+1+1,1,none⟩ (.slice C1 R.cells.length f1)).setCell ⟨w.heap.size+1+1,2,none⟩ (.slice C2 R.keys.length f2)).setCell ⟨w.heap.size+1+1,3,none⟩ (.slice C3 R.kids.length f3):=⟨_,rfl⟩;have Oy:w.heap.size+1+1<wr.drew.heap.size:=yI.out.lt;have nE:gB wr.drew (w.heap.size+1):=by show w.heap.size+1<wr.drew.heap.size;omega
    have nD:gB wr.drew (w.heap.size+1+1):=Oy;have hz:ah (gB wr.drew) w7 W:=by
     rw[hW];exact((((((((ah.refl _ w7).ay nE 0 _).ay nE 1 _).ay nE 2 _).ay nE 3 _).ay nD 0 _).ay nD 1 _).ay nD 2 _).ay nD 3 _
    have bR:ax W (w.heap.size+1) 40 #[.bool L.leaf,.slice B1 L.cells.length d1,.slice B2 L.keys.length d2,.slice B3 L.kids.length d3]:=by
     rw[hW];exact(((((XI.out.eu (.bool L.leaf) (.slice B1 L.cells.length d1) (.slice B2 L.keys.length d2) (.slice B3 L.kids.length d3)).far (show w.heap.size+1≠w.heap.size+1+1 by omega) _).far (show w.heap.size+1≠w.heap.size+1+1 by omega) _).far (show w.heap.size+1≠w.heap.size+1+1 by omega) _).far (show w.heap.size+1≠w.heap.size+1+1 by omega) _)
    have bS:ax W (w.heap.size+1+1) 40 #[.bool R.leaf,.slice C1 R.cells.length f1,.slice C2 R.keys.length f2,.slice C3 R.kids.length f3]:=by
     rw[hW];exact((((HS7.out.far (show w.heap.size+1+1≠w.heap.size+1 by omega) _).far (show w.heap.size+1+1≠w.heap.size+1 by omega) _).far (show w.heap.size+1+1≠w.heap.size+1 by omega) _).far (show w.heap.size+1+1≠w.heap.size+1 by omega) _).eu (.bool R.leaf) (.slice C1 R.cells.length f1) (.slice C2 R.keys.length f2) (.slice C3 R.kids.length f3)
    have XY:=aa ((((yz.out.ag HE.out).drew).ag jl.out).ag nS.out);have jR:ah No w W:=by
     rw[hW];exact((((((((XY.out.ai (by omega) 0 _).ai (by omega) 1 _).ai (by omega) 2 _).ai (by omega) 3 _).ai (by omega) 0 _).ai (by omega) 1 _).ai (by omega) 2 _).ai (by omega) 3 _)
    have Dm:∀b,b<w.heap.size->gB wr.drew b:=fun b hb=>by show b<wr.drew.heap.size;omega
    have E_:aW W (gB wr.drew) B1 d1 B2 d2 B3 d3 L:=by rw[HL.out];exact(HN5.out.ext nS.out.of_no).ext hz
    have E9:aW W (gB wr.drew) C1 f1 C2 f2 C3 f3 R:=by rw[HR.out];exact(PG.out.mono (fun b _ hb=>Nat.lt_of_lt_of_le hb jl.out.size)).ext hz
    have bN:ax W w.heap.size 40 #[.bool true,.slice A1 n.cells.length c1,.slice A2 n.keys.length c2,.slice A3 n.kids.length c3] 
    :=(ax.aY nS.out (ax.aY jl.out wH.out (fun h=>h)) (fun h=>h)).ext (F:=fun b=>b=w.heap.size+1\/b=w.heap.size+1+1) (by
     rw[hW]
     exact((((((((ah.refl _ w7).ay (.inl rfl) 0 _).ay (.inl rfl) 1 _).ay (.inl rfl) 2 _).ay (.inl rfl) 3 _).ay (.inr rfl) 0 _).ay (.inr rfl) 1 _).ay (.inr rfl) 2 _).ay (.inr rfl) 3 _) (by omega)
    rw[<-hW];have Ju:=aa E_;have adi:=aa E9;have BU:=aa jR;have BR:=aa bR;have BS:=aa bS;have gV:=aa Dm;clear hz Oy nE nD Dm E_ E9 jR hW;obtain⟨c,hc⟩:∃c,n.cells[K]?=some c:=⟨_,List.getElem?_eq_getElem (by have:=HKA.out;omega)⟩;obtain⟨kb,ko,hA,_,k0,_,_,_⟩:=HN.out.cells.cellAt hc;have OM:=World.block_lt_of_cell? w _ k0;simp only at OM;have k0W:=aj BU.out k0 (fun h=>h);have Sm:n.mid K=c.key:=by simp[Nd.mid,bL,List.getD,hc]
    subst hA;obtain⟨ky,hky⟩:∃ky,ky=c.key:=⟨_,rfl⟩;rw[<-hky]at k0W Sm;clear hc k0 hky;have h_:=aa Sm;obtain⟨r0,r1,r2,r3,s0,s1,s2,s3,lr⟩:=bR.p4;obtain⟨y0,y1,y2,y3,z0,z1,z2,z3,lz⟩:=bS.p4;obtain⟨q0,q1,q2,q3,_,_,_,_,lq⟩:=bN.p4;have e1:¬(kb=w.heap.size+1):=by omega
    have e2:¬(kb=w.heap.size+1+1):=by omega
    have e3:¬(w.heap.size+1=kb):=by omega
    have e4:¬(w.heap.size+1+1=kb):=by omega
    have e5:¬(w.heap.size+1=w.heap.size+1+1):=by omega
    have e6:¬(w.heap.size+1+1=w.heap.size+1):=by omega
    obtain⟨X1,QF⟩:∃X1,X1=((((W.setCell ⟨w.heap.size+1,0,none⟩ (.bool L.leaf)).setCell ⟨w.heap.size+1,1,none⟩ (.slice B1 L.cells.length d1)).setCell ⟨w.heap.size+1,2,none⟩ (.slice B2 L.keys.length d2)).setCell ⟨w.heap.size+1,3,none⟩ (.slice B3 L.kids.length d3)):=⟨_,rfl⟩;have bR1:ax X1 (w.heap.size+1) 40 #[.bool L.leaf,.slice B1 L.cells.length d1,.slice B2 L.keys.length d2,.slice B3 L.kids.length d3]:=by rw[QF];exact bR.eu _ _ _ _
    have bS1:ax X1 (w.heap.size+1+1) 40 #[.bool R.leaf,.slice C1 R.cells.length f1,.slice C2 R.keys.length f2,.slice C3 R.kids.length f3]:=by rw[QF];exact(((bS.far (show w.heap.size+1+1≠w.heap.size+1 by omega) _).far (show w.heap.size+1+1≠w.heap.size+1 by omega) _).far (show w.heap.size+1+1≠w.heap.size+1 by omega) _).far (show w.heap.size+1+1≠w.heap.size+1 by omega) _
    obtain⟨X2,BI⟩:∃X2,X2=((((X1.setCell ⟨w.heap.size+1+1,0,none⟩ (.bool R.leaf)).setCell ⟨w.heap.size+1+1,1,none⟩ (.slice C1 R.cells.length f1)).setCell ⟨w.heap.size+1+1,2,none⟩ (.slice C2 R.keys.length f2)).setCell ⟨w.heap.size+1+1,3,none⟩ (.slice C3 R.kids.length f3)):=⟨_,rfl⟩;have bS2:ax X2 (w.heap.size+1+1) 40 #[.bool R.leaf,.slice C1 R.cells.length f1,.slice C2 R.keys.length f2,.slice C3 R.kids.length f3]:=by rw[BI];exact bS1.eu _ _ _ _
    have bR2:ax X2 (w.heap.size+1) 40 #[.bool L.leaf,.slice B1 L.cells.length d1,.slice B2 L.keys.length d2,.slice B3 L.kids.length d3]:=by rw[BI];exact(((bR1.far (show w.heap.size+1≠w.heap.size+1+1 by omega) _).far (show w.heap.size+1≠w.heap.size+1+1 by omega) _).far (show w.heap.size+1≠w.heap.size+1+1 by omega) _).far (show w.heap.size+1≠w.heap.size+1+1 by omega) _
    have Xp:ax X1.drew (w.heap.size+1) 40 #[.bool L.leaf,.slice B1 L.cells.length d1,.slice B2 L.keys.length d2,.slice B3 L.kids.length d3]:=bR1;have Xn:ax X2.drew (w.heap.size+1+1) 40 #[.bool R.leaf,.slice C1 R.cells.length f1,.slice C2 R.keys.length f2,.slice C3 R.kids.length f3]:=bS2;have Xo:ax X2.drew (w.heap.size+1) 40 #[.bool L.leaf,.slice B1 L.cells.length d1,.slice B2 L.keys.length d2,.slice B3 L.kids.length d3]:=bR2;have BR2:=aa bR2;have BS2:=aa bS2;obtain⟨t0,t1,t2,t3,_,_,_,_,_⟩:=Xp.p4;obtain⟨u0,u1,u2,u3,_,_,_,_,_⟩:=Xo.p4;obtain⟨x0,x1,x2,x3,_,_,_,_,_⟩:=Xn.p4;have gK:=aa QF;have dx:=aa BI;rw[BI]at u0 u1 u2 u3 x0 x1 x2 x3;rw[QF]at t0 t1 t2 t3 u0 u1 u2 u3 x0 x1 x2 x3;clear Xp Xn Xo QF BI;clear Sm bR bS bN OM bR1 bS1 bR2 bS2;go_wp2_with fail
    go_region_held3 (fun w'=>w'.cell? ⟨w.heap.size+1,0,none⟩=some (.bool L.leaf)/\w'.cell? ⟨w.heap.size+1,1,none⟩=some (.slice B1 L.cells.length d1)/\w'.cell? ⟨w.heap.size+1,2,none⟩=some (.slice B2 L.keys.length d2)/\w'.cell? ⟨w.heap.size+1,3,none⟩=some (.slice B3 L.kids.length d3) /\
     w'.cell? ⟨w.heap.size+1+1,0,none⟩=some (.bool R.leaf)/\w'.cell? ⟨w.heap.size+1+1,1,none⟩=some (.slice C1 R.cells.length f1)/\w'.cell? ⟨w.heap.size+1+1,2,none⟩=some (.slice C2 R.keys.length f2)/\w'.cell? ⟨w.heap.size+1+1,3,none⟩=some (.slice C3 R.kids.length f3) /\
     w'.cell? ⟨w.heap.size,1,none⟩=some (.slice (some ⟨kb,ko,none⟩) n.cells.length c1)/\w'.cell? ⟨kb,ko+K*4,none⟩=some (.string (au ky))) (go_keep) (fail)
    all_goals (
     have Oy:w.heap.size+1+1<wr.drew.heap.size:=yI.out.lt;have nE:gB wr.drew (w.heap.size+1):=by show w.heap.size+1<wr.drew.heap.size;omega
     have nD:gB wr.drew (w.heap.size+1+1):=Oy;have hEX:ah No w X2:=by
      rw[dx.out,gK.out];exact((((((((BU.out.ai (by omega) 0 _).ai (by omega) 1 _).ai (by omega) 2 _).ai (by omega) 3 _).ai (by omega) 0 _).ai (by omega) 1 _).ai (by omega) 2 _).ai (by omega) 3 _)
     have hzX:ah (gB wr.drew) W X2:=by
      rw[dx.out,gK.out];exact((((((((ah.refl _ W).ay nE 0 _).ay nE 1 _).ay nE 2 _).ay nE 3 _).ay nD 0 _).ay nD 1 _).ay nD 2 _).ay nD 3 _
     have E_:=(Ju.out.ext hzX.drew).mono (G:=gB w) (fun b _ hb=>gV.out b hb);have E9:=(adi.out.ext hzX.drew).mono (G:=gB w) (fun b _ hb=>gV.out b hb);have hEd:=hEX.drew;have ZT:ax X2.drew (w.heap.size+1) 40 #[.bool L.leaf,.slice B1 L.cells.length d1,.slice B2 L.keys.length d2,.slice B3 L.kids.length d3]:=BR2.out;have ZR:ax X2.drew (w.heap.size+1+1) 40 #[.bool R.leaf,.slice C1 R.cells.length f1,.slice C2 R.keys.length f2,.slice C3 R.kids.length f3]:=BS2.out;have HQ:Hid (ah No w X2.drew/\aU X2.drew (gB w) ⟨B1,d1,B2,d2,B3,d3⟩ L/\aU X2.drew (gB w) ⟨C1,f1,C2,f2,C3,f3⟩ R/\ax X2.drew (w.heap.size+1) 40 #[.bool L.leaf,.slice B1 L.cells.length d1,.slice B2 L.keys.length d2,.slice B3 L.kids.length d3]/\ax X2.drew (w.heap.size+1+1) 40 #[.bool R.leaf,.slice C1 R.cells.length f1,.slice C2 R.keys.length f2,.slice C3 R.kids.length f3]):=aa ⟨hEd,E_,E9,ZT,ZR⟩;rw[dx.out,gK.out]at HQ;clear Oy nE nD hEX hzX E_ E9 hEd ZT ZR t0 t1 t2 t3 u0 u1 u2 u3 x0 x1 x2 x3;go_wp2_with fail;obtain⟨hEd,E_,E9,ZT,ZR⟩:=HQ.out;refine Co (w.heap.size+1) (w.heap.size+1+1) _ _ ZT ZR rfl rfl rfl rfl rfl rfl rfl ?_;refine⟨hEd,?_⟩;simp only;refine⟨⟨B1,d1,B2,d2,B3,d3⟩,⟨C1,f1,C2,f2,C3,f3⟩,?_,?_,?_⟩
     ·rw[yJ.out,<-HL.out,<-HR.out,h_.out];rfl
     ·rw[yJ.out,<-HL.out];exact E_
     ·rw[yJ.out,<-HR.out];exact E9))
theorem Hw (n:Nd) (w:World) (F:Nat->Prop) (A1:Option Addr) (c1:Nat) (A2:Option Addr) (c2:Nat) (A3:Option Addr) (c3:Nat) (hn:aW w F A1 c1 A2 c2 A3 c3 n) (aX:n.ok=true) (bL:n.leaf=false) (h2:2+1<=n.keys.length) :
  Calls Tryz.prog 143 #[n.value A1 c1 A2 c2 A3 c3] w (zt w (some (n.part 0 n.fV,n.part (n.fV+1) n.keys.length,n.mid n.fV))):=by
 have Aq:=Nd.Ok.of aX;have gP:=Nd.Ok.fits Aq;have fF:n.all=n.keys.length:=by simp[Nd.all,bL]
 have oL:n.gap=1:=by simp[Nd.gap,bL]
 have HC:=aa (fun w hn=>dG n w F A1 c1 A2 c2 A3 c3 hn gP);rw[Nd.jh aX]at HC;have HP:=aa (fun f t w (hn:aW w F A1 c1 A2 c2 A3 c3 n) (hf:f<t) (ht:t<=n.keys.length)=>KC n f t w F A1 c1 A2 c2 A3 c3 hn aX hf (by rw[fF];exact ht));have HS:=aa (fun f t w F A1 c1 A2 c2 A3 c3 (hn:aW w F A1 c1 A2 c2 A3 c3 (n.part f t))=>pF (n.part f t) w F A1 c1 A2 c2 A3 c3 hn (Nd.gW gP f t));have HBI:=aa (QR (n:=n) (by rw[fF,oL];exact h2));have JQ:Hid (n.fV=(n.dm (n.keys.length-1-1) 1 (1,1073741824)).1):=aa (by unfold Nd.fV;rw[fF,oL]);have Fz:Hid (∀i,n.lS i=max (n.part 0 i).size (n.part (i+1) n.keys.length).size):=aa (fun i=>by unfold Nd.lS;rw[fF,oL]);have hb1:=hn.b1;have dO:=hn.b2;have HN:=aa hn;have H2:=aa h2;have hg1:¬((n.keys.length:Int)<2+1):=by omega
 have agE:n.cells.length<=255:=Aq.a1;have ab8:n.keys.length<=255:=Aq.a2
 have G6:Hid (∀f t,(n.part f t).size<1000000000):=aa (fun f t=>by
  have h:=qA (n.part f t).cells (Nd.gW gP f t).c;have h':=qy (n.part f t).keys (Nd.gW gP f t).k;have e1:(n.part f t).cells.length<=255:=by unfold Nd.part;split <;> simp <;> omega
  have e2:(n.part f t).keys.length<=255:=by unfold Nd.part;split <;> simp <;> omega
  unfold Nd.size
  split <;> omega)
 simp only[Nd.value,bL]at HC HP ⊢;clear hn aX Aq gP fF oL h2;go_enter Tryz.func143,Tryz.ntmps143;go_wp2_with fail;have sj:ah No w (((w.alloc (.cells #[.bool false,.slice A1 n.cells.length c1,.slice A2 n.keys.length c2,.slice A3 n.kids.length c3] 40)).alloc (.cells #[.bool false,.slice none 0 0,.slice none 0 0,.slice none 0 0] 40)).alloc (.cells #[.bool false,.slice none 0 0,.slice none 0 0,.slice none 0 0] 40)):=(((ah.refl No w).alloc _).alloc _).alloc _;refine(HC.out _ (HN.out.ext sj.of_no)).mono ?_;rintro e w1 ⟨rfl,aT⟩;have bn1:=(((ax.new w 40 #[.bool false,.slice A1 n.cells.length c1,.slice A2 n.keys.length c2,.slice A3 n.kids.length c3]).alloc (.cells #[.bool false,.slice none 0 0,.slice none 0 0,.slice none 0 0] 40)).alloc (.cells #[.bool false,.slice none 0 0,.slice none 0 0,.slice none 0 0] 40)).ext aT (fun h=>h);have JN:=((ax.aS (b:=w.heap.size+1) (w.alloc (.cells #[.bool false,.slice A1 n.cells.length c1,.slice A2 n.keys.length c2,.slice A3 n.kids.length c3] 40)) 40 #[.bool false,.slice none 0 0,.slice none 0 0,.slice none 0 0] (by simp)).alloc (.cells #[.bool false,.slice none 0 0,.slice none 0 0,.slice none 0 0] 40)).ext aT (fun h=>h);have QQ:=(ax.aS (b:=w.heap.size+2) ((w.alloc (.cells #[.bool false,.slice A1 n.cells.length c1,.slice A2 n.keys.length c2,.slice A3 n.kids.length c3] 40)).alloc (.cells #[.bool false,.slice none 0 0,.slice none 0 0,.slice none 0 0] 40)) 40 #[.bool false,.slice none 0 0,.slice none 0 0,.slice none 0 0] (by simp)).ext aT (fun h=>h);have yz:=aa (sj.ag aT);have adA:=aa bn1;have ady:=aa JN;have adx:=aa QQ;clear sj aT bn1 JN QQ;go_wp2_with fail;go_loopg [8,9,10] (n.keys.length-1-1) (fun gk k b IV wr=>∃(K B i:Nat),k=.int .i64 (K:Int)/\b=.int .i64 (B:Int)/\IV=.int .i64 (i:Int)/\i+gk=n.keys.length-1/\1<=i/\Hid (n.dm gk i (K,B)=n.dm (n.keys.length-1-1) 1 (1,1073741824))/\B<=1073741824/\ah No w1 wr)
 case atStart=>exact⟨1,1073741824,1,rfl,rfl,rfl,by have:=H2.out;omega,by omega,aa rfl,by omega,ah.refl _ _⟩
 case round =>
  obtain⟨K,B,i,rfl,rfl,rfl,hI,h1,hb,hB,hE⟩:=hrel;have HI:=aa hI;have HE:=aa hE;have HH1:=aa h1;have HHB:=aa hB;have bnr:=adA.out.ext hE (fun h=>h);have Jj:ax wr.drew w.heap.size 40 #[.bool false,.slice A1 n.cells.length c1,.slice A2 n.keys.length c2,.slice A3 n.kids.length c3]:=bnr;obtain⟨p0,p1,p2,p3,g0,g1,g2,g3,ln⟩:=Jj.p4;have wH:=aa Jj;have uA:=aa (HN.out.ext ((yz.out.ag hE).drew.of_no))
  by_cases bu:i<n.keys.length-1
  ·have mQ:=aa bu
   have iY:(i:Int)<(n.keys.length:Int)-1:=by omega
   have BG:(i:Int)<1000:=by omega
   have Lj:IntKind.i64.wrap ((i:Int)+1)=((i:Int)+1):=IntWalk.i64_in _ (by omega);have YD:Hid (∀w,aW w F A1 c1 A2 c2 A3 c3 n->Calls Tryz.prog 182 #[.agg #[.bool false,.slice A1 n.cells.length c1,.slice A2 n.keys.length c2,.slice A3 n.kids.length c3],.int .i64 0,.int .i64 (i:Int)] w (zA w (n.part 0 i))):=aa (fun w hn=>HP.out 0 i w hn (by omega) (by omega));have YC:Hid (∀w,aW w F A1 c1 A2 c2 A3 c3 n->Calls Tryz.prog 182 #[.agg #[.bool false,.slice A1 n.cells.length c1,.slice A2 n.keys.length c2,.slice A3 n.kids.length c3],.int .i64 ((i:Int)+1),.int .i64 (n.keys.length:Int)] w (zA w (n.part (i+1) n.keys.length))):=aa (fun w hn=>HP.out (i+1) n.keys.length w hn (by omega) (Nat.le_refl _));clear hI hE bnr Jj bu h1 hB;go_wp2_with fail;go_region_held3 (fun w'=>w'.cell? ⟨w.heap.size,0,none⟩=some (.bool false)/\w'.cell? ⟨w.heap.size,1,none⟩=some (.slice A1 n.cells.length c1)/\w'.cell? ⟨w.heap.size,2,none⟩=some (.slice A2 n.keys.length c2)/\w'.cell? ⟨w.heap.size,3,none⟩=some (.slice A3 n.kids.length c3)) (go_keep)
    (first
     | (have _g:=nS.out;clear _g;go_at_call 181;refine(HS.out (i+1) n.keys.length _ _ _ _ _ _ _ _ PG.out).mono ?_;rintro e w8 ⟨rfl,kK⟩;have MU:=aa kK;have b8:=ax.aY kK JB.out (fun h=>h);have JR:=aa b8;obtain⟨p0,p1,p2,p3,g0,g1,g2,g3,ln⟩:=b8.p4;clear kK)
     | (have _g:=wP.out;clear _g;go_at_call 182;refine(YC.out _ (uA.out.ext (jl.out.ag wP.out).of_no)).mono ?_;rintro e w7 ⟨eX,C1,f1,C2,f2,C3,f3,rfl,A_⟩;have nS:=aa eX;have PG:=aa A_;have b7:=ax.aY eX Ha.out (fun h=>h);have JB:=aa b7;obtain⟨p0,p1,p2,p3,g0,g1,g2,g3,ln⟩:=b7.p4;clear eX A_)
     | (go_at_call 181;refine(HS.out 0 i _ _ _ _ _ _ _ _ HN5.out).mono ?_;rintro e w6 ⟨rfl,kH⟩;have wP:=aa kH;have b6:=ax.aY kH AL.out (fun h=>h);have Ha:=aa b6;obtain⟨p0,p1,p2,p3,g0,g1,g2,g3,ln⟩:=b6.p4;clear kH)
     | (go_at_call 182;refine(YD.out _ uA.out).mono ?_;rintro e w5 ⟨bU,B1,d1,B2,d2,B3,d3,rfl,OJ⟩;have jl:=aa bU;have HN5:=aa OJ;have b5:=ax.aY bU wH.out (fun h=>h);have AL:=aa b5;obtain⟨p0,p1,p2,p3,g0,g1,g2,g3,ln⟩:=b5.p4;clear bU OJ))
   all_goals (
    have zH:=aa ((((HE.out.drew.ag jl.out).ag wP.out).ag nS.out).ag MU.out);have Na:=G6.out 0 i;have TV:=G6.out (i+1) n.keys.length;obtain⟨j,hj⟩:∃j,gk=j+1:=⟨gk-1,by have:=HI.out;have:=mQ.out;omega⟩;have HJ:=aa hj;have uO:=hb.out;rw[hj,Nd.dm,Fz.out i]at uO;obtain⟨sa,hsa⟩:∃sa,sa=(n.part 0 i).size:=⟨_,rfl⟩;obtain⟨sb,Sc⟩:∃sb,sb=(n.part (i+1) n.keys.length).size:=⟨_,rfl⟩;have OC:(n.part (i+1) n.keys.length).size=sb:=Sc.symm
    try simp only[Nat.add_zero]at OC uO TV
    rw[<-hsa]at uO Na ⊢;rw[OC]at uO TV ⊢;have T_:max (sa:Int) (sb:Int)=((max sa sb:Nat):Int):=by
     rcases Nat.le_total sa sb with h|h
     ·rw[Nat.max_eq_right h,Int.max_eq_right (by omega)]
     ·rw[Nat.max_eq_left h,Int.max_eq_left (by omega)]
    rw[T_];obtain⟨T,hT⟩:∃T,T=max sa sb:=⟨_,rfl⟩;rw[<-hT]at uO ⊢;have HBB:=aa uO;have hTb:T<1000000000:=by omega
    clear uO Na TV hsa Sc OC T_ hT hj
    by_cases iK:T<B
    ·have h3:(T:Int)<(B:Int):=by omega
     go_wp2_with fail;go_roundg j
     case rel =>
      have h5:=HBB.out;rw[if_pos iK]at h5;exact⟨i,T,i+1,rfl,rfl,by go_num,by have:=HI.out;have:=HJ.out;omega,by omega,aa h5,by omega,zH.out⟩
     case measure=>have:=HJ.out;omega
    ·have h3:¬((T:Int)<(B:Int)):=by omega
     go_wp2_with fail;go_roundg j
     case rel =>
      have h5:=HBB.out;rw[if_neg iK]at h5;exact⟨K,B,i+1,rfl,rfl,by go_num,by have:=HI.out;have:=HJ.out;omega,by omega,aa h5,HHB.out,zH.out⟩
     case measure=>have:=HJ.out;omega)
  ·have hie:i=n.keys.length-1:=by omega
   have hg0:gk=0:=by omega
   subst hg0;have hbK:n.fV=K:=by rw[JQ.out,<-hb.out];rfl
   obtain⟨j_,lJ⟩:=HBI.out;rw[hbK]at j_ lJ ⊢;have hkA:K+1<n.keys.length:=by
    have h1:n.all=n.keys.length:=by simp[Nd.all,bL]
    have h2:n.gap=1:=by simp[Nd.gap,bL]
    rw[h1,h2]at lJ;omega
   have HKA:=aa hkA;have TN:=aa j_;have YD:Hid (∀w,aW w F A1 c1 A2 c2 A3 c3 n->Calls Tryz.prog 182 #[.agg #[.bool false,.slice A1 n.cells.length c1,.slice A2 n.keys.length c2,.slice A3 n.kids.length c3],.int .i64 0,.int .i64 (K:Int)] w (zA w (n.part 0 K))):=aa (fun w hn=>HP.out 0 K w hn (by omega) (by omega));have YC:Hid (∀w,aW w F A1 c1 A2 c2 A3 c3 n->Calls Tryz.prog 182 #[.agg #[.bool false,.slice A1 n.cells.length c1,.slice A2 n.keys.length c2,.slice A3 n.kids.length c3],.int .i64 ((K:Int)+1),.int .i64 (n.keys.length:Int)] w (zA w (n.part (K+1) n.keys.length))):=aa (fun w hn=>HP.out (K+1) n.keys.length w hn (by omega) (Nat.le_refl _));have Lj:IntKind.i64.wrap ((K:Int)+1)=((K:Int)+1):=IntWalk.i64_in _ (by omega);have pV:¬((i:Int)<(n.keys.length:Int)-1):=by omega
   have hkI:(K:Int)<(n.keys.length:Int):=by omega
   have OZ:=ady.out.ext hE (fun h=>h);have IJ:=adx.out.ext hE (fun h=>h);have PR:Hid (ax wr.drew (w.heap.size+1) 40 #[.bool false,.slice none 0 0,.slice none 0 0,.slice none 0 0]):=aa OZ;have yI:Hid (ax wr.drew (w.heap.size+1+1) 40 #[.bool false,.slice none 0 0,.slice none 0 0,.slice none 0 0]):=aa IJ;clear OZ IJ;have ne1:¬(w.heap.size=w.heap.size+1+1):=by omega
   have ne2:¬(w.heap.size+1+1=w.heap.size):=by omega
   have yJ:=aa hbK;clear hI hE bnr Jj bu h1 hB j_ lJ hkA hbK hie;go_wp2_with fail;go_region_held3 (fun w'=>w'.cell? ⟨w.heap.size,0,none⟩=some (.bool false)/\w'.cell? ⟨w.heap.size,1,none⟩=some (.slice A1 n.cells.length c1)/\w'.cell? ⟨w.heap.size,2,none⟩=some (.slice A2 n.keys.length c2)/\w'.cell? ⟨w.heap.size,3,none⟩=some (.slice A3 n.kids.length c3)) (go_keep)
    (first
     | (have _g:=jl.out;clear _g;go_at_call 182;refine(YC.out _ (uA.out.ext jl.out.of_no)).mono ?_;rintro e w7 ⟨eX,C1,f1,C2,f2,C3,f3,rfl,A_⟩;have nS:=aa eX;have PG:=aa A_;have b7:=ax.aY eX AL.out (fun h=>h);obtain⟨p0,p1,p2,p3,g0,g1,g2,g3,ln⟩:=b7.p4;have br7:=ax.aY eX XJ.out (fun h=>h);have XI:=aa br7;obtain⟨r0,r1,r2,r3,s0,s1,s2,s3,lr⟩:=br7.p4;have Tp:=ax.aY eX HS5.out (fun h=>h);have HS7:=aa Tp;obtain⟨y0,y1,y2,y3,z0,z1,z2,z3,lz⟩:=Tp.p4;clear eX A_ b7 br7 Tp;simp only[Nd.value])
     | (go_at_call 182;refine(YD.out _ uA.out).mono ?_;rintro e w5 ⟨bU,B1,d1,B2,d2,B3,d3,rfl,OJ⟩;have jl:=aa bU;have HN5:=aa OJ;have b5:=ax.aY bU wH.out (fun h=>h);have AL:=aa b5;obtain⟨p0,p1,p2,p3,g0,g1,g2,g3,ln⟩:=b5.p4;have Fs:=ax.aY bU PR.out (fun h=>h);have XJ:=aa Fs;obtain⟨r0,r1,r2,r3,s0,s1,s2,s3,lr⟩:=Fs.p4;have Xh:=ax.aY bU yI.out (fun h=>h);have HS5:=aa Xh;obtain⟨y0,y1,y2,y3,z0,z1,z2,z3,lz⟩:=Xh.p4;clear bU OJ b5 Fs Xh;simp only[Nd.value]))
   all_goals (
    obtain⟨L,hL⟩:∃L,L=n.part 0 K:=⟨_,rfl⟩;obtain⟨R,hR⟩:∃R,R=n.part (K+1) n.keys.length:=⟨_,rfl⟩;have HL:=aa hL;have HR:=aa hR;have hR':n.part (K+1) n.keys.length=R:=hR.symm
    try simp only[Nat.add_zero]at hR'
    rw[<-hL,hR'];clear hL hR hR';obtain⟨W,hW⟩:∃W,W=(((((((w7.setCell ⟨w.heap.size+1,0,none⟩ (.bool L.leaf)).setCell ⟨w.heap.size+1,1,none⟩ (.slice B1 L.cells.length d1)).setCell ⟨w.heap.size+1,2,none⟩ (.slice B2 L.keys.length d2)).setCell ⟨w.heap.size+1,3,none⟩ (.slice B3 L.kids.length d3)).setCell ⟨w.heap.size+1+1,0,none⟩ (.bool R.leaf)).setCell ⟨w.heap.size+1+1,1,none⟩ (.slice C1 R.cells.length f1)).setCell ⟨w.heap.size+1+1,2,none⟩ (.slice C2 R.keys.length f2)).setCell ⟨w.heap.size+1+1,3,none⟩ (.slice C3 R.kids.length f3):=⟨_,rfl⟩;have Oy:w.heap.size+1+1<wr.drew.heap.size:=yI.out.lt;have nE:gB wr.drew (w.heap.size+1):=by show w.heap.size+1<wr.drew.heap.size;omega
    have nD:gB wr.drew (w.heap.size+1+1):=Oy;have hz:ah (gB wr.drew) w7 W:=by
     rw[hW];exact((((((((ah.refl _ w7).ay nE 0 _).ay nE 1 _).ay nE 2 _).ay nE 3 _).ay nD 0 _).ay nD 1 _).ay nD 2 _).ay nD 3 _
    have bR:ax W (w.heap.size+1) 40 #[.bool L.leaf,.slice B1 L.cells.length d1,.slice B2 L.keys.length d2,.slice B3 L.kids.length d3]:=by
     rw[hW];exact(((((XI.out.eu (.bool L.leaf) (.slice B1 L.cells.length d1) (.slice B2 L.keys.length d2) (.slice B3 L.kids.length d3)).far (show w.heap.size+1≠w.heap.size+1+1 by omega) _).far (show w.heap.size+1≠w.heap.size+1+1 by omega) _).far (show w.heap.size+1≠w.heap.size+1+1 by omega) _).far (show w.heap.size+1≠w.heap.size+1+1 by omega) _)
    have bS:ax W (w.heap.size+1+1) 40 #[.bool R.leaf,.slice C1 R.cells.length f1,.slice C2 R.keys.length f2,.slice C3 R.kids.length f3]:=by
     rw[hW];exact((((HS7.out.far (show w.heap.size+1+1≠w.heap.size+1 by omega) _).far (show w.heap.size+1+1≠w.heap.size+1 by omega) _).far (show w.heap.size+1+1≠w.heap.size+1 by omega) _).far (show w.heap.size+1+1≠w.heap.size+1 by omega) _).eu (.bool R.leaf) (.slice C1 R.cells.length f1) (.slice C2 R.keys.length f2) (.slice C3 R.kids.length f3)
    have XY:=aa ((((yz.out.ag HE.out).drew).ag jl.out).ag nS.out);have jR:ah No w W:=by
     rw[hW];exact((((((((XY.out.ai (by omega) 0 _).ai (by omega) 1 _).ai (by omega) 2 _).ai (by omega) 3 _).ai (by omega) 0 _).ai (by omega) 1 _).ai (by omega) 2 _).ai (by omega) 3 _)
    have Dm:∀b,b<w.heap.size->gB wr.drew b:=fun b hb=>by show b<wr.drew.heap.size;omega
    have E_:aW W (gB wr.drew) B1 d1 B2 d2 B3 d3 L:=by rw[HL.out];exact(HN5.out.ext nS.out.of_no).ext hz
    have E9:aW W (gB wr.drew) C1 f1 C2 f2 C3 f3 R:=by rw[HR.out];exact(PG.out.mono (fun b _ hb=>Nat.lt_of_lt_of_le hb jl.out.size)).ext hz
    have bN:ax W w.heap.size 40 #[.bool false,.slice A1 n.cells.length c1,.slice A2 n.keys.length c2,.slice A3 n.kids.length c3] 
    :=(ax.aY nS.out (ax.aY jl.out wH.out (fun h=>h)) (fun h=>h)).ext (F:=fun b=>b=w.heap.size+1\/b=w.heap.size+1+1) (by
     rw[hW]
     exact((((((((ah.refl _ w7).ay (.inl rfl) 0 _).ay (.inl rfl) 1 _).ay (.inl rfl) 2 _).ay (.inl rfl) 3 _).ay (.inr rfl) 0 _).ay (.inr rfl) 1 _).ay (.inr rfl) 2 _).ay (.inr rfl) 3 _) (by omega)
    rw[<-hW];have Ju:=aa E_;have adi:=aa E9;have BU:=aa jR;have BR:=aa bR;have BS:=aa bS;have gV:=aa Dm;clear hz Oy nE nD Dm E_ E9 jR hW;obtain⟨ky,hc⟩:∃c,n.keys[K]?=some c:=⟨_,List.getElem?_eq_getElem (by have:=HKA.out;omega)⟩;obtain⟨kb,ko,hA,_,k0⟩:=HN.out.keys.rF hc;have OM:=World.block_lt_of_cell? w _ k0;simp only at OM;have k0W:=aj BU.out k0 (fun h=>h);have Sm:n.mid K=ky:=by simp[Nd.mid,bL,List.getD,hc]
    subst hA;clear hc k0;have h_:=aa Sm;obtain⟨r0,r1,r2,r3,s0,s1,s2,s3,lr⟩:=bR.p4;obtain⟨y0,y1,y2,y3,z0,z1,z2,z3,lz⟩:=bS.p4;obtain⟨q0,q1,q2,q3,_,_,_,_,lq⟩:=bN.p4;have e1:¬(kb=w.heap.size+1):=by omega
    have e2:¬(kb=w.heap.size+1+1):=by omega
    have e3:¬(w.heap.size+1=kb):=by omega
    have e4:¬(w.heap.size+1+1=kb):=by omega
    have e5:¬(w.heap.size+1=w.heap.size+1+1):=by omega
    have e6:¬(w.heap.size+1+1=w.heap.size+1):=by omega
    obtain⟨X1,QF⟩:∃X1,X1=((((W.setCell ⟨w.heap.size+1,0,none⟩ (.bool L.leaf)).setCell ⟨w.heap.size+1,1,none⟩ (.slice B1 L.cells.length d1)).setCell ⟨w.heap.size+1,2,none⟩ (.slice B2 L.keys.length d2)).setCell ⟨w.heap.size+1,3,none⟩ (.slice B3 L.kids.length d3)):=⟨_,rfl⟩;have bR1:ax X1 (w.heap.size+1) 40 #[.bool L.leaf,.slice B1 L.cells.length d1,.slice B2 L.keys.length d2,.slice B3 L.kids.length d3]:=by rw[QF];exact bR.eu _ _ _ _
    have bS1:ax X1 (w.heap.size+1+1) 40 #[.bool R.leaf,.slice C1 R.cells.length f1,.slice C2 R.keys.length f2,.slice C3 R.kids.length f3]:=by rw[QF];exact(((bS.far (show w.heap.size+1+1≠w.heap.size+1 by omega) _).far (show w.heap.size+1+1≠w.heap.size+1 by omega) _).far (show w.heap.size+1+1≠w.heap.size+1 by omega) _).far (show w.heap.size+1+1≠w.heap.size+1 by omega) _
    obtain⟨X2,BI⟩:∃X2,X2=((((X1.setCell ⟨w.heap.size+1+1,0,none⟩ (.bool R.leaf)).setCell ⟨w.heap.size+1+1,1,none⟩ (.slice C1 R.cells.length f1)).setCell ⟨w.heap.size+1+1,2,none⟩ (.slice C2 R.keys.length f2)).setCell ⟨w.heap.size+1+1,3,none⟩ (.slice C3 R.kids.length f3)):=⟨_,rfl⟩;have bS2:ax X2 (w.heap.size+1+1) 40 #[.bool R.leaf,.slice C1 R.cells.length f1,.slice C2 R.keys.length f2,.slice C3 R.kids.length f3]:=by rw[BI];exact bS1.eu _ _ _ _
    have bR2:ax X2 (w.heap.size+1) 40 #[.bool L.leaf,.slice B1 L.cells.length d1,.slice B2 L.keys.length d2,.slice B3 L.kids.length d3]:=by rw[BI];exact(((bR1.far (show w.heap.size+1≠w.heap.size+1+1 by omega) _).far (show w.heap.size+1≠w.heap.size+1+1 by omega) _).far (show w.heap.size+1≠w.heap.size+1+1 by omega) _).far (show w.heap.size+1≠w.heap.size+1+1 by omega) _
    have Xp:ax X1.drew (w.heap.size+1) 40 #[.bool L.leaf,.slice B1 L.cells.length d1,.slice B2 L.keys.length d2,.slice B3 L.kids.length d3]:=bR1;have Xn:ax X2.drew (w.heap.size+1+1) 40 #[.bool R.leaf,.slice C1 R.cells.length f1,.slice C2 R.keys.length f2,.slice C3 R.kids.length f3]:=bS2;have Xo:ax X2.drew (w.heap.size+1) 40 #[.bool L.leaf,.slice B1 L.cells.length d1,.slice B2 L.keys.length d2,.slice B3 L.kids.length d3]:=bR2;have BR2:=aa bR2;have BS2:=aa bS2;obtain⟨t0,t1,t2,t3,_,_,_,_,_⟩:=Xp.p4;obtain⟨u0,u1,u2,u3,_,_,_,_,_⟩:=Xo.p4;obtain⟨x0,x1,x2,x3,_,_,_,_,_⟩:=Xn.p4;have gK:=aa QF;have dx:=aa BI;rw[BI]at u0 u1 u2 u3 x0 x1 x2 x3;rw[QF]at t0 t1 t2 t3 u0 u1 u2 u3 x0 x1 x2 x3;clear Xp Xn Xo QF BI;clear Sm bR bS bN OM bR1 bS1 bR2 bS2;go_wp2_with fail
    go_region_held3 (fun w'=>w'.cell? ⟨w.heap.size+1,0,none⟩=some (.bool L.leaf)/\w'.cell? ⟨w.heap.size+1,1,none⟩=some (.slice B1 L.cells.length d1)/\w'.cell? ⟨w.heap.size+1,2,none⟩=some (.slice B2 L.keys.length d2)/\w'.cell? ⟨w.heap.size+1,3,none⟩=some (.slice B3 L.kids.length d3) /\
     w'.cell? ⟨w.heap.size+1+1,0,none⟩=some (.bool R.leaf)/\w'.cell? ⟨w.heap.size+1+1,1,none⟩=some (.slice C1 R.cells.length f1)/\w'.cell? ⟨w.heap.size+1+1,2,none⟩=some (.slice C2 R.keys.length f2)/\w'.cell? ⟨w.heap.size+1+1,3,none⟩=some (.slice C3 R.kids.length f3) /\
     w'.cell? ⟨w.heap.size,2,none⟩=some (.slice (some ⟨kb,ko,none⟩) n.keys.length c2)/\w'.cell? ⟨kb,ko+K,none⟩=some (.string (au ky))) (go_keep) (fail)
    all_goals (
     have Oy:w.heap.size+1+1<wr.drew.heap.size:=yI.out.lt;have nE:gB wr.drew (w.heap.size+1):=by show w.heap.size+1<wr.drew.heap.size;omega
     have nD:gB wr.drew (w.heap.size+1+1):=Oy;have hEX:ah No w X2:=by
      rw[dx.out,gK.out];exact((((((((BU.out.ai (by omega) 0 _).ai (by omega) 1 _).ai (by omega) 2 _).ai (by omega) 3 _).ai (by omega) 0 _).ai (by omega) 1 _).ai (by omega) 2 _).ai (by omega) 3 _)
     have hzX:ah (gB wr.drew) W X2:=by
      rw[dx.out,gK.out];exact((((((((ah.refl _ W).ay nE 0 _).ay nE 1 _).ay nE 2 _).ay nE 3 _).ay nD 0 _).ay nD 1 _).ay nD 2 _).ay nD 3 _
     have E_:=(Ju.out.ext hzX.drew).mono (G:=gB w) (fun b _ hb=>gV.out b hb);have E9:=(adi.out.ext hzX.drew).mono (G:=gB w) (fun b _ hb=>gV.out b hb);have hEd:=hEX.drew;have ZT:ax X2.drew (w.heap.size+1) 40 #[.bool L.leaf,.slice B1 L.cells.length d1,.slice B2 L.keys.length d2,.slice B3 L.kids.length d3]:=BR2.out;have ZR:ax X2.drew (w.heap.size+1+1) 40 #[.bool R.leaf,.slice C1 R.cells.length f1,.slice C2 R.keys.length f2,.slice C3 R.kids.length f3]:=BS2.out;have HQ:Hid (ah No w X2.drew/\aU X2.drew (gB w) ⟨B1,d1,B2,d2,B3,d3⟩ L/\aU X2.drew (gB w) ⟨C1,f1,C2,f2,C3,f3⟩ R/\ax X2.drew (w.heap.size+1) 40 #[.bool L.leaf,.slice B1 L.cells.length d1,.slice B2 L.keys.length d2,.slice B3 L.kids.length d3]/\ax X2.drew (w.heap.size+1+1) 40 #[.bool R.leaf,.slice C1 R.cells.length f1,.slice C2 R.keys.length f2,.slice C3 R.kids.length f3]):=aa ⟨hEd,E_,E9,ZT,ZR⟩;rw[dx.out,gK.out]at HQ;clear Oy nE nD hEX hzX E_ E9 hEd ZT ZR t0 t1 t2 t3 u0 u1 u2 u3 x0 x1 x2 x3;go_wp2_with fail;obtain⟨hEd,E_,E9,ZT,ZR⟩:=HQ.out;refine Co (w.heap.size+1) (w.heap.size+1+1) _ _ ZT ZR rfl rfl rfl rfl rfl rfl rfl ?_;refine⟨hEd,?_⟩;simp only;refine⟨⟨B1,d1,B2,d2,B3,d3⟩,⟨C1,f1,C2,f2,C3,f3⟩,?_,?_,?_⟩
     ·rw[yJ.out,<-HL.out,<-HR.out,h_.out];rfl
     ·rw[yJ.out,<-HL.out];exact E_
     ·rw[yJ.out,<-HR.out];exact E9))
def yt (w:World) (o:Option Nd) (e:Ending) (w':World):Prop :=
 ah No w w'/\match o with
  | none=>e=.returned (.tuple #[Nd.zero,.int .i64 2])
  | some b=>∃a:jT,e=.returned (.tuple #[b.value a.A1 a.c1 a.A2 a.c2 a.A3 a.c3,.int .i64 0])/\aU w' (gB w) a b
theorem vV {fn:Func}{p q:Tmp}{ty:TypeId}(h:fn.results = #[.cell p ty,.tmp q]) (tmps:Array Value) (P:Program) (w:World) :
  (results fn tmps).run P w=((asAddr (tmps.getD p undef)).run P w).andThen fun a w1=>((loadVar ty a).run P w1).andThen fun v w2=>.ok (.tuple #[v,tmps.getD q undef]) w2:=by
 simp only[results,h];simp[Sem.run_bind,Result.andThen]
theorem kT {Q:Ending->World->Prop}{a:Act}{w:World}(b:Nat) (cs:Array Value) (hb:ax w b 40 cs) {v:Value}(hs:some 4=some cs.size)
  (hp:a.tmps.getD 6 undef=.pointer (some ⟨b,0,none⟩)) (h4:a.tmps.getD 7 undef=v) (hd:a.defers = [])
  (h:Q (.returned (.tuple #[.agg cs,v])) w):bodyPost Tryz.prog Tryz.f188 Q Exit.ret a w:=by
 refine bodyPost_ret (v:=.tuple #[.agg cs,v]) (w:=w) ?_ hd h;have hl:=run_loadVar_row w b 40 40 cs (0,0) _ hb Tryz.underlying40 rfl (by rw[<-hs];kernel_rfl);rw[vV rfl,hp,h4];simp[asAddr,Result.andThen,hl]
theorem Vg (l r:Nd) (key:Bs) (w:World) (F:Nat->Prop) (a b:jT) (hl:aU w F a l) (hr:aU w F b r) (yF:l.fits) (qh:r.fits) (h:l.ok=false\/r.ok=false\/l.leaf≠r.leaf) :
  Calls Tryz.prog 188 #[l.value a.A1 a.c1 a.A2 a.c2 a.A3 a.c3,r.value b.A1 b.c1 b.A2 b.c2 b.A3 b.c3,.string (au key)] w (yt w none):=by
 have HL:=aa (fun w' (e:ah No w w')=>dG l w' F _ _ _ _ _ _ (hl.ext e.of_no) yF);have HR:=aa (fun w' (e:ah No w w')=>dG r w' F _ _ _ _ _ _ (hr.ext e.of_no) qh);simp only[Nd.value]at HL HR ⊢;generalize l.cells.length=n1 at *;generalize l.keys.length=n2 at *;generalize l.kids.length=n3 at *;generalize r.cells.length=m1 at *;generalize r.keys.length=m2 at *;generalize r.kids.length=m3 at *;obtain⟨A1,c1,A2,c2,A3,c3⟩:=a;obtain⟨B1,d1,B2,d2,B3,d3⟩:=b;simp only at HL HR ⊢;generalize bL:l.leaf=lf at *;generalize Eo:r.leaf=rf at *;have sj:ah No w (((w.alloc (.cells #[.bool lf,.slice A1 n1 c1,.slice A2 n2 c2,.slice A3 n3 c3] 40)).alloc (.cells #[.bool rf,.slice B1 m1 d1,.slice B2 m2 d2,.slice B3 m3 d3] 40)).alloc (.cells #[.bool false,.slice none 0 0,.slice none 0 0,.slice none 0 0] 40)):=(((ah.refl No w).alloc _).alloc _).alloc _;have bl0:ax (((w.alloc (.cells #[.bool lf,.slice A1 n1 c1,.slice A2 n2 c2,.slice A3 n3 c3] 40)).alloc (.cells #[.bool rf,.slice B1 m1 d1,.slice B2 m2 d2,.slice B3 m3 d3] 40)).alloc (.cells #[.bool false,.slice none 0 0,.slice none 0 0,.slice none 0 0] 40)) w.heap.size 40 #[.bool lf,.slice A1 n1 c1,.slice A2 n2 c2,.slice A3 n3 c3]:=((ax.new w 40 _).alloc _).alloc _;have br0:ax (((w.alloc (.cells #[.bool lf,.slice A1 n1 c1,.slice A2 n2 c2,.slice A3 n3 c3] 40)).alloc (.cells #[.bool rf,.slice B1 m1 d1,.slice B2 m2 d2,.slice B3 m3 d3] 40)).alloc (.cells #[.bool false,.slice none 0 0,.slice none 0 0,.slice none 0 0] 40)) (w.heap.size+1) 40 #[.bool rf,.slice B1 m1 d1,.slice B2 m2 d2,.slice B3 m3 d3]:=(ax.aS (b:=w.heap.size+1) (w.alloc _) 40 _ (by simp)).alloc _;have bs0:ax (((w.alloc (.cells #[.bool lf,.slice A1 n1 c1,.slice A2 n2 c2,.slice A3 n3 c3] 40)).alloc (.cells #[.bool rf,.slice B1 m1 d1,.slice B2 m2 d2,.slice B3 m3 d3] 40)).alloc (.cells #[.bool false,.slice none 0 0,.slice none 0 0,.slice none 0 0] 40)) (w.heap.size+2) 40 #[.bool false,.slice none 0 0,.slice none 0 0,.slice none 0 0]:=ax.aS (b:=w.heap.size+2) ((w.alloc _).alloc _) 40 _ (by simp);have uB:=aa sj;have JQ:=aa bl0;have PR:=aa br0;have yI:=aa bs0;clear hl hr yF qh sj bl0 br0 bs0;cases xH:l.ok with
 | false =>
  rw[Nd.oq xH]at HL;clear HR h xH bL Eo;go_enter Tryz.func188,Tryz.ntmps188;go_wp2_with fail;refine(HL.out _ uB.out).mono ?_;rintro e w1 ⟨rfl,aT⟩;have QQ:=yI.out.ext aT (fun h=>h);obtain⟨r0,r1,r2,r3,s0,s1,s2,s3,lr⟩:=QQ.p4;have lr:w.heap.size<w1.heap.size:=by omega
  go_wp2_with fail;refine kT (w.heap.size+2) _ (QQ.eu (.bool false) (.slice none 0 0) (.slice none 0 0) (.slice none 0 0)) rfl rfl rfl rfl ?_;exact⟨((((uB.out.ag aT).ai (by omega) _ _).ai (by omega) _ _).ai (by omega) _ _).ai (by omega) _ _,rfl⟩
 | true =>
  rw[Nd.jh xH]at HL;cases Lr:r.ok with
  | false =>
   rw[Nd.oq Lr]at HR;clear h xH bL Eo Lr;go_enter Tryz.func188,Tryz.ntmps188;go_wp2_with fail;refine(HL.out _ uB.out).mono ?_;rintro e w1 ⟨rfl,aT⟩;have JN:=PR.out.ext aT (fun h=>h);obtain⟨p0,p1,p2,p3,g0,g1,g2,g3,ln⟩:=JN.p4;go_wp2_with fail;refine(HR.out _ (uB.out.ag aT)).mono ?_;rintro e w2 ⟨rfl,aH⟩;clear p0 p1 p2 p3 g0 g1 g2 g3 ln;have QQ:=(yI.out.ext aT (fun h=>h)).ext aH (fun h=>h);obtain⟨r0,r1,r2,r3,s0,s1,s2,s3,lr⟩:=QQ.p4;have lr:w.heap.size<w2.heap.size:=by omega
   go_wp2_with fail;refine kT (w.heap.size+2) _ (QQ.eu (.bool false) (.slice none 0 0) (.slice none 0 0) (.slice none 0 0)) rfl rfl rfl rfl ?_;exact⟨(((((uB.out.ag aT).ag aH).ai (by omega) _ _).ai (by omega) _ _).ai (by omega) _ _).ai (by omega) _ _,rfl⟩
  | true =>
   rw[Nd.jh Lr]at HR;have bQ:lf≠rf:=by
    rcases h with h|h|h
    ·rw[h]at xH;cases xH
    ·rw[h]at Lr;cases Lr
    ·exact h
   have wy:(lf==rf)=false:=by cases lf <;> cases rf <;> simp_all
   clear h xH bL Eo Lr bQ;go_enter Tryz.func188,Tryz.ntmps188;go_wp2_with fail;refine(HL.out _ uB.out).mono ?_;rintro e w1 ⟨rfl,aT⟩;have JN:=PR.out.ext aT (fun h=>h);obtain⟨p0,p1,p2,p3,g0,g1,g2,g3,ln⟩:=JN.p4;go_wp2_with fail;refine(HR.out _ (uB.out.ag aT)).mono ?_;rintro e w2 ⟨rfl,aH⟩;clear p0 p1 p2 p3 g0 g1 g2 g3 ln;have bl2:=(JQ.out.ext aT (fun h=>h)).ext aH (fun h=>h);have GR:=JN.ext aH (fun h=>h);have QQ:=(yI.out.ext aT (fun h=>h)).ext aH (fun h=>h);obtain⟨p0,p1,p2,p3,g0,g1,g2,g3,ln⟩:=bl2.p4;obtain⟨q0,q1,q2,q3,f0,f1,f2,f3,lq⟩:=GR.p4;obtain⟨r0,r1,r2,r3,s0,s1,s2,s3,lr⟩:=QQ.p4;go_wp2_with fail;refine kT (w.heap.size+2) _ (QQ.eu (.bool false) (.slice none 0 0) (.slice none 0 0) (.slice none 0 0)) rfl rfl rfl rfl ?_;exact⟨(((((uB.out.ag aT).ag aH).ai (by omega) _ _).ai (by omega) _ _).ai (by omega) _ _).ai (by omega) _ _,rfl⟩
theorem wm (xs ys:List Value) (A B:Option Addr) (n m c d:Nat):eO [⟨A,n,c,xs⟩,⟨B,m,d,ys⟩]=xs++ys:=by simp[eO]
theorem pq (xs ys:List Value) (A B:Option Addr) (n m c d:Nat):bP [⟨A,n,c,xs⟩,⟨B,m,d,ys⟩]=n+m:=by simp[bP]
theorem ax.cO {w:World}{g:Nat}{t:TypeId}{cs:Array Value}(h:ax w g t cs):ax w.drew g t cs:=h
theorem Kk {w2 W w3:World}{b8:Nat}{A:Option Addr}{cc n:Nat}{e:TypeId}{sz:Nat}{xs:List Value}(hs:0<sz) (hW:w2.heap.size<=W.heap.size) (ho:w3.ownsRow W.heap.size e sz (.slice A n cc) n xs) (h:b8<W.heap.size\/w3.heap.size<=b8) :
  Rd w3 (fun b=>b<w2.heap.size\/b=b8) sz A n xs/\n<=cc/\(A=none->cc=0) :=
 ⟨(Rd.jf ho hs).mono hs (fun b hb hF=>by
  unfold Lo;rcases hF with hF|hF
  ·omega
  ·subst hF;rcases h with h|h <;> omega),dX ho,dA ho⟩
theorem Nd.Gp {l r:Nd}{key:Bs}(hl:l.fits) (hr:r.fits) (hk:key.length<65536):(l.glue r key).fits:=by
 unfold Nd.glue;split
 ·exact⟨fun c hc=>by simp at hc;rcases hc with h|h;exact hl.c c h;exact hr.c c h,by simp,by simp⟩
 ·refine⟨fun c hc=>by simp at hc;rcases hc with h|h;exact hl.c c h;exact hr.c c h,fun k mW=>?_,fun c hc=>by simp at hc;rcases hc with h|h;exact hl.i c h;exact hr.i c h⟩
  simp at mW;rcases mW with h|h|h
  ·exact hl.k k h
  ·subst h;exact hk
  ·exact hr.k k h
theorem GI {w2 W w3:World}{lf:Bool}{A:Option Addr}{cc n:Nat}{xs:List Value}(ho:w3.ownsRow W.heap.size 45 4 (.slice A n cc) n xs) (hW:w2.heap.size<=W.heap.size) (hx:ah No w2 w3) :
  ∃(b8:Nat) (A':Option Addr) (cc':Nat),Value.pointer (some ⟨w3.heap.size,0,none⟩)=.pointer (some ⟨b8,0,none⟩)/\ax (w3.alloc (.cells #[.bool lf,.slice A n cc,.slice none 0 0,.slice none 0 0] 40)) b8 40 #[.bool lf,.slice A' n cc',.slice none 0 0,.slice none 0 0]/\w2.heap.size<=b8 /\
   Rd (w3.alloc (.cells #[.bool lf,.slice A n cc,.slice none 0 0,.slice none 0 0] 40)) (fun b=>b<w2.heap.size\/b=b8) 4 A' n xs/\n<=cc'/\(A'=none->cc'=0)/\ah No w2 (w3.alloc (.cells #[.bool lf,.slice A n cc,.slice none 0 0,.slice none 0 0] 40)):=by
 obtain⟨h1,h2,h3⟩:=Kk (b8:=w3.heap.size) (by decide) hW ho (.inr (Nat.le_refl _));exact⟨w3.heap.size,A,cc,rfl,ax.new w3 40 _,hx.size,h1.ext ((ah.refl _ _).alloc _),h2,h3,hx.alloc _⟩
theorem DZ {w2 W w3:World}{lf:Bool}{b8:Nat}{A:Option Addr}{cc n:Nat}{xs:List Value}(ho:w3.ownsRow W.heap.size 45 4 (.slice A n cc) n xs) (hW:w2.heap.size<=W.heap.size) (hx:ah No w2 w3)
  (hb:ax w3 b8 40 #[.bool false,.slice none 0 0,.slice none 0 0,.slice none 0 0]) (h1:w2.heap.size<=b8) (h2:b8<W.heap.size) :
  ∃(b8':Nat) (A':Option Addr) (cc':Nat),Value.pointer (some ⟨b8,0,none⟩)=.pointer (some ⟨b8',0,none⟩)/\ax ((((w3.setCell ⟨b8,0,none⟩ (.bool lf)).setCell ⟨b8,1,none⟩ (.slice A n cc)).setCell ⟨b8,2,none⟩ (.slice none 0 0)).setCell ⟨b8,3,none⟩ (.slice none 0 0)) b8' 40 #[.bool lf,.slice A' n cc',.slice none 0 0,.slice none 0 0]/\w2.heap.size<=b8' /\
   Rd ((((w3.setCell ⟨b8,0,none⟩ (.bool lf)).setCell ⟨b8,1,none⟩ (.slice A n cc)).setCell ⟨b8,2,none⟩ (.slice none 0 0)).setCell ⟨b8,3,none⟩ (.slice none 0 0)) (fun b=>b<w2.heap.size\/b=b8') 4 A' n xs/\n<=cc'/\(A'=none->cc'=0)/\ah No w2 ((((w3.setCell ⟨b8,0,none⟩ (.bool lf)).setCell ⟨b8,1,none⟩ (.slice A n cc)).setCell ⟨b8,2,none⟩ (.slice none 0 0)).setCell ⟨b8,3,none⟩ (.slice none 0 0)):=by
 obtain⟨h3,h4,h5⟩:=Kk (b8:=b8) (by decide) hW ho (.inl h2);have iL:(fun b=>b<w2.heap.size\/b=b8) b8:=.inr rfl;exact⟨b8,A,cc,rfl,hb.eu (.bool lf) (.slice A n cc) (.slice none 0 0) (.slice none 0 0),h1,h3.ext (((((ah.refl _ w3).ay iL 0 _).ay iL 1 _).ay iL 2 _).ay iL 3 _),h4,h5,(((hx.ai h1 _ _).ai h1 _ _).ai h1 _ _).ai h1 _ _⟩
theorem R7 (l r:Nd) (key:Bs) (w:World) (F:Nat->Prop) (a b:jT) (hl:aU w F a l) (hr:aU w F b r) (l_:key.length<65536) (xH:l.ok=true) (Lr:r.ok=true) (bL:l.leaf=true) (Eo:r.leaf=true) :
  Calls Tryz.prog 188 #[l.value a.A1 a.c1 a.A2 a.c2 a.A3 a.c3,r.value b.A1 b.c1 b.A2 b.c2 b.A3 b.c3,.string (au key)] w (yt w (if (l.glue r key).ok then some (l.glue r key)else none)):=by
 have Uh:=Nd.Ok.of xH;have hOr:=Nd.Ok.of Lr;have yF:=Nd.Ok.fits Uh;have qh:=Nd.Ok.fits hOr;have HL:=aa (fun w' (e:ah No w w')=>dG l w' F _ _ _ _ _ _ (hl.ext e.of_no) yF);have HR:=aa (fun w' (e:ah No w w')=>dG r w' F _ _ _ _ _ _ (hr.ext e.of_no) qh);rw[Nd.jh xH]at HL;rw[Nd.jh Lr]at HR;have hgf:=Nd.Gp (key:=key) yF qh l_;have hg:l.glue r key=⟨true,l.cells++r.cells,[],[]⟩:=by unfold Nd.glue;rw[if_pos bL]
 have HC:=aa (fun w' F A1 c1 A2 c2 A3 c3 hn=>dG (l.glue r key) w' F A1 c1 A2 c2 A3 c3 hn hgf);rw[hg]at HC ⊢;have lY:l.cells.length<=255:=Uh.a1;have vo:r.cells.length<=255:=hOr.a1
 have HPC:Hid (∀w',ah No w w'->dC.Ok w' 4 ⟨a.A1,l.cells.length,a.c1,aC l.cells⟩/\dC.Ok w' 4 ⟨b.A1,r.cells.length,b.c1,aC r.cells⟩):=aa (fun w' e =>
  ⟨⟨(hl.cells.mono (G:=No) (by omega) (fun _ _ h=>h.elim)).ext e,hl.e1,iV _,hl.l1⟩,⟨(hr.cells.mono (G:=No) (by omega) (fun _ _ h=>h.elim)).ext e,hr.e1,iV _,hr.l1⟩⟩)
 obtain⟨L,hL⟩:∃L,L=l.cells++r.cells:=⟨_,rfl⟩;have hLV:aC l.cells++aC r.cells=aC L:=by rw[hL,gT]
 have hLL:L.length=l.cells.length+r.cells.length:=by rw[hL];simp
 rw[<-hL]at HC ⊢;generalize nH:(if (⟨true,L,[],[]⟩:Nd).ok=true then some (⟨true,L,[],[]⟩:Nd)else none)=D at ⊢;have HD:=aa nH;clear nH;obtain⟨A1,c1,A2,c2,A3,c3⟩:=a;obtain⟨B1,d1,B2,d2,B3,d3⟩:=b;simp only[Nd.value,bL,Eo,List.length_nil]at HL HR HC HPC ⊢;generalize l.keys.length=n2 at *;generalize l.kids.length=n3 at *;generalize r.keys.length=m2 at *;generalize r.kids.length=m3 at *;have sj:ah No w (((w.alloc (.cells #[.bool true,.slice A1 l.cells.length c1,.slice A2 n2 c2,.slice A3 n3 c3] 40)).alloc (.cells #[.bool true,.slice B1 r.cells.length d1,.slice B2 m2 d2,.slice B3 m3 d3] 40)).alloc (.cells #[.bool false,.slice none 0 0,.slice none 0 0,.slice none 0 0] 40)):=(((ah.refl No w).alloc _).alloc _).alloc _;have bl0:ax (((w.alloc (.cells #[.bool true,.slice A1 l.cells.length c1,.slice A2 n2 c2,.slice A3 n3 c3] 40)).alloc (.cells #[.bool true,.slice B1 r.cells.length d1,.slice B2 m2 d2,.slice B3 m3 d3] 40)).alloc (.cells #[.bool false,.slice none 0 0,.slice none 0 0,.slice none 0 0] 40)) w.heap.size 40 #[.bool true,.slice A1 l.cells.length c1,.slice A2 n2 c2,.slice A3 n3 c3]:=((ax.new w 40 _).alloc _).alloc _;have br0:ax (((w.alloc (.cells #[.bool true,.slice A1 l.cells.length c1,.slice A2 n2 c2,.slice A3 n3 c3] 40)).alloc (.cells #[.bool true,.slice B1 r.cells.length d1,.slice B2 m2 d2,.slice B3 m3 d3] 40)).alloc (.cells #[.bool false,.slice none 0 0,.slice none 0 0,.slice none 0 0] 40)) (w.heap.size+1) 40 #[.bool true,.slice B1 r.cells.length d1,.slice B2 m2 d2,.slice B3 m3 d3]:=(ax.aS (b:=w.heap.size+1) (w.alloc _) 40 _ (by simp)).alloc _;have bs0:ax (((w.alloc (.cells #[.bool true,.slice A1 l.cells.length c1,.slice A2 n2 c2,.slice A3 n3 c3] 40)).alloc (.cells #[.bool true,.slice B1 r.cells.length d1,.slice B2 m2 d2,.slice B3 m3 d3] 40)).alloc (.cells #[.bool false,.slice none 0 0,.slice none 0 0,.slice none 0 0] 40)) (w.heap.size+2) 40 #[.bool false,.slice none 0 0,.slice none 0 0,.slice none 0 0]:=ax.aS (b:=w.heap.size+2) ((w.alloc _).alloc _) 40 _ (by simp);have uB:=aa sj;have JQ:=aa bl0;have PR:=aa br0;have yI:=aa bs0;generalize l.cells.length=n1 at *;generalize r.cells.length=m1 at *;have lL:=aa hLL;have HLV:=aa hLV;generalize aC l.cells=xs at *;generalize aC r.cells=ys at *;clear hl hr yF qh sj bl0 br0 bs0 Uh hOr hgf hg hL hLL hLV xH Lr bL Eo;go_enter Tryz.func188,Tryz.ntmps188;go_wp2_with fail;refine(HL.out _ uB.out).mono ?_;rintro e w1 ⟨rfl,aT⟩;have JN:=PR.out.ext aT (fun h=>h);obtain⟨p0,p1,p2,p3,g0,g1,g2,g3,ln⟩:=JN.p4;go_wp2_with fail;refine(HR.out _ (uB.out.ag aT)).mono ?_;rintro e w2 ⟨rfl,aH⟩;clear p0 p1 p2 p3 g0 g1 g2 g3 ln;have bl2:=(JQ.out.ext aT (fun h=>h)).ext aH (fun h=>h);have GR:=JN.ext aH (fun h=>h);have bs2:=(yI.out.ext aT (fun h=>h)).ext aH (fun h=>h);have kG:=(uB.out.ag aT).ag aH;have lr:=bs2.lt;obtain⟨p0,p1,p2,p3,g0,g1,g2,g3,ln⟩:=bl2.p4;obtain⟨q0,q1,q2,q3,f0,f1,f2,f3,lq⟩:=GR.p4;have fQ:=aa kG;have bs3:=bs2
 have oG:Hid (∀g W,ah No w2 W->ax W g 37 #[.slice A1 n1 c1,.slice B1 m1 d1]->Calls Tryz.prog 147 #[.slice (some ⟨g,0,none⟩) 2 2] W (zu 45 4 W (aC L) L.length)):=aa (fun g W jR sG=>by
  obtain⟨Lu,Qp⟩:=HPC.out W (fQ.out.ag jR);have h:=kC [⟨A1,n1,c1,xs⟩,⟨B1,m1,d1,ys⟩] g 2 2 W rfl
   (by intro p hp;simp at hp;rcases hp with rfl|rfl;exact Lu;exact Qp) (by rw[pq];omega) (by omega) (by omega)
   (by
     intro j p hj;match j,hj with
     | 0,hj=>simp at hj;subst hj;exact sG.cell 0
     | 1,hj=>simp at hj;subst hj;exact sG.cell 1
     | j+2,hj=>simp at hj)
  rw[wm,pq,HLV.out,<-lL.out]at h
  exact h)
 have Gl:L.length<65536:=by rw[lL.out];omega
 have Eg:=aa Gl;clear aT aH kG HPC HLV;generalize hLn:L.length=Oh at *;clear Gl;go_wp2_with fail;go_cut [8] (fun v wx=>∃(b8:Nat) (A:Option Addr) (cc:Nat),v=.pointer (some ⟨b8,0,none⟩)/\ax wx b8 40 #[.bool true,.slice A Oh cc,.slice none 0 0,.slice none 0 0]/\w2.heap.size<=b8/\Rd wx (fun b=>b<w2.heap.size\/b=b8) 4 A Oh (aC L)/\Oh<=cc/\(A=none->cc=0)/\ah No w2 wx)
 case first =>
  have ne1:¬(w.heap.size=w2.heap.size):=by omega
  have ne2:¬(w.heap.size=w2.heap.size+1):=by omega
  have ne3:¬(w2.heap.size=w.heap.size):=by omega
  have ne4:¬(w2.heap.size+1=w.heap.size):=by omega
  have ne5:¬(w.heap.size+1=w2.heap.size):=by omega
  have ne6:¬(w.heap.size+1=w2.heap.size+1):=by omega
  have ne7:¬(w2.heap.size=w.heap.size+1):=by omega
  have ne8:¬(w2.heap.size+1=w.heap.size+1):=by omega
  go_region_held3 (fun w'=>w'.cell? ⟨w.heap.size,0,none⟩=some (.bool true)/\w'.cell? ⟨w.heap.size,1,none⟩=some (.slice A1 n1 c1)/\w'.cell? ⟨w.heap.size+1,1,none⟩=some (.slice B1 m1 d1)) (go_keep)
   ((
    go_at_call 147;first
    | (with_reducible (refine(oG.out (w2.heap.size) (w2.alloc (.cells #[.slice A1 n1 c1,.slice B1 m1 d1] 37)).drew ?_ ?_).mono ?_);exact((ah.refl No w2).alloc (.cells #[.slice A1 n1 c1,.slice B1 m1 d1] 37)).drew;exact(ax.new w2 37 _).cO;intro e w3 hh;unfold zu at hh;obtain⟨A,cc,he,aP,bC⟩:=hh;subst he;have HO:=aa aP;have fC:=(((ah.refl No w2).alloc (.cells #[.slice A1 n1 c1,.slice B1 m1 d1] 37)).drew).ag bC;have iF:=aa fC;have HY3:=aa bC;have k0:=aj fC p0 (fun h=>h);have k1:=aj fC p1 (fun h=>h);have k2:=aj fC q1 (fun h=>h);have n11:¬(w.heap.size+1=w3.heap.size):=(by have:=fC.size;omega);have n12:¬(w3.heap.size=w.heap.size+1):=(by have:=fC.size;omega);have ne9:¬(w.heap.size=w3.heap.size):=(by have:=fC.size;omega);have n10:¬(w3.heap.size=w.heap.size):=(by have:=fC.size;omega);clear aP bC fC)
    | (with_reducible (refine(oG.out (w2.heap.size) ((w2.alloc (.cells #[.slice A1 n1 c1,.slice B1 m1 d1] 37)).alloc (.cells #[.bool false,.slice none 0 0,.slice none 0 0,.slice none 0 0] 40)).drew ?_ ?_).mono ?_);exact(((ah.refl No w2).alloc (.cells #[.slice A1 n1 c1,.slice B1 m1 d1] 37)).alloc (.cells #[.bool false,.slice none 0 0,.slice none 0 0,.slice none 0 0] 40)).drew;exact((ax.new w2 37 _).alloc _).cO;intro e w3 hh;unfold zu at hh;obtain⟨A,cc,he,aP,bC⟩:=hh;subst he;have HO:=aa aP;have fC:=((((ah.refl No w2).alloc (.cells #[.slice A1 n1 c1,.slice B1 m1 d1] 37)).alloc (.cells #[.bool false,.slice none 0 0,.slice none 0 0,.slice none 0 0] 40)).drew).ag bC;have iF:=aa fC;have HY3:=aa bC;have k0:=aj fC p0 (fun h=>h);have k1:=aj fC p1 (fun h=>h);have k2:=aj fC q1 (fun h=>h);have n11:¬(w.heap.size+1=w3.heap.size):=(by have:=fC.size;omega);have n12:¬(w3.heap.size=w.heap.size+1):=(by have:=fC.size;omega);have ne9:¬(w.heap.size=w3.heap.size):=(by have:=fC.size;omega);have n10:¬(w3.heap.size=w.heap.size):=(by have:=fC.size;omega);have b8:=ax.aY bC ((ax.aS (b:=w2.heap.size+1) (w2.alloc (.cells #[.slice A1 n1 c1,.slice B1 m1 d1] 37)) 40 #[.bool false,.slice none 0 0,.slice none 0 0,.slice none 0 0] (by simp)).cO) (fun h=>h);have JR:=aa b8;obtain⟨t0,t1,t2,t3,u0,u1,u2,u3,lt⟩:=b8.p4;clear b8;clear aP bC fC)
    | (with_reducible (refine(oG.out (w2.heap.size+1) ((w2.alloc (.cells #[.bool false,.slice none 0 0,.slice none 0 0,.slice none 0 0] 40)).alloc (.cells #[.slice A1 n1 c1,.slice B1 m1 d1] 37)).drew ?_ ?_).mono ?_);exact(((ah.refl No w2).alloc (.cells #[.bool false,.slice none 0 0,.slice none 0 0,.slice none 0 0] 40)).alloc (.cells #[.slice A1 n1 c1,.slice B1 m1 d1] 37)).drew;exact(ax.aS (b:=w2.heap.size+1) (w2.alloc _) 37 _ (by simp)).cO;intro e w3 hh;unfold zu at hh;obtain⟨A,cc,he,aP,bC⟩:=hh;subst he;have HO:=aa aP;have fC:=((((ah.refl No w2).alloc (.cells #[.bool false,.slice none 0 0,.slice none 0 0,.slice none 0 0] 40)).alloc (.cells #[.slice A1 n1 c1,.slice B1 m1 d1] 37)).drew).ag bC;have iF:=aa fC;have HY3:=aa bC;have k0:=aj fC p0 (fun h=>h);have k1:=aj fC p1 (fun h=>h);have k2:=aj fC q1 (fun h=>h);have n11:¬(w.heap.size+1=w3.heap.size):=(by have:=fC.size;omega);have n12:¬(w3.heap.size=w.heap.size+1):=(by have:=fC.size;omega);have ne9:¬(w.heap.size=w3.heap.size):=(by have:=fC.size;omega);have n10:¬(w3.heap.size=w.heap.size):=(by have:=fC.size;omega);have b8:=ax.aY bC (((ax.new w2 40 #[.bool false,.slice none 0 0,.slice none 0 0,.slice none 0 0]).alloc _).cO) (fun h=>h);have JR:=aa b8;obtain⟨t0,t1,t2,t3,u0,u1,u2,u3,lt⟩:=b8.p4;clear b8;clear aP bC fC)))
  all_goals (
   go_wp2_with fail;go_meet
   first
   | (with_reducible (refine GI HO.out ?_ iF.out));(first|exact(((ah.refl No w2).alloc _).drew).size|exact((((ah.refl No w2).alloc _).alloc _).drew).size)
   | (with_reducible (refine DZ HO.out ?_ iF.out JR.out ?_ ?_));(exact((((ah.refl No w2).alloc _).alloc _).drew).size);omega;(show _<((w2.alloc _).alloc _).heap.size;simp <;> omega))
 case rest =>
  obtain⟨b8,A,cc,rfl,bn,hb8,AY,Gg,pW,bC⟩:=hcut;obtain⟨t0,t1,t2,t3,u0,u1,u2,u3,lt⟩:=bn.p4;have bs3:=bs2.ext bC (fun h=>h);have fC:=aa (fQ.out.ag bC);have hN:aW wc (fun b=>b<w2.heap.size\/b=b8) A cc none 0 none 0 ⟨true,L,[],[]⟩:=by
   rw[<-hLn]at AY Gg;exact⟨AY,Rd.lV _,Rd.lV _,Gg,by simp,by simp,(by show L.length<65536;rw[hLn];exact Eg.out),by simp,by simp,pW,fun _=>rfl,fun _=>rfl⟩
  have M6:=aa (HC.out wc _ _ _ _ _ _ _ hN);have HN:=aa hN;have hw:w.heap.size+2<w2.heap.size:=lr;have YI:=aa hw;clear hN AY p0 p1 p2 p3 g0 g1 g2 g3 ln q0 q1 q2 q3 f0 f1 f2 f3 lq bl2 GR bs2 JN bC hw lr;have Bf:=HD.out;rcases Bool.eq_false_or_eq_true (⟨true,L,[],[]⟩:Nd).ok with aX|aX
  rotate_left
  ·have hD:D=none:=by rw[<-Bf,aX];rfl
   rw[Nd.oq aX]at M6;clear HD Bf aX;subst hD;go_wp2_with fail;refine M6.out.mono ?_;rintro e w4 ⟨rfl,ib⟩;have bs4:=bs3.ext ib (fun h=>h);obtain⟨r0,r1,r2,r3,s0,s1,s2,s3,lr⟩:=bs4.p4;have lr:w.heap.size<w4.heap.size:=by omega
   go_wp2_with fail;refine kT (w.heap.size+2) _ (bs4.eu (.bool false) (.slice none 0 0) (.slice none 0 0) (.slice none 0 0)) rfl rfl rfl rfl ?_;exact⟨((((fC.out.ag ib).ai (by omega) _ _).ai (by omega) _ _).ai (by omega) _ _).ai (by omega) _ _,rfl⟩
  ·have hD:D=some ⟨true,L,[],[]⟩:=by rw[<-Bf,aX];rfl
   rw[Nd.jh aX]at M6;clear HD Bf aX;subst hD;have adw:=aa bs3;clear bs3;go_wp2_with fail;refine M6.out.mono ?_;rintro e w4 ⟨rfl,ib⟩;have bs4:=adw.out.ext ib (fun h=>h);have bn4:=bn.ext ib (fun h=>h);obtain⟨r0,r1,r2,r3,s0,s1,s2,s3,lr⟩:=bs4.p4;obtain⟨t0,t1,t2,t3,u0,u1,u2,u3,lt⟩:=bn4.p4;have lr:w.heap.size<w4.heap.size:=by omega
   go_wp2_with fail;refine kT (w.heap.size+2) _ (bs4.eu (.bool true) (.slice A Oh cc) (.slice none 0 0) (.slice none 0 0)) rfl rfl rfl rfl ?_;have iL:(fun b=>b<w2.heap.size\/b=b8) (w.heap.size+2):=.inl YI.out;have hz:ah (fun b=>b<w2.heap.size\/b=b8) w4 _:=((((ah.refl _ w4).ay iL 0 (.bool true)).ay iL 1 (.slice A Oh cc)).ay iL 2 (.slice none 0 0)).ay iL 3 (.slice none 0 0);refine⟨((((fC.out.ag ib).ai (by omega) _ _).ai (by omega) _ _).ai (by omega) _ _).ai (by omega) _ _,⟨A,cc,none,0,none,0⟩,by simp only[Nd.value];rw[hLn];rfl,?_⟩;exact((HN.out.ext ib.of_no).ext hz).mono (fun b _ hb=>by unfold gB at hb;have:=YI.out;exact .inl (by omega))
theorem Zf (n:Nat) (hn:n<4294967296) (w:World):(convert 98 9 (.slice (some ⟨w.heap.size,0,none⟩) 4 4)).run Tryz.prog (w.alloc (.cells #[.int .u8 ((n:Int)%256),.int .u8 ((n:Int) / 256%256),.int .u8 ((n:Int) / 65536%256),.int .u8 ((n:Int) / 16777216%256)] 5)) =
   .ok (.string (au (n4 n))) (w.alloc (.cells #[.int .u8 ((n:Int)%256),.int .u8 ((n:Int) / 256%256),.int .u8 ((n:Int) / 65536%256),.int .u8 ((n:Int) / 16777216%256)] 5)):=by
 have:=run_convert_bytes_back (P:=Tryz.prog) (w.alloc (.cells #[.int .u8 ((n:Int)%256),.int .u8 ((n:Int) / 256%256),.int .u8 ((n:Int) / 65536%256),.int .u8 ((n:Int) / 16777216%256)] 5)) 98 9 5 ⟨w.heap.size,0,none⟩ 4 (n4 n) Tryz.underlying98 Tryz.underlying5 Tryz.underlying9 (by
  intro j hj;have Uc:j<4:=hj;have e0:=fq (n%256) (by omega);have e1:=fq (n / 256%256) (by omega);have e2:=fq (n / 65536%256) (by omega);have e3:=fq (n / 16777216%256) (by omega)
  match j,Uc with
  | 0,_=>simp only[n4,List.getElem_cons_zero,e0];simp[Addr.add]
  | 1,_=>simp only[n4,List.getElem_cons_succ,List.getElem_cons_zero,e1];simp[Addr.add]
  | 2,_=>simp only[n4,List.getElem_cons_succ,List.getElem_cons_zero,e2];simp[Addr.add]
  | 3,_=>simp only[n4,List.getElem_cons_succ,List.getElem_cons_zero,e3];simp[Addr.add])
 exact this
theorem Tj (s:bH) (hs:s.Ok) (w:World) (v:V) (h:aD w s v) (hg:v.Good) (gx i:Nat) (hx:ax w gx 70 (av s i)) (val:Bs) (hv1:1<=val.length) (JE:val.length<=16384) :
  Calls Tryz.prog 140 #[.pointer (some ⟨gx,0,none⟩),.string (au val)] w fun e w'=>e=.returned (.tuple #[.int .i64 ((v.chain s.cap val).1:Int),.int .i64 ((v.chain s.cap val).2.1:Int)])/\aD w' s (v.chain s.cap val).2.2/\(v.chain s.cap val).2.2.Good/\ah s.F w w':=by
 have HX:=aa (fun(w':World) (e:ah s.F w w')=>dS h hx e);obtain⟨D,hD⟩:∃D,D=v.chain s.cap val:=⟨_,rfl⟩;rw[<-hD];unfold V.chain at hD;obtain⟨k0,jK⟩:∃k0,k0=(val.length-1) / 496:=⟨_,rfl⟩;rw[<-jK]at hD;have HD0:=aa hD.symm;have Yx:=aa h;have HG0:=aa hg;have HK:=aa jK;have JF:(((val.length:Int)-1)).tdiv 496=(k0:Int):=by rw[jK,Int.tdiv_eq_ediv_of_nonneg (by omega)];omega
 have Yd:k0<=40:=by omega
 have HKB:=aa Yd;have HV:=aa hv1;have HV2:=aa JE;clear hD jK h hg hx Yd;go_enter Tryz.func140,Tryz.ntmps140;go_wp2_with fail;go_loopg [6,8] (k0+1) (fun gk nx at_ wr=>∃(next:Nat) (v':V),nx=.int .i64 (next:Int)/\at_=.int .i64 (496*(gk:Int)-496)/\Hid (gk<=k0+1)/\Hid (next<=65536)/\Hid (aD wr s v')/\Hid v'.Good/\Hid (ah s.F w wr)/\Hid (bE s.cap val gk next v'=D))
 case atStart =>
  refine⟨0,v,rfl,?_,aa (Nat.le_refl _),aa (by omega),Yx,HG0,aa (ah.refl _ _),HD0⟩;have Yd:=HKB.out;have e1:wrap64 (wrap64 (k0:Int)*496)=496*((k0+1:Nat):Int)-496:=by unfold wrap64;omega
  rw[e1]
 case round =>
  obtain⟨next,v',rfl,rfl,Um,yG,HT,HG,HE,HD⟩:=hrel;clear Yx HG0 HD0;cases gk with
  | zero =>
   have e1:(496*((0:Nat):Int)-496) = -496:=by omega
   rw[e1];have hD:=HD.out;rw[bE]at hD;subst hD;go_wp2_with fail;go_ret2;exact⟨rfl,HT.out,HG.out,HE.out⟩
  | succ k =>
   obtain⟨Pp,qP⟩:∃a,a=k*496:=⟨_,rfl⟩;have e1:(496*((k+1:Nat):Int)-496)=(Pp:Int):=by omega
   rw[e1];have qg:=Um.out;have jK:=HK.out;have hv1:=HV.out;have JE:=HV2.out;have bu:Pp<val.length:=by omega
   have hX:=HX.out _ HE.out;have d0:=hX.cell 0;simp[av]at d0;have ld:=hX.lt;have HA:=aa (GZ s hs wr v' HT.out HG.out);have hGA:=HG.out.alloc HT.out.h2 (bH.oQ hs);have hid:=V.D8 HG.out HT.out.h2 (bH.oQ hs);have hD:=HD.out;rw[bE,<-qP]at hD;obtain⟨r,hr⟩:∃r,r=v'.alloc s.cap:=⟨_,rfl⟩;rw[<-hr]at HA hD hGA hid;obtain⟨id,ca,v1⟩:=r;simp only at HA hD hGA hid;have HGA:=aa hGA.1;have QZ:=aa hid;have mQ:=aa bu;have HAT:=aa qP;have JP:=aa hD;clear hX hr hD hGA hid qg jK hv1 JE e1 qP HD
   by_cases hca:ca=0
   ·subst hca
    go_wp2_with fail;refine HA.out.mono ?_;rintro e w1 ⟨rfl,L6,aT⟩;have Uj:=aa L6;have gK:=aa aT;clear L6 aT;have hX:=HX.out _ (HE.out.ag gK.out);clear d0 ld;have d0:=hX.cell 0;simp[av]at d0;have ld:=hX.lt;clear hX;have kc:=Zf next (by have:=yG.out;omega) w1
    go_wp2_with fail;obtain⟨mt,Es⟩:∃mt,mt=min (Pp+496) val.length:=⟨_,rfl⟩;have hm0:=mQ.out;have hm5:=HV2.out;have Et:min ((Pp:Int)+496) (val.length:Int)=(mt:Int):=by omega
    have Al:IntKind.i64.wrap ((Pp:Int)+496)=(Pp:Int)+496:=IntWalk.i64_in _ (by omega);have hm3:(mt:Int)<=(val.length:Int):=by omega
    have hm4:(Pp:Int)<=(mt:Int):=by omega
    have hm6:Pp<=mt:=by omega
    have hm7:mt<=val.length:=by omega
    have Su:(au val).extract Pp mt=au ((val.drop Pp).take 496):=by
     refine qa _ _ ?_;simp only[au,ByteArray.data_extract,Array.toList_extract,List.extract_eq_drop_take']
     by_cases hq:Pp+496<=val.length
     ·rw[show mt=Pp+496 from by omega,List.take_drop]
     ·rw[show mt=val.length from by omega,List.take_of_length_le (Nat.le_refl _),List.take_of_length_le (by simp;omega)]
    clear Es hm0 hm5;have hD:=JP.out;rw[if_pos (by first|rfl|trivial)]at hD;have hPl:((val.drop Pp).take 496).length<=496:=by rw[List.length_take];omega
    generalize (val.drop Pp).take 496=P at Su hD hPl;have aeJ:au (n4 next)++au P=au (n4 next++P):=qa _ _ (by simp[au]);have eZ:¬(9223372036854775807<(n4 next).length+P.length):=by rw[bX];omega
    have oN:(n4 next++P).length<=500:=by rw[List.length_append,bX];omega
    have HWR:=aa (FJ s hs _ v1 (Uj.out.no hs (((ah.refl No w1).alloc (.cells #[.int .u8 ((next:Int)%256),.int .u8 ((next:Int) / 256%256),.int .u8 ((next:Int) / 65536%256),.int .u8 ((next:Int) / 16777216%256)] 5)).drew)) id 3 (n4 next++P) (by decide) (by decide) oN);have Qy:=HGA.out.set id 3 (n4 next++P) (by decide) oN;obtain⟨r,hr⟩:∃r,r=v1.set id 3 (n4 next++P):=⟨_,rfl⟩;rw[<-hr]at HWR hD Qy;have HGS:=aa Qy;have mE:=aa hD;clear hD hr Qy oN hPl;go_cut [12] (fun k12 wx=>k12=.int .i64 (r.1:Int)/\Hid (aD wx s r.2)/\Hid (ah s.F w1 wx))
    case first =>
     go_region_law ((go_simp;go_at_call 20;refine HWR.out.mono ?_;rintro e w2 ⟨rfl,hT,aH⟩;have rq:=aa hT;have dx:=aa aH;clear hT aH))
     all_goals (
      go_wp2_with fail;go_meet
      exact⟨rfl,rq,aa (((ah.refl s.F w1).alloc _).drew.ag dx.out)⟩)
    case rest =>
     obtain⟨rfl,rq,dx⟩:=hcut;obtain⟨c2,v2⟩:=r;simp only at rq HGS mE ⊢;have fQ:=aa ((HE.out.ag gK.out).ag dx.out)
     by_cases hc2:c2=0
     ·subst hc2
      have hD:=mE.out;rw[if_pos (by first|rfl|trivial)]at hD;have yH:=aa hD;clear hD;go_wp2_with fail;go_roundg k
      case rel =>
       refine⟨id,v2,rfl,?_,aa (by have:=Um.out;omega),QZ,rq,HGS,fQ,yH⟩;have h1:=mQ.out;have h2:=HV2.out;have h3:=HAT.out;rw[show(Pp:Int)-496=496*(k:Int)-496 from by omega]
      case measure=>omega
     ·have ajC:((c2:Int) != 0)=true:=by simpa using (by omega:¬(c2:Int)=0)
      have hD:=mE.out;rw[if_neg hc2]at hD;subst hD;clear hc2;go_wp2_with fail;go_ret2;exact⟨rfl,rq.out,HGS.out,fQ.out⟩
   ·have ajB:((ca:Int) != 0)=true:=by simpa using (by omega:¬(ca:Int)=0)
    have hD:=JP.out;rw[if_neg hca]at hD;subst hD;clear hca;go_wp2_with fail;refine HA.out.mono ?_;rintro e w1 ⟨rfl,L6,aT⟩;go_wp2_with fail;go_ret2;exact⟨rfl,L6,HGA.out,HE.out.ag aT⟩
section
variable {s:bH}{w:World}{gx:Nat}
theorem ex1 (hs:s.Ok) (hc:s.cap=20) (h:aD w s v0) (hx:ax w gx 70 (av s 0)) :
  Calls Tryz.prog 25 #[.pointer (some ⟨gx,0,none⟩),.string ⟨#[97]⟩,.string ⟨#[120]⟩] w (Ez s w (0,e1)):=by
 have:=MO s hs w v0 h PZ gx 0 hx (by decide) ka vx (by decide) (by decide) [] f1 rfl (fun st h=>by cases h);rw[hc]at this;exact(show v0.Put 20 0 ka vx=(0,e1)from Prod.ext f1e rfl)▸this
theorem ex2 (hs:s.Ok) (hc:s.cap=20) (h:aD w s e1) (hg:e1.Good) (hx:ax w gx 70 (av s 0)) :
  Calls Tryz.prog 25 #[.pointer (some ⟨gx,0,none⟩),.string ⟨#[98]⟩,.string ⟨#[121]⟩] w (Ez s w (0,e2)):=by
 have:=MO s hs w e1 h hg gx 0 hx (by decide) kb vy (by decide) (by decide) _ f2 (by kernel_rfl) (fun st h=>by
  simp at h;subst h;have:=f2w;intro e;rw[show(⟨kb,vy,0,0⟩:aA)=cB from rfl,f2w]at e
  cases e)
 rw[hc]at this;exact(show e1.Put 20 0 kb vy=(0,e2)from Prod.ext f2e rfl)▸this
theorem ex3 (hs:s.Ok) (h:aD w s e2) (hg:e2.Good) (hx:ax w gx 70 (av s 0)) :
  Calls Tryz.prog 28 #[.pointer (some ⟨gx,0,none⟩)] w fun e w'=>e=.returned (.tuple #[.int .i64 1,.int .i64 0])/\ah No w w':=by
 have:=DC s hs w e2 h hg gx 0 hx (by decide);rw[f2h]at this;exact this
theorem ex4 (hs:s.Ok) (h:aD w s e2) (hg:e2.Good) (hx:ax w gx 70 (av s 0)) :
  Calls Tryz.prog 24 #[.pointer (some ⟨gx,0,none⟩)] w fun e w'=>e=.returned (.tuple #[.int .i64 1,.int .i64 0])/\ah No w w':=by
 refine KE _ w 1 0 (J7 s hs w e2 h hg gx 0 hx (by decide) (by rw[f2r];decide) ⟨true,[cA,cB],[],[]⟩ (by rw[f2r];exact f2n) rfl (by simp) (fun c hc=>?_));simp at hc;rcases hc with rfl|rfl <;> rfl
theorem ex5 (hs:s.Ok) (h:aD w s e2) (hg:e2.Good) (hx:ax w gx 70 (av s 0)) :
  Calls Tryz.prog 23 #[.pointer (some ⟨gx,0,none⟩),.string ⟨#[98]⟩] w fun e w'=>e=.returned (.tuple #[.string (au vy),.bool true,.int .i64 0])/\ah No w w':=by
 have:=Mc s hs w e2 h hg gx 0 hx (by decide) kb (fun ws c h1 h2=>sP s e2 c (by
  rw[f2y]at h1;injection h1 with h1;subst h1;have:hit [⟨1,⟨true,[cA,cB],[],[]⟩,1⟩] kb=some cB:=by kernel_rfl
  rw[this]at h2;injection h2 with h2;subst h2
  rfl))
 rw[f2g]at this;exact this
theorem ex6 (hs:s.Ok) (hc:s.cap=20) (h:aD w s e2) (hg:e2.Good) (hx:ax w gx 70 (av s 0)) :
  Calls Tryz.prog 27 #[.pointer (some ⟨gx,0,none⟩),.string ⟨#[97]⟩] w (FI s w (true,0,e3)):=by
 have:=M9 s hs w e2 h hg gx 0 hx (by decide) ka (by decide) _ f3 cA (by kernel_rfl) rfl rfl rfl;rw[hc]at this;exact(show e2.vz 20 0 ka=(true,0,e3)from Prod.ext f3e.1 (Prod.ext f3e.2 rfl))▸this
theorem ex7 (hs:s.Ok) (hc:s.cap=20) (h:aD w s e3) (hg:e3.Good) (hx:ax w gx 70 (av s 0)) :
  Calls Tryz.prog 27 #[.pointer (some ⟨gx,0,none⟩),.string ⟨#[98]⟩] w (FI s w (true,0,e4)):=by
 have:=M9 s hs w e3 h hg gx 0 hx (by decide) kb (by decide) _ f4 cB (by kernel_rfl) rfl rfl rfl;rw[hc]at this;exact(show e3.vz 20 0 kb=(true,0,e4)from Prod.ext f4e.1 (Prod.ext f4e.2 rfl))▸this
theorem ex8 (hs:s.Ok) (h:aD w s e4) (hg:e4.Good) (hx:ax w gx 70 (av s 0)) :
  Calls Tryz.prog 28 #[.pointer (some ⟨gx,0,none⟩)] w fun e w'=>e=.returned (.tuple #[.int .i64 0,.int .i64 0])/\ah No w w':=by
 have:=DC s hs w e4 h hg gx 0 hx (by decide);rw[f5h]at this;exact this
theorem ex9 (hs:s.Ok) (h:aD w s e4) (hx:ax w gx 70 (av s 0)) :
  Calls Tryz.prog 24 #[.pointer (some ⟨gx,0,none⟩)] w fun e w'=>e=.returned (.tuple #[.int .i64 0,.int .i64 0])/\ah No w w' :=
 KE _ w 0 (-1) (zQ s hs w e4 h gx 0 hx (by decide) f5r)
end
theorem ah.more {s:bH}{w w1 w2:World}(h:ah No w w1) (hx:ah s.F w1 w2) (hF:∀b,s.F b->w.heap.size<=b):ah No w w2 :=
 h.trans hx fun i hi hf=>absurd (hF i hf) (by omega)
theorem Q_ (w:World):Calls Tryz.prog 18 #[] w fun e w'=>e=.returned (.bool true)/\ah No w w':=by
 have HB:=aa (GV 20 (by decide) (by decide) w);go_enter Tryz.func18,Tryz.ntmps18;go_wp2_with fail;refine HB.out.mono ?_;rintro e w1 ⟨s,hF,rfl,aT,ht,hm,_,_⟩;have hs:=hF.ok;have hc:=hF.cap;have HS:=aa hs;have HC:=aa hc;have Uj:=aa hF.tx;have yz:=aa aT
 have HFF:Hid (∀b,s.F b->w.heap.size<=b):=aa (fun b hb=>by
  rcases hb with rfl|rfl
  ·exact ht
  ·exact hm)
 have HOF:=aa (Ic (some ⟨s.t,0,none⟩) 0 (by decide) w1);have hTa:aD (w1.alloc (.cells (av s 0) 70)) s v0:=hF.tx.no hs ((ah.refl No w1).alloc _);have hXa:ax (w1.alloc (.cells (av s 0) 70)) w1.heap.size 70 (av s 0):=ax.new w1 70 _;have HXa:=aa hXa;have H1:=aa (ex1 hs hc hTa hXa);have HEa:=aa (aT.alloc (.cells (av s 0) 70));have HTa:=aa hTa;clear hF hs hc aT ht hm hTa hXa;go_wp2_with fail;refine HOF.out.mono ?_;rintro e w2 ⟨rfl,rfl⟩;go_wp2_with fail;refine H1.out.mono ?_;rintro e w3 ⟨rfl,Yj,hG3,bC⟩;have hX3:=dS HTa.out HXa.out bC;have iF:=aa hX3;have HT3:=aa Yj;have qi:=aa (HEa.out.more bC HFF.out);have H2:=aa (ex2 HS.out HC.out Yj hG3 hX3);clear Yj hG3 bC hX3;go_wp2_with fail;refine H2.out.mono ?_;rintro e w4 ⟨rfl,hT4,hG4,ib⟩;have hX4:=dS HT3.out iF.out ib;have Bl:=aa hX4;have HT4:=aa hT4;have HG4:=aa hG4;have Q0:=aa (qi.out.more ib HFF.out);have H3:=aa (ex3 HS.out hT4 hG4 hX4);clear hT4 hG4 ib hX4;go_wp2_with fail;refine H3.out.mono ?_;rintro e w5 ⟨rfl,bU⟩;have jl:=aa (Bl.out.ext bU (fun h=>h));have HT5:=aa (HT4.out.no HS.out bU);have Bo:=aa (Q0.out.ag bU);have H4:=aa (ex4 HS.out HT5.out HG4.out jl.out);clear bU;go_wp2_with fail;refine H4.out.mono ?_;rintro e w6 ⟨rfl,kH⟩;have wP:=aa (jl.out.ext kH (fun h=>h));have HT6:=aa (HT5.out.no HS.out kH);have Bn:=aa (Bo.out.ag kH);have H5:=aa (ex5 HS.out HT6.out HG4.out wP.out);clear kH;go_wp2_with fail;refine H5.out.mono ?_;rintro e w7 ⟨rfl,eX⟩;have nS:=aa (wP.out.ext eX (fun h=>h));have FB:=aa (HT6.out.no HS.out eX);have XY:=aa (Bn.out.ag eX);have H6:=aa (ex6 HS.out HC.out FB.out HG4.out nS.out);clear eX;simp only[vy];go_wp2_with fail;refine H6.out.mono ?_;rintro e w8 ⟨rfl,hT8,hG8,kK⟩;have hX8:=dS FB.out nS.out kK;have MU:=aa hX8;have HT8:=aa hT8;have zH:=aa (XY.out.more kK HFF.out);have H7:=aa (ex7 HS.out HC.out hT8 hG8 hX8);clear hT8 hG8 kK hX8;go_wp2_with fail;refine H7.out.mono ?_;rintro e w9 ⟨rfl,LZ,Nr,jO⟩;have hX9:=dS HT8.out MU.out jO;have qY:=aa hX9;have Yw:=aa LZ;have PN:=aa (zH.out.more jO HFF.out);have H8:=aa (ex8 HS.out LZ Nr hX9);clear LZ Nr jO hX9;go_wp2_with fail;refine H8.out.mono ?_;rintro e w10 ⟨rfl,oJ⟩;have Fy:=aa (qY.out.ext oJ (fun h=>h));have ahH:=aa (Yw.out.no HS.out oJ);have aip:=aa (PN.out.ag oJ);have H9:=aa (ex9 HS.out ahH.out Fy.out);clear oJ;go_wp2_with fail;refine H9.out.mono ?_;rintro e JX ⟨rfl,Li⟩;go_wp2_with fail;go_ret;exact⟨rfl,aip.out.ag Li⟩
end Go.Proofs.YtccnemmlkcmceaaGreatDoor
