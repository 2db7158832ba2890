/- Proofs about the given program, joined out of the texts P1, P2, P3, B1, B2, MK, W5, W6, W7, W8, W9. -/
import Derived.Test.YtccnemmlkcmceaaGreatDoorHL6
import Derived.Test.YtccnemmlkcmceaaGreatDoorHL9
set_option linter.unusedVariables false
set_option linter.unusedSimpArgs false
set_option maxRecDepth 100000
set_option maxHeartbeats 6400000
namespace Go.Proofs.YtccnemmlkcmceaaGreatDoor
open Go.RowKit
def zA (w:World) (n:Nd) (e:Ending) (w':World):Prop :=
 ah No w w'/\∃A1 c1 A2 c2 A3 c3,e=.returned (n.value A1 c1 A2 c2 A3 c3)/\aW w' (gB w) A1 c1 A2 c2 A3 c3 n
def Nd.put (n:Nd) (c:aA):Nd :=
 { n with cells:=n.cells.take (n.find c.key).1++c::n.cells.drop (if (n.find c.key).2 then (n.find c.key).1+1 else (n.find c.key).1) }
theorem iV (cs:List aA):∀u∈aC cs,u.oneCell'=true:=by
 intro u hu;simp only[aC,List.mem_flatMap]at hu;obtain⟨c,_,hc⟩:=hu;exact c.one u hc
theorem lU (ks:List Bs):∀u∈aG ks,u.oneCell'=true:=by
 intro u hu;simp only[aG,List.mem_map]at hu;obtain⟨c,_,rfl⟩:=hu;simp[Value.oneCell']
theorem pK (ks:List Nat):∀u∈aK ks,u.oneCell'=true:=by
 intro u hu;simp only[aK,List.mem_map]at hu;obtain⟨c,_,rfl⟩:=hu;simp[Value.oneCell']
theorem Rd.take {w:World}{F:Nat->Prop}{sz:Nat}{A:Option Addr}{n:Nat}{xs:List Value}(h:Rd w F sz A n xs) (k:Nat) (hk:k<=n) (hs:0<sz):Rd w F sz A k (xs.take (k*sz)):=by
 have hm:k*sz<=n*sz:=Nat.mul_le_mul_right sz hk;refine⟨by rw[List.length_take,h.1];omega,fun h0=>?_⟩;obtain⟨b,o,hA,hb,hc⟩:=h.2 (by omega);refine⟨b,o,hA,hb,fun j u hu=>hc j u ?_⟩;rw[List.getElem?_take]at hu;split at hu
 ·exact hu
 ·cases hu
theorem Rd.drop {w:World}{F:Nat->Prop}{sz b o n:Nat}{xs:List Value}(h:Rd w F sz (some ⟨b,o,none⟩) n xs) (k:Nat) (hk:k<=n):Rd w F sz (some ⟨b,o+k*sz,none⟩) (n-k) (xs.drop (k*sz)):=by
 refine⟨by rw[List.length_drop,h.1,Nat.sub_mul],fun h0=>?_⟩;obtain⟨b',o',hA,hb,hc⟩:=h.2 (by omega);injection hA with hA;injection hA with h1 h2;subst h1;subst h2;refine⟨b,o+k*sz,rfl,hb,fun j u hu=>?_⟩;rw[List.getElem?_drop]at hu;have:=hc _ u hu;rwa[<-Nat.add_assoc]at this
theorem Rd.rest {w:World}{F:Nat->Prop}{sz n:Nat}{ad:Addr}{xs:List Value}(h:Rd w F sz (some ad) n xs) (k c:Nat) (hk:k<=n) (hc:n<=c):Rd w F sz (if c=k then some ad else some (ad.add (k*sz))) (n-k) (xs.drop (k*sz)):=by
 rcases Nat.eq_zero_or_pos (n-k)with h0|h0
 ·refine⟨by rw[List.length_drop,h.1,<-Nat.sub_mul],fun h'=>absurd h' (by omega)⟩
 ·rw[if_neg (by omega)]
  obtain⟨b,o,hA,_⟩:=h.2 (by omega);injection hA with hA;subst hA;rw[Addr.iP];exact h.drop k hk
theorem Y2 (n:Nd) (c:aA) (w:World) (F:Nat->Prop) (A1:Option Addr) (c1:Nat) (A2:Option Addr) (c2:Nat) (A3:Option Addr) (c3:Nat) (hn:aW w F A1 c1 A2 c2 A3 c3 n)
  (bL:n.leaf=true) (wK:n.keys = []) (VX:n.kids = []) (hso:ed (n.cells.map aA.key)) (bY:n.cells.length<=1000) :
  Calls Tryz.prog 101 #[n.value A1 c1 A2 c2 A3 c3,c.agg] w (zA w (n.put c)):=by
 have HF:=aa (fun w hn=>Mg n c.key w F A1 c1 A2 c2 A3 c3 hn (fun _=>hso) (fun h=>by rw[bL]at h;cases h));have hi:(n.find c.key).1<=n.cells.length:=by
  simp only[Nd.find,bL,if_true];have:=xe (n.cells.map aA.key) c.key;simpa using this
 have Dw:(n.find c.key).2=true->(n.find c.key).1<n.cells.length:=by
  simp only[Nd.find,bL,if_true,decide_eq_true_eq];intro h;rcases Nat.lt_or_ge (jX (n.cells.map aA.key) c.key) n.cells.length with h'|h'
  ·exact h'
  ·rw[List.getElem?_eq_none (by simpa using h')]at h;simp at h
 obtain⟨lf,cs,ks,kd⟩:=n;simp only at bL wK VX hi Dw bY;subst bL;subst wK;subst VX;unfold Nd.put;simp only;generalize OQ:((⟨true,cs,[],[]⟩:Nd).find c.key).1=i at HF hi Dw ⊢;generalize yE:((⟨true,cs,[],[]⟩:Nd).find c.key).2=there at HF Dw ⊢;clear OQ yE hso;simp only[Nd.value,List.length_nil]at HF ⊢;simp only[aA.agg]at ⊢;have HN:=aa hn;have JF:=hn.l1;have ZO:=hn.e1;have hb1:=hn.b1;simp only at JF hb1;clear hn;obtain⟨i0,mi,eQ,fe,eP⟩:=info_parts Tryz.yS;obtain⟨bh,hbh⟩:∃bh,bh=if there then i+1 else i:=⟨_,rfl⟩
 have oN:bh<=cs.length:=by cases there <;> simp at hbh Dw <;> omega
 have BG:i<=bh:=by cases there <;> simp at hbh <;> omega
 obtain⟨L,hL⟩:∃L,L=cs.take i++c::cs.drop bh:=⟨_,rfl⟩;rw[<-hbh,<-hL];have HL:=aa hL;have HBH:=aa hbh;clear hL hbh Dw;go_enter Tryz.func101,Tryz.ntmps101;go_wp2_with fail;refine(HF.out _ (HN.out.ext ((((ah.refl F w).alloc _).alloc _).alloc _))).mono ?_;rintro e w1 ⟨rfl,aT⟩;have bn:=(((ax.new w 40 #[.bool true,.slice A1 cs.length c1,.slice A2 0 c2,.slice A3 0 c3]).alloc (.cells #[.string (au c.key),.string (au c.val),.int .i64 (c.over:Int),.int .i64 (c.len:Int)] 45)).alloc (.cells #[.bool false,.slice none 0 0,.slice none 0 0,.slice none 0 0] 40)).ext aT (fun h=>h);have bc:=((ax.aS (b:=w.heap.size+1) (w.alloc (.cells #[.bool true,.slice A1 cs.length c1,.slice A2 0 c2,.slice A3 0 c3] 40)) 45 #[.string (au c.key),.string (au c.val),.int .i64 (c.over:Int),.int .i64 (c.len:Int)] (by simp)).alloc (.cells #[.bool false,.slice none 0 0,.slice none 0 0,.slice none 0 0] 40)).ext aT (fun h=>h);have br:=(ax.aS (b:=w.heap.size+1+1) ((w.alloc (.cells #[.bool true,.slice A1 cs.length c1,.slice A2 0 c2,.slice A3 0 c3] 40)).alloc (.cells #[.string (au c.key),.string (au c.val),.int .i64 (c.over:Int),.int .i64 (c.len:Int)] 45)) 40 #[.bool false,.slice none 0 0,.slice none 0 0,.slice none 0 0] (by simp)).ext aT (fun h=>h);have mM:ah No w w1:=by(repeat' (first|exact ah.refl _ _|assumption|apply ah.alloc|apply ah.drewN|apply ah.drew|refine ah.ai ?_ (by first|omega|(simp;omega)|simp) _ _|refine ah.ay ?_ (by first|exact Or.inl rfl|exact Or.inr rfl|rfl) _ _|refine ah.ag ?_ (by assumption)|refine ah.ag ?_ (ah.of_no (by assumption))))
 go_upto_if 20 with fail;go_cut [7] (fun v wx=>v=.int .i64 (bh:Int)/\w1=wx)
 case first =>
  have hb:=HBH.out;cases there
  ·simp only[Bool.false_eq_true,if_false]at hb
   subst hb;go_wp2_with fail;go_meet;exact⟨rfl,rfl⟩
  ·simp only[if_true]at hb
   subst hb;go_wp2_with fail;go_meet;exact⟨by go_num,rfl⟩
 case rest =>
  obtain⟨rfl,rfl⟩:=hcut;have lw1:=br.lt;obtain⟨p0,p1,p2,p3,g0,g1,g2,g3,ln⟩:=bn.p4;obtain⟨q0,q1,q2,q3,f0,f1,f2,f3,lc⟩:=bc.p4;have hb4:(bh:Int)<=cs.length:=by omega
  have vK:(0:Int)<=(bh:Int):=by omega
  cases A1 with
  | none =>
   have jQ:c1=0:=ZO rfl;have xK:cs = []:=by
    rcases Nat.eq_zero_or_pos cs.length with h|h
    ·exact List.eq_nil_of_length_eq_zero h
    ·obtain⟨b,o,hA,_⟩:=HN.out.cells.2 h;cases hA
   subst xK;subst jQ;have OQ:i=0:=by simp at hi;omega
   have Ev:bh=0:=by simp at oN;omega
   subst OQ;subst Ev;have HL:=aa (show L = [c] by simpa using HL.out);simp only[List.length_nil]at p1 bn;go_wp2_with fail;obtain⟨W,hW⟩:∃W,W=((w1.alloc (.cells #[.string (au c.key),.string (au c.val),.int .i64 (c.over:Int),.int .i64 (c.len:Int)] 45)).alloc (.cells #[.slice none 0 0,.slice (some ⟨w1.heap.size,0,none⟩) 1 1,.slice none 0 0] 37)).drew:=⟨_,rfl⟩;have jR:ah No w W:=by rw[hW];exact((mM.alloc _).alloc _).drew
   have Gh:ax W w1.heap.size 45 #[.string (au c.key),.string (au c.val),.int .i64 (c.over:Int),.int .i64 (c.len:Int)]:=by rw[hW];exact(ax.new w1 45 #[.string (au c.key),.string (au c.val),.int .i64 (c.over:Int),.int .i64 (c.len:Int)]).alloc _
   have sG:ax W (w1.heap.size+1) 37 #[.slice none 0 0,.slice (some ⟨w1.heap.size,0,none⟩) 1 1,.slice none 0 0]:=by rw[hW];exact ax.aS (b:=w1.heap.size+1) (w1.alloc (.cells #[.string (au c.key),.string (au c.val),.int .i64 (c.over:Int),.int .i64 (c.len:Int)] 45)) 37 _ (by simp)
   have j_:dC.Ok W 4 ⟨none,0,0,[]⟩:=⟨Rd.lV _,fun _=>rfl,(fun u hu=>by cases hu),Nat.le_refl _⟩;have lJ:dC.Ok W 4 ⟨some ⟨w1.heap.size,0,none⟩,1,1,c.vals⟩:=⟨⟨rfl,fun _=>⟨_,_,rfl,(fun h=>h),fun j u hu=>by rw[Nat.zero_add,Gh.cell j];simpa[aA.vals]using hu⟩⟩,(fun h=>by cases h),c.one,Nat.le_refl _⟩
   have oG:=aa (kC [⟨none,0,0,[]⟩,⟨some ⟨w1.heap.size,0,none⟩,1,1,c.vals⟩,⟨none,0,0,[]⟩] (w1.heap.size+1) 3 3 W rfl
    (by intro p hp;simp at hp;rcases hp with rfl|rfl|rfl <;> first|exact j_|exact lJ) (by simp[bP]) (by omega) (by omega)
    (by
      intro j p hj;match j,hj with
      | 0,hj=>simp at hj;subst hj;exact sG.cell 0
      | 1,hj=>simp at hj;subst hj;exact sG.cell 1
      | 2,hj=>simp at hj;subst hj;exact sG.cell 2
      | j+3,hj=>simp at hj))
   have Ll:bP [⟨none,0,0,[]⟩,⟨some ⟨w1.heap.size,0,none⟩,1,1,c.vals⟩,⟨none,0,0,[]⟩]=([c]:List aA).length:=by simp[bP]
   have LH:eO [⟨none,0,0,[]⟩,⟨some ⟨w1.heap.size,0,none⟩,1,1,c.vals⟩,⟨none,0,0,[]⟩]=aC [c]:=by simp[eO,aC]
   rw[Ll,LH]at oG;have Gl:([c]:List aA).length<65536:=by simp
   clear Ll LH;rw[<-HL.out]at oG Gl;have BU:=aa jR;have hWs:W.heap.size=w1.heap.size+1+1:=by rw[hW];simp
   clear j_ lJ Gh sG jR;subst hW
   go_region_law ((go_simp;go_at_call 147;refine oG.out.mono ?_;rintro e w2 ⟨A,cc,rfl,aP,aH⟩;have HO:=aa aP;have dx:=aa aH;have Fu:=ax.aY aH ((bn.alloc _).alloc _) (fun h=>h);have fz2:=Fu.frozen 1;have ce2:=Fu.cell 1;simp at ce2;clear aP aH))
   all_goals (
    have GR:=ax.aY dx.out ((br.alloc _).alloc _) (fun h=>h);have Jk:=Fu.aQ 1 (.slice A L.length cc);have Jk:ax (w2.setCell ⟨w.heap.size,1,none⟩ (.slice A L.length cc)) w.heap.size 40 #[.bool true,.slice A L.length cc,.slice A2 0 c2,.slice A3 0 c3]:=Jk;have Ui:=GR.far (p:=⟨w.heap.size,1,none⟩) (show w.heap.size+1+1≠w.heap.size by omega) (.slice A L.length cc);obtain⟨p0,p1,p2,p3,g0,g1,g2,g3,ln⟩:=Jk.p4;obtain⟨r0,r1,r2,r3,s0,s1,s2,s3,lr⟩:=Ui.p4;go_wp2_with fail
    all_goals (
     refine bodyPost_ret (results_cell_row (P:=Tryz.prog) rfl _ _ (w.heap.size+1+1) 40 _ (0,0) _ rfl (Ui.eu (.bool true) (.slice A L.length cc) (.slice A2 0 c2) (.slice A3 0 c3)) Tryz.underlying40 rfl (by kernel_rfl)) rfl ?_;have wJ:ah No w w2:=((((mM.alloc _).alloc _).drew).ag dx.out);refine⟨((((wJ.ai (by omega) _ _).ai (by omega) _ _).ai (by omega) _ _).ai (by omega) _ _).ai (by omega) _ _,A,cc,A2,c2,A3,c3,rfl,?_⟩;have hcap:=dX HO.out;have iL:Lo w1.heap.size w.heap.size:=by show w.heap.size<w1.heap.size;omega
     have mo:Lo w1.heap.size (w.heap.size+1+1):=by show w.heap.size+1+1<w1.heap.size;omega
     have vo:aW w2 (Lo w1.heap.size) A cc A2 c2 A3 c3 ⟨true,L,[],[]⟩:=⟨(Rd.jf HO.out (by omega)).mono (by omega) (fun b _ hb=>by unfold Lo at hb ⊢;simp;omega),Rd.lV _,Rd.lV _,hcap,HN.out.l2,HN.out.l3,Gl,by simp,by simp,dA HO.out,HN.out.e2,HN.out.e3⟩;have hz:ah (Lo w1.heap.size) w2 _:=(((((ah.refl _ w2).ay iL 1 (.slice A L.length cc)).ay mo 0 (.bool true)).ay mo 1 (.slice A L.length cc)).ay mo 2 (.slice A2 0 c2)).ay mo 3 (.slice A3 0 c3)
     exact(vo.ext hz).mono (fun b _ hb=>by unfold gB at hb;unfold Lo;omega)))
  | some ad =>
   have hic:i<=c1:=by omega
   have ag0:(i:Int)<=c1:=by omega
   have agZ:(i:Int)<=cs.length:=by omega
   have agY:(0:Int)<=(i:Int):=by omega
   have agX:cs.length<=c1:=JF;go_wp2_with fail;obtain⟨W,hW⟩:∃W,W=((w1.alloc (.cells #[.string (au c.key),.string (au c.val),.int .i64 (c.over:Int),.int .i64 (c.len:Int)] 45)).alloc (.cells #[.slice (some ad) i i,.slice (some ⟨w1.heap.size,0,none⟩) 1 1,.slice (if c1=bh then some ad else some (ad.add (bh*4))) (cs.length-bh) (c1-bh)] 37)).drew:=⟨_,rfl⟩;have jR:ah No w W:=by rw[hW];exact((mM.alloc _).alloc _).drew
   have wL:Rd W No 4 (some ad) cs.length (aC cs):=(HN.out.cells.mono (by omega) (fun _ _ h=>h.elim)).ext jR;have Gh:ax W w1.heap.size 45 #[.string (au c.key),.string (au c.val),.int .i64 (c.over:Int),.int .i64 (c.len:Int)]:=by rw[hW];exact(ax.new w1 45 #[.string (au c.key),.string (au c.val),.int .i64 (c.over:Int),.int .i64 (c.len:Int)]).alloc _
   have sG:ax W (w1.heap.size+1) 37 #[.slice (some ad) i i,.slice (some ⟨w1.heap.size,0,none⟩) 1 1,.slice (if c1=bh then some ad else some (ad.add (bh*4))) (cs.length-bh) (c1-bh)]:=by rw[hW];exact ax.aS (b:=w1.heap.size+1) (w1.alloc (.cells #[.string (au c.key),.string (au c.val),.int .i64 (c.over:Int),.int .i64 (c.len:Int)] 45)) 37 _ (by simp)
   have j_:dC.Ok W 4 ⟨some ad,i,i,aC (cs.take i)⟩:=⟨by rw[<-oO];exact wL.take i hi (by omega),(fun h=>by cases h),iV _,Nat.le_refl _⟩;have lJ:dC.Ok W 4 ⟨some ⟨w1.heap.size,0,none⟩,1,1,c.vals⟩:=⟨⟨rfl,fun _=>⟨_,_,rfl,(fun h=>h),fun j u hu=>by rw[Nat.zero_add,Gh.cell j];simpa[aA.vals]using hu⟩⟩,(fun h=>by cases h),c.one,Nat.le_refl _⟩;have Qw:dC.Ok W 4 ⟨if c1=bh then some ad else some (ad.add (bh*4)),cs.length-bh,c1-bh,aC (cs.drop bh)⟩:=⟨by rw[<-oP];exact wL.rest bh c1 oN JF,(fun h=>by split at h <;> cases h),iV _,by simp only;omega⟩
   have oG:=aa (kC [⟨some ad,i,i,aC (cs.take i)⟩,⟨some ⟨w1.heap.size,0,none⟩,1,1,c.vals⟩,⟨if c1=bh then some ad else some (ad.add (bh*4)),cs.length-bh,c1-bh,aC (cs.drop bh)⟩] (w1.heap.size+1) 3 3 W rfl
    (by intro p hp;simp at hp;rcases hp with rfl|rfl|rfl;exact j_;exact lJ;exact Qw) (by simp[bP];omega) (by omega) (by omega)
    (by
      intro j p hj;match j,hj with
      | 0,hj=>simp at hj;subst hj;exact sG.cell 0
      | 1,hj=>simp at hj;subst hj;exact sG.cell 1
      | 2,hj=>simp at hj;subst hj;exact sG.cell 2
      | j+3,hj=>simp at hj))
   have Ll:bP [⟨some ad,i,i,aC (cs.take i)⟩,⟨some ⟨w1.heap.size,0,none⟩,1,1,c.vals⟩,⟨if c1=bh then some ad else some (ad.add (bh*4)),cs.length-bh,c1-bh,aC (cs.drop bh)⟩]=(cs.take i++c::cs.drop bh).length:=by simp[bP];omega
   have LH:eO [⟨some ad,i,i,aC (cs.take i)⟩,⟨some ⟨w1.heap.size,0,none⟩,1,1,c.vals⟩,⟨if c1=bh then some ad else some (ad.add (bh*4)),cs.length-bh,c1-bh,aC (cs.drop bh)⟩]=aC (cs.take i++c::cs.drop bh):=by simp[eO,gT,jv]
   rw[Ll,LH]at oG;have Gl:(cs.take i++c::cs.drop bh).length<65536:=by simp;omega
   clear Ll LH;rw[<-HL.out]at oG Gl;have BU:=aa jR;have hWs:W.heap.size=w1.heap.size+1+1:=by rw[hW];simp
   clear j_ lJ Qw wL Gh sG jR;subst hW
   go_region_law ((go_simp;go_at_call 147;refine oG.out.mono ?_;rintro e w2 ⟨A,cc,rfl,aP,aH⟩;have HO:=aa aP;have dx:=aa aH;have Fu:=ax.aY aH ((bn.alloc _).alloc _) (fun h=>h);have fz2:=Fu.frozen 1;have ce2:=Fu.cell 1;simp at ce2;clear aP aH))
   all_goals (
    have GR:=ax.aY dx.out ((br.alloc _).alloc _) (fun h=>h);have Jk:=Fu.aQ 1 (.slice A L.length cc);have Jk:ax (w2.setCell ⟨w.heap.size,1,none⟩ (.slice A L.length cc)) w.heap.size 40 #[.bool true,.slice A L.length cc,.slice A2 0 c2,.slice A3 0 c3]:=Jk;have Ui:=GR.far (p:=⟨w.heap.size,1,none⟩) (show w.heap.size+1+1≠w.heap.size by omega) (.slice A L.length cc);obtain⟨p0,p1,p2,p3,g0,g1,g2,g3,ln⟩:=Jk.p4;obtain⟨r0,r1,r2,r3,s0,s1,s2,s3,lr⟩:=Ui.p4;go_wp2_with fail
    all_goals (
     refine bodyPost_ret (results_cell_row (P:=Tryz.prog) rfl _ _ (w.heap.size+1+1) 40 _ (0,0) _ rfl (Ui.eu (.bool true) (.slice A L.length cc) (.slice A2 0 c2) (.slice A3 0 c3)) Tryz.underlying40 rfl (by kernel_rfl)) rfl ?_;have wJ:ah No w w2:=((((mM.alloc _).alloc _).drew).ag dx.out);refine⟨((((wJ.ai (by omega) _ _).ai (by omega) _ _).ai (by omega) _ _).ai (by omega) _ _).ai (by omega) _ _,A,cc,A2,c2,A3,c3,rfl,?_⟩;have hcap:=dX HO.out;have iL:Lo w1.heap.size w.heap.size:=by show w.heap.size<w1.heap.size;omega
     have mo:Lo w1.heap.size (w.heap.size+1+1):=by show w.heap.size+1+1<w1.heap.size;omega
     have vo:aW w2 (Lo w1.heap.size) A cc A2 c2 A3 c3 ⟨true,L,[],[]⟩:=⟨(Rd.jf HO.out (by omega)).mono (by omega) (fun b _ hb=>by unfold Lo at hb ⊢;simp;omega),Rd.lV _,Rd.lV _,hcap,HN.out.l2,HN.out.l3,Gl,by simp,by simp,dA HO.out,HN.out.e2,HN.out.e3⟩;have hz:ah (Lo w1.heap.size) w2 _:=(((((ah.refl _ w2).ay iL 1 (.slice A L.length cc)).ay mo 0 (.bool true)).ay mo 1 (.slice A L.length cc)).ay mo 2 (.slice A2 0 c2)).ay mo 3 (.slice A3 0 c3)
     exact(vo.ext hz).mono (fun b _ hb=>by unfold gB at hb;unfold Lo;omega)))
def Nd.cut (n:Nd) (i:Nat):Nd:={ n with cells:=n.cells.take i++n.cells.drop (i+1) }
theorem aam (n:Nd) (i:Nat) (w:World) (F:Nat->Prop) (A1:Option Addr) (c1:Nat) (A2:Option Addr) (c2:Nat) (A3:Option Addr) (c3:Nat) (hn:aW w F A1 c1 A2 c2 A3 c3 n)
  (bL:n.leaf=true) (wK:n.keys = []) (VX:n.kids = []) (hi:i<n.cells.length) (bY:n.cells.length<=1000) :
  Calls Tryz.prog 103 #[n.value A1 c1 A2 c2 A3 c3,.int .i64 (i:Int)] w (zA w (n.cut i)):=by
 obtain⟨lf,cs,ks,kd⟩:=n;simp only at bL wK VX hi bY;subst bL;subst wK;subst VX;unfold Nd.cut;simp only[Nd.value,List.length_nil];have HN:=aa hn;have JF:=hn.l1;have hb1:=hn.b1;simp only at JF hb1;obtain⟨b,o,hA,_⟩:=hn.cells.2 (show 0<cs.length by omega);obtain⟨ad,had⟩:∃ad,A1=some ad:=⟨_,hA⟩;subst had;clear hn hA;obtain⟨i0,mi,eQ,fe,eP⟩:=info_parts Tryz.yS;obtain⟨L,hL⟩:∃L,L=cs.take i++cs.drop (i+1):=⟨_,rfl⟩;rw[<-hL];have HL:=aa hL;clear hL;have bn:=(ax.new w 40 #[.bool true,.slice (some ad) cs.length c1,.slice A2 0 c2,.slice A3 0 c3]).alloc (.cells #[.bool false,.slice none 0 0,.slice none 0 0,.slice none 0 0] 40);have br:=ax.aS (b:=w.heap.size+1) (w.alloc (.cells #[.bool true,.slice (some ad) cs.length c1,.slice A2 0 c2,.slice A3 0 c3] 40)) 40 #[.bool false,.slice none 0 0,.slice none 0 0,.slice none 0 0] (by simp);have mM:ah No w ((w.alloc (.cells #[.bool true,.slice (some ad) cs.length c1,.slice A2 0 c2,.slice A3 0 c3] 40)).alloc (.cells #[.bool false,.slice none 0 0,.slice none 0 0,.slice none 0 0] 40)):=((ah.refl No w).alloc _).alloc _;generalize vk:(w.alloc (.cells #[.bool true,.slice (some ad) cs.length c1,.slice A2 0 c2,.slice A3 0 c3] 40)).alloc (.cells #[.bool false,.slice none 0 0,.slice none 0 0,.slice none 0 0] 40)=w1 at bn br mM;have adR:w1.heap.size=w.heap.size+1+1:=by rw[<-vk];simp
 have ajo:(i:Int)<cs.length:=by omega
 have agY:(0:Int)<=(i:Int):=by omega
 obtain⟨p0,p1,p2,p3,g0,g1,g2,g3,ln⟩:=bn.p4;have hic:i<=c1:=by omega
 have ag0:(i:Int)<=c1:=by omega
 have agZ:(i:Int)<=cs.length:=by omega
 have agX:cs.length<=c1:=JF;have agW:i+1<=cs.length:=by omega
 have ajn:(i:Int)+1<=cs.length:=by omega
 have ajm:(0:Int)<=(i:Int)+1:=by omega
 have ajl:IntKind.i64.wrap ((i:Int)+1)=(i:Int)+1:=IntWalk.i64_in _ (by omega);have aiT:((i:Int)+1).toNat=i+1:=by omega
 obtain⟨W,hW⟩:∃W,W=(w1.alloc (.cells #[.slice (some ad) i i,.slice (if c1=i+1 then some ad else some (ad.add ((i+1)*4))) (cs.length-(i+1)) (c1-(i+1))] 37)).drew:=⟨_,rfl⟩;have jR:ah No w W:=by rw[hW];exact(mM.alloc _).drew
 have wL:Rd W No 4 (some ad) cs.length (aC cs):=(HN.out.cells.mono (by omega) (fun _ _ h=>h.elim)).ext jR;have sG:ax W (w.heap.size+1+1) 37 #[.slice (some ad) i i,.slice (if c1=i+1 then some ad else some (ad.add ((i+1)*4))) (cs.length-(i+1)) (c1-(i+1))]:=by rw[hW];exact ax.aS (b:=w.heap.size+1+1) w1 37 _ adR
 have j_:dC.Ok W 4 ⟨some ad,i,i,aC (cs.take i)⟩:=⟨by rw[<-oO];exact wL.take i (by omega) (by omega),(fun h=>by cases h),iV _,Nat.le_refl _⟩;have Qw:dC.Ok W 4 ⟨if c1=i+1 then some ad else some (ad.add ((i+1)*4)),cs.length-(i+1),c1-(i+1),aC (cs.drop (i+1))⟩:=⟨by rw[<-oP];exact wL.rest (i+1) c1 agW JF,(fun h=>by split at h <;> cases h),iV _,by simp only;omega⟩
 have oG:=aa (kC [⟨some ad,i,i,aC (cs.take i)⟩,⟨if c1=i+1 then some ad else some (ad.add ((i+1)*4)),cs.length-(i+1),c1-(i+1),aC (cs.drop (i+1))⟩] (w.heap.size+1+1) 2 2 W rfl
  (by intro p hp;simp at hp;rcases hp with rfl|rfl;exact j_;exact Qw) (by simp[bP];omega) (by omega) (by omega)
  (by
    intro j p hj;match j,hj with
    | 0,hj=>simp at hj;subst hj;exact sG.cell 0
    | 1,hj=>simp at hj;subst hj;exact sG.cell 1
    | j+2,hj=>simp at hj))
 have Ll:bP [⟨some ad,i,i,aC (cs.take i)⟩,⟨if c1=i+1 then some ad else some (ad.add ((i+1)*4)),cs.length-(i+1),c1-(i+1),aC (cs.drop (i+1))⟩]=(cs.take i++cs.drop (i+1)).length:=by simp[bP];omega
 have LH:eO [⟨some ad,i,i,aC (cs.take i)⟩,⟨if c1=i+1 then some ad else some (ad.add ((i+1)*4)),cs.length-(i+1),c1-(i+1),aC (cs.drop (i+1))⟩]=aC (cs.take i++cs.drop (i+1)):=by simp[eO,gT]
 rw[Ll,LH]at oG;have Gl:(cs.take i++cs.drop (i+1)).length<65536:=by simp;omega
 rw[<-HL.out]at oG Gl;clear Ll LH j_ Qw wL sG jR;subst hW;go_enter Tryz.func103,Tryz.ntmps103;go_wp2_with fail
 go_region_law ((go_simp;go_at_call 147;refine oG.out.mono ?_;rintro e w2 ⟨A,cc,rfl,aP,aH⟩;have HO:=aa aP;have dx:=aa aH;have Fu:=ax.aY aH (bn.alloc _) (fun h=>h);have fz2:=Fu.frozen 1;have ce2:=Fu.cell 1;simp at ce2;clear aP aH))
 all_goals (
  have GR:=ax.aY dx.out (br.alloc _) (fun h=>h);have Jk:=Fu.aQ 1 (.slice A L.length cc);have Jk:ax (w2.setCell ⟨w.heap.size,1,none⟩ (.slice A L.length cc)) w.heap.size 40 #[.bool true,.slice A L.length cc,.slice A2 0 c2,.slice A3 0 c3]:=Jk;have Ui:=GR.far (p:=⟨w.heap.size,1,none⟩) (show w.heap.size+1≠w.heap.size by omega) (.slice A L.length cc);obtain⟨p0,p1,p2,p3,g0,g1,g2,g3,ln⟩:=Jk.p4;obtain⟨r0,r1,r2,r3,s0,s1,s2,s3,lr⟩:=Ui.p4;go_wp2_with fail
  all_goals (
   refine bodyPost_ret (results_cell_row (P:=Tryz.prog) rfl _ _ (w.heap.size+1) 40 _ (0,0) _ rfl (Ui.eu (.bool true) (.slice A L.length cc) (.slice A2 0 c2) (.slice A3 0 c3)) Tryz.underlying40 rfl (by kernel_rfl)) rfl ?_;have wJ:ah No w w2:=(((mM.alloc _).drew).ag dx.out);refine⟨((((wJ.ai (by omega) _ _).ai (by omega) _ _).ai (by omega) _ _).ai (by omega) _ _).ai (by omega) _ _,A,cc,A2,c2,A3,c3,rfl,?_⟩;have hcap:=dX HO.out;have iL:Lo w1.heap.size w.heap.size:=by show w.heap.size<w1.heap.size;omega
   have mo:Lo w1.heap.size (w.heap.size+1):=by show w.heap.size+1<w1.heap.size;omega
   have vo:aW w2 (Lo w1.heap.size) A cc A2 c2 A3 c3 ⟨true,L,[],[]⟩:=⟨(Rd.jf HO.out (by omega)).mono (by omega) (fun b _ hb=>by unfold Lo at hb ⊢;simp;omega),Rd.lV _,Rd.lV _,hcap,HN.out.l2,HN.out.l3,Gl,by simp,by simp,dA HO.out,HN.out.e2,HN.out.e3⟩;have hz:ah (Lo w1.heap.size) w2 _:=(((((ah.refl _ w2).ay iL 1 (.slice A L.length cc)).ay mo 0 (.bool true)).ay mo 1 (.slice A L.length cc)).ay mo 2 (.slice A2 0 c2)).ay mo 3 (.slice A3 0 c3)
   exact(vo.ext hz).mono (fun b _ hb=>by unfold gB at hb;unfold Lo;omega)))
def Nd.part (n:Nd) (f t:Nat):Nd :=
 if n.leaf then ⟨true,(n.cells.drop f).take (t-f),[],[]⟩else ⟨false,[],(n.keys.drop f).take (t-f),(n.kids.drop f).take (t+1-f)⟩
theorem Rd.sub {w:World}{F:Nat->Prop}{sz n:Nat}{ad:Addr}{xs:List Value}(h:Rd w F sz (some ad) n xs) (f t c:Nat) (hf:f<=t) (ht:t<=n) (hc:n<=c) (hs:0<sz):Rd w F sz (if c=f then some ad else some (ad.add (f*sz))) (t-f) ((xs.drop (f*sz)).take ((t-f)*sz)) :=
 (h.rest f c (by omega) hc).take (t-f) (by omega) hs
theorem Rz (n:Nd) (f t:Nat) (w:World) (F:Nat->Prop) (A1:Option Addr) (c1:Nat) (A2:Option Addr) (c2:Nat) (A3:Option Addr) (c3:Nat) (hn:aW w F A1 c1 A2 c2 A3 c3 n)
  (bL:n.leaf=true) (h0:0<n.cells.length) (hf:f<t) (ht:t<=n.cells.length) :
  Calls Tryz.prog 182 #[n.value A1 c1 A2 c2 A3 c3,.int .i64 (f:Int),.int .i64 (t:Int)] w (zA w (n.part f t)):=by
 obtain⟨b,o,hA,_⟩:=hn.cells.2 h0;obtain⟨ad,had⟩:∃ad,A1=some ad:=⟨_,hA⟩;subst had;clear hA;have hp:n.part f t=⟨true,(n.cells.drop f).take (t-f),[],[]⟩:=by simp[Nd.part,bL]
 rw[hp];have JF:=hn.l1;have hb1:=hn.b1;have jR:ah No w ((w.alloc (.cells #[.bool true,.slice (some ad) n.cells.length c1,.slice A2 n.keys.length c2,.slice A3 n.kids.length c3] 40)).alloc (.cells #[.bool false,.slice none 0 0,.slice none 0 0,.slice none 0 0] 40)):=((ah.refl No w).alloc _).alloc _;have wL:=((hn.cells.mono (G:=No) (by omega) (fun _ _ h=>h.elim)).ext jR).sub f t c1 (by omega) ht JF (by omega);rw[oP,oO]at wL;have aX:dC.Ok ((w.alloc (.cells #[.bool true,.slice (some ad) n.cells.length c1,.slice A2 n.keys.length c2,.slice A3 n.kids.length c3] 40)).alloc (.cells #[.bool false,.slice none 0 0,.slice none 0 0,.slice none 0 0] 40)) 4 ⟨if c1=f then some ad else some (ad.add (f*4)),t-f,c1-f,aC ((n.cells.drop f).take (t-f))⟩ :=
  ⟨wL,(fun h=>by split at h <;> cases h),iV _,by simp only;omega⟩
 have oG:=aa (MB _ _ aX (by simp only;omega));have hLl:((n.cells.drop f).take (t-f)).length=t-f:=by simp;omega
 obtain⟨L,hL⟩:∃L,L=(n.cells.drop f).take (t-f):=⟨_,rfl⟩;rw[<-hL]at hLl oG ⊢;have lL:=aa hLl;simp only[Nd.value,bL,dC.v]at oG ⊢;have yE:(f:Int)<=t:=by omega
 have Dw:(t:Int)<=c1:=by omega
 have hi3:(0:Int)<=f:=by omega
 have hi4:t<=c1:=by omega
 have Gl:t-f<65536:=by omega
 generalize n.cells.length=nl at *;generalize n.keys.length=kl at *;generalize n.kids.length=il at *;clear hp JF hb1 jR wL aX hLl hL hn bL h0 ht;have Fh:¬c1=f:=by omega
 simp only[Fh,if_false]at oG;go_enter Tryz.func182,Tryz.ntmps182;go_wp2_with fail;refine oG.out.mono ?_;rintro e w2 ⟨A,cc,rfl,aP,aH⟩;have HO:=aa aP;have dx:=aa aH;have br:=(ax.aS (b:=w.heap.size+1) (w.alloc (.cells #[.bool true,.slice (some ad) nl c1,.slice A2 kl c2,.slice A3 il c3] 40)) 40 #[.bool false,.slice none 0 0,.slice none 0 0,.slice none 0 0] (by simp)).ext aH (fun h=>h);obtain⟨r0,r1,r2,r3,s0,s1,s2,s3,lr⟩:=br.p4;clear aP aH;go_wp2_with fail;refine bodyPost_ret (results_cell_row (P:=Tryz.prog) rfl _ _ (w.heap.size+1) 40 _ (0,0) _ rfl (br.eu (.bool true) (.slice A (t-f) cc) (.slice none 0 0) (.slice none 0 0)) Tryz.underlying40 rfl (by kernel_rfl)) rfl ?_;have wJ:ah No w w2:=(((ah.refl No w).alloc _).alloc _).ag dx.out;refine⟨(((wJ.ai (by omega) _ _).ai (by omega) _ _).ai (by omega) _ _).ai (by omega) _ _,A,cc,none,0,none,0,by rw[<-lL.out];rfl,?_⟩;have hcap:=dX HO.out;have mo:Lo (w.heap.size+2) (w.heap.size+1):=by show w.heap.size+1<w.heap.size+2;omega
 have vo:aW w2 (Lo (w.heap.size+2)) A cc none 0 none 0 ⟨true,L,[],[]⟩:=⟨by have:=(Rd.jf HO.out (by omega)).mono (G:=Lo (w.heap.size+2)) (by omega) (fun b _ hb=>by unfold Lo at hb ⊢;simp;omega);rw[lL.out];exact this,Rd.lV _,Rd.lV _,by rw[lL.out];exact hcap,by simp,by simp,by rw[lL.out];omega,by simp,by simp,dA HO.out,fun _=>rfl,fun _=>rfl⟩;have hz:ah (Lo (w.heap.size+2)) w2 _:=((((ah.refl _ w2).ay mo 0 (.bool true)).ay mo 1 (.slice A (t-f) cc)).ay mo 2 (.slice none 0 0)).ay mo 3 (.slice none 0 0);exact(vo.ext hz).mono (fun b _ hb=>by unfold gB at hb;unfold Lo;omega)
def V.node (v:V) (id:Nat):Option Nd:=if v.err id=0 then (if (v.pg id).kind=2 then GH (v.pg id).body else none)else none
structure dN where
 id:Nat
 n:Nd
 i:Nat
def V.lD (v:V) (key:Bs):Nat->Nat->List dN->Option (List dN)
 | 0,_,_=>none
 | k+1,id,out=>if id=0 then some out else match v.node id with
  | none=>none
  | some n=>if out.length=40 then none else
   if n.leaf then some (out ++ [⟨id,n,(n.find key).1⟩])else v.lD key k (n.kids.getD (n.find key).1 0) (out ++ [⟨id,n,(n.find key).1⟩])
def V.way (v:V) (root:Nat) (key:Bs):Option (List dN):=v.lD key 41 (v.r root) []
def hit (ws:List dN) (key:Bs):Option aA :=
 match ws.getLast? with
 | none=>none
 | some st=>match st.n.cells[st.i]? with
  | none=>none
  | some c=>if c.key=key then some c else none
def V.get (v:V) (root:Nat) (key:Bs):Bs×Bool×Nat :=
 if iE key []≠0 then ([],false,iE key [])else
 match v.way root key with
 | none=>([],false,5)
 | some ws=>match hit ws key with
  | none=>([],false,0)
  | some c=>match v.value c with
   | none=>([],false,5)
   | some b=>(b,true,0)
def V.wr (v:V) (id:Nat) (n:Nd):Nat×V:=if n.out.2=0 then v.set id 2 n.out.1 else (n.out.2,v)
def V.fresh (cap:Nat) (v:V) (n:Nd):Nat×Nat×V :=
 if (v.alloc cap).2.1=0 then ((v.alloc cap).1,((v.alloc cap).2.2.wr (v.alloc cap).1 n).1,((v.alloc cap).2.2.wr (v.alloc cap).1 n).2)else (0,(v.alloc cap).2.1,(v.alloc cap).2.2)
def V.kI (v:V):V:={ v with spoilt:=true }
def V.sure (r:Nat×V):Nat×V:=if r.1=0 then r else (r.1,r.2.kI)
def Nd.all (n:Nd):Nat:=if n.leaf then n.cells.length else n.keys.length
def Nd.gap (n:Nd):Nat:=if n.leaf then 0 else 1
def Nd.lS (n:Nd) (i:Nat):Nat:=max (n.part 0 i).size (n.part (i+n.gap) n.all).size
def Nd.dm (n:Nd):Nat->Nat->Nat×Nat->Nat×Nat
 | 0,_,r=>r
 | f+1,i,r=>n.dm f (i+1) (if n.lS i<r.2 then (i,n.lS i)else r)
def Nd.fV (n:Nd):Nat:=(n.dm (n.all-n.gap-1) 1 (1,1073741824)).1
def Nd.mid (n:Nd) (k:Nat):Bs:=if n.leaf then (n.cells.map aA.key).getD k []else n.keys.getD k []
def Nd.split (n:Nd):Option (Nd×Nd×Bs) :=
 if n.ok=false\/n.all<2+n.gap then none else some (n.part 0 n.fV,n.part (n.fV+n.gap) n.all,n.mid n.fV)
def Nd.glue (l r:Nd) (key:Bs):Nd:=if l.leaf then ⟨true,l.cells++r.cells,[],[]⟩else ⟨false,l.cells++r.cells,l.keys++key::r.keys,l.kids++r.kids⟩
def Nd.join (l r:Nd) (key:Bs):Option Nd:=if l.ok=false\/r.ok=false\/l.leaf≠r.leaf then none else if (l.glue r key).ok then some (l.glue r key)else none
def Nd.Sz (n:Nd):Nat:=if n.ok then n.size else 0
def V.grow (cap root:Nat):List dN->Nd->V->Nat×V
 | [],_,v=>(0,v)
 | st::up,n,v =>
  if (v.wr st.id n).1≠3 then v.wr st.id n else
  match n.split with
  | none=>(2,(v.wr st.id n).2)
  | some (l,r,key) =>
   if ((v.wr st.id n).2.wr st.id l).1≠0 then (v.wr st.id n).2.wr st.id l else
   if (((v.wr st.id n).2.wr st.id l).2.fresh cap r).2.1≠0 then (((v.wr st.id n).2.wr st.id l).2.fresh cap r).2 else
   match up with
   | [] =>
    if ((((v.wr st.id n).2.wr st.id l).2.fresh cap r).2.2.fresh cap ⟨false,[],[key],[st.id,(((v.wr st.id n).2.wr st.id l).2.fresh cap r).1]⟩).2.1≠0 then
     ((((v.wr st.id n).2.wr st.id l).2.fresh cap r).2.2.fresh cap ⟨false,[],[key],[st.id,(((v.wr st.id n).2.wr st.id l).2.fresh cap r).1]⟩).2 else
    (0,((((v.wr st.id n).2.wr st.id l).2.fresh cap r).2.2.fresh cap ⟨false,[],[key],[st.id,(((v.wr st.id n).2.wr st.id l).2.fresh cap r).1]⟩).2.2.eU root
     ((((v.wr st.id n).2.wr st.id l).2.fresh cap r).2.2.fresh cap ⟨false,[],[key],[st.id,(((v.wr st.id n).2.wr st.id l).2.fresh cap r).1]⟩).1)
   | p::_ =>
    V.grow cap root up ⟨false,[],p.n.keys.insertIdx p.i key,p.n.kids.insertIdx (p.i+1) (((v.wr st.id n).2.wr st.id l).2.fresh cap r).1⟩ (((v.wr st.id n).2.wr st.id l).2.fresh cap r).2.2
def V.fP (cap root:Nat) (v:V) (key val:Bs):Nat×V :=
 match v.way root key with
 | none=>(5,v)
 | some ws =>
  if (v.aI cap key val).2.1≠0 then (v.aI cap key val).2 else
  match ws.getLast? with
  | none =>
   if ((v.aI cap key val).2.2.fresh cap ⟨true,[(v.aI cap key val).1],[],[]⟩).2.1≠0 then ((v.aI cap key val).2.2.fresh cap ⟨true,[(v.aI cap key val).1],[],[]⟩).2 else
   (0,((v.aI cap key val).2.2.fresh cap ⟨true,[(v.aI cap key val).1],[],[]⟩).2.2.eU root ((v.aI cap key val).2.2.fresh cap ⟨true,[(v.aI cap key val).1],[],[]⟩).1)
  | some st =>
   match hit ws key with
   | none=>V.grow cap root ws.reverse (st.n.put (v.aI cap key val).1) (v.aI cap key val).2.2
   | some c =>
    if ((v.aI cap key val).2.2.bG c).1≠0 then (v.aI cap key val).2.2.bG c else
    V.grow cap root ws.reverse (st.n.put (v.aI cap key val).1) ((v.aI cap key val).2.2.bG c).2
def V.Put (cap root:Nat) (v:V) (key val:Bs):Nat×V:=if iE key val≠0 then (iE key val,v)else V.sure (v.fP cap root key val)
def V.settle (root:Nat) (v:V) (id:Nat) (n:Nd) (first:Bool):Nat×V :=
 if first=false\/(n.leaf=true/\0<n.cells.length)\/0<n.keys.length then v.wr id n else
 if (v.drop id).1≠0 then v.drop id else (0,(v.drop id).2.eU root (if n.leaf then 0 else n.kids.getD 0 0))
def V.beside (v:V) (p:Nd) (i:Nat) (n:Nd):Nat×Nat×Nd :=
 if p.keys = []then (5,0,n)else
 if 0<i then (match v.node (p.kids.getD (i-1) 0)with
  | none=>(5,i-1,n)
  | some l=>match l.join n (p.keys.getD (i-1) [])with
   | none=>(2,i-1,⟨false,[],[],[]⟩)
   | some b=>(0,i-1,b))
 else (match v.node (p.kids.getD 1 0)with
  | none=>(5,0,n)
  | some r=>match n.join r (p.keys.getD 0 [])with
   | none=>(2,0,⟨false,[],[],[]⟩)
   | some b=>(0,0,b))
def V.share (cap root:Nat) (ws:List dN) (up:Nd) (at_:Nat) (both:Nd) (v:V):Nat×V :=
 match both.split with
 | none=>(2,v)
 | some (l,r,key) =>
  if (v.wr (up.kids.getD at_ 0) l).1≠0 then v.wr (up.kids.getD at_ 0) l else
  if ((v.wr (up.kids.getD at_ 0) l).2.wr (up.kids.getD (at_+1) 0) r).1≠0 then (v.wr (up.kids.getD at_ 0) l).2.wr (up.kids.getD (at_+1) 0) r else
  V.grow cap root ws ⟨false,[],up.keys.set at_ key,up.kids⟩ ((v.wr (up.kids.getD at_ 0) l).2.wr (up.kids.getD (at_+1) 0) r).2
def V.shrink (cap root:Nat):List dN->Nd->V->Nat×V
 | [],_,v=>(0,v)
 | [st],n,v=>v.settle root st.id n true
 | st::p::up,n,v =>
  if 166<=n.Sz then v.settle root st.id n false else
  if (v.beside p.n p.i n).1≠0 then ((v.beside p.n p.i n).1,v)else
  if 500<(v.beside p.n p.i n).2.2.Sz then V.share cap root (p::up) p.n (v.beside p.n p.i n).2.1 (v.beside p.n p.i n).2.2 v else
  if (v.wr (p.n.kids.getD (v.beside p.n p.i n).2.1 0) (v.beside p.n p.i n).2.2).1≠0 then v.wr (p.n.kids.getD (v.beside p.n p.i n).2.1 0) (v.beside p.n p.i n).2.2 else
  if ((v.wr (p.n.kids.getD (v.beside p.n p.i n).2.1 0) (v.beside p.n p.i n).2.2).2.drop (p.n.kids.getD ((v.beside p.n p.i n).2.1+1) 0)).1≠0 then
   (v.wr (p.n.kids.getD (v.beside p.n p.i n).2.1 0) (v.beside p.n p.i n).2.2).2.drop (p.n.kids.getD ((v.beside p.n p.i n).2.1+1) 0)else
  V.shrink cap root (p::up) ⟨false,[],p.n.keys.eraseIdx (v.beside p.n p.i n).2.1,p.n.kids.eraseIdx ((v.beside p.n p.i n).2.1+1)⟩
   ((v.wr (p.n.kids.getD (v.beside p.n p.i n).2.1 0) (v.beside p.n p.i n).2.2).2.drop (p.n.kids.getD ((v.beside p.n p.i n).2.1+1) 0)).2
def Nd.cutAt (n:Nd) (i:Nat):Nd:={ n with cells:=n.cells.take i++n.cells.drop (i+1) }
def V.iD (cap root:Nat) (v:V) (key:Bs):Bool×Nat×V :=
 match v.way root key with
 | none=>(false,5,v)
 | some ws=>match ws.getLast?,hit ws key with
  | some st,some c=>if (v.bG c).1≠0 then (false,v.bG c)else (true,V.shrink cap root ws.reverse (st.n.cutAt st.i) (v.bG c).2)
  | _,_=>(false,0,v)
def V.vz (cap root:Nat) (v:V) (key:Bs):Bool×Nat×V :=
 if iE key []≠0 then (false,iE key [],v)else
 if (v.iD cap root key).2.1=0 then v.iD cap root key else (false,(v.iD cap root key).2.1,(v.iD cap root key).2.2.kI)
def qf (low high k:Bs):Bool:=!(fA k low)&&(high.isEmpty||fA k high)
def V.fZ (v:V) (low high:Bs):List aA->Nat->Option Nat
 | [],p=>some p
 | c::cs,p=>if qf low high c.key then (match v.value c with
  | none=>none
  | some _=>v.fZ low high cs (if 0<c.over then p+max 1 ((c.len+495) / 496)else p))else none
def iI (f:Nat->Bs->Bs->Nat×Option Nat->Option (Nat×Option Nat)) (low high:Bs):Bool->List (Nat×Bs×Bs)->Nat×Option Nat->Option (Nat×Option Nat)
 | _,[],s=>some s
 | first,(kid,lo,hi)::l,s=>if first=false/\qf low high lo=false then none else match f kid lo hi s with
  | none=>none
  | some s'=>iI f low high false l s'
def V.look (v:V):Nat->Nat->Nat->Bs->Bs->Nat×Option Nat->Option (Nat×Option Nat)
 | 0,_,_,_,_,_=>none
 | k+1,id,deep,low,high,s=>match v.node id with
  | none=>none
  | some n=>if 40<deep\/65536<s.1+1 then none else match v.fZ low high n.cells (s.1+1)with
   | none=>none
   | some p=>if n.leaf then (if (s.2.isSome=true/\s.2≠some deep)\/n.cells.length=0 then none else some (p,some deep))
    else iI (fun kid lo hi s=>v.look k kid (deep+1) lo hi s) low high true (n.kids.zip ((low::n.keys).zip (n.keys ++ [high]))) (p,s.2)
def V.qx (v:V) (root:Nat):Option (Nat×Option Nat):=if v.r root=0 then some (0,none)else v.look 42 (v.r root) 0 [] [] (0,none)
inductive V.aN (cap:Nat) (sp:Bool) (v:V):V->Prop
 | refl:V.aN cap sp v v
 | alloc {u:V}:V.aN cap sp v u->V.aN cap sp v (u.alloc cap).2.2
 | set {u:V}(id k:Nat) (b:Bs):1<=k->k<=254->V.aN cap sp v u->V.aN cap sp v (u.set id k b).2
 | drop {u:V}(id:Nat):V.aN cap sp v u->V.aN cap sp v (u.drop id).2
 | eU {u:V}(i n:Nat):V.aN cap sp v u->V.aN cap sp v (u.eU i n)
 | kI {u:V}:sp=true->V.aN cap sp v u->V.aN cap sp v u.kI
abbrev V.Steps (cap:Nat) (v u:V):Prop:=V.aN cap true v u
section
variable {cap:Nat}{sp:Bool}{v u x:V}
theorem V.aN.trans (h:V.aN cap sp v u) (h':V.aN cap sp u x):V.aN cap sp v x:=by
 induction h' with
 | refl=>exact h
 | alloc _ ih=>exact ih.alloc
 | set id k b h1 h2 _ ih=>exact ih.set id k b h1 h2
 | drop id _ ih=>exact ih.drop id
 | eU i n _ ih=>exact ih.eU i n
 | kI h _ ih=>exact ih.kI h
theorem V.aN.wr (h:V.aN cap sp v u) (id:Nat) (n:Nd):V.aN cap sp v (u.wr id n).2:=by
 unfold V.wr;split
 ·exact h.set id 2 _ (by omega) (by omega)
 ·exact h
theorem V.aN.fresh (h:V.aN cap sp v u) (n:Nd):V.aN cap sp v (u.fresh cap n).2.2:=by
 unfold V.fresh;split
 ·exact h.alloc.wr _ n
 ·exact h.alloc
theorem rM (val:Bs):∀(k next:Nat) (u:V),V.aN cap sp v u->V.aN cap sp v (bE cap val k next u).2.2
 | 0,next,u,h=>h
 | k+1,next,u,h=>by
  rw[bE];split
  ·split
   ·exact rM val k _ _ (h.alloc.set _ 3 _ (by omega) (by omega))
   ·exact h.alloc.set _ 3 _ (by omega) (by omega)
  ·exact h.alloc
theorem V.aN.aI (h:V.aN cap sp v u) (key val:Bs):V.aN cap sp v (u.aI cap key val).2.2:=by
 unfold V.aI V.chain;split
 ·exact h
 ·exact rM val _ _ _ h
theorem ui:∀(k id:Nat) (u:V),V.aN cap sp v u->V.aN cap sp v (V.f_ k id u).2
 | 0,id,u,h=>h
 | k+1,id,u,h=>by
  rw[V.f_];split
  ·exact h
  ·split
   ·exact h
   ·split
    ·exact ui k _ _ (h.drop _)
    ·exact h.drop _
theorem V.aN.bG (h:V.aN cap sp v u) (c:aA):V.aN cap sp v (u.bG c).2:=ui _ _ _ h
theorem qQ (root:Nat):∀(ws:List dN) (n:Nd) (u:V),V.aN cap sp v u->V.aN cap sp v (V.grow cap root ws n u).2
 | [],n,u,h=>h
 | st::up,n,u,h=>by
  rw[V.grow];split
  ·exact h.wr _ n
  ·split
   ·exact h.wr _ n
   ·split
    ·exact(h.wr _ n).wr _ _
    ·split
     ·exact((h.wr _ n).wr _ _).fresh _
     ·split
      ·split
       ·exact(((h.wr _ n).wr _ _).fresh _).fresh _
       ·exact((((h.wr _ n).wr _ _).fresh _).fresh _).eU _ _
      ·exact qQ root _ _ _ (((h.wr _ n).wr _ _).fresh _)
theorem V.aN.fP (h:V.aN cap sp v u) (root:Nat) (key val:Bs):V.aN cap sp v (u.fP cap root key val).2:=by
 unfold V.fP;split
 ·exact h
 ·split
  ·exact h.aI key val
  ·split
   ·split
    ·exact(h.aI key val).fresh _
    ·exact((h.aI key val).fresh _).eU _ _
   ·split
    ·exact qQ root _ _ _ (h.aI key val)
    ·split
     ·exact(h.aI key val).bG _
     ·exact qQ root _ _ _ ((h.aI key val).bG _)
theorem V.aN.Put (h:V.aN cap true v u) (root:Nat) (key val:Bs):V.aN cap true v (u.Put cap root key val).2:=by
 unfold V.Put V.sure;split
 ·exact h
 ·split
  ·exact h.fP root key val
  ·exact(h.fP root key val).kI rfl
theorem V.aN.settle (h:V.aN cap sp v u) (root id:Nat) (n:Nd) (first:Bool):V.aN cap sp v (u.settle root id n first).2:=by
 unfold V.settle;split
 ·exact h.wr id n
 ·split
  ·exact h.drop id
  ·exact(h.drop id).eU _ _
theorem V.aN.share (h:V.aN cap sp v u) (root:Nat) (ws:List dN) (up:Nd) (at_:Nat) (both:Nd):V.aN cap sp v (u.share cap root ws up at_ both).2:=by
 unfold V.share;split
 ·exact h
 ·split
  ·exact h.wr _ _
  ·split
   ·exact(h.wr _ _).wr _ _
   ·exact qQ root _ _ _ ((h.wr _ _).wr _ _)
theorem wZ (root:Nat):∀(ws:List dN) (n:Nd) (u:V),V.aN cap sp v u->V.aN cap sp v (V.shrink cap root ws n u).2
 | [],n,u,h=>h
 | [st],n,u,h=>by rw[V.shrink];exact h.settle _ _ _ _
 | st::p::up,n,u,h=>by
  rw[V.shrink];split
  ·exact h.settle _ _ _ _
  ·split
   ·exact h
   ·split
    ·exact h.share _ _ _ _ _
    ·split
     ·exact h.wr _ _
     ·split
      ·exact(h.wr _ _).drop _
      ·exact wZ root _ _ _ ((h.wr _ _).drop _)
theorem V.aN.iD (h:V.aN cap sp v u) (root:Nat) (key:Bs):V.aN cap sp v (u.iD cap root key).2.2:=by
 unfold V.iD;split
 ·exact h
 ·split
  ·split
   ·exact h.bG _
   ·exact wZ root _ _ _ (h.bG _)
  ·exact h
theorem V.aN.vz (h:V.aN cap true v u) (root:Nat) (key:Bs):V.aN cap true v (u.vz cap root key).2.2:=by
 unfold V.vz;split
 ·exact h
 ·split
  ·exact h.iD root key
  ·exact(h.iD root key).kI rfl
theorem V.aN.clean (h:V.aN cap false v u):u.spoilt=v.spoilt:=by
 induction h with
 | refl=>rfl
 | @alloc u h ih =>
  unfold V.alloc;split
  ·split
   ·exact ih
   ·exact ih
  ·exact ih
 | @set u id k b h1 h2 h ih =>
  unfold V.set;split
  ·exact ih
  ·exact ih
 | @drop u id h ih =>
  unfold V.drop;split
  ·exact ih
  ·exact ih
 | eU i n h ih=>exact ih
 | kI h _ _=>cases h
theorem V.aN.mark (h:V.aN cap sp v u):u.marked=false->v.marked=false/\u.r=v.r/\u.high=v.high/\u.free=v.free/\u.cnt=v.cnt:=by
 induction h with
 | refl=>exact fun h=>⟨h,rfl,rfl,rfl,rfl⟩
 | @alloc u h ih =>
  unfold V.alloc;split
  ·split
   ·exact ih
   ·exact fun h=>by cases h
  ·exact fun h=>by cases h
 | @set u id k b h1 h2 h ih =>
  unfold V.set;split
  ·exact ih
  ·exact ih
 | @drop u id h ih =>
  unfold V.drop;split
  ·exact fun h=>by cases h
  ·exact ih
 | eU i n h ih=>exact fun h=>by cases h
 | kI _ h ih=>exact ih
def V.Kd (v:V):Prop:=∀i,1<=i->i<v.high->1<=(v.pg i).kind/\(v.pg i).kind<=255
theorem V.Kd.put {v:V}(h:v.Kd) (id:Nat) (p:bB) (hp:1<=p.kind/\p.kind<=255):(v.put id p).Kd:=by
 intro i h1 h2;show 1<=(if i=id then p else v.pg i).kind/\_;have e:(v.put id p).pg i=if i=id then p else v.pg i:=rfl
 rw[e];split
 ·exact hp
 ·exact h i h1 h2
theorem V.aN.kd (h:V.aN cap sp v u) (hv:v.Kd):u.Kd:=by
 induction h with
 | refl=>exact hv
 | @alloc u h ih =>
  unfold V.alloc;split
  ·split
   ·exact ih
   ·intro i h1 h2
    show 1<=(if i=u.high then (⟨1,[]⟩:bB)else u.pg i).kind/\(if i=u.high then (⟨1,[]⟩:bB)else u.pg i).kind<=255;split
    ·exact⟨by simp,by simp⟩
    ·have h3:i<u.high+1:=h2
     exact ih i h1 (by omega)
  ·exact V.Kd.put (v:={ u with free:=v4 (au (u.pg u.free).body),cnt:=u.cnt-1,marked:=true }) ih _ _ ⟨by simp,by simp⟩
 | @set u id k b h1 h2 h ih =>
  unfold V.set;split
  ·exact ih.put _ _ ⟨h1,by show k<=255;omega⟩
  ·exact ih
 | @drop u id h ih =>
  unfold V.drop;split
  ·exact V.Kd.put (v:={ u with free:=id,cnt:=u.cnt+1,marked:=true }) ih _ _ ⟨by simp,by simp⟩
  ·exact ih
 | eU i n h ih=>exact ih
 | kI _ h ih=>exact ih
end
theorem aA.WR (c:aA):c.enc.length=c.size:=by
 unfold aA.enc aA.size ND;split
 ·simp[n4];omega
 ·simp;omega
theorem Fq (cs:List aA):(bW cs).length=di cs:=by
 induction cs with
 | nil=>rfl
 | cons c cs ih=>simp only[bW,List.flatMap_cons,List.length_append,di,List.map_cons,List.sum_cons]at *;rw[ih,c.WR]
theorem I9 (ks:List Bs):∀is:List Nat,is.length=ks.length->(b_ ks is).length=cK ks:=by
 induction ks with
 | nil=>intro is _;cases is <;> rfl
 | cons k ks ih =>
  intro is h
  match is,h with
  | i::is,h =>
   have:=ih is (by simpa using h);simp only[b_,List.length_append,cK,List.map_cons,List.sum_cons,ND,List.length_cons,n4]at *;rw[this];simp;omega
theorem Nd.BM {n:Nd}(h:n.ok=true):n.enc.length=n.size:=by
 have hO:=Nd.Ok.of h;unfold Nd.enc Nd.size;cases hl:n.leaf
 ·obtain⟨h1,h2⟩:=hO.br hl
  have h3:n.kids.tail.length=n.keys.length:=by simp;omega
  simp only[Bool.false_eq_true,if_false,List.length_cons,List.length_append,I9 _ _ h3,h1];simp[n4,di];omega
 ·obtain⟨h1,h2⟩:=hO.lf hl
  simp[Fq,h1,cK];omega
theorem Nd.Ib (n:Nd):n.out.1.length<=500:=by
 unfold Nd.out;split
 ·simp
 ·split
  ·simp
  ·rename_i h1 h2
   rw[Nd.BM (by simpa using h1)];omega
theorem V.Good.wr {v:V}(h:v.Good) (id:Nat) (n:Nd):(v.wr id n).2.Good:=by
 unfold V.wr;split
 ·exact h.set _ _ _ (by decide) n.Ib
 ·exact h
theorem V.Kb (v:V) (id k:Nat) (b:List UInt8):(v.set id k b).2.high=v.high:=by unfold V.set;split <;> rfl
theorem V.YP (v:V) (id:Nat) (n:Nd):(v.wr id n).2.high=v.high:=by
 unfold V.wr;split
 ·exact v.Kb _ _ _
 ·rfl
theorem aW.box {w:World}{F:Nat->Prop}{A1:Option Addr}{c1:Nat}{A2:Option Addr}{c2:Nat}{A3:Option Addr}{c3:Nat}{n:Nd}(h:aW w F A1 c1 A2 c2 A3 c3 n) (o:Obj):aW (w.alloc o) F A1 c1 A2 c2 A3 c3 n:=h.ext ((ah.refl _ w).alloc o)
theorem qw (s:bH) (hs:s.Ok) (w:World) (v:V) (h:aD w s v) (hg:v.Good) (gx i:Nat) (hx:ax w gx 70 (av s i)) (id:Nat)
  (n:Nd) (F:Nat->Prop) (A1:Option Addr) (c1:Nat) (A2:Option Addr) (c2:Nat) (A3:Option Addr) (c3:Nat) (hn:aW w F A1 c1 A2 c2 A3 c3 n) (hf:n.fits) :
  Calls Tryz.prog 141 #[.pointer (some ⟨gx,0,none⟩),.int .i64 (id:Int),n.value A1 c1 A2 c2 A3 c3] w fun e w'=>e=.returned (.int .i64 ((v.wr id n).1:Int))/\aD w' s (v.wr id n).2/\(v.wr id n).2.Good/\ah s.F w w':=by
 have HG:=aa (hg.wr id n);have HT:=aa (fun(w':World) (e:ah No w w')=>h.no hs e);have HN:=aa (fun o=>O5 n (w.alloc o) F A1 c1 A2 c2 A3 c3 (hn.box o) hf);have HW:=aa (fun w h=>FJ s hs w v h id 2 n.out.1 (by decide) (by decide) n.Ib);have c0:=hx.cell 0;simp[av]at c0;have kL:=hx.lt;unfold V.wr at HG ⊢;generalize lY:n.out.1=b at *;generalize vo:n.out.2=k at *;simp only[Nd.value]at HN ⊢;generalize n.cells.length=nl at *;generalize n.keys.length=kl at *;generalize n.kids.length=il at *
 by_cases hk:k=0
 ·subst hk
  rw[if_pos rfl]at HG ⊢;clear lY vo hn hf hx hg h;go_enter Tryz.func141,Tryz.ntmps141;go_wp2_with fail;refine(HN.out _).mono ?_;rintro e w1 ⟨rfl,aT⟩;have hE:ah No w w1:=((ah.refl No w).alloc _).ag aT;have c1:=aj hE c0 (fun h=>h);go_wp2_with fail;refine(HW.out _ (HT.out _ hE)).mono ?_;rintro e w2 ⟨rfl,hT,aH⟩;go_wp2_with fail;go_ret;exact⟨rfl,hT,HG.out,hE.of_no.ag aH⟩
 ·rw[if_neg hk]at HG ⊢
  have mW:((k:Int) != 0)=true:=by simpa using (by omega:¬(k:Int)=0)
  clear lY vo hn hf hx hg h hk;go_enter Tryz.func141,Tryz.ntmps141;go_wp2_with fail;refine(HN.out _).mono ?_;rintro e w1 ⟨rfl,aT⟩;have hE:ah No w w1:=((ah.refl No w).alloc _).ag aT;go_wp2_with fail;go_ret;exact⟨rfl,HT.out _ hE,HG.out,hE.of_no⟩
theorem V.Good.fresh {v:V}(h:v.Good) {cap:Nat}(h1:v.high<=cap) (h2:cap<=65536) (n:Nd):(v.fresh cap n).2.2.Good/\(v.fresh cap n).2.2.high<=cap:=by
 obtain⟨g1,g2⟩:=h.alloc h1 h2;unfold V.fresh;split
 ·exact⟨g1.wr _ _,by rw[V.YP];exact g2⟩
 ·exact⟨g1,g2⟩
theorem bH.oQ {s:bH}(hs:s.Ok):s.cap<=65536:=by unfold bH.cap;have:=hs.n2;omega
theorem zg (s:bH) (hs:s.Ok) (w:World) (v:V) (h:aD w s v) (hg:v.Good) (gx i:Nat) (hx:ax w gx 70 (av s i))
  (n:Nd) (F:Nat->Prop) (A1:Option Addr) (c1:Nat) (A2:Option Addr) (c2:Nat) (A3:Option Addr) (c3:Nat) (hn:aW w F A1 c1 A2 c2 A3 c3 n) (hf:n.fits) (hF:∀b,s.F b->F b) :
  Calls Tryz.prog 98 #[.pointer (some ⟨gx,0,none⟩),n.value A1 c1 A2 c2 A3 c3] w fun e w'=>e=.returned (.tuple #[.int .i64 ((v.fresh s.cap n).1:Int),.int .i64 ((v.fresh s.cap n).2.1:Int)])/\aD w' s (v.fresh s.cap n).2.2/\(v.fresh s.cap n).2.2.Good/\ah s.F w w':=by
 have HG:=aa (hg.fresh h.h2 (bH.oQ hs) n).1;have HA:=aa (fun o=>GZ s hs (w.alloc o) v (h.no hs ((ah.refl No w).alloc o)) hg);have HW:=aa (fun w' h' hx hn=>qw s hs w' (v.alloc s.cap).2.2 h' (hg.alloc h.h2 (bH.oQ hs)).1 gx i hx (v.alloc s.cap).1 n F A1 c1 A2 c2 A3 c3 hn hf);have c0:=hx.cell 0;simp[av]at c0;have kL:=hx.lt;have HN:=aa hn;have HX:=aa (fun(w':World) (e:ah s.F w w')=>dS h hx e);have HO:=aa (fun b (hb:s.F b)=>h.old hb);unfold V.fresh at HG ⊢;simp only[Nd.value]at HW ⊢;generalize pV:n.cells.length=nl at HW ⊢;generalize l_:n.keys.length=kl at HW ⊢;generalize VZ:n.kids.length=il at HW ⊢;generalize lY:(v.alloc s.cap).1=id at *;generalize vo:(v.alloc s.cap).2.1=k at *;generalize VT:(v.alloc s.cap).2.2=v' at *;generalize Lj:v'.wr id n=r at *
 by_cases hk:k=0
 ·subst hk
  rw[if_pos rfl]at HG ⊢;clear lY vo VT Lj hn hf hx hg h pV l_ VZ;go_enter Tryz.func98,Tryz.ntmps98;go_wp2_with fail;refine(HA.out _).mono ?_;rintro e w1 ⟨rfl,L6,aT⟩;have hE:ah s.F w w1:=((ah.refl s.F w).alloc _).ag aT;have hb:=(ax.new w 40 #[.bool n.leaf,.slice A1 nl c1,.slice A2 kl c2,.slice A3 il c3]).ext aT (fun h=>absurd (HO.out _ h) (by omega));obtain⟨p0,p1,p2,p3,g0,g1,g2,g3,ln⟩:=hb.p4;go_wp2_with fail;refine(HW.out _ L6 (HX.out _ hE) (HN.out.ext (hE.mono (fun b _=>hF b)))).mono ?_;rintro e w2 ⟨rfl,Bd,hG2,aH⟩;go_wp2_with fail;go_ret2;exact⟨rfl,Bd,hG2,hE.ag aH⟩
 ·rw[if_neg hk]at HG ⊢
  have mW:((k:Int) != 0)=true:=by simpa using (by omega:¬(k:Int)=0)
  clear lY vo VT Lj hn hf hx hg h pV l_ VZ hk;go_enter Tryz.func98,Tryz.ntmps98;go_wp2_with fail;refine(HA.out _).mono ?_;rintro e w1 ⟨rfl,L6,aT⟩;have hE:ah s.F w w1:=((ah.refl s.F w).alloc _).ag aT;go_wp2_with fail;go_ret2;exact⟨rfl,L6,HG.out,hE⟩
theorem uK {Q:Ending->World->Prop}{a:Act}{w:World}(b:Nat) (cs:Array Value) (hb:ax w b 40 cs) {v:Value}(hs:some 4=some cs.size) (hp:a.tmps.getD 4 undef=.pointer (some ⟨b,0,none⟩)) (h3:a.tmps.getD 5 undef=v) (hd:a.defers = [])
  (h:Q (.returned (.tuple #[.agg cs,v])) w):bodyPost Tryz.prog Tryz.f16 Q Exit.ret a w:=by
 refine bodyPost_ret (v:=.tuple #[.agg cs,v]) (w:=w) ?_ hd h;have hl:=run_loadVar_row w b 40 40 cs (0,0) _ hb Tryz.underlying40 rfl (by rw[<-hs];kernel_rfl);rw[results_cell_tmp rfl,hp,h3];simp[asAddr,Result.andThen,hl]
theorem tq (s:bH) (hs:s.Ok) (w:World) (v:V) (h:aD w s v) (hg:v.Good) (gx i:Nat) (hx:ax w gx 70 (av s i)) (id:Nat) :
  Calls Tryz.prog 16 #[.pointer (some ⟨gx,0,none⟩),.int .i64 (id:Int)] w (vw w (v.node id)):=by
 have HN:=aa (mJ ⟨s.t,0,none⟩ (.int .i64 (i:Int)) gx);have HR:=aa (fun o=>CB s hs (w.alloc o) v (h.no hs ((ah.refl No w).alloc o)) id);have HX:=aa hx;have c0:=hx.cell 0;simp[av]at c0;have kL:=hx.lt;unfold V.node
 by_cases he:v.err id=0
 ·have hr:v.read id=((v.pg id).kind,(v.pg id).body,0):=by simp[V.read,he]
  have hbd:=V.QH hg he;rw[if_pos he];rw[hr]at HR;clear hr he;generalize (v.pg id).kind=k at *;generalize (v.pg id).body=b at *
  by_cases hk:k=2
  ·subst hk
   rw[if_pos rfl];have HD:=aa (fun w=>O9 b w (by omega));generalize GH b=D at *;clear hx hbd;go_enter Tryz.func16,Tryz.ntmps16;go_wp2_with fail;refine(HN.out _ (HX.out.alloc _)).mono ?_;rintro e' w1 ⟨rfl,rfl⟩;go_wp2_with fail;refine(HR.out _).mono ?_;rintro e' w1 ⟨rfl,aT⟩;have mM:ah No w w1:=((ah.refl No w).alloc _).ag aT;have bn:=(ax.new w 40 #[.bool false,.slice none 0 0,.slice none 0 0,.slice none 0 0]).ext aT (fun h=>h);go_wp2_with fail;refine(HD.out _).mono ?_;rintro e' w2 ⟨aH,hr⟩;have Fu:=bn.ext aH (fun h=>h);obtain⟨p0,p1,p2,p3,g0,g1,g2,g3,ln⟩:=Fu.p4;cases D with
   | none =>
    simp only at hr;subst hr;simp only[Nd.zero];go_wp2_with fail;refine uK w.heap.size _ (Fu.eu (.bool false) (.slice none 0 0) (.slice none 0 0) (.slice none 0 0)) rfl rfl rfl rfl ?_;exact⟨((((mM.ag aH).ai (by omega) _ _).ai (by omega) _ _).ai (by omega) _ _).ai (by omega) _ _,rfl⟩
   | some n =>
    obtain⟨A1,c1,A2,c2,A3,c3,hr,hn⟩:=hr;subst hr;simp only[Nd.value];go_wp2_with fail;refine uK w.heap.size _ (Fu.eu (.bool n.leaf) (.slice A1 n.cells.length c1) (.slice A2 n.keys.length c2) (.slice A3 n.kids.length c3)) rfl rfl rfl rfl ?_;refine⟨((((mM.ag aH).ai (by omega) _ _).ai (by omega) _ _).ai (by omega) _ _).ai (by omega) _ _,A1,c1,A2,c2,A3,c3,rfl,?_⟩;have eZ:=aT.size;simp at eZ;have iL:gB w1 w.heap.size:=by show w.heap.size<w1.heap.size;omega
    have hz:ah (gB w1) w2 _:=((((ah.refl _ w2).ay iL 0 (.bool n.leaf)).ay iL 1 (.slice A1 n.cells.length c1)).ay iL 2 (.slice A2 n.keys.length c2)).ay iL 3 (.slice A3 n.kids.length c3);exact(hn.ext hz).mono (fun b _ hb=>by unfold gB at hb ⊢;omega)
  ·rw[if_neg hk]
   have mW:((k:Int) != 2)=true:=by simpa using (by omega:¬(k:Int)=2)
   clear hx hbd hk;go_enter Tryz.func16,Tryz.ntmps16;go_wp2_with fail;refine(HN.out _ (HX.out.alloc _)).mono ?_;rintro e' w1 ⟨rfl,rfl⟩;go_wp2_with fail;refine(HR.out _).mono ?_;rintro e' w1 ⟨rfl,aT⟩;have mM:ah No w w1:=((ah.refl No w).alloc _).ag aT;have bn:=(ax.new w 40 #[.bool false,.slice none 0 0,.slice none 0 0,.slice none 0 0]).ext aT (fun h=>h);obtain⟨p0,p1,p2,p3,g0,g1,g2,g3,ln⟩:=bn.p4;go_wp2_with fail;refine uK w.heap.size _ (bn.eu (.bool false) (.slice none 0 0) (.slice none 0 0) (.slice none 0 0)) rfl rfl rfl rfl ?_;exact⟨(((mM.ai (by omega) _ _).ai (by omega) _ _).ai (by omega) _ _).ai (by omega) _ _,rfl⟩
 ·have hr:v.read id=(0,[],v.err id):=by simp[V.read,he]
  rw[if_neg he];rw[hr]at HR;have Fg:v.err id=2\/v.err id=8:=by
   rcases V.uS he with ⟨h,_⟩|⟨h,_⟩
   ·exact .inl h
   ·exact .inr h
  clear hr he hx;generalize v.err id=k at *;rcases Fg with rfl|rfl
  all_goals
   go_enter Tryz.func16,Tryz.ntmps16;go_wp2_with fail;refine(HN.out _ (HX.out.alloc _)).mono ?_;rintro e' w1 ⟨rfl,rfl⟩;go_wp2_with fail;refine(HR.out _).mono ?_;rintro e' w1 ⟨rfl,aT⟩;have mM:ah No w w1:=((ah.refl No w).alloc _).ag aT;have bn:=(ax.new w 40 #[.bool false,.slice none 0 0,.slice none 0 0,.slice none 0 0]).ext aT (fun h=>h);obtain⟨p0,p1,p2,p3,g0,g1,g2,g3,ln⟩:=bn.p4;go_wp2_with fail;refine uK w.heap.size _ (bn.eu (.bool false) (.slice none 0 0) (.slice none 0 0) (.slice none 0 0)) rfl rfl rfl rfl ?_;exact⟨(((mM.ai (by omega) _ _).ai (by omega) _ _).ai (by omega) _ _).ai (by omega) _ _,rfl⟩
theorem Tryz.Zr:(Tryz.prog.info? 125).map (fun i=>(i.zero,i.size,i.bytes))=some (some (.agg #[.int .i64 0,.bool false,.slice none 0 0,.slice none 0 0,.slice none 0 0,.int .i64 0]),6,96):=by kernel_rfl
structure jT where
 A1:Option Addr
 c1:Nat
 A2:Option Addr
 c2:Nat
 A3:Option Addr
 c3:Nat
abbrev aU (w:World) (F:Nat->Prop) (a:jT) (n:Nd):Prop:=aW w F a.A1 a.c1 a.A2 a.c2 a.A3 a.c3 n
def dN.vals (st:dN) (a:jT):List Value:=[.int .i64 (st.id:Int),.bool st.n.leaf,.slice a.A1 st.n.cells.length a.c1,.slice a.A2 st.n.keys.length a.c2,.slice a.A3 st.n.kids.length a.c3,.int .i64 (st.i:Int)]
def eT (l:List (dN×jT)):List Value:=l.flatMap fun p=>p.1.vals p.2
theorem Hu (l:List (dN×jT)) (p:dN×jT):eT (l ++ [p])=eT l++p.1.vals p.2:=by simp[eT]
theorem dN.one (st:dN) (a:jT):∀u∈st.vals a,u.oneCell'=true:=by
 intro u hu;simp[dN.vals]at hu;rcases hu with rfl|rfl|rfl|rfl|rfl|rfl <;> simp[Value.oneCell']
structure kE (w:World) (F:Nat->Prop) (A:Option Addr) (cap:Nat) (l:List (dN×jT)):Prop where
 rd:Rd w F 6 A l.length (eT l)
 cap:l.length<=cap
 nodes:∀p∈l,aU w F p.2 p.1.n
 len:l.length<=41
theorem kE.ext {w w':World}{F:Nat->Prop}{A:Option Addr}{cap:Nat}{l:List (dN×jT)}(h:kE w F A cap l) (he:ah F w w'):kE w' F A cap l :=
 ⟨h.rd.ext he,h.cap,fun p hp=>(h.nodes p hp).ext he,h.len⟩
theorem kE.mono {w:World}{F G:Nat->Prop}{A:Option Addr}{cap:Nat}{l:List (dN×jT)}(h:kE w F A cap l) (hG:∀b,b<w.heap.size->G b->F b):kE w G A cap l :=
 ⟨h.rd.mono (by omega) hG,h.cap,fun p hp=>(h.nodes p hp).mono hG,h.len⟩
def aav (w:World) (o:Option (List dN)) (e:Ending) (w':World):Prop :=
 ah No w w'/\match o with
  | none=>e=.returned (.tuple #[.slice none 0 0,.int .i64 5])
  | some ws=>∃A cap l,l.map (·.1)=ws/\e=.returned (.tuple #[.slice A ws.length cap,.int .i64 0])/\kE w' (gB w) A cap l
theorem acV {s:Bs}{n:Nd}(h:GH s=some n):n.ok=true:=by
 unfold GH at h
 repeat' split at h
 all_goals first|(cases h;done)|(injection h with h;subst h;assumption)
theorem V.bM {v:V}{id:Nat}{n:Nd}(h:v.node id=some n):n.ok=true:=by
 unfold V.node at h
 repeat' split at h
 all_goals first|(cases h;done)|exact acV h
theorem Nd.uR {n:Nd}(hk:n.ok=true) (key:Bs):(n.leaf=true->(n.find key).1<=n.cells.length)/\(n.leaf=false->(n.find key).1<n.kids.length):=by
 have hO:=Nd.Ok.of hk;constructor
 ·intro hl
  simp only[Nd.find,hl,if_true];have:=xe (n.cells.map aA.key) key;simpa using this
 ·intro hl
  obtain⟨_,h2⟩:=hO.br hl;simp only[Nd.find,hl,Bool.false_eq_true,if_false];have:=xe n.keys key;split
  ·rename_i h
   have:jX n.keys key<n.keys.length:=by
    rcases Nat.lt_or_ge (jX n.keys key) n.keys.length with h'|h'
    ·exact h'
    ·rw[List.getElem?_eq_none h']at h;cases h
   omega
  ·omega
def Yv (base:Nat) (v:Value):Nat->Prop:=fun b=>b<base\/v.ownBlock=some b
structure WS (w:World) (base:Nat) (A:Option Addr) (cap:Nat) (l:List (dN×jT)):Prop where
 own:w.ownsRow base 125 6 (.slice A l.length cap) l.length (eT l)
 nodes:∀p∈l,aU w (Yv base (.slice A l.length cap)) p.2 p.1.n
theorem WS.ext {w w':World}{base:Nat}{A:Option Addr}{cap:Nat}{l:List (dN×jT)}(h:WS w base A cap l) (he:ah No w w'):WS w' base A cap l :=
 ⟨lH h.own he (fun _ _ h=>h),fun p hp=>(h.nodes p hp).ext he.of_no⟩
theorem WS.push {w w':World}{base:Nat}{A:Option Addr}{cap:Nat}{l:List (dN×jT)}(h:WS w base A cap l) {p:dN×jT}{g cap2 H:Nat}(hb:base<=w.heap.size)
  (ho:w'.ownsRow base 125 6 (.slice (some ⟨g,0,none⟩) (l.length+1) cap2) (l.length+1) (eT l++p.1.vals p.2)) (hg:w.grownBy w' (Value.slice A l.length cap).ownBlock)
  (qP:(Value.slice A l.length cap).ownBlock=some g\/g=H) (hH:H=w.heap.size) (hn:aU w (Yv base (.slice A l.length cap)) p.2 p.1.n) :
  WS w' base (some ⟨g,0,none⟩) cap2 (l ++ [p]):=by
 have e1:(l ++ [p]).length=l.length+1:=by simp
 refine⟨by rw[e1,Hu];exact ho,fun q hq=>?_⟩;have hq':aU w (Yv base (.slice A l.length cap)) q.2 q.1.n:=by
  rcases List.mem_append.1 hq with hq|hq
  ·exact h.nodes q hq
  ·simp at hq;subst hq;exact hn
 have hx:ah (Yv base (.slice A l.length cap)) w w':=⟨hg.os,hg.tape,hg.output,hg.size,fun i hi bQ=>hg.block i hi (fun e=>bQ (.inr e.symm))⟩;have hm:aU w (fun b=>Yv base (.slice A l.length cap) b\/Yv base (.slice (some ⟨g,0,none⟩) (l ++ [p]).length cap2) b) q.2 q.1.n:=by
  refine hq'.mono (fun b xL dO=>?_);rcases dO with dO|dO
  ·exact dO
  ·rcases dO with dO|dO
   ·exact .inl dO
   ·rcases qP with qP|qP
    ·exact .inr (qP.trans dO)
    ·have SA:g=b:=by simpa[Value.ownBlock]using dO
     omega
 exact(hm.ext (hx.mono fun b _ h=>.inl h)).mono fun b _ h=>.inr h
theorem lh (s:bH) (hs:s.Ok) (w:World) (v:V) (h:aD w s v) (hg:v.Good) (gx i:Nat) (hx:ax w gx 70 (av s i)) (hi:i<4) (key:Bs) :
  Calls Tryz.prog 60 #[.pointer (some ⟨gx,0,none⟩),.string (au key)] w (aav w (v.way i key)):=by
 have HR:=aa (mG s hs w v h gx i hx hi);have PE:=aa (fun wr (e:ah No w wr) id=>tq s hs wr v (h.no hs e) hg gx i (hx.ext e (fun h=>h)) id);have HO:=aa (fun id n (hn:v.node id=some n)=>V.bM hn);obtain⟨D,hD⟩:∃D,D=v.way i key:=⟨_,rfl⟩;rw[<-hD];unfold V.way at hD;have HD:=aa hD;clear hD hg h hx;obtain⟨i0,mi,eQ,fe,eP⟩:=info_parts Tryz.Zr;go_enter Tryz.func60,Tryz.ntmps60;go_wp2_with fail;refine(HR.out).mono ?_;rintro e w1 ⟨rfl,aT⟩;go_wp2_with fail;go_loopg [6,7] 41 (fun gk o id wr=>∃(ID:Nat) (A:Option Addr) (cap:Nat) (l:List (dN×jT)),o=.slice A l.length cap/\id=.int .i64 (ID:Int)/\l.length+gk=41/\l.length<=40/\WS wr w.heap.size A cap l/\Hid (v.lD key gk ID (l.map (·.1))=D)/\ah No w wr)
 case atStart=>exact⟨v.r i,none,0,[],rfl,rfl,rfl,by simp,⟨World.ownsRow_nil _ _ _ _,by simp⟩,aa HD.out.symm,aT⟩
 case round =>
  clear HD aT;obtain⟨ID,A,cap,l,rfl,rfl,Yc,aek,hS,hd,hE⟩:=hrel;have HS:=aa hS;have HE:=aa hE;have YH:=aa Yc;have PK:=aa aek;obtain⟨j,hj⟩:∃j,gk=j+1:=⟨gk-1,by omega⟩;have HJ:=aa hj;have dL:=hd.out;rw[hj]at dL;have eZ:=hE.size;clear hj Yc hd hS hE aek
  by_cases h0:ID=0
  ·subst h0
   simp only[V.lD,if_true]at dL;have gF:=aa dL;clear dL;go_wp2_with fail;go_ret2;rw[<-gF.out];refine⟨HE.out,A,cap,l,rfl,by simp,⟨?_,dX HS.out.own,fun p hp=>(HS.out.nodes p hp).mono (fun b _ hb=>.inl hb),Nat.le_succ_of_le PK.out⟩⟩;exact Rd.own HS.out.own (Nat.le_refl _) (by omega)
  ·have h0':((ID:Int) != 0)=true:=by simpa using (by omega:¬(ID:Int)=0)
   simp only[V.lD,if_neg h0]at dL;have M3:=aa (PE.out wr HE.out ID);cases gN:v.node ID with
   | none =>
    rw[gN]at dL M3;simp only at dL;have gF:=aa dL;clear dL gN h0;go_wp2_with fail;refine M3.out.mono ?_;rintro e w2 ⟨aH,hr⟩;simp only at hr;subst hr;simp only[Nd.zero];go_wp2_with fail;go_ret2;rw[<-gF.out];exact⟨(HE.out.ag aH).alloc _,rfl⟩
   | some n =>
    have aX:=HO.out ID n gN;have Aq:=Nd.Ok.of aX;rw[gN]at dL M3;simp only[List.length_map]at dL
    by_cases h40:l.length=40
    ·rw[if_pos h40]at dL
     have gF:=aa dL;have ahr:(l.length:Int)=40:=by omega
     clear dL gN h0 aX Aq h40;go_wp2_with fail;refine M3.out.mono ?_;rintro e w2 ⟨aH,A1,c1,A2,c2,A3,c3,rfl,hn⟩;simp only[Nd.value];go_wp2_with fail;go_ret2;rw[<-gF.out];exact⟨(HE.out.ag aH).alloc _,rfl⟩
    ·rw[if_neg h40]at dL
     have ahr:¬((l.length:Int)=40):=by omega
     have HF:=aa (fun w F A1 c1 A2 c2 A3 c3 (hn:aW w F A1 c1 A2 c2 A3 c3 n)=>Mg n key w F A1 c1 A2 c2 A3 c3 hn (fun _=>Nd.Ok.jW aX) (fun _=>Nd.Ok.mH aX));obtain⟨Nl,Fe⟩:=Nd.uR aX key;generalize hfd:(n.find key).1=fi at *;generalize (n.find key).2=fb at *;have H40:=aa h40;cases bL:n.leaf
     ·have Fe:=Fe bL
      simp only[bL,Bool.false_eq_true,if_false]at dL;have gF:=aa dL;obtain⟨kid,oK⟩:∃kid,n.kids[fi]?=some kid:=⟨_,List.getElem?_eq_getElem Fe⟩;have HKD:=aa (show n.kids.getD fi 0=kid by simp[List.getD,oK]);have HKI:=aa oK;have Ef:=aa bL;have SA:n.kids.length<65536:=by have:=Aq.br bL;have:=Aq.a2;omega
      clear dL gN h0 aX Aq h40 Nl hfd oK;go_wp2_with fail;refine M3.out.mono ?_;rintro e w2 ⟨aH,A1,c1,A2,c2,A3,c3,rfl,hn⟩;have HN:=aa hn;simp only[Nd.value,bL]at HF ⊢;clear hn bL;have m2:l.length+1<=maxLen:=by unfold maxLen;have:=PK.out;omega
      have m3:(l.length+1)*96<=140737488355328:=by have:=PK.out;omega
      go_wp2_with fail;refine(HF.out _ (gB wr) A1 c1 A2 c2 A3 c3 (HN.out.ext ((ah.refl _ w2).alloc _))).mono ?_;rintro e w3 ⟨rfl,bC⟩;have fC:ah No w2 w3:=((ah.refl No w2).alloc _).ag bC;have Jk:=(ax.new w2 40 #[.bool false,.slice A1 n.cells.length c1,.slice A2 n.keys.length c2,.slice A3 n.kids.length c3]).ext bC (fun h=>h);obtain⟨p0,p1,p2,p3,g0,g1,g2,g3,ln⟩:=Jk.p4;have m0:w.heap.size<=w3.heap.size:=Nat.le_trans eZ (Nat.le_trans aH.size fC.size);have m6:∀o,w.heap.size<=(w3.alloc o).heap.size:=fun o=>by simp;omega
      have m7:∀o,(w3.alloc o).heap.size=w3.heap.size+1:=fun o=>by simp
      have Yy:=aa (HS.out.ext (aH.ag fC));have qi:=aa ((HE.out.ag aH).ag fC);have wH:=aa Jk;have HN3:=aa (HN.out.ext fC.of_no);have kL:w2.heap.size<w3.heap.size:=ln;have HV:=aa (show(⟨ID,n,fi⟩:dN).vals ⟨A1,c1,A2,c2,A3,c3⟩ = [.int .i64 (ID:Int),.bool false,.slice A1 n.cells.length c1,.slice A2 n.keys.length c2,.slice A3 n.kids.length c3,.int .i64 (fi:Int)] by simp[dN.vals,Ef.out]);have HWW:=aa (Nat.le_trans aH.size fC.size);have XC:=aa aH.size;clear bC fC Jk aH;go_wp2_with (at_builtin;refine wpList_append_lies _ (by rfl) _ _ 121 (by rfl) w.heap.size 125 i0 (.agg #[.int .i64 0,.bool false,.slice none 0 0,.slice none 0 0,.slice none 0 0,.int .i64 0]) 6 96 Tryz.underlying121 mi eQ fe eP (by rfl) (by decide) (.slice A l.length cap) l.length (eT l) (by rfl) (by exact lH Yy.out.own ((ah.refl No w3).alloc _) (fun _ _ h=>h)) ⟨w3.heap.size,0,none⟩ 1 1 ((⟨ID,n,fi⟩:dN).vals ⟨A1,c1,A2,c2,A3,c3⟩) (by rfl) (by rfl) (by rw[HV.out];exact World.news_of_block (cs:=#[.int .i64 (ID:Int),.bool false,.slice A1 n.cells.length c1,.slice A2 n.keys.length c2,.slice A3 n.kids.length c3,.int .i64 (fi:Int)]) (t:=125) (fr:=(0,0)) (heap_alloc_new w3 _)) (by exact dN.one _ _) (by decide) m2 m3 (by exact m6 _) (w3.heap.size+1) (by exact m7 _) ?_);intro g cap2 w6 bJ a_ uf iK;have Bb:∀b,(Value.slice A l.length cap).ownBlock=some b->b<wr.heap.size:=fun b hb=>(HS.out.own.lt b hb).2
      have AZ:∀b,Yv w.heap.size (.slice A l.length cap) b->b<wr.heap.size:=fun b hb=>by
       rcases hb with hb|hb
       ·omega
       ·exact Bb b hb
      have hn6:aU (w3.alloc (.cells #[.int .i64 (ID:Int),.bool false,.slice A1 n.cells.length c1,.slice A2 n.keys.length c2,.slice A3 n.kids.length c3,.int .i64 (fi:Int)] 125)) (Yv w.heap.size (.slice A l.length cap)) ⟨A1,c1,A2,c2,A3,c3⟩ n:=(HN3.out.mono (fun b _ hb=>AZ b hb)).box _;have hS6:=WS.push (p:=(⟨ID,n,fi⟩,⟨A1,c1,A2,c2,A3,c3⟩)) (Yy.out.ext ((ah.refl No w3).alloc _)) (m6 _) bJ a_ uf (m7 _).symm hn6;have hnb:some w2.heap.size≠(Value.slice A l.length cap).ownBlock:=fun e=>by have:=Bb _ e.symm;have:=XC.out;omega
      have Bh:=(wH.out.alloc _).grown a_ hnb;have DK:=aa ((qi.out.alloc _).grown a_ (mI HS.out.own (Nat.le_refl _)));obtain⟨b,o,BJ,JK,kc⟩:=(hS6.nodes (⟨ID,n,fi⟩,⟨A1,c1,A2,c2,A3,c3⟩) (by simp)).kids.pU HKI.out;simp only at BJ;subst BJ;have HS6:=aa hS6;clear p0 p1 p2 p3 g0 g1 g2 g3 ln hS6 hn6 hnb AZ Bb a_ bJ uf m6 m7 JK;obtain⟨p0,p1,p2,p3,g0,g1,g2,g3,ln⟩:=Bh.p4;clear Bh;go_wp2_with fail;go_roundg j
      case rel =>
       refine⟨kid,some ⟨g,0,none⟩,cap2,l ++ [(⟨ID,n,fi⟩,⟨A1,c1,A2,c2,some ⟨b,o,none⟩,c3⟩)],by simp,rfl,?_,?_,HS6.out,aa ?_,DK.out⟩
       ·have:=YH.out;have:=HJ.out;simp;omega
       ·have:=PK.out;have:=H40.out;simp;omega
       ·have h1:=gF.out
        rw[HKD.out]at h1;rw[List.map_append];exact h1
      case measure=>have:=HJ.out;omega
     ·have Nl:=Nl bL
      simp only[bL,if_true]at dL;have gF:=aa dL;have Ef:=aa bL;clear dL gN h0 aX Aq h40 Nl Fe hfd;go_wp2_with fail;refine M3.out.mono ?_;rintro e w2 ⟨aH,A1,c1,A2,c2,A3,c3,rfl,hn⟩;have HN:=aa hn;simp only[Nd.value,bL]at HF ⊢;clear hn bL;have m2:l.length+1<=maxLen:=by unfold maxLen;have:=PK.out;omega
      have m3:(l.length+1)*96<=140737488355328:=by have:=PK.out;omega
      go_wp2_with fail;refine(HF.out _ (gB wr) A1 c1 A2 c2 A3 c3 (HN.out.ext ((ah.refl _ w2).alloc _))).mono ?_;rintro e w3 ⟨rfl,bC⟩;have fC:ah No w2 w3:=((ah.refl No w2).alloc _).ag bC;have Jk:=(ax.new w2 40 #[.bool true,.slice A1 n.cells.length c1,.slice A2 n.keys.length c2,.slice A3 n.kids.length c3]).ext bC (fun h=>h);obtain⟨p0,p1,p2,p3,g0,g1,g2,g3,ln⟩:=Jk.p4;have m0:w.heap.size<=w3.heap.size:=Nat.le_trans eZ (Nat.le_trans aH.size fC.size);have m6:∀o,w.heap.size<=(w3.alloc o).heap.size:=fun o=>by simp;omega
      have m7:∀o,(w3.alloc o).heap.size=w3.heap.size+1:=fun o=>by simp
      have Yy:=aa (HS.out.ext (aH.ag fC));have qi:=aa ((HE.out.ag aH).ag fC);have wH:=aa Jk;have HN3:=aa (HN.out.ext fC.of_no);have HV:=aa (show(⟨ID,n,fi⟩:dN).vals ⟨A1,c1,A2,c2,A3,c3⟩ = [.int .i64 (ID:Int),.bool true,.slice A1 n.cells.length c1,.slice A2 n.keys.length c2,.slice A3 n.kids.length c3,.int .i64 (fi:Int)] by simp[dN.vals,Ef.out]);have XC:=aa aH.size;clear bC fC Jk aH;go_wp2_with (at_builtin;refine wpList_append_lies _ (by rfl) _ _ 121 (by rfl) w.heap.size 125 i0 (.agg #[.int .i64 0,.bool false,.slice none 0 0,.slice none 0 0,.slice none 0 0,.int .i64 0]) 6 96 Tryz.underlying121 mi eQ fe eP (by rfl) (by decide) (.slice A l.length cap) l.length (eT l) (by rfl) (by exact lH Yy.out.own ((ah.refl No w3).alloc _) (fun _ _ h=>h)) ⟨w3.heap.size,0,none⟩ 1 1 ((⟨ID,n,fi⟩:dN).vals ⟨A1,c1,A2,c2,A3,c3⟩) (by rfl) (by rfl) (by rw[HV.out];exact World.news_of_block (cs:=#[.int .i64 (ID:Int),.bool true,.slice A1 n.cells.length c1,.slice A2 n.keys.length c2,.slice A3 n.kids.length c3,.int .i64 (fi:Int)]) (t:=125) (fr:=(0,0)) (heap_alloc_new w3 _)) (by exact dN.one _ _) (by decide) m2 m3 (by exact m6 _) (w3.heap.size+1) (by exact m7 _) ?_);intro g cap2 w6 bJ a_ uf iK;have Bb:∀b,(Value.slice A l.length cap).ownBlock=some b->b<wr.heap.size:=fun b hb=>(HS.out.own.lt b hb).2
      have AZ:∀b,Yv w.heap.size (.slice A l.length cap) b->b<wr.heap.size:=fun b hb=>by
       rcases hb with hb|hb
       ·omega
       ·exact Bb b hb
      have hn6:aU (w3.alloc (.cells #[.int .i64 (ID:Int),.bool true,.slice A1 n.cells.length c1,.slice A2 n.keys.length c2,.slice A3 n.kids.length c3,.int .i64 (fi:Int)] 125)) (Yv w.heap.size (.slice A l.length cap)) ⟨A1,c1,A2,c2,A3,c3⟩ n:=(HN3.out.mono (fun b _ hb=>AZ b hb)).box _;have hS6:=WS.push (p:=(⟨ID,n,fi⟩,⟨A1,c1,A2,c2,A3,c3⟩)) (Yy.out.ext ((ah.refl No w3).alloc _)) (m6 _) bJ a_ uf (m7 _).symm hn6;have hnb:some w2.heap.size≠(Value.slice A l.length cap).ownBlock:=fun e=>by have:=Bb _ e.symm;have:=XC.out;omega
      have Bh:=(wH.out.alloc _).grown a_ hnb;have DK:=aa ((qi.out.alloc _).grown a_ (mI HS.out.own (Nat.le_refl _)));have HS6:=aa hS6;clear p0 p1 p2 p3 g0 g1 g2 g3 ln hS6 hn6 hnb AZ Bb a_ bJ uf m6 m7;obtain⟨p0,p1,p2,p3,g0,g1,g2,g3,ln⟩:=Bh.p4;clear Bh;go_wp2_with fail;go_ret2;rw[<-gF.out];refine⟨DK.out,some ⟨g,0,none⟩,cap2,l ++ [(⟨ID,n,fi⟩,⟨A1,c1,A2,c2,A3,c3⟩)],by simp,by simp,⟨?_,dX HS6.out.own,fun p hp=>(HS6.out.nodes p hp).mono (fun b _ hb=>.inl hb),by have:=PK.out;simp;omega⟩⟩;exact Rd.own HS6.out.own (Nat.le_refl _) (by omega)
structure QS (v:V) (key:Bs) (ws:List dN):Prop where
 all:∀st∈ws,v.node st.id=some st.n/\st.i=(st.n.find key).1
 last:∀st,ws.getLast?=some st->st.n.leaf=true
 up:∀st∈ws.dropLast,st.n.leaf=false
 len:ws.length<=41
theorem BZ {v:V}{key:Bs}:∀(k id:Nat) (out ws:List dN),v.lD key k id out=some ws->(id=0->out = [])->out.length<=40->(∀st∈out,(v.node st.id=some st.n/\st.i=(st.n.find key).1)/\st.n.leaf=false)->QS v key ws
 | 0,_,_,_,h,_,_,_=>by cases h
 | k+1,id,out,ws,h,h0,hl,ho=>by
  rw[V.lD]at h;split at h
  ·rename_i hz
   have:=h0 hz;subst this;injection h with h;subst h;exact⟨by simp,by simp,by simp,by simp⟩
  ·rename_i hz
   split at h
   ·cases h
   ·rename_i n hn
    split at h
    ·cases h
    ·rename_i h40
     split at h
     ·rename_i bL
      injection h with h;subst h;refine⟨?_,?_,?_,by simp;omega⟩
      ·intro st dw
       rcases List.mem_append.1 dw with dw|dw
       ·exact(ho st dw).1
       ·simp at dw;subst dw;exact⟨hn,rfl⟩
      ·intro st dw
       simp at dw;subst dw;exact bL
      ·intro st dw
       simp at dw;exact(ho st dw).2
     ·rename_i bL
      have bL:n.leaf=false:=by simpa using bL
      refine BZ k _ _ ws h (fun hz=>?_) (by simp;omega) ?_
      ·exfalso
       have hO:=Nd.Ok.of (V.bM hn);have:=(Nd.uR (V.bM hn) key).2 bL;have hk:n.kids[(n.find key).1]?=some (n.kids[(n.find key).1]):=List.getElem?_eq_getElem this;have h1:=hO.i _ (List.mem_of_getElem? hk);simp only[List.getD,hk,Option.getD_some]at hz;rw[hz]at h1;simp[jE]at h1
      ·intro st dw
       rcases List.mem_append.1 dw with dw|dw
       ·exact ho st dw
       ·simp at dw;subst dw;exact⟨⟨hn,rfl⟩,bL⟩
theorem sO {v:V}{r:Nat}{key:Bs}{ws:List dN}(h:v.way r key=some ws):QS v key ws:=BZ 41 _ [] ws h (fun _=>rfl) (by simp) (by simp)
theorem kP (l:List (dN×jT)) (i k:Nat) (p:dN×jT) (hp:l[i]?=some p) (hk:k<6):(eT l)[i*6+k]?=(p.1.vals p.2)[k]?:=by
 induction l generalizing i with
 | nil=>simp at hp
 | cons d l ih =>
  have hl:(d.1.vals d.2).length=6:=rfl;have e:eT (d::l)=d.1.vals d.2++eT l:=rfl;rw[e]
  match i with
  | 0 =>
   have:d=p:=by simpa using hp
   subst this;rw[List.getElem?_append_left (by omega)];simp
  | i+1 =>
   rw[List.getElem?_append_right (by omega),hl,show(i+1)*6+k-6=i*6+k from by omega];exact ih i (by simpa using hp)
theorem kE.at {w:World}{F:Nat->Prop}{A:Option Addr}{cap:Nat}{l:List (dN×jT)}(h:kE w F A cap l) {i:Nat}{p:dN×jT}(hp:l[i]?=some p) :
  ∃b o,A=some ⟨b,o,none⟩/\¬F b/\w.cell? ⟨b,o+i*6,none⟩=some (.int .i64 (p.1.id:Int))/\w.cell? ⟨b,o+i*6+1,none⟩=some (.bool p.1.n.leaf) /\
   w.cell? ⟨b,o+i*6+2,none⟩=some (.slice p.2.A1 p.1.n.cells.length p.2.c1)/\w.cell? ⟨b,o+i*6+3,none⟩=some (.slice p.2.A2 p.1.n.keys.length p.2.c2) /\
   w.cell? ⟨b,o+i*6+4,none⟩=some (.slice p.2.A3 p.1.n.kids.length p.2.c3)/\w.cell? ⟨b,o+i*6+5,none⟩=some (.int .i64 (p.1.i:Int)):=by
 have hi:i<l.length:=(List.getElem?_eq_some_iff.1 hp).1;obtain⟨b,o,e,hb,hx⟩:=h.rd.2 (by omega);refine⟨b,o,e,hb,?_,?_,?_,?_,?_,?_⟩
 ·exact hx (i*6+0) _ ((kP l i 0 p hp (by omega)).trans rfl)
 ·have:=hx (i*6+1) _ ((kP l i 1 p hp (by omega)).trans rfl);rw[<-Nat.add_assoc]at this;exact this
 ·have:=hx (i*6+2) _ ((kP l i 2 p hp (by omega)).trans rfl);rw[<-Nat.add_assoc]at this;exact this
 ·have:=hx (i*6+3) _ ((kP l i 3 p hp (by omega)).trans rfl);rw[<-Nat.add_assoc]at this;exact this
 ·have:=hx (i*6+4) _ ((kP l i 4 p hp (by omega)).trans rfl);rw[<-Nat.add_assoc]at this;exact this
 ·have:=hx (i*6+5) _ ((kP l i 5 p hp (by omega)).trans rfl);rw[<-Nat.add_assoc]at this;exact this
def V.oM (v:V) (root:Nat):Nat×Nat:=match v.way root []with
 | none=>(0,5)
 | some ws=>(ws.length,0)
theorem DC (s:bH) (hs:s.Ok) (w:World) (v:V) (h:aD w s v) (hg:v.Good) (gx i:Nat) (hx:ax w gx 70 (av s i)) (hi:i<4) :
  Calls Tryz.prog 28 #[.pointer (some ⟨gx,0,none⟩)] w fun e w'=>e=.returned (.tuple #[.int .i64 ((v.oM i).1:Int),.int .i64 ((v.oM i).2:Int)])/\ah No w w':=by
 have HN:=aa (mJ ⟨s.t,0,none⟩ (.int .i64 (i:Int)) gx w hx);have HA:=aa (qc s hs w v h gx i hx);have HW:=aa (fun w' (e:ah No w w')=>lh s hs w' v (h.no hs e) hg gx i (hx.ext e (fun h=>h)) hi []);clear h hg hx;unfold V.oM;cases hw:v.way i []with
 | none =>
  rw[hw]at HW;clear hw;go_enter Tryz.func28,Tryz.ntmps28;go_wp2_with fail;refine(HN.out).mono ?_;rintro e' w1 ⟨rfl,rfl⟩;go_wp2_with fail;refine(HA.out).mono ?_;rintro e' w1 ⟨rfl,aT⟩;go_wp2_with fail;refine(HW.out _ aT).mono ?_;rintro e' w2 ⟨aH,rfl⟩;go_wp2_with fail;go_ret2;exact⟨rfl,aT.ag aH⟩
 | some ws =>
  rw[hw]at HW;clear hw;go_enter Tryz.func28,Tryz.ntmps28;go_wp2_with fail;refine(HN.out).mono ?_;rintro e' w1 ⟨rfl,rfl⟩;go_wp2_with fail;refine(HA.out).mono ?_;rintro e' w1 ⟨rfl,aT⟩;go_wp2_with fail;refine(HW.out _ aT).mono ?_;rintro e' w2 ⟨aH,A,cap,l,hl,rfl,_⟩;clear hl;go_wp2_with fail;go_ret2;exact⟨rfl,aT.ag aH⟩
def vR (o:Option Bs):Value:=match o with
 | none=>.tuple #[.string (au []),.int .i64 5]
 | some b=>.tuple #[.string (au b),.int .i64 0]
def BP (s:bH) (v:V) (c:aA):Prop:=∀w gx i,aD w s v->ax w gx 70 (av s i)->Calls Tryz.prog 17 #[.pointer (some ⟨gx,0,none⟩),c.agg] w fun e w'=>e=.returned (vR (v.value c))/\ah No w w'
theorem sP (s:bH) (v:V) (c:aA) (hc:c.over=0):BP s v c:=by
 intro w gx i h hx;have HN:=aa (fun o=>mJ ⟨s.t,0,none⟩ (.int .i64 (i:Int)) gx (w.alloc o) (hx.alloc o));have e:v.value c=some c.val:=by simp[V.value,hc]
 rw[e];clear h hx e;simp only[aA.agg,hc,vR];go_enter Tryz.func17,Tryz.ntmps17;go_wp2_with fail;refine(HN.out _).mono ?_;rintro e' w1 ⟨rfl,rfl⟩;go_wp2_with fail;go_ret2;exact⟨rfl,by(repeat' (first|exact ah.refl _ _|assumption|apply ah.alloc|apply ah.drewN|apply ah.drew|refine ah.ai ?_ (by first|omega|(simp;omega)|simp) _ _|refine ah.ay ?_ (by first|exact Or.inl rfl|exact Or.inr rfl|rfl) _ _|refine ah.ag ?_ (by assumption)|refine ah.ag ?_ (ah.of_no (by assumption))))⟩
theorem uL {ws:List dN}{l:List (dN×jT)}(h:l.map (·.1)=ws) {m:Nat}(hm:ws.length=m+1):∃p,l[m]?=some p/\ws.getLast?=some p.1:=by
 have hl:l.length=m+1:=by rw[<-hm,<-h];simp
 refine⟨l[m]'(by omega),List.getElem?_eq_getElem (by omega),?_⟩;rw[<-h,List.getLast?_eq_getElem?];simp[hl]
theorem Dv {ws:List dN}{st:dN}(h:ws.getLast?=some st) (key:Bs):hit ws key=match st.n.cells[st.i]? with|none=>none|some c=>if c.key=key then some c else none:=by
 unfold hit;rw[h] <;> rfl
theorem Mc (s:bH) (hs:s.Ok) (w:World) (v:V) (h:aD w s v) (hg:v.Good) (gx i:Nat) (hx:ax w gx 70 (av s i)) (hi:i<4) (key:Bs)
  (hV:∀ws c,v.way i key=some ws->hit ws key=some c->BP s v c) :
  Calls Tryz.prog 23 #[.pointer (some ⟨gx,0,none⟩),.string (au key)] w fun e w'=>e=.returned (.tuple #[.string (au (v.get i key).1),.bool (v.get i key).2.1,.int .i64 ((v.get i key).2.2:Int)])/\ah No w w':=by
 have HM:=aa (xw s hs w v h gx i hx key []);have HW:=aa (fun w' (e:ah No w w')=>lh s hs w' v (h.no hs e) hg gx i (hx.ext e (fun h=>h)) hi key);have HT:=aa (fun(w':World) (e:ah No w w')=>h.no hs e);have HX:=aa (fun(w':World) (e:ah No w w')=>hx.ext e (fun h=>h));clear h hg hx;obtain⟨D,hD⟩:∃D,D=v.get i key:=⟨_,rfl⟩;rw[<-hD];unfold V.get at hD
 by_cases hm:iE key []=0
 ·rw[if_neg (by omega)]at hD
  rw[hm]at HM;clear hm;cases hw:v.way i key with
  | none =>
   rw[hw]at HW hD;have HD:=aa hD;clear hw hV hD;go_enter Tryz.func23,Tryz.ntmps23;go_wp2_with fail;refine(HM.out).mono ?_;rintro e' w1 ⟨rfl,aT⟩;go_wp2_with fail;refine(HW.out _ aT).mono ?_;rintro e' w2 ⟨aH,rfl⟩;go_wp2_with fail
   go_ret3
   rw[HD.out];exact⟨rfl,aT.ag aH⟩
  | some ws =>
   have hWO:=sO hw;have hV:=hV ws;have HV:=aa (fun c hc=>hV c hw hc);rw[hw]at HW hD;simp only at hD;clear hw hV;rcases Nat.eq_zero_or_pos ws.length with gX|gX
   ·have hn:ws = []:=List.eq_nil_of_length_eq_zero gX
    subst hn;have HD:=aa hD;clear gX HV hD hWO;go_enter Tryz.func23,Tryz.ntmps23;go_wp2_with fail;refine(HM.out).mono ?_;rintro e' w1 ⟨rfl,aT⟩;go_wp2_with fail;refine(HW.out _ aT).mono ?_;rintro e' w2 ⟨aH,A,cap,l,hl,rfl,_⟩;clear hl;simp only[List.length_nil];go_wp2_with fail
    go_ret3
    rw[HD.out];exact⟨rfl,aT.ag aH⟩
   ·obtain⟨m,gX⟩:∃m,ws.length=m+1:=by cases hz:ws.length <;> simp_all
    have HL:=aa (fun(l:List (dN×jT)) (h:l.map (·.1)=ws)=>uL h gX);have o7:=aa gX;have LB:m<=40:=by have:=hWO.len;omega
    have Fz:=aa hWO;have HD:=aa hD;clear gX hWO hD;go_enter Tryz.func23,Tryz.ntmps23;go_wp2_with fail;refine(HM.out).mono ?_;rintro e' w1 ⟨rfl,aT⟩;go_wp2_with fail;refine(HW.out _ aT).mono ?_;rintro e' w2 ⟨aH,A,cap,l,hl,rfl,jB⟩;rw[o7.out];obtain⟨p,hp,dI⟩:=HL.out l hl;obtain⟨st,ad⟩:=p;obtain⟨b,o,rfl,JK,q0,q1,q2,q3,q4,q5⟩:=jB.at hp;have cu:=jB.nodes (st,ad) (List.mem_of_getElem? hp);simp only at q0 q1 q2 q3 q4 q5 cu dI;have bL:=Fz.out.last st dI;obtain⟨gN,yY⟩:=Fz.out.all st (List.mem_of_getLast? dI);have Fb:st.i<=st.n.cells.length:=by rw[yY];exact(Nd.uR (V.bM gN) key).1 bL
    have TP:=aa (Dv dI key);have fQ:=aa (aT.ag aH);have lb:=World.block_lt_of_cell? w2 _ q0;simp only at lb;have hcap:m+1<=cap:=by
     have:=jB.cap;have h2:l.length=m+1:=by rw[<-o7.out,<-hl,List.length_map]
     omega
    have rZ:=cu.l1;have hb1:=cu.b1;clear dI hp hl aT aH jB yY gN JK;rcases Nat.lt_or_ge st.i st.n.cells.length with bu|iC
    ·obtain⟨c,hc⟩:∃c,st.n.cells[st.i]?=some c:=⟨_,List.getElem?_eq_getElem bu⟩
     obtain⟨cb,co,mY,_,k0,k1,k2,k3⟩:=cu.cells.cellAt hc;have lc:=World.block_lt_of_cell? w2 _ k0;simp only at lc;rw[mY]at q2;have hh:=TP.out;rw[hc]at hh;simp only at hh;have Sk:¬((st.i:Int)=(st.n.cells.length:Int)):=by omega
     clear TP hc cu mY Fb;generalize yY:st.i=si at *;generalize st.n.cells.length=cl at *;generalize st.n.keys.length=kl at *;generalize st.n.kids.length=il at *;generalize st.id=sid at *;clear yY
     by_cases hk:c.key=key
     ·rw[if_pos hk]at hh
      have HVV:=aa (HV.out c hh);have nH:=HD.out;rw[hh]at nH;simp only at nH;have Np:(c.key==key)=true:=by simpa using hk
      clear HD hh hk;unfold BP at HVV;simp only[aA.agg]at HVV;cases Vx:v.value c with
      | none =>
       rw[Vx]at nH HVV;have gF:=aa nH;simp only[vR]at HVV;clear nH Vx;go_wp2_with fail;refine(HVV.out _ gx i (HT.out _ (fQ.out.alloc _)) (HX.out _ (fQ.out.alloc _))).mono ?_;rintro e' w3 ⟨rfl,bC⟩;go_wp2_with fail
       go_ret3
       rw[gF.out];exact⟨rfl,(fQ.out.alloc _).ag bC⟩
      | some vb =>
       rw[Vx]at nH HVV;have gF:=aa nH;simp only[vR]at HVV;clear nH Vx;go_wp2_with fail;refine(HVV.out _ gx i (HT.out _ (fQ.out.alloc _)) (HX.out _ (fQ.out.alloc _))).mono ?_;rintro e' w3 ⟨rfl,bC⟩;go_wp2_with fail
       go_ret3
       rw[gF.out];exact⟨rfl,(fQ.out.alloc _).ag bC⟩
     ·rw[if_neg hk]at hh
      have nH:=HD.out;rw[hh]at nH;have gF:=aa nH;have Np:(c.key==key)=false:=by simpa using hk
      clear HD hh hk nH;go_wp2_with fail
      go_ret3
      rw[gF.out];exact⟨rfl,fQ.out.alloc _⟩
    ·have acv:(st.i:Int)=(st.n.cells.length:Int):=by omega
     have hh:=TP.out;rw[List.getElem?_eq_none iC]at hh;have nH:=HD.out;rw[hh]at nH;have gF:=aa nH;clear HD hh nH TP cu Fb iC;generalize st.i=si at *;generalize st.n.cells.length=cl at *;generalize st.n.keys.length=kl at *;generalize st.n.kids.length=il at *;generalize st.id=sid at *;have hse:si=cl:=by omega
     subst hse;clear acv;go_wp2_with fail
     go_ret3
     rw[gF.out];exact⟨rfl,fQ.out.alloc _⟩
 ·rw[if_pos hm]at hD
  have HD:=aa hD;have hm':((iE key []:Int) != 0)=true:=by simpa using (by omega:¬(iE key []:Int)=0)
  obtain⟨q,hq⟩:∃q,q=iE key []:=⟨_,rfl⟩;rw[<-hq]at HM hm';have HQ:=aa hq;clear hm hD hq;go_enter Tryz.func23,Tryz.ntmps23;go_wp2_with fail;refine(HM.out).mono ?_;rintro e' w1 ⟨rfl,aT⟩;go_wp2_with fail
  go_ret3
  rw[HD.out,<-HQ.out];exact⟨rfl,aT⟩
end Go.Proofs.YtccnemmlkcmceaaGreatDoor
