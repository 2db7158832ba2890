/- Proofs about the given program, joined out of the texts S6, S7, D3, PK, DK1, DK2, DK4, CR. -/
import Derived.Test.YtccnemmlkcmceaaGreatDoorHL3
import Derived.Deep.MidRow
import Derived.Lib.BufferWrite
import Derived.Deep.WholeRow
import Derived.Deep.RegionLaw
set_option linter.unusedVariables false
set_option linter.unusedSimpArgs false
set_option maxRecDepth 100000
set_option maxHeartbeats 6400000
namespace Go.Proofs.YtccnemmlkcmceaaGreatDoor
open Go.RowKit
theorem dB {w w':World}{row:Option Nat}(h:w.grownBy w' row) {g i:Nat}{u:Value}(hc:w.cell? ⟨g,i,none⟩=some u) (hg:some g≠row):w'.cell? ⟨g,i,none⟩=some u:=h.cell hc hg
theorem vC (n:Nat) (h:n<256):IntKind.u8.wrap (n:Int)=n:=by
 unfold IntKind.wrap;simp[IntKind.bits,IntKind.signed];omega
theorem I8 (ks:List Bs):∀(is:List Nat) (k:Nat) (x:Bs) (i:Nat),ks[k]?=some x->is[k]?=some i ->
  b_ (ks.take (k+1)) (is.take (k+1))=b_ (ks.take k) (is.take k)++ND x++n4 i:=by
 induction ks with
 | nil=>intro is k x i h;simp at h
 | cons y ks ih =>
  intro is k x i hx hi
  match is,k with
  | [],_=>simp at hi
  | j::is,0 =>
   simp at hx hi;subst hx;subst hi;simp[b_]
  | j::is,k+1 =>
   simp only[List.getElem?_cons_succ]at hx hi;simp only[List.take_succ_cons,b_];rw[ih is k x i hx hi];simp[List.append_assoc]
theorem Mj (ks:List Bs):∀(is:List Nat),(∀k∈ks,k.length<=140)->(b_ ks is).length<=ks.length*145:=by
 induction ks with
 | nil=>intro is _;simp[b_]
 | cons y ks ih =>
  intro is h
  match is with
  | []=>simp[b_]
  | j::is =>
   have h1:=h y (by simp);have h2:=ih is (fun k hk=>h k (by simp[hk]));simp only[b_,List.length_append,ND,List.length_cons,bX];omega
theorem O6 (n:Nd) (w:World) (F:Nat->Prop) (A1:Option Addr) (c1:Nat) (A2:Option Addr) (c2:Nat) (A3:Option Addr) (c3:Nat) (hn:aW w F A1 c1 A2 c2 A3 c3 n) (uM:n.ok=true) (hl:n.size<=500) (bL:n.leaf=false) :
  Calls Tryz.prog 180 #[n.value A1 c1 A2 c2 A3 c3] w fun e w'=>e=.returned (.tuple #[.string (au n.enc),.int .i64 0])/\ah No w w':=by
 have hO:=Nd.Ok.of uM;have hf:=hO.fits;have HC:=aa (fun w hn=>dG n w F A1 c1 A2 c2 A3 c3 hn hf);have HS:=aa (fun w hn=>pF n w F A1 c1 A2 c2 A3 c3 hn hf);rw[Nd.jh uM]at HC;clear uM;have LG:¬((500:Int)<n.size):=by omega
 obtain⟨OZ,l_⟩:=hO.br bL;obtain⟨i0,OQ⟩:∃i0,n.kids[0]?=some i0:=⟨_,List.getElem?_eq_getElem (by omega)⟩;have ag4:i0<4294967296:=hf.i i0 (List.mem_of_getElem? OQ);obtain⟨kb,ko,BJ,_,e0⟩:=hn.kids.pU OQ;subst BJ;simp only[Nat.add_zero]at e0;have lkb:=World.block_lt_of_cell? w _ e0;have aiR:0<n.kids.length:=by omega
 have ajf:(0:Int)<n.kids.length:=by omega
 have PR:=aa OZ;have AJ:=aa l_;have HI0:=aa OQ;have Ef:=aa bL;clear OZ l_ OQ;go_enter Tryz.func180,Tryz.ntmps180;simp only[Nd.value,bL];simp only[Nd.value,bL]at HC HS;clear bL;go_wp2_with fail;refine(HC.out _ (hn.ext ((ah.refl _ w).alloc _))).mono ?_;rintro e w1 ⟨rfl,hb1⟩;have bb:=(ax.new w 40 #[.bool false,.slice A1 n.cells.length c1,.slice A2 n.keys.length c2,.slice (some ⟨kb,ko,none⟩) n.kids.length c3]).ext hb1 (fun h=>h);have q0:=bb.cell 0;have q1:=bb.cell 1;have q2:=bb.cell 2;have q3:=bb.cell 3;have bl:=bb.lt;simp at q0 q1 q2 q3;go_wp2_with fail;refine(HS.out _ (hn.ext (((ah.refl _ w).alloc _).ag hb1.of_no))).mono ?_;rintro e w2 ⟨rfl,dO⟩;have kG:ah No w w2:=by(repeat' (first|exact ah.refl _ _|assumption|apply ah.alloc|apply ah.drewN|apply ah.drew|refine ah.ai ?_ (by first|omega|(simp;omega)|simp) _ _|refine ah.ay ?_ (by first|exact Or.inl rfl|exact Or.inr rfl|rfl) _ _|refine ah.ag ?_ (by assumption)|refine ah.ag ?_ (ah.of_no (by assumption))))
 have bb:=bb.ext dO (fun h=>h);have q0:=bb.cell 0;have q2:=bb.cell 2;have q3:=bb.cell 3;have bl:=bb.lt;simp at q0 q2 q3;have e0':=aj kG e0 (fun h=>h);have gX:w.heap.size<w2.heap.size:=by omega
 have fQ:=aa kG;go_wp2_with fail;have aeo:(n.keys.length:Int)%256=n.keys.length:=by have:=hO.a2;omega
 have Lj:=vC n.keys.length (by have:=hO.a2;omega);have ng:Hid (dn [2,UInt8.ofNat n.keys.length] = [.int .u8 2,.int .u8 (n.keys.length:Int)]):=by
  have:=fq n.keys.length (by have:=hO.a2;omega);show dn _=_;simp only[dn,List.map_cons,List.map_nil,this];rfl
 go_region_held3 (fun w'=>w'.cell? ⟨w.heap.size,2,none⟩=some (.slice A2 n.keys.length c2)/\w'.cell? ⟨w.heap.size,3,none⟩=some (.slice (some ⟨kb,ko,none⟩) n.kids.length c3)/\w'.cell? ⟨kb,ko,none⟩=some (.int .i64 (i0:Int))) (go_keep)
  ((go_at_call 202;refine(xU (w.heap.size+1) _ [2,UInt8.ofNat n.keys.length] i0 ag4 _ (by have h:=World.ownsRow_lit (base:=w.heap.size+1) (e:=5) (size:=1) w2 #[.int .u8 2,.int .u8 (n.keys.length:Int)] 2 (by omega) (by decide) rfl;rw[ng.out];exact h) (by simp;omega) (by simp)).mono ?_;rintro e w3 ⟨g,cap,rfl,iJ,iM,ZX⟩;generalize hL:([2,UInt8.ofNat n.keys.length]++n4 i0:Bs)=L0 at iJ ⊢;have HL0:=aa hL;clear hL;have k2:=dB iM (g:=w.heap.size) (i:=2) (u:=.slice A2 n.keys.length c2) (by go_simp) (by simp[Value.ownBlock];omega);have k3:=dB iM (g:=w.heap.size) (i:=3) (u:=.slice (some ⟨kb,ko,none⟩) n.kids.length c3) (by go_simp) (by simp[Value.ownBlock];omega);have k4:=dB iM (g:=kb) (i:=ko) (u:=.int .i64 (i0:Int)) (by go_simp) (by simp[Value.ownBlock];omega)))
 have bb3:ax w3 w.heap.size 40 #[.bool false,.slice A1 n.cells.length c1,.slice A2 n.keys.length c2,.slice (some ⟨kb,ko,none⟩) n.kids.length c3] :=
  (iM.block w.heap.size (by simp;omega) (by simp[Value.ownBlock];omega)).trans ((bb.alloc _))
 have fC:ah No w w3:=ah.grown ((fQ.out.alloc _).drew) iM (fun g' qO=>by simp[Value.ownBlock]at qO;exact .inr (by omega));have HK:=aa (hn.keys);have HI:=aa (hn.kids);clear hn iM ZX HC HS hb1 dO kG bb q0 q2 q3 e0' fQ LG;have aa8:=hO.k;have hfi:=hf.i;have ha2:=hO.a2;obtain⟨wo,rfl⟩:∃wo:World,wo=w3:=⟨_,rfl⟩;have Wy:L0.length=6:=by rw[<-HL0.out];simp[n4]
 have lL:=aa Wy;clear Wy;go_wp2_with fail;go_loopg [4,34] n.keys.length (fun gk v i wr=>∃(k:Nat) (g cap:Nat) (L:Bs),k+gk=n.keys.length/\i=.int .i64 (k:Int)/\v=.slice (some ⟨g,0,none⟩) L.length cap/\wr.ownsRow (w.heap.size+1) 5 1 (.slice (some ⟨g,0,none⟩) L.length cap) L.length (dn L)/\L=L0++b_ (n.keys.take k) (n.kids.tail.take k)/\ah No w wr/\ax wr w.heap.size 40 #[.bool false,.slice A1 n.cells.length c1,.slice A2 n.keys.length c2,.slice (some ⟨kb,ko,none⟩) n.kids.length c3])
 case atStart=>exact⟨0,g,cap,L0,by omega,rfl,rfl,iJ,by simp[b_],fC,bb3⟩
 case round =>
  clear iJ fC bb3 k2 k3 k4;obtain⟨k,g,cap,L,jK,rfl,rfl,aP,hL,hE,bb⟩:=hrel;have hk:k<=n.keys.length:=by omega
  have jS:=aa jK;have HL:=aa hL;have HO:=aa aP;have Gl:L.length<=6+k*145:=by
   have h1:=Mj (n.keys.take k) (n.kids.tail.take k) (fun x hx=>(dF (aa8 x (List.mem_of_mem_take hx))).2);have h2:(n.keys.take k).length<=k:=List.length_take_le _ _;have h3:=lL.out;have h4:=Nat.mul_le_mul_right 145 h2;rw[hL,List.length_append];omega
  clear jK hL aP;have HE:=aa hE;have q2:=bb.cell 2;have q3:=bb.cell 3;have bl:=bb.lt;simp at q2 q3
  by_cases bu:k<n.keys.length
  ·obtain⟨x,hx⟩:∃x,n.keys[k]?=some x:=⟨_,List.getElem?_eq_getElem bu⟩
   obtain⟨i,hi⟩:∃i,n.kids[k+1]?=some i:=⟨_,List.getElem?_eq_getElem (by have:=AJ.out;omega)⟩;have BC:=dF (aa8 x (List.mem_of_getElem? hx));have BG:=hfi i (List.mem_of_getElem? hi);obtain⟨b,o,hA,_,e1⟩:=(HK.out.ext hE.of_no).rF hx;subst hA;obtain⟨b',o',SH,_,e2⟩:=(HI.out.ext hE.of_no).pU hi;injection SH with SH;injection SH with mY JM;subst mY;subst JM;have hbw:b<w.heap.size:=by
    obtain⟨bw,ow,hAw,_,ew⟩:=HK.out.rF hx;injection hAw with hAw;injection hAw with mY JM;rw[mY];exact World.block_lt_of_cell? w _ ew
   have kL:=HO.out.lt g rfl;obtain⟨hg1,JH⟩:=kL;have lkw:kb<wr.heap.size:=by omega
   have ajD:b<wr.heap.size:=World.block_lt_of_cell? wr _ e1;have w1:IntKind.i64.wrap ((k:Int)+1)=(k:Int)+1:=IntWalk.i64_in _ (by omega);have w2:(0:Int)<=(k:Int)+1:=by omega
   have w3:((k:Int)+1).toNat=k+1:=by omega
   have w4:(k:Int)+1<n.kids.length:=by have:=AJ.out;omega
   have HX:=aa hx;have HII:=aa hi;clear hx hi;go_wp2_with fail;go_region_held3 (fun w'=>w'.cell? ⟨w.heap.size,3,none⟩=some (.slice (some ⟨kb,ko,none⟩) n.kids.length c3)/\w'.cell? ⟨kb,ko+(k+1),none⟩=some (.int .i64 (i:Int))) (go_keep)
    (first
     | (go_at_call 203;refine(Ci (w.heap.size+1) _ L x (by omega) _ (by exact HO.out) (by simp;omega) (by omega)).mono ?_;rintro e w5 ⟨g1,Pm,rfl,nA,kg,aeS⟩;generalize Wx:(L++UInt8.ofNat x.length::x:Bs)=L1 at nA ⊢;have TM:=aa Wx;have Nv:=aa nA;clear Wx nA;have k3:=dB kg (g:=w.heap.size) (i:=3) (u:=.slice (some ⟨kb,ko,none⟩) n.kids.length c3) (by go_simp) (by simp[Value.ownBlock];omega);have k4:=dB kg (g:=kb) (i:=ko+(k+1)) (u:=.int .i64 (i:Int)) (by go_simp) (by simp[Value.ownBlock];omega))
     | (go_at_call 202;refine(xU (w.heap.size+1) _ L1 i BG _ (by exact Nv.out) (by have:=kg.size;simp at this;omega) (by rw[<-TM.out];simp;omega)).mono ?_;rintro e w6 ⟨g2,cap2,rfl,bJ,a_,uf⟩;generalize Z_:(L1++n4 i:Bs)=L2 at bJ ⊢;have vQ:=aa Z_;have sD:=aa bJ;clear Z_ bJ;have ajy:=(Nv.out.lt g1 rfl).1;have k3:=dB a_ (g:=w.heap.size) (i:=3) (u:=.slice (some ⟨kb,ko,none⟩) n.kids.length c3) (by go_simp) (by simp[Value.ownBlock];omega);have k4:=dB a_ (g:=kb) (i:=ko+(k+1)) (u:=.int .i64 (i:Int)) (by go_simp) (by simp[Value.ownBlock];omega)))
   go_wp2_with fail;go_roundg (gk-1)
   case rel =>
    refine⟨k+1,g2,cap2,L2,by have:=jS.out;omega,by go_num,rfl,sD.out,?_,?_,?_⟩
    ·rw[<-vQ.out,<-TM.out,HL.out,I8 n.keys n.kids.tail k x i HX.out (by rw[List.getElem?_tail];exact HII.out)]
     simp[ND,List.append_assoc]
    ·exact ah.grown (ah.grown HE.out.drew kg (fun g' qO=>by simp[Value.ownBlock]at qO;exact .inr (by omega))) a_ (fun g' qO=>by simp[Value.ownBlock]at qO;exact .inr (by omega))
    ·exact(a_.block _ (by have:=kg.size;simp at this;omega) (by simp[Value.ownBlock];omega)).trans ((kg.block _ (by simp;omega) (by simp[Value.ownBlock];omega)).trans bb)
   case measure=>have:=jS.out;omega
  ·have qN:k=n.keys.length:=by omega
   have HKE:=aa qN;clear qN;have aeF:(convert 98 9 (.slice (some ⟨g,0,none⟩) L.length cap)).run Tryz.prog wr=.ok (.string (au L)) wr :=
    run_convert_bytes_back (P:=Tryz.prog) wr 98 9 5 ⟨g,0,none⟩ cap L Tryz.underlying98 Tryz.underlying5 Tryz.underlying9 (fun j hj=>HO.out.cells (g:=g) rfl j _ (by simp[dn,hj]))
   go_wp2_with fail;go_ret2;refine⟨?_,HE.out⟩;have Dz:L=n.enc:=by
    have Iw:n.kids.tail.length=n.keys.length:=by have:=AJ.out;simp;omega
    rw[HL.out,HKE.out,List.take_length,<-Iw,List.take_length,<-HL0.out];unfold Nd.enc;rw[Ef.out,if_neg (by simp)];have hhd:n.kids.headD 0=i0:=by have:=HI0.out;cases qg:n.kids with|nil=>rw[qg]at this;simp at this|cons a b=>rw[qg]at this;simpa using this
    rw[hhd];simp
   rw[Dz];rfl
theorem vL (cs:List aA) (k:Nat) (c:aA) (h:cs[k]?=some c):bW (cs.take (k+1))=bW (cs.take k)++c.enc:=by
 rw[List.take_add_one,h];simp[bW]
theorem aA.BM {c:aA}(h:c.ok=true):c.enc.length<=300:=by
 have:=aA.iW h;unfold aA.enc ND;split <;> simp[bX] <;> omega
theorem I_ (cs:List aA) (h:∀c∈cs,c.ok=true):(bW cs).length<=cs.length*300:=by
 induction cs with
 | nil=>simp[bW]
 | cons c cs ih =>
  have h1:=aA.BM (h c (by simp));have h2:=ih (fun c hc=>h c (by simp[hc]));simp only[bW,List.flatMap_cons,List.length_append,List.length_cons]at *;omega
theorem abj {g1 n cap g2 H x:Nat}(h:(Value.slice (some ⟨g1,0,none⟩) n cap).ownBlock=some g2\/g2=H) (h1:g1≠x) (h2:x<H):g2≠x:=by
 rcases h with h|h
 ·simp[Value.ownBlock]at h;omega
 ·omega
theorem adN {g1 n cap g2 H x:Nat}(h:(Value.slice (some ⟨g1,0,none⟩) n cap).ownBlock=some g2\/H<=g2) (h1:g1≠x) (h2:x<H):g2≠x:=by
 rcases h with h|h
 ·simp[Value.ownBlock]at h;omega
 ·omega
theorem gb {w w':World}{row:Option Nat}(h:w.grownBy w' row) {B:Nat}(hb:B<=w.heap.size):B<=w'.heap.size:=Nat.le_trans hb h.size
theorem gba {w w':World}{row:Option Nat}{o:Obj}(h:((w.alloc o).drew).grownBy w' row) {B:Nat}(hb:B<=w.heap.size):B<=w'.heap.size:=Nat.le_trans (Nat.le_trans hb (by simp)) h.size
theorem cad {w:World}{g i:Nat}{v:Value}(h:w.cell? ⟨g,i,none⟩=some v) (o:Obj):(w.alloc o).drew.cell? ⟨g,i,none⟩=some v:=by
 have bu:=World.block_lt_of_cell? w _ h;exact(World.cell?_alloc_lt w o ⟨g,i,none⟩ bu).trans h
theorem tC {g1 x n cap:Nat}(h:g1≠x):some x≠(Value.slice (some ⟨g1,0,none⟩) n cap).ownBlock:=by simp[Value.ownBlock];omega
theorem adM {L L3:Bs}{n:Nat}(H:Hid (L++n4 n=L3)) (h:L.length<999000):L3.length<1000000:=by rw[<-H.out];simp[bX];omega
theorem KG {w:World}{base g cap:Nat}{L:Bs}{b:UInt8}{c:Int}(hb:(b.toNat:Int)=c) (h:w.ownsRow base 5 1 (.slice (some ⟨g,0,none⟩) (L.length+1) cap) (L.length+1) (dn L ++ [.int .u8 c])) :
  Hid (w.ownsRow base 5 1 (.slice (some ⟨g,0,none⟩) (L.length+1) cap) (L ++ [b]:Bs).length (dn (L ++ [b]))):=by
 show World.ownsRow _ _ _ _ _ _ _;rw[iO,List.length_append];subst hb;exact h
theorem WT (n:Nd) (w:World) (F:Nat->Prop) (A1:Option Addr) (c1:Nat) (A2:Option Addr) (c2:Nat) (A3:Option Addr) (c3:Nat) (hn:aW w F A1 c1 A2 c2 A3 c3 n) (uM:n.ok=true) (hl:n.size<=500) (bL:n.leaf=true) :
  Calls Tryz.prog 180 #[n.value A1 c1 A2 c2 A3 c3] w fun e w'=>e=.returned (.tuple #[.string (au n.enc),.int .i64 0])/\ah No w w':=by
 have hO:=Nd.Ok.of uM;have hf:=hO.fits;have HC:=aa (fun w hn=>dG n w F A1 c1 A2 c2 A3 c3 hn hf);have HS:=aa (fun w hn=>pF n w F A1 c1 A2 c2 A3 c3 hn hf);rw[Nd.jh uM]at HC;clear uM;have LG:¬((500:Int)<n.size):=by omega
 have Ef:=aa bL;obtain⟨i0,mi,eQ,fe,eP⟩:=info_parts Tryz.info5;go_enter Tryz.func180,Tryz.ntmps180;simp only[Nd.value,bL];simp only[Nd.value,bL]at HC HS;clear bL;go_wp2_with fail;refine(HC.out _ (hn.ext ((ah.refl _ w).alloc _))).mono ?_;rintro e w1 ⟨rfl,hb1⟩;have bb:=(ax.new w 40 #[.bool true,.slice A1 n.cells.length c1,.slice A2 n.keys.length c2,.slice A3 n.kids.length c3]).ext hb1 (fun h=>h);have q0:=bb.cell 0;have q1:=bb.cell 1;have q2:=bb.cell 2;have q3:=bb.cell 3;have bl:=bb.lt;simp at q0 q1 q2 q3;go_wp2_with fail;refine(HS.out _ (hn.ext (((ah.refl _ w).alloc _).ag hb1.of_no))).mono ?_;rintro e w2 ⟨rfl,dO⟩;have kG:ah No w w2:=by(repeat' (first|exact ah.refl _ _|assumption|apply ah.alloc|apply ah.drewN|apply ah.drew|refine ah.ai ?_ (by first|omega|(simp;omega)|simp) _ _|refine ah.ay ?_ (by first|exact Or.inl rfl|exact Or.inr rfl|rfl) _ _|refine ah.ag ?_ (by assumption)|refine ah.ag ?_ (ah.of_no (by assumption))))
 have bb:=bb.ext dO (fun h=>h);have q0:=bb.cell 0;have q1:=bb.cell 1;have bl:=bb.lt;simp at q0 q1;have fQ:=aa kG;have Lj:=vC n.cells.length (by have:=hO.a1;omega);have aeo:(n.cells.length:Int)%256=n.cells.length:=by have:=hO.a1;omega
 have ng:Hid (dn [1,UInt8.ofNat n.cells.length] = [.int .u8 1,.int .u8 (n.cells.length:Int)]):=by
  have:=fq n.cells.length (by have:=hO.a1;omega);show dn _=_;simp only[dn,List.map_cons,List.map_nil,this];rfl
 have rC:=aa hn.cells;have OW:=hO.c;have ha1:=hO.a1;clear hn HC HS hb1 dO kG LG;go_wp2_with fail;have iJ:=World.ownsRow_lit (base:=w.heap.size+1) (e:=5) (size:=1) w2 #[.int .u8 1,.int .u8 (n.cells.length:Int)] 2 (by omega) (by decide) rfl;have fC:ah No w (w2.alloc (.cells #[.int .u8 1,.int .u8 (n.cells.length:Int)] 5)):=fQ.out.alloc _;have bb3:=bb.alloc (.cells #[.int .u8 1,.int .u8 (n.cells.length:Int)] 5);rw[<-ng.out]at iJ;have VM:(w2.alloc (.cells #[.int .u8 1,.int .u8 (n.cells.length:Int)] 5)).ownsRow (w.heap.size+1) 5 1 (.slice (some ⟨w2.heap.size,0,none⟩) 2 2) 2 (dn [1,UInt8.ofNat n.cells.length]):=by
  rw[ng.out];exact World.ownsRow_lit (base:=w.heap.size+1) (e:=5) (size:=1) w2 #[.int .u8 1,.int .u8 (n.cells.length:Int)] 2 (by omega) (by decide) rfl
 go_loopg [7,60] n.cells.length (fun gk v i wr=>∃(k:Nat) (g cap:Nat) (L:Bs),k+gk=n.cells.length/\i=.int .i64 (k:Int)/\v=.slice (some ⟨g,0,none⟩) L.length cap/\wr.ownsRow (w.heap.size+1) 5 1 (.slice (some ⟨g,0,none⟩) L.length cap) L.length (dn L)/\L = [1,UInt8.ofNat n.cells.length]++bW (n.cells.take k)/\ah No w wr/\ax wr w.heap.size 40 #[.bool true,.slice A1 n.cells.length c1,.slice A2 n.keys.length c2,.slice A3 n.kids.length c3])
 case atStart=>exact⟨0,w2.heap.size,2,[1,UInt8.ofNat n.cells.length],by omega,rfl,rfl,VM,by simp[bW],fC,bb3⟩
 case round =>
  clear iJ VM fC bb3;obtain⟨k,g,cap,L,jK,rfl,rfl,aP,hL,hE,bb⟩:=hrel;have hk:k<=n.cells.length:=by omega
  have jS:=aa jK;have HL:=aa hL;have HO:=aa aP;have Gl:L.length<=2+k*300:=by
   have h1:=I_ (n.cells.take k) (fun x hx=>OW x (List.mem_of_mem_take hx));have h2:(n.cells.take k).length<=k:=List.length_take_le _ _;have h4:=Nat.mul_le_mul_right 300 h2;rw[hL,List.length_append];simp;omega
  clear jK hL aP;have HE:=aa hE;have q1:=bb.cell 1;have bl:=bb.lt;simp at q1
  by_cases bu:k<n.cells.length
  ·obtain⟨x,hx⟩:∃x,n.cells[k]?=some x:=⟨_,List.getElem?_eq_getElem bu⟩
   have agj:=OW x (List.mem_of_getElem? hx);have hxb:=aA.iW agj;obtain⟨aT,aH,bC,ib,bU⟩:=hxb;obtain⟨b,o,hA,_,e0,e1,e2,e3⟩:=(rC.out.ext hE.of_no).cellAt hx;subst hA;have hbw:b<w.heap.size:=by
    obtain⟨bw,ow,hAw,_,ew,_⟩:=rC.out.cellAt hx;injection hAw with hAw;injection hAw with mY JM;rw[mY];exact World.block_lt_of_cell? w _ ew
   obtain⟨hg1,JH⟩:=HO.out.lt g rfl;have lbr:b<wr.heap.size:=by omega
   have HX:=aa hx;clear hx;go_wp2_with fail;refine(Ci (w.heap.size+1) _ L x.key (by omega) _ (HO.out.alloc _) (by simp;omega) (by omega)).mono ?_;rintro e w5 ⟨g1,Pm,rfl,nA,kg,aeS⟩;generalize Wx:(L++UInt8.ofNat x.key.length::x.key:Bs)=L1 at nA ⊢;have TM:=aa Wx;have Nv:=aa nA;have ajH:L1.length<=200+k*300:=by rw[<-Wx];simp;omega
   clear Wx nA;have Gh:=(ax.new wr 45 #[.string (au x.key),.string (au x.val),.int .i64 (x.over:Int),.int .i64 (x.len:Int)]);have ZQ:ax w5 wr.heap.size 45 #[.string (au x.key),.string (au x.val),.int .i64 (x.over:Int),.int .i64 (x.len:Int)]:=(kg.block _ (by simp) (by simp[Value.ownBlock];omega)).trans Gh;have p1:=ZQ.cell 1;have p2:=ZQ.cell 2;have p3:=ZQ.cell 3;have pl:=ZQ.lt;simp at p1 p2 p3;obtain⟨hg3,hg4⟩:=Nv.out.lt g1 rfl;have Sq:g1≠wr.heap.size:=by
    rcases aeS with h|h
    ·simp[Value.ownBlock]at h;omega
    ·simp at h;omega
   have m11:(L1 ++ [1]:Bs).length<999000:=by simp;omega
   have m10:(L1 ++ [0]:Bs).length<1000000:=by simp;omega
   have m1:w.heap.size+1<=w5.heap.size:=by omega
   have m2:L1.length+1<=maxLen:=by unfold maxLen;omega
   have m3:(L1.length+1)*1<=140737488355328:=by omega
   have m4:∀o,w.heap.size+1<=(w5.alloc o).drew.heap.size:=fun o=>by simp;omega
   have m5:∀o,(w5.alloc o).drew.heap.size=w5.heap.size+1:=fun o=>by simp
   have m6:wr.heap.size<w5.heap.size+1:=by omega
   have m7:x.len<4294967296:=by omega
   have m8:x.over<4294967296:=by omega
   have m9:x.val.length<256:=by omega
   have n1:∀u ∈ [Value.int .u8 1],u.oneCell'=true:=by simp[Value.oneCell']
   have n0:∀u ∈ [Value.int .u8 0],u.oneCell'=true:=by simp[Value.oneCell']
   have m12:(L1 ++ [1]:Bs).length<1000000:=by omega
   by_cases hov:(0:Int)<x.over
   ·have VN:0<x.over:=by omega
    go_wp2_with fail;go_region_held3 (fun w'=>w'.cell? ⟨wr.heap.size,2,none⟩=some (.int .i64 (x.over:Int))/\w'.cell? ⟨wr.heap.size,3,none⟩=some (.int .i64 (x.len:Int))) (go_keep)
     (first
      | (go_at_call_of 202 (Value.int .i64 (x.len:Int));refine(xU (w.heap.size+1) _ (L1 ++ [1]) x.len m7 _ (by exact sD.out) (by exact gba a_ m1) m12).mono ?_;rintro e w7 ⟨g3,afd,rfl,iJ,iM,ZX⟩;generalize Ym:(L1 ++ [1]++n4 x.len:Bs)=L3 at iJ ⊢;have G8:=aa Ym;have XO:=aa iJ;clear Ym iJ;have r2:=dB iM t2 (tC LK);have r3:=dB iM t3 (tC LK))
      | (go_at_call_of 202 (Value.int .i64 (x.over:Int));refine(xU (w.heap.size+1) _ L3 x.over m8 _ (by exact XO.out) (by exact gb iM (gba a_ m1)) (by exact adM G8 m11)).mono ?_;rintro e w8 ⟨g4,cap4,rfl,VL,II,ajE⟩;generalize hL4:(L3++n4 x.over:Bs)=L4 at VL ⊢;have M4:=aa hL4;have HO4:=aa VL;clear hL4 VL;have aba:g3≠wr.heap.size:=adN ZX LK (gba a_ pl);have s2:=dB II r2 (tC aba);have s3:=dB II r3 (tC aba))
      | ((refine step_append_lies _ (by rfl) _ _ _ (by rfl) (w.heap.size+1) 5 i0 (.int .u8 0) 1 1 Tryz.underlying98 mi eQ fe eP rfl (by decide) (.slice (some ⟨g1,0,none⟩) L1.length Pm) L1.length (dn L1) (by rfl) (by exact Nv.out.alloc _) ⟨w5.heap.size,0,none⟩ 1 1 [.int .u8 1] (by rfl) (by rfl) (by exact World.news_of_block (cs:=#[.int .u8 1]) (t:=5) (fr:=(0,0)) (heap_alloc_new w5 _)) n1 (by decide) m2 m3 (by exact m4 _) (w5.heap.size+1) (by exact m5 _) ?_);intro g2 cap2 w6 bJ a_ uf iK;have sD:=KG (L:=L1) (b:=1) (c:=1) rfl bJ;clear bJ;have LK:g2≠wr.heap.size:=abj uf Sq m6;have t2:=dB a_ (cad p2 _) (tC Sq);have t3:=dB a_ (cad p3 _) (tC Sq)))
    go_wp2_with fail;go_roundg (gk-1)
    case rel =>
     have z2:=a_.size;have z3:=iM.size;simp at z2 z3;refine⟨k+1,g4,cap4,L4,by have:=jS.out;omega,by go_num,rfl,HO4.out,?_,?_,?_⟩
     ·rw[<-M4.out,<-G8.out,<-TM.out,HL.out,vL n.cells k x HX.out]
      simp[aA.enc,ND,VN]
     ·have h1:=ah.grown (HE.out.alloc _) kg (fun g' qO=>by simp[Value.ownBlock]at qO;exact .inr (by omega))
      have h2:=ah.grown (h1.alloc _).drew a_ (fun g' qO=>by simp[Value.ownBlock]at qO;exact .inr (by omega));have acz:=(sD.out.lt g2 rfl).1;have ag5:=(XO.out.lt g3 rfl).1;exact ah.grown (ah.grown h2 iM (fun g' qO=>by simp[Value.ownBlock]at qO;exact .inr (by omega))) II (fun g' qO=>by simp[Value.ownBlock]at qO;exact .inr (by omega))
     ·have acz:=(sD.out.lt g2 rfl).1
      have ag5:=(XO.out.lt g3 rfl).1;have w5l:=kg.size;simp at w5l;exact(II.block _ (by omega) (by simp[Value.ownBlock];omega)).trans ((iM.block _ (by omega) (by simp[Value.ownBlock];omega)).trans ((a_.block _ (by simp;omega) (by simp[Value.ownBlock];omega)).trans ((ax.alloc ((kg.block _ (by simp;omega) (by simp[Value.ownBlock];omega)).trans (bb.alloc _)) _))))
    case measure=>have:=jS.out;omega
   ·have VN:¬0<x.over:=by omega
    go_wp2_with fail;go_region_held3 (fun w'=>w'.cell? ⟨wr.heap.size,1,none⟩=some (.string (au x.val))) (go_keep)
     (first
      | (go_at_call 203;refine(Ci (w.heap.size+1) _ (L1 ++ [0]) x.val m9 _ (by exact sD.out) (by exact gba a_ m1) m10).mono ?_;rintro e w7 ⟨g3,afd,rfl,iJ,iM,ZX⟩;generalize Ym:(L1 ++ [0]++UInt8.ofNat x.val.length::x.val:Bs)=L3 at iJ ⊢;have G8:=aa Ym;have XO:=aa iJ;clear Ym iJ;have r2:=dB iM t2 (tC LK))
      | ((refine step_append_lies _ (by rfl) _ _ _ (by rfl) (w.heap.size+1) 5 i0 (.int .u8 0) 1 1 Tryz.underlying98 mi eQ fe eP rfl (by decide) (.slice (some ⟨g1,0,none⟩) L1.length Pm) L1.length (dn L1) (by rfl) (by exact Nv.out.alloc _) ⟨w5.heap.size,0,none⟩ 1 1 [.int .u8 0] (by rfl) (by rfl) (by exact World.news_of_block (cs:=#[.int .u8 0]) (t:=5) (fr:=(0,0)) (heap_alloc_new w5 _)) n0 (by decide) m2 m3 (by exact m4 _) (w5.heap.size+1) (by exact m5 _) ?_);intro g2 cap2 w6 bJ a_ uf iK;have sD:=KG (L:=L1) (b:=0) (c:=0) rfl bJ;clear bJ;have LK:g2≠wr.heap.size:=abj uf Sq m6;have t2:=dB a_ (cad p1 _) (tC Sq)))
    go_wp2_with fail;go_roundg (gk-1)
    case rel =>
     have z2:=a_.size;simp at z2;refine⟨k+1,g3,afd,L3,by have:=jS.out;omega,by go_num,rfl,XO.out,?_,?_,?_⟩
     ·rw[<-G8.out,<-TM.out,HL.out,vL n.cells k x HX.out]
      simp[aA.enc,ND,VN]
     ·have h1:=ah.grown (HE.out.alloc _) kg (fun g' qO=>by simp[Value.ownBlock]at qO;exact .inr (by omega))
      have h2:=ah.grown (h1.alloc _).drew a_ (fun g' qO=>by simp[Value.ownBlock]at qO;exact .inr (by omega));have acz:=(sD.out.lt g2 rfl).1;exact ah.grown h2 iM (fun g' qO=>by simp[Value.ownBlock]at qO;exact .inr (by omega))
     ·have acz:=(sD.out.lt g2 rfl).1
      have w5l:=kg.size;simp at w5l;exact(iM.block _ (by omega) (by simp[Value.ownBlock];omega)).trans ((a_.block _ (by simp;omega) (by simp[Value.ownBlock];omega)).trans ((ax.alloc ((kg.block _ (by simp;omega) (by simp[Value.ownBlock];omega)).trans (bb.alloc _)) _)))
    case measure=>have:=jS.out;omega
  ·have qN:k=n.cells.length:=by omega
   have HKE:=aa qN;clear qN;have aeF:(convert 98 9 (.slice (some ⟨g,0,none⟩) L.length cap)).run Tryz.prog wr=.ok (.string (au L)) wr :=
    run_convert_bytes_back (P:=Tryz.prog) wr 98 9 5 ⟨g,0,none⟩ cap L Tryz.underlying98 Tryz.underlying5 Tryz.underlying9 (fun j hj=>HO.out.cells (g:=g) rfl j _ (by simp[dn,hj]))
   go_wp2_with fail;go_ret2;refine⟨?_,HE.out⟩;have Dz:L=n.enc:=by
    rw[HL.out,HKE.out,List.take_length];unfold Nd.enc;rw[Ef.out,if_pos rfl];simp
   rw[Dz];rfl
theorem Tryz.yS:(Tryz.prog.info? 45).map (fun i=>(i.zero,i.size,i.bytes))=some (some (.agg #[.string ⟨#[]⟩,.string ⟨#[]⟩,.int .i64 0,.int .i64 0]),4,48):=by kernel_rfl
theorem Tryz.Ak:(Tryz.prog.info? 9).map (fun i=>(i.zero,i.size,i.bytes))=some (some (.string ⟨#[]⟩),1,16):=by kernel_rfl
theorem Tryz.info3:(Tryz.prog.info? 3).map (fun i=>(i.zero,i.size,i.bytes))=some (some (.int .i64 0),1,8):=by kernel_rfl
def Nd.one (n:Nd) (r:bF):Nd×bF :=
 if n.leaf then ({ n with cells:=n.cells ++ [r.cell.1] },r.cell.2)else ({ n with keys:=n.keys ++ [r.text.1],kids:=n.kids ++ [r.text.2.four.1] },r.text.2.four.2)
def bD:Nat->Nd->bF->Nd×bF
 | 0,n,r=>(n,r)
 | k+1,n,r=>if r.bad then (n,r)else bD k (n.one r).1 (n.one r).2
def bF.head (r:bF):Nd×bF :=
 if r.byte.1=1 then (⟨true,[],[],[]⟩,r.byte.2.byte.2)else (⟨false,[],[],[r.byte.2.byte.2.four.1]⟩,r.byte.2.byte.2.four.2)
def bF.loop (r:bF):Nd×bF:=bD r.byte.2.byte.1 r.head.1 r.head.2
def GH (s:Bs):Option Nd :=
 if 500<s.length then none
 else if (⟨s,false⟩:bF).loop.2.bad then none
 else if (⟨s,false⟩:bF).loop.2.s.length≠0 then none
 else if (⟨s,false⟩:bF).byte.1≠1/\(⟨s,false⟩:bF).byte.1≠2 then none
 else if (⟨s,false⟩:bF).loop.1.ok then some (⟨s,false⟩:bF).loop.1 else none
def gB (w:World):Nat->Prop:=fun b=>b<w.heap.size
def Nd.zero:Value:=.agg #[.bool false,.slice none 0 0,.slice none 0 0,.slice none 0 0]
def vw (w:World) (o:Option Nd) (e:Ending) (w':World):Prop :=
 ah No w w'/\match o with
  | none=>e=.returned (.tuple #[Nd.zero,.int .i64 5])
  | some n=>∃A1 c1 A2 c2 A3 c3,e=.returned (.tuple #[n.value A1 c1 A2 c2 A3 c3,.int .i64 0])/\aW w' (gB w) A1 c1 A2 c2 A3 c3 n
def Lo (n:Nat):Nat->Prop:=fun b=>b<n
theorem Rd.jf {w':World}{base:Nat}{e:TypeId}{sz n cap:Nat}{A:Option Addr}{xs:List Value}(h:w'.ownsRow base e sz (.slice A n cap) n xs) (hs:0<sz):Rd w' (Lo base) sz A n xs:=by
 refine⟨h.1,fun hn=>?_⟩;rcases h.2 with ⟨hv,h0⟩|⟨g,cap',cur,hv,Bc,hg,OI,LU,xK,Lm⟩
 ·omega
 ·injection hv with hA _ hc
  subst hA;subst hc;refine⟨g,0,rfl,fun h'=>by unfold Lo at h';omega,fun j u hu=>?_⟩;have:=h.cells (g:=g) rfl j u hu;rw[Nat.zero_add];simp only[Addr.add]at this;split at this
  ·rename_i hj
   have:j=0:=by simpa using hj
   subst this;assumption
  ·simpa using this
theorem aW.mono {w:World}{F G:Nat->Prop}{A1:Option Addr}{c1:Nat}{A2:Option Addr}{c2:Nat}{A3:Option Addr}{c3:Nat}{n:Nd}(h:aW w F A1 c1 A2 c2 A3 c3 n) (hG:∀b,b<w.heap.size->G b->F b):aW w G A1 c1 A2 c2 A3 c3 n :=
 ⟨h.cells.mono (by omega) hG,h.keys.mono (by omega) hG,h.kids.mono (by omega) hG,h.l1,h.l2,h.l3,h.b1,h.b2,h.b3,h.e1,h.e2,h.e3⟩
theorem Rd.own {w w':World}{base:Nat}{e:TypeId}{sz n cap:Nat}{A:Option Addr}{xs:List Value}(h:w'.ownsRow base e sz (.slice A n cap) n xs) (hb:w.heap.size<=base) (hs:0<sz):Rd w' (gB w) sz A n xs:=by
 refine⟨h.1,fun hn=>?_⟩;rcases h.2 with ⟨hv,h0⟩|⟨g,cap',cur,hv,Bc,hg,OI,LU,xK,Lm⟩
 ·omega
 ·injection hv with hA _ hc
  subst hA;subst hc;refine⟨g,0,rfl,fun h'=>by unfold gB at h';omega,fun j u hu=>?_⟩;have:=h.cells (g:=g) rfl j u hu;rw[Nat.zero_add];simp only[Addr.add]at this;split at this
  ·rename_i hj
   have:j=0:=by simpa using hj
   subst this;assumption
  ·simpa using this
theorem dX {w:World}{base:Nat}{e:TypeId}{sz n cap:Nat}{A:Option Addr}{xs:List Value}(h:w.ownsRow base e sz (.slice A n cap) n xs):n<=cap:=by
 rcases h.2 with ⟨hv,h0⟩|⟨g,cap',cur,hv,Bc,hg,OI,LU,xK,Lm⟩
 ·omega
 ·injection hv with hA _ hc
  omega
theorem dA {w:World}{base:Nat}{e:TypeId}{sz n cap:Nat}{A:Option Addr}{xs:List Value}(h:w.ownsRow base e sz (.slice A n cap) n xs):A=none->cap=0:=by
 rintro rfl;rcases h.2 with ⟨hv,h0⟩|⟨g,cap',cur,hv,_⟩
 ·injection hv
 ·injection hv with hA;cases hA
theorem xZ (k:Nat) (n:Nd) (r:bF) (h:r.bad=true):bD k n r=(n,r):=by
 match k with
 | 0=>rfl
 | k+1=>simp[bD,h]
theorem ax.aS (w:World) (t:TypeId) (cs:Array Value) {b:Nat}(h:w.heap.size=b):ax (w.alloc (.cells cs t)) b t cs:=h▸ax.new w t cs
theorem ah.kR {F:Nat->Prop}{w0 w w':World}{p:Nat}(h:ah F w0 w) (hx:ah (On p) w w') (hp:w0.heap.size<=p):ah F w0 w' :=
 ⟨hx.os.trans h.os,hx.tape.trans h.tape,hx.output.trans h.output,Nat.le_trans h.size hx.size,fun i hi hn=>(hx.block i (Nat.lt_of_lt_of_le hi h.size) (fun h'=>by unfold On at h';omega)).trans (h.block i hi hn)⟩
theorem v_ {p b:Nat}(h:b≠p):¬On p b:=h
theorem bF.Tn (r:bF):r.cell.1.fits:=by
 have h1:=r.Ch;have h2:=r.text.2.byte.2.Ch;have h3:=r.text.2.byte.2.BL;have h4:=r.text.2.byte.2.four.2.BL;unfold bF.cell;split
 ·exact⟨by simp only;omega,by simp only;omega,by simp,by simp⟩
 ·split
  ·exact⟨by simp only;omega,by simp,by simp only;omega,by simp only;omega⟩
  ·exact⟨by simp only;omega,by simp,by simp,by simp⟩
theorem UR {w:World}{base g cap:Nat}{cs:List aA}{c:aA}(h:w.ownsRow base 45 4 (.slice (some ⟨g,0,none⟩) (cs.length+1) cap) (cs.length+1) (aC cs++c.vals)) :
  w.ownsRow base 45 4 (.slice (some ⟨g,0,none⟩) (cs ++ [c]).length cap) (cs ++ [c]).length (aC (cs ++ [c])):=by
 rw[gT,List.length_append];simpa[aC]using h
theorem lH {F:Nat->Prop}{w w':World}{base:Nat}{e:TypeId}{sz n:Nat}{v:Value}{xs:List Value}(h:w.ownsRow base e sz v n xs) (hx:ah F w w') (hF:∀g,base<=g->¬F g):w'.ownsRow base e sz v n xs:=by
 refine⟨h.1,?_⟩;rcases h.2 with h0|⟨g,cap,cur,hv,Bc,hg,rest⟩
 ·exact .inl h0
 ·exact .inr ⟨g,cap,cur,hv,Bc,(hx.block g (by
   rcases Nat.lt_or_ge g w.heap.size with bu|iC
   ·exact bu
   ·rw[Array.getElem?_eq_none iC]at hg;cases hg) (hF g Bc)).trans hg,rest⟩
theorem gZ {w:World}{base:Nat}{e:TypeId}{sz n m cap:Nat}{A:Option Addr}{xs:List Value}(h:w.ownsRow base e sz (.slice A n cap) m xs) {x:Nat}(hx:x<base):some x≠(Value.slice A n cap).ownBlock:=by
 intro e';have:=h.lt x e'.symm;omega
theorem mI {w:World}{base:Nat}{e:TypeId}{sz n m cap:Nat}{A:Option Addr}{xs:List Value}(h:w.ownsRow base e sz (.slice A n cap) m xs) {B:Nat}(hx:B<=base) {F:Nat->Prop}:∀g',(Value.slice A n cap).ownBlock=some g'->F g'\/B<=g':=by
 intro g' e';have:=h.lt g' e';exact .inr (by omega)
theorem ax.grown {w w':World}{row:Option Nat}(h:w.grownBy w' row) {g:Nat}{t:TypeId}{cs:Array Value}(hb:ax w g t cs) (bQ:some g≠row):ax w' g t cs:=(h.block g hb.lt bQ).trans hb
theorem aA.one (c:aA):∀u∈c.vals,u.oneCell'=true:=by
 intro u hu;simp[aA.vals]at hu;rcases hu with rfl|rfl|rfl|rfl <;> simp[Value.oneCell']
theorem ax.aY {F:Nat->Prop}{w w':World}{g:Nat}{t:TypeId}{cs:Array Value}(hx:ah F w w') (h:ax w g t cs) (hg:¬F g):ax w' g t cs:=h.ext hx hg
theorem kQ {F:Nat->Prop}{w w':World}{base:Nat}{e:TypeId}{sz n:Nat}{v:Value}{xs:List Value}(hx:ah F w w') (h:w.ownsRow base e sz v n xs) (hF:∀g,base<=g->¬F g):w'.ownsRow base e sz v n xs:=lH h hx hF
structure Dk where
 n:Nat
 K:Nat->Bs
 pd:List (Nat×Bs)
 down:Bool
 armed:Bool
 left:Nat
 done:Nat
def Dk.cur (k:Dk) (i:Nat):Bs:=k.pd.foldl (fun b p=>if p.1=i then p.2 else b) (k.K i)
def fO (s:Bs):Bs:=s++zs (64-s.length)
theorem UF {s:Bs}(h:s.length<=64):(fO s).length=64:=by
 unfold fO;rw[List.length_append,ni];omega
theorem FN {s:Bs}(h:s.length=64):fO s=s:=by
 unfold fO;rw[h];simp[zs]
def Dk.does (k:Dk):Nat×Dk:=if k.armed=true/\k.left=0 then (10,{ k with down:=true })else (0,{ k with left:=if k.armed then k.left-1 else k.left,done:=k.done+1 })
def Dk.write (k:Dk) (i:Nat) (s:Bs):Nat×Dk :=
 if k.down then (10,k)else if k.does.1≠0 then k.does else (0,{ k.does.2 with pd:=k.pd ++ [(i,fO s)] })
def Dk.flush (k:Dk):Nat×Dk :=
 if k.down then (10,k)else if k.does.1≠0 then k.does else (0,{ k.does.2 with K:=k.cur,pd:=[] })
def Dk.writes:Dk->List (Nat×Bs)->Nat×Dk
 | k,[]=>(0,k)
 | k,p::l=>if (k.write p.1 p.2).1≠0 then k.write p.1 p.2 else (k.write p.1 p.2).2.writes l
def Dk.live (k:Dk):Prop:=k.down=false/\k.armed=false
theorem Dk.uU (k:Dk):k.does.1=0\/k.does.1=10:=by
 unfold Dk.does;split
 ·exact .inr rfl
 ·exact .inl rfl
theorem Dk.fI (k:Dk):k.does.2.n=k.n/\k.does.2.K=k.K/\k.does.2.pd=k.pd/\k.does.2.armed=k.armed:=by
 unfold Dk.does;split <;> exact⟨rfl,rfl,rfl,rfl⟩
theorem Dk.GA {k:Dk}(h:k.live):k.does.1=0/\k.does.2.live:=by
 unfold Dk.does;rw[if_neg (by rw[h.2];simp)];exact⟨rfl,h.1,h.2⟩
theorem Dk.qm {k:Dk}(h:k.live) (i:Nat) (s:Bs):(k.write i s).1=0/\(k.write i s).2.live:=by
 have h1:=Dk.GA h;unfold Dk.write;rw[if_neg (by rw[h.1];simp),if_neg (by rw[h1.1];simp)];exact⟨rfl,h1.2⟩
theorem Dk.qR {k:Dk}(h:k.live):k.flush.1=0/\k.flush.2.live:=by
 have h1:=Dk.GA h;unfold Dk.flush;rw[if_neg (by rw[h.1];simp),if_neg (by rw[h1.1];simp)];exact⟨rfl,h1.2⟩
theorem Dk.jG:∀{l:List (Nat×Bs)}{k:Dk},k.live->(k.writes l).1=0/\(k.writes l).2.live
 | [],k,h=>⟨rfl,h⟩
 | p::l,k,h=>by
  have h1:=Dk.qm h p.1 p.2;rw[Dk.writes,if_neg (by rw[h1.1];simp)];exact Dk.jG h1.2
theorem Dk.qj (k:Dk) (i:Nat) (s:Bs):(k.write i s).2.n=k.n:=by
 have h:=k.fI;unfold Dk.write;split
 ·rfl
 ·split
  ·exact h.1
  ·exact h.1
theorem Dk.jU:∀(l:List (Nat×Bs)) (k:Dk),(k.writes l).2.n=k.n
 | [],k=>rfl
 | p::l,k=>by
  rw[Dk.writes];split
  ·exact k.qj p.1 p.2
  ·rw[Dk.jU l,k.qj]
theorem Dk.sN {k:Dk}{i:Nat}{s:Bs}(h:(k.write i s).1=0):(k.write i s).2.K=k.K/\(k.write i s).2.pd=k.pd ++ [(i,fO s)]:=by
 have h2:=k.fI;unfold Dk.write at h ⊢;split at h
 ·cases h
 ·split at h
  ·contradiction
  ·rename_i h3 h4
   rw[if_neg h3,if_neg h4];exact⟨h2.2.1,rfl⟩
theorem Dk.JV {k:Dk}{i:Nat}{s:Bs}(h:(k.write i s).1≠0):(k.write i s).2.K=k.K/\(k.write i s).2.pd=k.pd:=by
 have h2:=k.fI;unfold Dk.write at h ⊢;split at h
 ·rename_i h3
  rw[if_pos h3];exact⟨rfl,rfl⟩
 ·split at h
  ·rename_i h3 h4
   rw[if_neg h3,if_pos h4];exact⟨h2.2.1,h2.2.2.1⟩
  ·exact absurd rfl h
theorem Dk.GL {k:Dk}{i:Nat}{s:Bs}(h:(k.write i s).1=0) (j:Nat):(k.write i s).2.cur j=if i=j then fO s else k.cur j:=by
 obtain⟨h1,h2⟩:=Dk.sN h;unfold Dk.cur;rw[h1,h2,List.foldl_append];rfl
theorem Dk.nI {k:Dk}(h:k.flush.1=0):k.flush.2.K=k.cur/\k.flush.2.pd = []/\k.flush.2.n=k.n:=by
 have h2:=k.fI;unfold Dk.flush at h ⊢;split at h
 ·cases h
 ·split at h
  ·contradiction
  ·rename_i h3 h4
   rw[if_neg h3,if_neg h4];exact⟨rfl,rfl,h2.1⟩
theorem Dk.ug {k:Dk}(h:k.flush.1≠0):k.flush.2.K=k.K/\k.flush.2.pd=k.pd/\k.flush.2.n=k.n:=by
 have h2:=k.fI;unfold Dk.flush at h ⊢;split at h
 ·rename_i h3
  rw[if_pos h3];exact⟨rfl,rfl,rfl⟩
 ·split at h
  ·rename_i h3 h4
   rw[if_neg h3,if_pos h4];exact⟨h2.2.1,h2.2.2.1,h2.1⟩
  ·exact absurd rfl h
theorem Dk.Tf {k:Dk}(h:k.flush.1=0) (j:Nat):k.flush.2.cur j=k.cur j:=by
 obtain⟨h1,h2,_⟩:=Dk.nI h;show k.flush.2.pd.foldl _ (k.flush.2.K j)=_;rw[h1,h2];rfl
def over (l:List (Nat×Bs)) (c:Nat->Bs) (j:Nat):Bs:=l.foldl (fun b p=>if p.1=j then fO p.2 else b) (c j)
theorem Dk.kY:∀{l:List (Nat×Bs)}{k:Dk},(k.writes l).1=0->∀j,(k.writes l).2.cur j=over l k.cur j
 | [],k,_,j=>rfl
 | p::l,k,h,j=>by
  rw[Dk.writes]at h ⊢
  by_cases h1:(k.write p.1 p.2).1≠0
  ·rw[if_pos h1]at h;exact absurd h h1
  ·rw[if_neg h1]at h ⊢
   rw[Dk.kY h j];show l.foldl _ ((k.write p.1 p.2).2.cur j)=_;rw[Dk.GL (by simpa using h1) j];rfl
theorem KH {l:List (Nat×Bs)}{c:Nat->Bs}{j:Nat}(h:∀p∈l,p.1≠j):over l c j=c j:=by
 unfold over
 induction l generalizing c with
 | nil=>rfl
 | cons p l ih =>
  have h1:=h p (by simp);rw[List.foldl_cons,if_neg h1];exact ih (fun q hq=>h q (by simp[hq]))
theorem KJ (a b:List (Nat×Bs)) (c:Nat->Bs) (j:Nat):over (a++b) c j=over b (over a c) j:=by
 unfold over;rw[List.foldl_append]
def gD (a:Nat):List Bs->List (Nat×Bs)
 | []=>[]
 | b::l=>(a,b)::gD (a+1) l
theorem yN {a:Nat}:∀{l:List Bs}{p:Nat×Bs},p∈gD a l->a<=p.1/\p.1<a+l.length/\p.2∈l
 | [],p,h=>by cases h
 | b::l,p,h=>by
  rcases List.mem_cons.1 h with rfl|h
  ·exact⟨Nat.le_refl _,by simp,by simp⟩
  ·have:=yN h
   simp only[List.length_cons];exact⟨by omega,by omega,by simp[this.2.2]⟩
theorem xq:∀(l:List Bs) (a:Nat) (c:Nat->Bs) (j:Nat),over (gD a l) c j=if a<=j/\j<a+l.length then fO (l.getD (j-a) [])else c j
 | [],a,c,j=>by
  rw[if_neg (by rintro⟨h1,h2⟩;simp at h2;omega)];rfl
 | b::l,a,c,j=>by
  have h:over (gD a (b::l)) c j=over (gD (a+1) l) (fun i=>if a=i then fO b else c i) j:=rfl;rw[h,xq l];simp only[List.length_cons]
  by_cases h1:a=j
  ·subst h1
   rw[if_neg (by omega),if_pos rfl,if_pos (by omega)];simp
  ·by_cases h2:a+1<=j/\j<a+1+l.length
   ·rw[if_pos h2,if_pos (by omega)]
    rw[show j-a=(j-(a+1))+1 by omega];simp
   ·rw[if_neg h2]
    show(if a=j then fO b else c j)=_;rw[if_neg h1,if_neg (by omega)]
def jg:Nat->Bs->List Bs
 | 0,_=>[]
 | n+1,s=>s.take 64::jg n (s.drop 64)
theorem jr (n:Nat) (s:Bs):(jg n s).length=n:=by
 induction n generalizing s with
 | zero=>rfl
 | succ n ih=>simp[jg,ih]
theorem GK:∀(n:Nat) (s:Bs),s.length=n*64->(jg n s).flatten=s
 | 0,s,h=>by
  have:s = []:=List.eq_nil_of_length_eq_zero (by omega);subst this;rfl
 | n+1,s,h=>by
  rw[jg,List.flatten_cons,GK n (s.drop 64) (by rw[List.length_drop];omega),List.take_append_drop]
theorem GJ:∀(n:Nat) (s:Bs),n*64<=s.length->∀b∈jg n s,b.length=64
 | 0,s,_,b,hb=>by cases hb
 | n+1,s,h,b,hb=>by
  rcases List.mem_cons.1 hb with rfl|hb
  ·rw[List.length_take];omega
  ·exact GJ n (s.drop 64) (by rw[List.length_drop];omega) b hb
def aJ (c:Nat->Bs) (log id:Nat):Bs:=((List.range 8).map fun j=>c (log+id*8+j)).flatten
def dQ (log id:Nat) (image:Bs):List (Nat×Bs):=gD (log+id*8) (jg 8 image)
def bI (log:Nat) (l:List (Nat×Bs)):List (Nat×Bs):=l.flatMap fun p=>dQ log p.1 p.2
theorem Bg (l:List Bs):((List.range l.length).map fun j=>l.getD j []).flatten=l.flatten:=by
 congr 1;apply List.ext_getElem
 ·simp
 ·intro i h1 h2
  simp[h2]
theorem N_ {c:Nat->Bs}{log id:Nat}{image:Bs}(h:image.length=512) (i:Nat):aJ (over (dQ log id image) c) log i=if i=id then image else aJ c log i:=by
 have hl:(jg 8 image).length=8:=jr _ _
 by_cases hi:i=id
 ·rw[if_pos hi]
  subst hi;unfold aJ dQ;have h1:((List.range 8).map fun j=>over (gD (log+i*8) (jg 8 image)) c (log+i*8+j))=(List.range 8).map fun j=>(jg 8 image).getD j []:=by
   apply List.map_congr_left;intro j hj;have hj8:j<8:=List.mem_range.1 hj;rw[xq,if_pos (by omega)];rw[show log+i*8+j-(log+i*8)=j by omega];apply FN;apply GJ 8 image (by omega);rw[List.getD_eq_getElem?_getD,List.getElem?_eq_getElem (by omega)];exact List.getElem_mem _
  rw[h1];have h2:=Bg (jg 8 image);rw[hl]at h2;rw[h2,GK 8 image (by omega)]
 ·rw[if_neg hi]
  unfold aJ dQ;congr 1;apply List.map_congr_left;intro j hj;have hj8:j<8:=List.mem_range.1 hj;rw[xq,if_neg (by omega)]
def pages (l:List (Nat×Bs)) (f:Nat->Bs) (i:Nat):Bs:=l.foldl (fun b p=>if p.1=i then p.2 else b) (f i)
theorem qE:∀(l:List (Nat×Bs)) (c:Nat->Bs) (log:Nat),(∀p∈l,p.2.length=512)->∀i,aJ (over (bI log l) c) log i=pages l (aJ c log) i
 | [],c,log,_,i=>rfl
 | p::l,c,log,h,i=>by
  have e:bI log (p::l)=dQ log p.1 p.2++bI log l:=rfl;rw[e];have h1:over (dQ log p.1 p.2++bI log l) c=over (bI log l) (over (dQ log p.1 p.2) c):=funext fun j=>KJ _ _ _ _
  rw[h1,qE l _ log (fun q hq=>h q (by simp[hq]))];unfold pages;rw[List.foldl_cons,N_ (h p (by simp))];congr 1
  by_cases hi:p.1=i
  ·rw[if_pos hi,if_pos hi.symm]
  ·rw[if_neg hi,if_neg (fun e=>hi e.symm)]
theorem Ia {l:List (Nat×Bs)}(hn:(l.map (·.1)).Nodup) (f:Nat->Bs) (i:Nat):pages l f i=(l.lookup i).getD (f i):=by
 unfold pages
 induction l generalizing f with
 | nil=>rfl
 | cons p l ih =>
  obtain⟨a,b⟩:=p;have h:=List.nodup_cons.1 hn;rw[List.foldl_cons,List.lookup_cons]
  by_cases hi:a=i
  ·subst hi
   have uM:∀q∈l,q.1≠a:=fun q hq e=>h.1 (List.mem_map.2 ⟨q,hq,e⟩)
   simp only[if_true,beq_self_eq_true,Option.getD_some];have:∀(l:List (Nat×Bs)) (b:Bs),(∀q∈l,q.1≠a)->l.foldl (fun b p=>if p.1=a then p.2 else b) b=b:=by
    intro l
    induction l with
    | nil=>intro b _;rfl
    | cons q l ih =>
     intro b h;rw[List.foldl_cons,if_neg (h q (by simp))];exact ih b (fun r hr=>h r (by simp[hr]))
   exact this l b uM
  ·have hb:(i==a)=false:=by simpa using fun e=>hi e.symm
   simp only[if_neg hi,hb];exact ih h.2 f
def pJ (id kind:Nat) (body:Bs):Bs:=n4 id++([UInt8.ofNat kind,0,UInt8.ofNat (body.length%256),UInt8.ofNat (body.length / 256)]++(body++zs (500-body.length)))
def dY (cr:Bs->Nat) (id kind:Nat) (body:Bs):Bs:=pJ id kind body++n4 (cr (pJ id kind body))
theorem uF {id kind:Nat}{body:Bs}(h:body.length<=500):(pJ id kind body).length=508:=by
 unfold pJ;simp only[List.length_append,bX,ni,List.length_cons,List.length_nil];omega
theorem jD {cr:Bs->Nat}{id kind:Nat}{body:Bs}(h:body.length<=500):(dY cr id kind body).length=512:=by
 unfold dY;rw[List.length_append,uF h,bX]
structure Mt where
 r:Nat->Nat
 high:Nat
 free:Nat
 cnt:Nat
def Mt.body (m:Mt):Bs:=n4 m.high++(n4 m.free++(n4 m.cnt++(n4 (m.r 0)++(n4 (m.r 1)++(n4 (m.r 2)++n4 (m.r 3))))))
theorem Mt.uu (m:Mt):m.body.length=28:=rfl
def aB (l:List (Nat×Bs)):Bs:=n4 l.length++l.flatMap fun p=>n4 p.1++p.2
theorem nK {l:List (Nat×Bs)}(h:∀p∈l,p.2.length=512):(aB l).length=4+l.length*516:=by
 unfold aB;rw[List.length_append,bX];congr 1
 induction l with
 | nil=>rfl
 | cons p l ih =>
  rw[List.flatMap_cons,List.length_append,List.length_append,bX,h p (by simp),ih (fun q hq=>h q (by simp[hq])),List.length_cons];omega
def n8 (n:Nat):Bs:=n4 n++n4 (n / 4294967296)
def aM (cr:Bs->Nat) (rec:Bs):Bs:=n4 rec.length++(n4 (cr (n4 rec.length++rec))++rec)
def om (ak len:Nat):Bs:=[65,81,87,76]++(n8 ak++n4 len)
def bZ (cr:Bs->Nat) (ak len:Nat):Bs:=om ak len++(n4 (cr (om ak len))++zs 44)
theorem xJ (cr:Bs->Nat) (ak len:Nat):(bZ cr ak len).length=64:=by
 simp[bZ,om,n8,n4,zs]
structure Db where
 k:Dk
 ak:Nat
 bytes:Bs
 recs:List Bs
 m:Mt
def Dk.bV (k:Dk) (bytes all:Bs):Nat×Dk :=
 if (k.writes (gD (1+bytes.length / 64) (jg ((all.length+63) / 64-bytes.length / 64) (all.drop (bytes.length / 64*64))))).1≠0 then k.writes (gD (1+bytes.length / 64) (jg ((all.length+63) / 64-bytes.length / 64) (all.drop (bytes.length / 64*64))))
 else (k.writes (gD (1+bytes.length / 64) (jg ((all.length+63) / 64-bytes.length / 64) (all.drop (bytes.length / 64*64))))).2.flush
def Dk.aO (cr:Bs->Nat) (k:Dk) (ak len:Nat):Nat×Dk :=
 if (k.write 0 (bZ cr ak len)).1≠0 then k.write 0 (bZ cr ak len)else (k.write 0 (bZ cr ak len)).2.flush
def Db.settle (cr:Bs->Nat) (s:Db):Nat×Db :=
 if s.recs = []then (0,s)else
 if s.k.flush.1≠0 then (s.k.flush.1,{ s with k:=s.k.flush.2 })else
 if (s.k.flush.2.aO cr (s.ak+1) 0).1≠0 then ((s.k.flush.2.aO cr (s.ak+1) 0).1,{ s with k:=(s.k.flush.2.aO cr (s.ak+1) 0).2 })else
 (0,{ s with k:=(s.k.flush.2.aO cr (s.ak+1) 0).2,ak:=s.ak+1,bytes:=[],recs:=[] })
def Db.sync (cr:Bs->Nat) (s:Db) (rec:Bs):Nat×Db :=
 if (s.k.bV s.bytes (s.bytes++aM cr rec)).1≠0 then ((s.k.bV s.bytes (s.bytes++aM cr rec)).1,{ s with k:=(s.k.bV s.bytes (s.bytes++aM cr rec)).2 })else
 if ((s.k.bV s.bytes (s.bytes++aM cr rec)).2.aO cr s.ak (s.bytes++aM cr rec).length).1≠0 then
  (((s.k.bV s.bytes (s.bytes++aM cr rec)).2.aO cr s.ak (s.bytes++aM cr rec).length).1,{ s with k:=((s.k.bV s.bytes (s.bytes++aM cr rec)).2.aO cr s.ak (s.bytes++aM cr rec).length).2 })else
 (0,{ s with k:=((s.k.bV s.bytes (s.bytes++aM cr rec)).2.aO cr s.ak (s.bytes++aM cr rec).length).2,bytes:=s.bytes++aM cr rec,recs:=s.recs ++ [rec] })
def Db.room (log:Nat) (s:Db):Nat:=64*(log-1)-s.bytes.length
def Db.keep (cr:Bs->Nat) (log:Nat) (s:Db) (l:List (Nat×Bs)) (m:Mt):Nat×Db :=
 if (s.sync cr (aB l)).1≠0 then s.sync cr (aB l)else
 (((s.sync cr (aB l)).2.k.writes (bI log l)).1,{ (s.sync cr (aB l)).2 with k:=((s.sync cr (aB l)).2.k.writes (bI log l)).2,m:=m })
def Db.aV (cr:Bs->Nat) (log:Nat) (s:Db) (spoilt:Bool) (l:List (Nat×Bs)) (m:Mt):Nat×Db :=
 if spoilt then (9,s)else
 if l = []then (0,s)else
 if (aB l).length>65536\/(aB l).length+8>64*(log-1)then (7,s)else
 if (aB l).length+8>s.room log then
  if (s.settle cr).1≠0 then s.settle cr else (s.settle cr).2.keep cr log l m
 else s.keep cr log l m
structure Db.FH (log:Nat) (s:Db):Prop where
 live:s.k.live
 bytes:s.bytes.length<=64*(log-1)
theorem Dk.KU {k:Dk}(h:k.live) (bytes all:Bs):(k.bV bytes all).1=0/\(k.bV bytes all).2.live:=by
 unfold Dk.bV;have h1:=Dk.jG (l:=gD (1+bytes.length / 64) (jg ((all.length+63) / 64-bytes.length / 64) (all.drop (bytes.length / 64*64)))) h;rw[if_neg (by rw[h1.1];simp)];exact Dk.qR h1.2
theorem Dk.xy {cr:Bs->Nat}{k:Dk}(h:k.live) (ak len:Nat):(k.aO cr ak len).1=0/\(k.aO cr ak len).2.live:=by
 unfold Dk.aO;have h1:=Dk.qm h 0 (bZ cr ak len);rw[if_neg (by rw[h1.1];simp)];exact Dk.qR h1.2
def iA (log:Nat) (k k':Dk):Prop:=k'.n=k.n/\∀j,log<=j->k'.cur j=k.cur j
theorem iA.trans {log:Nat}{k k1 k2:Dk}(h:iA log k k1) (h':iA log k1 k2):iA log k k2:=⟨h'.1.trans h.1,fun j hj=>(h'.2 j hj).trans (h.2 j hj)⟩
theorem iA.flush {log:Nat}{k:Dk}(h:k.live):iA log k k.flush.2:=by
 have h1:=(Dk.qR h).1;exact⟨(Dk.nI h1).2.2,fun j _=>Dk.Tf h1 j⟩
theorem iA.write {log i:Nat}{k:Dk}{s:Bs}(h:k.live) (hi:i<log):iA log k (k.write i s).2:=by
 have h1:=(Dk.qm h i s).1;exact⟨k.qj i s,fun j hj=>by rw[Dk.GL h1,if_neg (by omega)]⟩
theorem iA.writes {log:Nat}{k:Dk}{l:List (Nat×Bs)}(h:k.live) (hl:∀p∈l,p.1<log):iA log k (k.writes l).2:=by
 have h1:=(Dk.jG (l:=l) h).1;exact⟨Dk.jU l k,fun j hj=>by rw[Dk.kY h1,KH (fun p hp=>by have:=hl p hp;omega)]⟩
theorem iA.lay {log:Nat}{k:Dk}{bytes all:Bs}(h:k.live) (hb:bytes.length<=all.length) (ha:all.length<=64*(log-1)) (df:2<=log):iA log k (k.bV bytes all).2:=by
 have h1:=Dk.jG (l:=gD (1+bytes.length / 64) (jg ((all.length+63) / 64-bytes.length / 64) (all.drop (bytes.length / 64*64)))) h;unfold Dk.bV;rw[if_neg (by rw[h1.1];simp)];refine(iA.writes h (fun p hp=>?_)).trans (iA.flush h1.2);have:=yN hp;rw[jr]at this;omega
theorem iA.head {cr:Bs->Nat}{log ak len:Nat}{k:Dk}(h:k.live) (df:2<=log):iA log k (k.aO cr ak len).2:=by
 have h1:=Dk.qm h 0 (bZ cr ak len);unfold Dk.aO;rw[if_neg (by rw[h1.1];simp)];exact(iA.write h (by omega)).trans (iA.flush h1.2)
theorem Db.zV {cr:Bs->Nat}{log:Nat}{s:Db}(h:s.FH log) (df:2<=log):(s.settle cr).1=0/\(s.settle cr).2.FH log/\iA log s.k (s.settle cr).2.k/\(s.settle cr).2.m=s.m/\(s.settle cr).2.ak<=s.ak+1/\(s.recs = []\/(s.settle cr).2.bytes = [])/\(s.recs = []->(s.settle cr).2=s):=by
 unfold Db.settle
 by_cases hr:s.recs = []
 ·rw[if_pos hr];exact⟨rfl,h,⟨rfl,fun _ _=>rfl⟩,rfl,by simp,.inl hr,fun _=>rfl⟩
 ·have h1:=Dk.qR h.live
  have h2:=Dk.xy (cr:=cr) h1.2 (s.ak+1) 0;rw[if_neg hr,if_neg (by rw[h1.1];simp),if_neg (by rw[h2.1];simp)];exact⟨rfl,⟨h2.2,by simp⟩,(iA.flush h.live).trans (iA.head h1.2 df),rfl,by simp,.inr rfl,fun e=>absurd e hr⟩
theorem Db.Rh {cr:Bs->Nat}{log:Nat}{s:Db}{rec:Bs}(h:s.FH log) (df:2<=log) (hr:rec.length+8<=s.room log):(s.sync cr rec).1=0/\(s.sync cr rec).2.FH log/\iA log s.k (s.sync cr rec).2.k/\(s.sync cr rec).2.m=s.m/\(s.sync cr rec).2.ak=s.ak/\(s.sync cr rec).2.recs=s.recs ++ [rec]:=by
 have hf:(aM cr rec).length=rec.length+8:=by
  simp only[aM,List.length_append,bX];omega
 have hb:=h.bytes;unfold Db.room at hr;have bY:(s.bytes++aM cr rec).length=s.bytes.length+(rec.length+8):=by rw[List.length_append,hf]
 have h1:=Dk.KU h.live s.bytes (s.bytes++aM cr rec);have h2:=Dk.xy (cr:=cr) h1.2 s.ak (s.bytes++aM cr rec).length;unfold Db.sync;rw[if_neg (by rw[h1.1];simp),if_neg (by rw[h2.1];simp)];refine⟨rfl,⟨h2.2,by show(s.bytes++aM cr rec).length<=_;omega⟩,(iA.lay h.live (by omega) (by omega) df).trans (iA.head h1.2 df),rfl,rfl,rfl⟩
theorem Db.F7 {cr:Bs->Nat}{log:Nat}{s:Db}{l:List (Nat×Bs)}{m:Mt}(h:s.FH log) (df:2<=log) (hr:(aB l).length+8<=s.room log) (hl:∀p∈l,p.2.length=512) :
  (s.keep cr log l m).1=0/\(s.keep cr log l m).2.FH log/\(s.keep cr log l m).2.k.n=s.k.n/\(s.keep cr log l m).2.m=m/\(s.keep cr log l m).2.ak=s.ak/\(∀i,aJ (s.keep cr log l m).2.k.cur log i=pages l (aJ s.k.cur log) i):=by
 obtain⟨h1,h2,h3,h4,h5,_⟩:=Db.Rh (cr:=cr) h df hr;have h6:=Dk.jG (l:=bI log l) h2.live;unfold Db.keep;rw[if_neg (by rw[h1];simp)];refine⟨h6.1,⟨h6.2,h2.bytes⟩,?_,rfl,h5,fun i=>?_⟩
 ·show((s.sync cr (aB l)).2.k.writes (bI log l)).2.n=_
  rw[Dk.jU,h3.1]
 ·have e:aJ ((s.sync cr (aB l)).2.k.writes (bI log l)).2.cur log i=aJ (over (bI log l) (s.sync cr (aB l)).2.k.cur) log i:=by
   unfold aJ;congr 1;apply List.map_congr_left;intro j _;exact Dk.kY h6.1 _
  refine e.trans ?_;rw[qE l _ log hl];unfold pages;congr 1;unfold aJ;congr 1;apply List.map_congr_left;intro j _;exact h3.2 _ (by omega)
theorem Db.Mx {cr:Bs->Nat}{log:Nat}{s:Db}{l:List (Nat×Bs)}{m:Mt}(h:s.FH log) (df:2<=log) (hl:∀p∈l,p.2.length=512) (bQ:l ≠ []) (hb:s.recs = []->s.bytes = []) :
  ((s.aV cr log false l m).1=7/\(s.aV cr log false l m).2=s/\((aB l).length>65536\/(aB l).length+8>64*(log-1))) \/
  ((s.aV cr log false l m).1=0/\(s.aV cr log false l m).2.FH log/\(s.aV cr log false l m).2.k.n=s.k.n/\(s.aV cr log false l m).2.m=m/\(s.aV cr log false l m).2.ak<=s.ak+1/\(∀i,aJ (s.aV cr log false l m).2.k.cur log i=pages l (aJ s.k.cur log) i)):=by
 unfold Db.aV;rw[if_neg (by simp),if_neg bQ]
 by_cases h1:(aB l).length>65536\/(aB l).length+8>64*(log-1)
 ·rw[if_pos h1];exact .inl ⟨rfl,rfl,h1⟩
 ·right
  rw[if_neg h1]
  by_cases h2:(aB l).length+8>s.room log
  ·obtain⟨s1,s2,s3,s4,s5,s6,s7⟩:=Db.zV (cr:=cr) h df
   rw[if_pos h2,if_neg (by rw[s1];simp)];have hr:(aB l).length+8<=(s.settle cr).2.room log:=by
    have:(s.settle cr).2.bytes = []:=by
     rcases s6 with s6|s6
     ·rw[s7 s6];exact hb s6
     ·exact s6
    unfold Db.room;rw[this,List.length_nil];omega
   obtain⟨k1,k2,k3,k4,k5,k6⟩:=Db.F7 (cr:=cr) (m:=m) s2 df hr hl;refine⟨k1,k2,by rw[k3,s3.1],k4,by rw[k5];exact s5,fun i=>?_⟩;rw[k6];unfold pages;congr 1;unfold aJ;congr 1;apply List.map_congr_left;intro j _;exact s3.2 _ (by omega)
  ·rw[if_neg h2]
   obtain⟨k1,k2,k3,k4,k5,k6⟩:=Db.F7 (cr:=cr) (m:=m) h df (by omega) hl;exact⟨k1,k2,k3,k4,by rw[k5];omega,k6⟩
def dZ (pd:List (Nat×Bs)):List Value:=pd.flatMap fun p=>.int .i64 (p.1:Int)::dn p.2
theorem AQ (a b:List (Nat×Bs)):dZ (a++b)=dZ a++dZ b:=by simp[dZ]
def bz (D:Nat->Prop) (w w':World):Nat->Prop:=fun b=>D b\/(w.heap.size<=b/\b<w'.heap.size)
def Dk.cells (k:Dk) (kb:Nat) (A:Option Addr) (c:Nat):Array Value:=#[.slice (some ⟨kb,0,none⟩) k.n k.n,.slice A k.pd.length c,.bool k.down,.bool k.armed,.int .i64 (k.left:Int),.int .i64 (k.done:Int)]
structure aF (w:World) (D:Nat->Prop) (d kb:Nat) (k:Dk):Prop where
 cells:∃A c,ax w d 140 (k.cells kb A c)/\w.ownsRow 0 144 65 (.slice A k.pd.length c) k.pd.length (dZ k.pd)/\∀g,(Value.slice A k.pd.length c).ownBlock=some g->D g/\g≠d/\g≠kb
 kept:∃cs,ax w kb 142 cs/\cs.size=k.n*64/\∀i,i<k.n->∀j,j<64->cs[i*64+j]?=some (.int .u8 (((k.K i).getD j 0).toNat:Int))
 ES:∀i,i<k.n->(k.K i).length=64
 CG:∀p∈k.pd,p.1<k.n/\p.2.length=64
 dd:D d
 dk:D kb
 ne:d≠kb
 old:∀b,D b->b<w.heap.size
 n1:1<=k.n
 n2:k.n<=65536
theorem aF.ext {w w':World}{D F:Nat->Prop}{d kb:Nat}{k:Dk}(h:aF w D d kb k) (hx:ah F w w') (hF:∀b,D b->¬F b):aF w' D d kb k:=by
 obtain⟨A,c,h1,h2,h3⟩:=h.cells;obtain⟨cs,h4,h5,h6⟩:=h.kept;refine⟨⟨A,c,h1.ext hx (hF d h.dd),?_,h3⟩,⟨cs,h4.ext hx (hF kb h.dk),h5,h6⟩,h.ES,h.CG,h.dd,h.dk,h.ne,fun b hb=>Nat.lt_of_lt_of_le (h.old b hb) hx.size,h.n1,h.n2⟩;refine⟨h2.1,?_⟩;rcases h2.2 with h0|⟨g,cap,cur,e,hg,hb,r1,r2,r3,r4⟩
 ·exact .inl h0
 ·have hgD:=(h3 g (by rw[e];rfl)).1
  refine .inr ⟨g,cap,cur,e,hg,?_,r1,r2,r3,r4⟩;rw[hx.block g (h.old g hgD) (hF g hgD)];exact hb
theorem aF.mono {w:World}{D D':Nat->Prop}{d kb:Nat}{k:Dk}(h:aF w D d kb k) (hD:∀b,D b->D' b) (ho:∀b,D' b->b<w.heap.size):aF w D' d kb k:=by
 obtain⟨A,c,h1,h2,h3⟩:=h.cells;exact⟨⟨A,c,h1,h2,fun g hg=>⟨hD g (h3 g hg).1,(h3 g hg).2⟩⟩,h.kept,h.ES,h.CG,hD d h.dd,hD kb h.dk,h.ne,ho,h.n1,h.n2⟩
theorem bz.old {D:Nat->Prop}{w w':World}(h:∀b,D b->b<w.heap.size) (hs:w.heap.size<=w'.heap.size):∀b,bz D w w' b->b<w'.heap.size:=fun b hb=>by
 rcases hb with hb|hb
 ·exact Nat.lt_of_lt_of_le (h b hb) hs
 ·exact hb.2
theorem bz.trans {D:Nat->Prop}{w w1 w':World}(h1:w.heap.size<=w1.heap.size) (h2:w1.heap.size<=w'.heap.size) {b:Nat}(h:bz (bz D w w1) w1 w' b):bz D w w' b:=by
 rcases h with (h|h)|h
 ·exact .inl h
 ·exact .inr ⟨h.1,by omega⟩
 ·exact .inr ⟨by omega,h.2⟩
section
variable {w:World}{D:Nat->Prop}{d kb:Nat}{k:Dk}
theorem aF.c {w:World}{D:Nat->Prop}{d kb:Nat}{k:Dk}(h:aF w D d kb k):∃A c,ax w d 140 (k.cells kb A c)/\w.cell? ⟨d,0,none⟩=some (.slice (some ⟨kb,0,none⟩) k.n k.n)/\w.cell? ⟨d,1,none⟩=some (.slice A k.pd.length c)/\w.cell? ⟨d,2,none⟩=some (.bool k.down) /\
  w.cell? ⟨d,3,none⟩=some (.bool k.armed)/\w.cell? ⟨d,4,none⟩=some (.int .i64 (k.left:Int))/\w.cell? ⟨d,5,none⟩=some (.int .i64 (k.done:Int))/\d<w.heap.size/\(∀i,w.frozen? ⟨d,i,none⟩=false):=by
 obtain⟨A,c,h1,_,_⟩:=h.cells;exact⟨A,c,h1,h1.cell 0,h1.cell 1,h1.cell 2,h1.cell 3,h1.cell 4,h1.cell 5,h1.lt,fun i=>h1.frozen i⟩
theorem QK (h:aF w D d kb k):Calls Tryz.prog 79 #[.pointer (some ⟨d,0,none⟩)] w fun e w'=>e=.returned (.bool false)/\w=w':=by
 obtain⟨A,c,_,c0,_⟩:=h.c;exact xX d k.n _ w c0 h.n1
theorem Jb (h:aF w D d kb k):Calls Tryz.prog 40 #[.pointer (some ⟨d,0,none⟩)] w fun e w'=>e=.returned (.bool k.down)/\w=w':=by
 obtain⟨A,c,_,c0,_,c2,_⟩:=h.c;exact uV d k.n _ w k.down c0 h.n1 c2
theorem QJ (h:aF w D d kb k):Calls Tryz.prog 93 #[.pointer (some ⟨d,0,none⟩)] w fun e w'=>e=.returned (.int .i64 (k.n:Int))/\w=w':=by
 obtain⟨A,c,_,c0,_⟩:=h.c;exact pX d k.n _ w c0 h.n1
theorem Ml (h:aF w D d kb k):Calls Tryz.prog 78 #[.pointer (some ⟨d,0,none⟩)] w fun e w'=>e=.returned (.int .i64 (if k.down then 10 else 0))/\w=w':=by
 have HN:=aa (QK h);obtain⟨A,c,_,c0,_,c2,_⟩:=h.c;cases hd:k.down
 ·rw[hd]at c2
  clear h;go_enter Tryz.func78,Tryz.ntmps78;go_wp2_with (go_at_call 79;refine(HN.out).mono ?_;rintro e w' ⟨rfl,rfl⟩);go_ret;exact⟨rfl,rfl⟩
 ·rw[hd]at c2
  clear h;go_enter Tryz.func78,Tryz.ntmps78;go_wp2_with (go_at_call 79;refine(HN.out).mono ?_;rintro e w' ⟨rfl,rfl⟩);go_ret;exact⟨rfl,rfl⟩
theorem abh (h:aF w D d kb k) (i:Nat) (hi:i<k.n):Calls Tryz.prog 163 #[.pointer (some ⟨d,0,none⟩),.int .i64 (i:Int)] w fun e w'=>e=.returned (.bool true)/\w=w':=by
 obtain⟨A,c,_,c0,_⟩:=h.c;have h1:(0:Int)<=i:=by omega
 have h2:(i:Int)<k.n:=by omega
 go_enter Tryz.func163,Tryz.ntmps163;go_wp2_with fail;go_ret;exact⟨rfl,rfl⟩
theorem aF.set (h:aF w D d kb k) {A:Option Addr}{c:Nat}(hb:ax w d 140 (k.cells kb A c)) {w':World}{k':Dk}(hx:ah (On d) w w') (xL:ax w' d 140 (k'.cells kb A c)) (e1:k'.n=k.n) (e2:k'.K=k.K) (e3:k'.pd=k.pd):aF w' D d kb k':=by
 obtain⟨A2,c2,h1,h2,h3⟩:=h.cells;have e:A2=A/\c2=c:=by
  unfold ax at hb h1;rw[hb]at h1;simp only[Dk.cells,Option.some.injEq,Obj.cells.injEq,and_true]at h1;have:=congrArg (fun a:Array Value=>a[1]?) h1;simp at this;exact⟨this.1.symm,this.2.symm⟩
 obtain⟨rfl,rfl⟩:=e;obtain⟨cs,h4,h5,h6⟩:=h.kept;refine⟨⟨A2,c2,xL,?_,fun g hg=>h3 g (by rw[e3]at hg;exact hg)⟩,⟨cs,h4.ext hx (fun e=>h.ne e.symm),by rw[e1];exact h5,by rw[e1,e2];exact h6⟩,by rw[e1,e2];exact h.ES,by rw[e1,e3];exact h.CG,h.dd,h.dk,h.ne,fun b hb=>Nat.lt_of_lt_of_le (h.old b hb) hx.size,by rw[e1];exact h.n1,by rw[e1];exact h.n2⟩;rw[e3];refine⟨h2.1,?_⟩;rcases h2.2 with h0|⟨g,cap,cur,e,hg,uO,r1,r2,r3,r4⟩
 ·exact .inl h0
 ·have hgD:=h3 g (by rw[e];rfl)
  refine .inr ⟨g,cap,cur,e,hg,?_,r1,r2,r3,r4⟩;rw[hx.block g (h.old g hgD.1) hgD.2.1];exact uO
theorem QL (h:aF w D d kb k) (hl:k.left<2^40) (mX:k.done<2^40):Calls Tryz.prog 158 #[.pointer (some ⟨d,0,none⟩)] w fun e w'=>e=.returned (.int .i64 (k.does.1:Int))/\aF w' D d kb k.does.2/\ah (On d) w w':=by
 obtain⟨A,c,hb,c0,c1,c2,c3,c4,c5,bu,xI⟩:=h.c;have f2:=xI 2;have f4:=xI 4;have f5:=xI 5;have sH:On d d:=rfl;cases ha:k.armed
 ·have e:k.does=(0,{ k with left:=k.left,done:=k.done+1 }):=by unfold Dk.does;simp[ha]
  rw[e];rw[ha]at c3;have HR:Hid (aF (w.setCell ⟨d,5,none⟩ (.int .i64 ((k.done:Int)+1))) D d kb { k with left:=k.left,done:=k.done+1 }):=aa (h.set hb ((ah.refl _ _).ay (F:=On d) sH 5 _) (hb.aQ 5 _) rfl rfl rfl);clear h xI e;go_enter Tryz.func158,Tryz.ntmps158;go_wp2_with fail;go_ret;exact⟨rfl,HR.out,(ah.refl _ _).ay (F:=On d) sH 5 _⟩
 ·rw[ha]at c3
  by_cases h0:k.left=0
  ·have e:k.does=(10,{ k with down:=true }):=by unfold Dk.does;simp[ha,h0]
   rw[e];rw[h0]at c4;have HR:Hid (aF (w.setCell ⟨d,2,none⟩ (.bool true)) D d kb { k with down:=true }):=aa (h.set hb ((ah.refl _ _).ay (F:=On d) sH 2 _) (hb.aQ 2 _) rfl rfl rfl);clear h xI e;go_enter Tryz.func158,Tryz.ntmps158;go_wp2_with fail;go_ret;exact⟨rfl,HR.out,(ah.refl _ _).ay (F:=On d) sH 2 _⟩
  ·have e:k.does=(0,{ k with left:=k.left-1,done:=k.done+1 }):=by unfold Dk.does;simp[ha,h0]
   rw[e];have hz:((k.left:Int)==0)=false:=by simpa using h0
   have mK:((k.left:Int)-1)=((k.left-1:Nat):Int):=by omega
   have HR:Hid (aF ((w.setCell ⟨d,4,none⟩ (.int .i64 ((k.left:Int)-1))).setCell ⟨d,5,none⟩ (.int .i64 ((k.done:Int)+1))) D d kb { k with left:=k.left-1,done:=k.done+1 }):=aa (by
    have h1:=h.set (k':={ k with left:=k.left-1 }) hb ((ah.refl _ _).ay (F:=On d) sH 4 (.int .i64 ((k.left:Int)-1))) (by rw[mK];exact hb.aQ 4 _) rfl rfl rfl
    exact h1.set (k':={ k with left:=k.left-1,done:=k.done+1 }) (by rw[mK];exact hb.aQ 4 _) ((ah.refl _ _).ay (F:=On d) sH 5 _) (by rw[mK];exact(hb.aQ 4 _).aQ 5 _) rfl rfl rfl)
   have iC:(1:Int)<=k.left:=by omega
   clear h xI e mK;go_enter Tryz.func158,Tryz.ntmps158;go_wp2_with fail;go_ret;exact⟨rfl,HR.out,((ah.refl _ _).ay (F:=On d) sH 4 _).ay (F:=On d) sH 5 _⟩
end
def BV:Array Value:=#[.int .i64 0]++eH
theorem Tryz.Qj:(Tryz.prog.info? 144).map (fun i=>(i.zero,i.size,i.bytes))=some (some (.agg BV),65,72):=by kernel_rfl
def aZ (i:Nat) (b:Bs):List Value:=.int .i64 (i:Int)::dn b
theorem dK {i:Nat}{b:Bs}(h:b.length=64):(aZ i b).length=65:=by simp[aZ,lK,h]
theorem EI (pd:List (Nat×Bs)) (i:Nat) (b:Bs):dZ (pd ++ [(i,b)])=dZ pd++aZ i b:=by
 rw[AQ];simp[dZ,aZ]
theorem uq (i:Nat):(#[Value.int .i64 (i:Int)]++eH).toList=Value.int .i64 (i:Int)::List.replicate 64 (.int .u8 0):=by
 rw[Array.toList_append];show [Value.int .i64 (i:Int)]++(Array.replicate 64 (Value.int .u8 0)).toList=_;rw[Array.toList_replicate];rfl
theorem Xi (i:Nat) {s:Bs}(hs:s.length<=64):((#[Value.int .i64 (i:Int)]++eH).toList.take 1++dn s++(#[Value.int .i64 (i:Int)]++eH).toList.drop (1+s.length))=aZ i (fO s):=by
 rw[uq,show 1+s.length=s.length+1 by omega,List.drop_succ_cons,List.drop_replicate];have h1:dn (zs (64-s.length))=List.replicate (64-s.length) (.int .u8 0):=by unfold dn zs;rw[List.map_replicate];rfl
 unfold aZ fO;rw[iO,h1];rfl
theorem Hd:Tryz.zeroCells144.toList=Value.int .i64 0::List.replicate 64 (.int .u8 0):=by kernel_rfl
theorem aat (w:World) (i:Nat):(storeCells ⟨w.heap.size,0,none⟩ (Tryz.zeroCells144.toList.set 0 (.int .i64 (i:Int)))).run Tryz.prog (w.alloc (.cells Tryz.zeroCells144 144))=.ok () (w.alloc (.cells (#[.int .i64 (i:Int)]++eH) 144)):=by
 have h:=run_storeCells_new (P:=Tryz.prog) w 144 Tryz.zeroCells144 (#[.int .i64 (i:Int)]++eH) (by kernel_rfl) (by kernel_rfl) (by
  rw[Array.all_eq_true_iff_forall_mem];intro v hv;have hv':v∈(#[Value.int .i64 (i:Int)]++eH).toList:=Array.mem_toList_iff.2 hv;rw[uq]at hv';rcases List.mem_cons.1 hv' with rfl|hv'
  ·rfl
  ·rw[List.eq_of_mem_replicate hv'];rfl)
 rw[uq]at h;rw[Hd];exact h
theorem Pe (w:World) (C:Array Value) {s:Bs}(hs:s.length<=64) (hC:C.size=65) (ty:TypeId):(Builtin.copy_ #[98,9] ty #[.slice (some ⟨w.heap.size,1,none⟩) 64 64,.string (au s)]).run Tryz.prog (w.alloc (.cells C 144))=.ok (goInt s.length) (w.alloc (.cells (C.toList.take 1++dn s++C.toList.drop (1+s.length)).toArray 144)):=by
 have h5:(Tryz.prog.info? 5).map (·.size)=some 1:=by kernel_rfl
 have h:=Lib.run_copy_row_string (P:=Tryz.prog) (w.alloc (.cells C 144)) 98 9 ty 5 w.heap.size 1 64 64 (au s) C 144 Tryz.underlying98 h5 (heap_alloc_new w (.cells C 144)) (by rw[az];exact hs) (by rw[az,hC];omega);rw[World.setRow_alloc_new,az,jC]at h;exact h
theorem Pn (w:World) (i:Nat) {s:Bs}(hs:s.length<=64) (ty:TypeId):(Builtin.copy_ #[98,9] ty #[.slice (some ⟨w.heap.size,1,none⟩) 64 64,.string (au s)]).run Tryz.prog (w.alloc (.cells (#[.int .i64 (i:Int)]++eH) 144))=.ok (goInt s.length) (w.alloc (.cells (aZ i (fO s)).toArray 144)):=by
 have e:=Xi i hs;have hz:(#[Value.int .i64 (i:Int)]++eH).size=65:=by rw[<-Array.length_toList,uq];rfl
 generalize (#[Value.int .i64 (i:Int)]++eH)=C at *;rw[Pe w C hs hz ty,e]
def lT (cs:Array Value):Nat->List Value->Array Value
 | _,[]=>cs
 | o,v::r=>lT (cs.setIfInBounds o v) (o+1) r
theorem ax.setCells {g:Nat}{t:TypeId}:∀(vs:List Value) {cs:Array Value}{o:Nat}{w:World},ax w g t cs->ax (w.setCells g o vs) g t (lT cs o vs)
 | [],cs,o,w,h=>h
 | v::r,cs,o,w,h=>ax.setCells r (h.aQ o v)
theorem vG:∀(vs:List Value) (cs:Array Value) (o:Nat),(lT cs o vs).size=cs.size
 | [],cs,o=>rfl
 | v::r,cs,o=>by rw[lT,vG];simp
theorem qD:∀(vs:List Value) (cs:Array Value) (o i:Nat),o+vs.length<=cs.size->(lT cs o vs)[i]?=if o<=i/\i<o+vs.length then vs[i-o]? else cs[i]?
 | [],cs,o,i,h=>by rw[if_neg (by rintro⟨h1,h2⟩;simp at h2;omega)];rfl
 | v::r,cs,o,i,h=>by
  rw[List.length_cons]at h;rw[lT,qD r _ _ _ (by simp;omega)]
  by_cases h1:o=i
  ·subst h1
   rw[if_neg (by omega),if_pos (by simp)];simp[show o<cs.size by omega]
  ·by_cases h2:o+1<=i/\i<o+1+r.length
   ·rw[if_pos h2,if_pos (by simp;omega),show i-o=(i-(o+1))+1 by omega]
    simp
   ·rw[if_neg h2,if_neg (by simp;omega)]
    simp[h1]
theorem ah.uE {F:Nat->Prop}{w:World}{b:Nat}(hb:F b):∀(vs:List Value) (o:Nat) {w':World},ah F w w'->ah F w (w'.setCells b o vs)
 | [],o,w',h=>h
 | v::r,o,w',h=>ah.uE hb r (o+1) (h.ay hb o v)
theorem DR:∀(l:List Value) (k:Nat) (base:Array Value),(l.zipIdx k).foldl (fun cs x=>cs.setIfInBounds x.2 x.1) base=lT base k l
 | [],k,base=>rfl
 | v::l,k,base=>by rw[List.zipIdx_cons,List.foldl_cons,DR l (k+1)];rfl
theorem Ru {base cs:Array Value}(h:base.size=cs.size):lT base 0 cs.toList=cs:=by
 apply Array.ext_getElem?;intro i;rw[qD _ _ _ _ (by rw[Array.length_toList];omega)]
 by_cases hi:i<cs.size
 ·rw[if_pos ⟨by omega,by rw[Array.length_toList];omega⟩];simp
 ·rw[if_neg (by rintro⟨_,h2⟩;rw[Array.length_toList]at h2;omega),Array.getElem?_eq_none (by omega),Array.getElem?_eq_none (by omega)]
theorem WH {base cs:Array Value}(h:base.size=cs.size):cs.zipIdx.foldl (fun a x=>a.setIfInBounds (0+x.2) x.1) base=cs:=by
 have e:(fun(a:Array Value) (x:Value×Nat)=>a.setIfInBounds (0+x.2) x.1)=fun a x=>a.setIfInBounds x.2 x.1:=by funext a x;rw[Nat.zero_add]
 rw[e,<-Array.foldl_toList,Array.toList_zipIdx,DR,Ru h]
theorem WL {base cs:Array Value}(hb:base.size=65) (h:cs.size=65):Instr.fill (fun i=>some (i*65,65)) base [(0,Value.agg cs)]=some cs:=by
 unfold Instr.fill;simp only[Nat.zero_mul,Value.cells];rw[if_neg (by simp[h,hb])];unfold Instr.fill;exact congrArg some (WH (by rw[hb,h]))
theorem sI:BV.size=65:=by
 have h:=congrArg List.length (uq 0);rw[Array.length_toList]at h;exact h.trans (by simp)
theorem EG (w:World) {cs:Array Value}(h:cs.size=65):(Instr.buildSlice 138 1 #[(0,.agg cs)]).run Tryz.prog w=.ok (.slice (some ⟨w.heap.size,0,none⟩) 1 1) (w.alloc (.cells cs 144)):=by
 obtain⟨i,hi,Ip⟩:=Option.map_eq_some_iff.1 Tryz.Qj;simp only[Prod.mk.injEq]at Ip;obtain⟨hz,hs,hb⟩:=Ip;have hzs:=sI;generalize BV=Z at *;have yF:=WL (base:=(Array.range 65).map (fun x=>Z[x%65]!)) (by simp) h;unfold Instr.buildSlice;rw[Sem.run_bind,run_underlying Tryz.underlying138];simp[Sem.run_bind,sizeOf,typeInfo,hi,hs,zeroValue,hz,Value.cells,hzs,yF,newRow,Result.andThen]
theorem Hg {P:Program}{o:Oper}{a:Act}{K:Act->World->Prop}{Q:Exit->Act->World->Prop}{W:World}{cs:Array Value}(hP:P=Tryz.prog) (x:Operand) (ho:o.op=.buildSlice 138 1 #[(0,x)]) (hx:a.eval x=.agg cs) (hs:cs.size=65)
  (h:K (a.put o.dst (.slice (some ⟨W.heap.size,0,none⟩) 1 1)) (W.alloc (.cells cs 144))):Oper.wp P o a W K Q:=by
 subst hP;have hr:=EG W hs;unfold Oper.wp execOp;simp only[ho,List.map_toArray,List.map_cons,List.map_nil,hx,hr,Sem.run_bind,Sem.run_pure,Result.andThen_ok];exact h
theorem sS {P:Program}{ops:Array Oper}{o:Oper}{a:Act}{K:Act->World->Prop}{Q:Exit->Act->World->Prop}{E:Prop}{W:World}{cs:Array Value}(hP:P=Tryz.prog) (OT:o.guard=none) (x:Operand) (ho:o.op=.buildSlice 138 1 #[(0,x)]) (hx:a.eval x=.agg cs) (hs:cs.size=65)
  (h:K (a.put o.dst (.slice (some ⟨W.heap.size,0,none⟩) 1 1)) (W.alloc (.cells cs 144))):if Region.wanted o (yielded ops a.tmps)=true then Oper.wp P o a W K Q else E:=by
 have hw:Region.wanted o (yielded ops a.tmps)=true:=by simp[Region.wanted,OT]
 rw[if_pos hw];exact Hg hP x ho hx hs h
theorem jY {F:Nat->Prop}{w w':World}{e:TypeId}{size:Nat}{v:Value}{n:Nat}{xs:List Value}(h:w.ownsRow 0 e size v n xs) (hx:ah F w w') (hF:∀g,v.ownBlock=some g->¬F g):w'.ownsRow 0 e size v n xs:=by
 refine⟨h.1,?_⟩;rcases h.2 with h0|⟨g,cap,cur,e1,hg,hb,r⟩
 ·exact .inl h0
 ·refine .inr ⟨g,cap,cur,e1,hg,?_,r⟩
  have bu:g<w.heap.size:=by
   rcases Nat.lt_or_ge g w.heap.size with hl|hl
   ·exact hl
   ·rw[Array.getElem?_eq_none hl]at hb;cases hb
  rw[hx.block g bu (hF g (by rw[e1];rfl))];exact hb
theorem Nz {p:Nat×Bs}:∀v∈aZ p.1 p.2,v.oneCell'=true:=by
 intro v hv;rcases List.mem_cons.1 hv with rfl|hv
 ·rfl
 ·obtain⟨u,_,rfl⟩:=List.mem_map.1 hv
  rfl
theorem GD {w W W6 w7:World}{D:Nat->Prop}{d kb c:Nat}{k:Dk}{A:Option Addr}{p:Nat×Bs}(h:aF W D d kb k) (hb:ax W d 140 (k.cells kb A c)) (hw:w.heap.size<=W.heap.size) (hD:∀b,D b->b<w.heap.size) (hx:ah No W W6) {g cap:Nat}
  (aP:w7.ownsRow 0 144 65 (.slice (some ⟨g,0,none⟩) (k.pd.length+1) cap) (k.pd.length+1) (dZ k.pd++aZ p.1 p.2)) (hg:W6.grownBy w7 (Value.slice A k.pd.length c).ownBlock) (ha:(Value.slice A k.pd.length c).ownBlock=some g\/g=W6.heap.size) (bu:g<w7.heap.size) (hp:p.1<k.n/\p.2.length=64) :
  aF (w7.setCell ⟨d,1,none⟩ (.slice (some ⟨g,0,none⟩) (k.pd.length+1) cap)) (bz D w (w7.setCell ⟨d,1,none⟩ (.slice (some ⟨g,0,none⟩) (k.pd.length+1) cap))) d kb { k with pd:=k.pd ++ [p] } /\
  ah D W (w7.setCell ⟨d,1,none⟩ (.slice (some ⟨g,0,none⟩) (k.pd.length+1) cap)):=by
 obtain⟨A2,c2,h1,h2,h3⟩:=h.cells;have e:A2=A/\c2=c:=by
  unfold ax at hb h1;rw[hb]at h1;simp only[Dk.cells,Option.some.injEq,Obj.cells.injEq,and_true]at h1;have:=congrArg (fun a:Array Value=>a[1]?) h1;simp at this;exact⟨this.1.symm,this.2.symm⟩
 obtain⟨rfl,rfl⟩:=e;have eX:ah (fun b=>(Value.slice A2 k.pd.length c2).ownBlock=some b) W w7:=⟨hg.os.trans hx.os,hg.tape.trans hx.tape,hg.output.trans hx.output,Nat.le_trans hx.size hg.size,fun b oN bQ=>(hg.block b (Nat.lt_of_lt_of_le oN hx.size) (fun e=>bQ e.symm)).trans (hx.block b oN (fun h=>h))⟩;have hd7:ax w7 d 140 (k.cells kb A2 c2):=h1.ext eX (fun e=>(h3 d e).2.1 rfl);have hk7:∀b,D b->(Value.slice A2 k.pd.length c2).ownBlock≠some b->w7.heap[b]?=W.heap[b]?:=fun b hb bQ=>eX.block b (h.old b hb) bQ
 have OT:g≠d/\g≠kb:=by
  rcases ha with ha|ha
  ·exact(h3 g ha).2
  ·have:=hx.size
   have h4:=h.old d h.dd;have h5:=h.old kb h.dk;exact⟨by omega,by omega⟩
 have jO:=eX.setCell (p:=⟨d,1,none⟩);have hxD:ah D W (w7.setCell ⟨d,1,none⟩ (.slice (some ⟨g,0,none⟩) (k.pd.length+1) cap)):=(eX.mono (fun b _ hb=>(h3 b hb).1)).ay (F:=D) h.dd 1 _;have eZ:(w7.setCell ⟨d,1,none⟩ (.slice (some ⟨g,0,none⟩) (k.pd.length+1) cap)).heap.size=w7.heap.size:=by simp
 have ZA:=eX.size;obtain⟨cs,h4,h5,h6⟩:=h.kept;have bY:(k.pd ++ [p]).length=k.pd.length+1:=by simp
 refine⟨⟨⟨some ⟨g,0,none⟩,cap,?_,?_,?_⟩,⟨cs,?_,h5,h6⟩,h.ES,?_,.inl h.dd,.inl h.dk,h.ne,?_,h.n1,h.n2⟩,hxD⟩
 ·have:=hd7.aQ 1 (.slice (some ⟨g,0,none⟩) (k.pd.length+1) cap)
  have e2:({ k with pd:=k.pd ++ [p] }:Dk).cells kb (some ⟨g,0,none⟩) cap=(k.cells kb A2 c2).setIfInBounds 1 (.slice (some ⟨g,0,none⟩) (k.pd.length+1) cap):=by
   unfold Dk.cells;simp only[bY];rfl
  rw[e2];exact this
 ·show(w7.setCell _ _).ownsRow 0 144 65 (.slice (some ⟨g,0,none⟩) (k.pd ++ [p]).length cap) (k.pd ++ [p]).length (dZ (k.pd ++ [p]))
  rw[bY,show dZ (k.pd ++ [p])=dZ k.pd++aZ p.1 p.2 from EI _ _ _];refine jY (F:=On d) aP ((ah.refl _ _).ay (F:=On d) rfl 1 _) (fun b hb e=>?_);have xL:g=b:=by simpa[Value.ownBlock]using hb
  have e':b=d:=e;exact OT.1 (xL.trans e')
 ·intro b hb
  have xL:g=b:=by simpa[Value.ownBlock]using hb
  subst xL;refine⟨?_,OT⟩;rcases ha with ha|ha
  ·exact .inl (h3 g ha).1
  ·exact .inr ⟨by have:=hx.size;omega,by omega⟩
 ·have Yd:ax w7 kb 142 cs:=h4.ext eX (fun e=>(h3 kb e).2.2 rfl)
  exact Yd.far (p:=⟨d,1,none⟩) (fun e=>h.ne e.symm) _
 ·intro q hq
  rcases List.mem_append.1 hq with hq|hq
  ·exact h.CG q hq
  ·rw[List.mem_singleton.1 hq];exact hp
 ·exact bz.old hD (by omega)
theorem yc (K:Bs) (pd:List (Nat×Bs)) (p:Nat×Bs) (i:Nat):(pd ++ [p]).foldl (fun b p=>if p.1=i then p.2 else b) K=if p.1=i then p.2 else pd.foldl (fun b p=>if p.1=i then p.2 else b) K:=by
 rw[List.foldl_append];rfl
theorem N7 {pd:List (Nat×Bs)}(h:∀p∈pd,p.2.length=64) {j:Nat}{p:Nat×Bs}(hj:pd[j]?=some p):∀(x:Nat) (u:Value),(aZ p.1 p.2)[x]?=some u->(dZ pd)[j*65+x]?=some u:=by
 induction pd generalizing j with
 | nil=>cases hj
 | cons q pd ih =>
  have e:dZ (q::pd)=aZ q.1 q.2++dZ pd:=rfl;have hl:=dK (i:=q.1) (h q (by simp));intro x u hu;rw[e];cases j with
  | zero =>
   have:q=p:=by simpa using hj
   subst this;have hx:=(List.getElem?_eq_some_iff.1 hu).1;rw[List.getElem?_append_left (by omega)];simpa using hu
  | succ j =>
   rw[List.getElem?_append_right (by omega),hl,show(j+1)*65+x-65=j*65+x by omega];exact ih (fun q hq=>h q (by simp[hq])) (by simpa using hj) x u hu
theorem yP {w:World}{D:Nat->Prop}{d kb:Nat}{k:Dk}(h:aF w D d kb k) {j:Nat}{p:Nat×Bs}(hj:k.pd[j]?=some p):∃g c,w.cell? ⟨d,1,none⟩=some (.slice (some ⟨g,0,none⟩) k.pd.length c)/\k.pd.length<=c/\w.rangeAt g (j*65) (aZ p.1 p.2)/\g<w.heap.size:=by
 obtain⟨A,c,h1,h2,h3⟩:=h.cells;have IG:=(List.getElem?_eq_some_iff.1 hj).1;have kV:∀p∈k.pd,p.2.length=64:=fun p hp=>(h.CG p hp).2
 have Wj:=h1.cell 1;rcases h2.2 with ⟨h0,h00⟩|⟨g,cap,cur,e,hg,uO,r1,r2,r3,r4⟩
 ·omega
 ·injection e with e1 e2 e3
  subst e1;subst e3;have gX:=dK (i:=p.1) (kV p (List.mem_of_getElem? hj));refine⟨g,c,Wj,r1,fun x u hx=>?_,World.ownsRow.lt h2 g rfl |>.2⟩;have aT:=(List.getElem?_eq_some_iff.1 hx).1;have:=N7 kV hj x u hx;rw[h2.cellAt (j*65+x) (by omega)];exact this
theorem oH (w:World) {i:Nat}{b:Bs}(hb:b.length=64):(storeCells ⟨w.heap.size,0,none⟩ (aZ i b)).run Tryz.prog (w.alloc (.cells Tryz.zeroCells144 144))=.ok () (w.alloc (.cells (aZ i b).toArray 144)):=by
 have hz:(aZ i b).toArray.size=65:=by rw[List.size_toArray,dK hb]
 have h:=run_storeCells_new (P:=Tryz.prog) w 144 Tryz.zeroCells144 (aZ i b).toArray (by rw[hz];kernel_rfl) (by rw[hz];kernel_rfl) (all_oneCell_toArray (Nz (p:=(i,b))));simpa using h
theorem Au {w:World}{g o:Nat}{b:Bs}(hb:b.length=64) (h:∀x,x<64->w.cell? ⟨g,o+x,none⟩=some (.int .u8 ((b.getD x 0).toNat:Int))):(convert 98 9 (.slice (some ⟨g,o,none⟩) 64 64)).run Tryz.prog w=.ok (.string (au b)) w:=by
 have h1:=run_convert_bytes_back (P:=Tryz.prog) w 98 9 5 ⟨g,o,none⟩ 64 b Tryz.underlying98 Tryz.underlying5 Tryz.underlying9 (fun j hj=>by
  rw[Addr.iP,h j (by omega)]
  simp[hj])
 rw[hb]at h1;exact h1
theorem Ja {w:World}{D:Nat->Prop}{d kb:Nat}{k:Dk}(h:aF w D d kb k) (i:Nat) (hi:i<k.n) (tV:k.pd.length<2^30) (hd:k.down=false) :
  Calls Tryz.prog 119 #[.pointer (some ⟨d,0,none⟩),.int .i64 (i:Int)] w fun e w'=>e=.returned (.tuple #[.string (au (k.cur i)),.int .i64 0])/\ah No w w':=by
 have HU:=aa (Ml h);rw[hd]at HU;have HI:=aa (abh h i hi);have HH:=aa h;obtain⟨C,hC⟩:∃C,C=k.cur i:=⟨_,rfl⟩;rw[<-hC];have HC:=aa hC;obtain⟨A0,c0',_,c0,c1,_,_,_,_,bu,_⟩:=h.c;have sG:(k.pd.length:Int)<1073741824:=by omega
 have h1:(0:Int)<=i:=by omega
 have h2:(i:Int)<k.n:=by omega
 clear h hC hd;go_enter Tryz.func119,Tryz.ntmps119;go_wp2_with fail;refine(HU.out).mono ?_;rintro e w1 ⟨rfl,rfl⟩;go_wp2_with fail;refine(HI.out).mono ?_;rintro e w1 ⟨rfl,rfl⟩;go_wp2_with fail;go_loopg [7] k.pd.length (fun gk q7 wr=>gk<=k.pd.length/\q7=.int .i64 ((gk:Int)-1)/\Hid (C=(k.pd.take gk).foldl (fun b p=>if p.1=i then p.2 else b) (k.K i))/\Hid (ah No w wr))
 case atStart=>exact⟨Nat.le_refl _,rfl,aa (by rw[List.take_length];exact HC.out),aa (ah.refl No w)⟩
 case round =>
  obtain⟨hk,rfl,hL,hX⟩:=hrel;have HK:=aa hk
  by_cases h0:gk=0
  ·subst h0
   have HD:=aa (HH.out.ext hX.out (fun _ _ h=>h));obtain⟨_,_,_,x0,_,_,_,_,_,xlt,_⟩:=HD.out.c;obtain⟨cs,y0,y1,y2⟩:=HD.out.kept;have QD:=Au (w:=wr) (g:=kb) (o:=i*64) (HD.out.ES i hi) (fun x hx=>by rw[y0.cell];exact y2 i hi x hx);clear hk y0 y1 y2 c0 c1;go_wp2_with fail;go_ret2;refine⟨?_,hX.out⟩;rw[hL.out];rfl
  ·obtain⟨j,rfl⟩:∃j,gk=j+1:=⟨gk-1,by omega⟩
   obtain⟨p,hp⟩:∃p,k.pd[j]?=some p:=⟨_,List.getElem?_eq_getElem (by omega)⟩;have HD:=aa (HH.out.ext hX.out (fun _ _ h=>h));obtain⟨g,c,x1,x2,x3,x4⟩:=yP HD.out hp;have kV:=(HD.out.CG p (List.mem_of_getElem? hp)).2;have iF:=aa x3;have HPL:=aa kV;have dw:=oH wr (i:=p.1) kV;have hB:=ax.new wr 144 (aZ p.1 p.2).toArray
   have QD:=Au (w:=wr.alloc (.cells (aZ p.1 p.2).toArray 144)) (g:=wr.heap.size) (o:=1) kV (fun x hx=>by
    rw[hB.cell,Nat.add_comm]
    simp[aZ,dn,List.getElem?_eq_getElem (show x<p.2.length by omega)])
   have Ev:(wr.alloc (.cells (aZ p.1 p.2).toArray 144)).cell? ⟨wr.heap.size,0,none⟩=some (.int .i64 (p.1:Int)):=hB.cell 0;have Ns:=aa (hX.out.alloc (.cells (aZ p.1 p.2).toArray 144));have xlt:=HD.out.old d HD.out.dd;have hj1:(0:Int)<=j:=by omega
   have ZL:(j:Int)<k.pd.length:=by omega
   clear hk c0 c1 hB x3;have ej:(((j+1:Nat):Int)-1)=(j:Int):=by omega
   rw[ej];go_upto_region 9 with fail;refine wp_region_lit ?_
   iterate 6 (refine wpList_step (fun K hK=>?_);go_simp;refine hK _ _ ?_;clear hK K)
   refine wpList_load_mid (P:=Tryz.prog) (by rfl) 144 (.tmp 33) (by rfl) g (j*65) (by rfl) (aZ p.1 p.2) _ iF.out Tryz.underlying144 rfl (by rw[dK HPL.out];kernel_rfl) ?_;refine wpList_step (fun K hK=>?_);go_simp;refine hK _ _ ?_;clear hK K
   have gX:=dK (i:=p.1) kV;refine wpList_step (fun K hK=>?_);go_simp;refine hK _ _ ?_;clear hK K dw gX
   generalize wr.alloc (.cells (aZ p.1 p.2).toArray 144)=W1 at Ev QD Ns ⊢;generalize aZ p.1 p.2=WV
   by_cases hpi:p.1=i
   ·have agF:(p.1:Int)=(i:Int):=by omega
    have HPI:=aa hpi;clear x1 x2 x4 kV hj1 ZL hpi;go_wp2_with fail;go_ret2;refine⟨?_,Ns.out⟩;rw[hL.out,List.take_add_one,hp,Option.toList_some,yc,if_pos HPI.out];rfl
   ·have agF:((p.1:Int)==(i:Int))=false:=by simp;omega
    have HPI:=aa hpi;clear QD x1 x2 x4 kV hpi;clear ej;go_wp2_with fail;go_roundg j
    case rel =>
     refine⟨by have:=HK.out;omega,by go_num,aa ?_,Ns⟩;rw[hL.out,List.take_add_one,hp,Option.toList_some,yc,if_neg HPI.out]
    case measure=>omega
structure gJ (w:World) (T:Nat->Nat):Prop where
 cell:∀i,i<16->w.cell? ⟨0,i,none⟩=some (.int .u32 (T i:Int))
 lt:∀i,T i<4294967296
theorem gJ.ext {F:Nat->Prop}{w w':World}{T:Nat->Nat}(h:gJ w T) (hx:ah F w w') (h0:¬F 0):gJ w' T:=⟨fun i hi=>aj hx (h.cell i hi) h0,h.lt⟩
def uW (T:Nat->Nat) (r:Nat):Nat:=(r / 16) ^^^ T (r%16)
def Jg (T:Nat->Nat) (r x:Nat):Nat:=uW T (uW T (r ^^^ x))
def mP (T:Nat->Nat):Nat->Bs->Nat
 | r,[]=>r
 | r,x::l=>mP T (Jg T r x.toNat) l
def bT (T:Nat->Nat) (b:Bs):Nat:=4294967295 ^^^ mP T 4294967295 b
theorem qU {T:Nat->Nat}(h:∀i,T i<4294967296) {r:Nat}(hr:r<4294967296):uW T r<4294967296:=Nat.xor_lt_two_pow (n:=32) (by omega) (h _)
theorem Pd {T:Nat->Nat}(h:∀i,T i<4294967296) {r x:Nat}(hr:r<4294967296) (hx:x<256):Jg T r x<4294967296:=qU h (qU h (Nat.xor_lt_two_pow (n:=32) (by omega) (by omega)))
theorem D5 {T:Nat->Nat}(h:∀i,T i<4294967296):∀(l:Bs) (r:Nat),r<4294967296->mP T r l<4294967296
 | [],r,hr=>hr
 | x::l,r,hr=>D5 h l _ (Pd h hr x.toNat_lt)
theorem DJ {T:Nat->Nat}{w:World}(h:gJ w T) {r:Nat}(hr:r<4294967296):∃a m t:Nat,((r:Int) / 16)=(a:Int)/\bits .and .u32 (r:Int) 15=(m:Int)/\(m:Int)<16/\w.cell? ⟨0,m,none⟩=some (.int .u32 (t:Int))/\bits .xor .u32 (a:Int) (t:Int)=((uW T r:Nat):Int):=by
 have hT:=h.lt (r%16);refine⟨r / 16,r%16,T (r%16),by omega,?_,by omega,h.cell _ (by omega),?_⟩
 ·have:=u32_and_nat r 15 hr (by omega)
  rw[show((15:Nat):Int)=15 from rfl]at this;rw[this];congr 1;exact Nat.and_two_pow_sub_one_eq_mod r 4
 ·rw[u32_xor_nat _ _ (by omega) hT];rfl
theorem Jf {T:Nat->Nat}(h:∀i,T i<4294967296) (b:Bs):bT T b<4294967296:=Nat.xor_lt_two_pow (n:=32) (by omega) (D5 h b _ (by omega))
theorem NA (T:Nat->Nat) (w:World) (h:gJ w T) (A:Option Addr) (l:Bs) (c:Nat) (hr:Rd w No 1 A l.length (dn l)) (hl:l.length<2^62) :
  Calls Tryz.prog 174 #[.int .u32 0,.slice A l.length c] w fun e w'=>e=.returned (.int .u32 (bT T l:Int))/\w=w':=by
 have HH:=aa h;have HR:=aa hr;obtain⟨C,hC⟩:∃C,C=bT T l:=⟨_,rfl⟩;rw[<-hC];have hT:=h.lt;clear h hr;go_enter Tryz.func174,Tryz.ntmps174;go_wp2_with fail;have wJ:bits .xor .u32 IntKind.u32.max 0=4294967295:=by decide
 rw[wJ];go_loopg [5,12] l.length (fun gk q5 q12 wr=>∃(k r:Nat),k+gk=l.length/\r<4294967296/\q5=.int .u32 (r:Int)/\q12=.int .i64 (k:Int)/\Hid (mP T r (l.drop k)=mP T 4294967295 l)/\w=wr)
 case atStart=>exact⟨0,4294967295,by omega,by omega,rfl,rfl,aa rfl,rfl⟩
 case round =>
  obtain⟨k,r,hk,hr,rfl,rfl,hL,rfl⟩:=hrel;have HK:=aa hk
  by_cases bu:k<l.length
  ·obtain⟨x,hx⟩:∃x,l[k]?=some x:=⟨_,List.getElem?_eq_getElem bu⟩
   obtain⟨b,o,hA,_,iN⟩:=HR.out.2 (by omega);subst hA;have k0:=iN k (.int .u8 (x.toNat:Int)) (by simp[dn,hx]);have lc:=World.block_lt_of_cell? w _ k0;simp only at lc;have iY:(k:Int)<(l.length:Int):=by omega
   have aiM:x.toNat<256:=x.toNat_lt;clear hk iN;obtain⟨r1,Iz⟩:∃r1,r1=r ^^^ x.toNat:=⟨_,rfl⟩;have ab_:r1<4294967296:=Iz▸Nat.xor_lt_two_pow (n:=32) (by omega) (by omega);have e1:bits .xor .u32 (r:Int) (x.toNat:Int)=(r1:Int):=by rw[u32_xor_nat _ _ hr (by omega),Iz]
   obtain⟨a1,m1,t1,e2,e3,e4,e5,e6⟩:=DJ HH.out ab_;obtain⟨r2,rX⟩:∃r2,r2=uW T r1:=⟨_,rfl⟩;have ab9:r2<4294967296:=rX▸qU hT ab_;rw[<-rX]at e6;obtain⟨a2,m2,t2,f2,f3,f4,f5,f6⟩:=DJ HH.out ab9;obtain⟨r3,Ep⟩:∃r3,r3=uW T r2:=⟨_,rfl⟩;have adZ:r3<4294967296:=Ep▸qU hT ab9;rw[<-Ep]at f6
   have HN:Hid (mP T r3 (l.drop (k+1))=mP T 4294967295 l):=aa (by
    rw[<-hL.out,List.drop_eq_getElem_cons bu,(List.getElem?_eq_some_iff.1 hx).2];show _=mP T (Jg T r x.toNat) (l.drop (k+1))
    rw[Ep,rX,Iz];rfl)
   have HR3:=aa adZ;have g0:0<w.heap.size:=by have:=World.block_lt_of_cell? w _ e5;exact this
   clear Iz rX Ep hx ab_ ab9 adZ hr;go_wp2_with fail;go_roundg (gk-1)
   case rel=>exact⟨k+1,r3,by have:=HK.out;omega,HR3.out,rfl,by go_num,HN,rfl⟩
   case measure=>have:=HK.out;omega
  ·have mW:k=l.length:=by omega
   have HF:Hid (mP T 4294967295 l=r):=aa (by rw[<-hL.out,mW,List.drop_length];rfl);have ef:bits .xor .u32 IntKind.u32.max (r:Int)=((4294967295 ^^^ r:Nat):Int):=u32_xor_nat 4294967295 r (by omega) hr;have iC:¬((k:Int)<(l.length:Int)):=by omega
   clear hk mW hr;go_wp2_with fail;go_ret;refine⟨?_,rfl⟩;unfold bT;rw[HF.out];rfl
theorem Hr (T:Nat->Nat) (w:World) (h:gJ w T) (A:Option Addr) (l:Bs) (c:Nat) (hr:Rd w No 1 A l.length (dn l)) (hl:l.length<2^62) :
  Calls Tryz.prog 126 #[.slice A l.length c] w fun e w'=>e=.returned (.int .u32 (bT T l:Int))/\w=w':=by
 have HU:=aa (NA T w h A l c hr hl);clear h hr;go_enter Tryz.func126,Tryz.ntmps126;go_wp2_with fail;refine(HU.out).mono ?_;rintro e w1 ⟨rfl,rfl⟩;go_wp2_with fail;go_ret;exact⟨rfl,rfl⟩
end Go.Proofs.YtccnemmlkcmceaaGreatDoor
