/- Proofs about the given program, joined out of the texts P4, I1, OP6, OP7, OP8, OP9. -/
import Derived.Test.YtccnemmlkcmceaaGreatDoorHL10
import Derived.Test.YtccnemmlkcmceaaGreatDoorHL11
import Derived.Lib.RowBridge
set_option linter.unusedVariables false
set_option linter.unusedSimpArgs false
set_option maxRecDepth 100000
set_option maxHeartbeats 6400000
namespace Go.Proofs.YtccnemmlkcmceaaGreatDoor
open Go.RowKit
theorem dC.Ok.ext {w w':World}{sz:Nat}{p:dC}(h:p.Ok w sz) (hx:ah No w w'):p.Ok w' sz:=⟨h.rd.ext hx,h.e,h.one,h.cap⟩
theorem Kz (n:Nd) (f t:Nat) (w:World) (F:Nat->Prop) (A1:Option Addr) (c1:Nat) (A2:Option Addr) (c2:Nat) (A3:Option Addr) (c3:Nat) (hn:aW w F A1 c1 A2 c2 A3 c3 n)
  (bL:n.leaf=false) (hf:f<t) (ht:t<=n.keys.length) (qg:n.kids.length=n.keys.length+1) :
  Calls Tryz.prog 182 #[n.value A1 c1 A2 c2 A3 c3,.int .i64 (f:Int),.int .i64 (t:Int)] w (zA w (n.part f t)):=by
 obtain⟨b,o,hA,_⟩:=hn.keys.2 (by omega);obtain⟨ad,had⟩:∃ad,A2=some ad:=⟨_,hA⟩;subst had;clear hA;obtain⟨b',o',hA,_⟩:=hn.kids.2 (by omega);obtain⟨ae,hae⟩:∃ad,A3=some ad:=⟨_,hA⟩;subst hae;clear hA;have hp:n.part f t=⟨false,[],(n.keys.drop f).take (t-f),(n.kids.drop f).take (t+1-f)⟩:=by simp[Nd.part,bL]
 rw[hp];have vJ:=hn.l2;have dO:=hn.b2;have BF:=hn.l3;have SA:=hn.b3;obtain⟨W,hW⟩:∃W,W=((w.alloc (.cells #[.bool false,.slice A1 n.cells.length c1,.slice (some ad) n.keys.length c2,.slice (some ae) n.kids.length c3] 40)).alloc (.cells #[.bool false,.slice none 0 0,.slice none 0 0,.slice none 0 0] 40)):=⟨_,rfl⟩;have jR:ah No w W.drew:=by rw[hW];exact(((ah.refl No w).alloc _).alloc _).drew
 have l_:=((hn.keys.mono (G:=No) (by omega) (fun _ _ h=>h.elim)).ext jR).sub f t c2 (by omega) ht vJ (by omega);have VZ:=((hn.kids.mono (G:=No) (by omega) (fun _ _ h=>h.elim)).ext jR).sub f (t+1) c3 (by omega) (by omega) BF (by omega);have hkv:((aG n.keys).drop (f*1)).take ((t-f)*1)=aG ((n.keys.drop f).take (t-f)):=by simp[aG,List.map_take,List.map_drop]
 have hiv:((aK n.kids).drop (f*1)).take ((t+1-f)*1)=aK ((n.kids.drop f).take (t+1-f)):=by simp[aK,List.map_take,List.map_drop]
 rw[hkv]at l_;rw[hiv]at VZ;have ahd:¬c2=f:=by omega
 have ahc:¬c3=f:=by omega
 rw[if_neg ahd]at l_;rw[if_neg ahc]at VZ;simp only[Nat.mul_one]at l_ VZ;have ZG:dC.Ok W.drew 1 ⟨some (ad.add f),t-f,c2-f,aG ((n.keys.drop f).take (t-f))⟩:=⟨l_,(fun h=>by cases h),lU _,by simp only;omega⟩;have ad9:dC.Ok W.drew 1 ⟨some (ae.add f),t+1-f,c3-f,aK ((n.kids.drop f).take (t+1-f))⟩:=⟨VZ,(fun h=>by cases h),pK _,by simp only;omega⟩;have HC2:=aa (fun w h=>gY _ w h (show t-f<100000 by omega):∀w,dC.Ok w 1 ⟨some (ad.add f),t-f,c2-f,aG ((n.keys.drop f).take (t-f))⟩->_);have HC3:=aa (fun w h=>wF _ w h (show t+1-f<100000 by omega):∀w,dC.Ok w 1 ⟨some (ae.add f),t+1-f,c3-f,aK ((n.kids.drop f).take (t+1-f))⟩->_);have j_:((n.keys.drop f).take (t-f)).length=t-f:=by simp;omega
 have lJ:((n.kids.drop f).take (t+1-f)).length=t+1-f:=by simp;omega
 generalize (n.keys.drop f).take (t-f)=ks at *;generalize (n.kids.drop f).take (t+1-f)=jk at *;have TN:=aa j_;have JO:=aa lJ;have bn:ax W w.heap.size 40 #[.bool false,.slice A1 n.cells.length c1,.slice (some ad) n.keys.length c2,.slice (some ae) n.kids.length c3]:=by rw[hW];exact(ax.new w 40 _).alloc _
 have br:ax W (w.heap.size+1) 40 #[.bool false,.slice none 0 0,.slice none 0 0,.slice none 0 0]:=by rw[hW];exact ax.aS (b:=w.heap.size+1) (w.alloc _) 40 _ (by simp)
 simp only[Nd.value,bL,dC.v]at HC2 HC3 ⊢;obtain⟨p0,p1,p2,p3,g0,g1,g2,g3,ln⟩:=bn.p4;obtain⟨r0,r1,r2,r3,s0,s1,s2,s3,lr⟩:=br.p4;have yE:(f:Int)<=t:=by omega
 have Dw:(t:Int)<=c2:=by omega
 have hi3:(0:Int)<=f:=by omega
 have hi4:t<=c2:=by omega
 have hi5:(t:Int)+1<=c3:=by omega
 have hi6:t+1<=c3:=by omega
 have hi7:(f:Int)<=(t:Int)+1:=by omega
 have hi8:f<=t+1:=by omega
 have hi9:IntKind.i64.wrap ((t:Int)+1)=(t:Int)+1:=IntWalk.i64_in _ (by omega);have ajt:((t:Int)+1).toNat=t+1:=by omega
 have ajs:(0:Int)<=(t:Int)+1:=by omega
 have ajr:f<=t:=by omega
 have hb1:t-f<65536:=by omega
 have dO:t+1-f<65536:=by omega
 have hWs:W.heap.size=w.heap.size+2:=by rw[hW];simp
 have hW':=hW.symm;have ahW:=aa ZG;have ahV:=aa ad9;have BU:=aa jR;generalize n.cells.length=nl at *;generalize n.keys.length=kl at *;generalize n.kids.length=il at *;clear qg hW hp l_ VZ hkv hiv ZG ad9 j_ lJ hn jR bL;go_enter Tryz.func182,Tryz.ntmps182;go_wp2_with fail;go_region_held3 (fun w'=>w'.cell? ⟨w.heap.size,2,none⟩=some (.slice (some ad) kl c2)/\w'.cell? ⟨w.heap.size,3,none⟩=some (.slice (some ae) il c3)) (go_keep)
  (first
   | (go_at_call 124;refine(HC2.out _ ahW.out).mono ?_;rintro e w5 ⟨B2,d2,rfl,bJ,aH⟩;have sD:=aa bJ;have dx:=aa aH;have k2:=aj aH p2 (fun h=>h);have k3:=aj aH p3 (fun h=>h);have Fs:=ax.aY aH br (fun h=>h);have aiA:=aa Fs;obtain⟨r0,r1,r2,r3,s0,s1,s2,s3,lr⟩:=Fs.p4;clear bJ aH)
   | (go_at_call 146;refine(HC3.out _ (ahV.out.ext dx.out)).mono ?_;rintro e w6 ⟨B3,d3,rfl,iJ,bC⟩;have XO:=aa iJ;have iF:=aa bC;have k2':=aj bC k2 (fun h=>h);have k3':=aj bC k3 (fun h=>h);have br6:=ax.aY bC aiA.out (fun h=>h);have aiz:=aa br6;obtain⟨r0,r1,r2,r3,s0,s1,s2,s3,lr⟩:=br6.p4;clear iJ bC))
 all_goals (
  go_wp2_with fail;refine bodyPost_ret (results_cell_row (P:=Tryz.prog) rfl _ _ (w.heap.size+1) 40 _ (0,0) _ rfl (aiz.out.eu (.bool false) (.slice none 0 0) (.slice B2 (t-f) d2) (.slice B3 (t+1-f) d3)) Tryz.underlying40 rfl (by kernel_rfl)) rfl ?_;have kH:ah No w w6:=(BU.out.ag dx.out).ag iF.out;refine⟨(((kH.ai (by omega) _ _).ai (by omega) _ _).ai (by omega) _ _).ai (by omega) _ _,none,0,B2,d2,B3,d3,by simp only[Nd.value,TN.out,JO.out,List.length_nil],?_⟩;have LW:=dX sD.out;have LV:=dX XO.out;have ab1:w.heap.size+2<=w5.heap.size:=by have:=dx.out.size;simp at this;omega
  have mo:Lo (w.heap.size+2) (w.heap.size+1):=by show w.heap.size+1<w.heap.size+2;omega
  have r2:Rd w6 (Lo (w.heap.size+2)) 1 B2 (t-f) (aG ks):=((Rd.jf sD.out (by omega)).mono (G:=Lo (w.heap.size+2)) (by omega) (fun b _ hb=>by unfold Lo at hb ⊢;simp;omega)).ext iF.out.of_no;have r3:Rd w6 (Lo (w.heap.size+2)) 1 B3 (t+1-f) (aK jk):=(Rd.jf XO.out (by omega)).mono (G:=Lo (w.heap.size+2)) (by omega) (fun b _ hb=>by unfold Lo at hb ⊢;omega);have vo:aW w6 (Lo (w.heap.size+2)) none 0 B2 d2 B3 d3 ⟨false,[],ks,jk⟩:=⟨Rd.lV _,by rw[TN.out];exact r2,by rw[JO.out];exact r3,by simp,by rw[TN.out];exact LW,by rw[JO.out];exact LV,by simp,by rw[TN.out];omega,by rw[JO.out];omega,fun _=>rfl,dA sD.out,dA XO.out⟩;have hz:ah (Lo (w.heap.size+2)) w6 _:=((((ah.refl _ w6).ay mo 0 (.bool false)).ay mo 1 (.slice none 0 0)).ay mo 2 (.slice B2 (t-f) d2)).ay mo 3 (.slice B3 (t+1-f) d3)
  exact(vo.ext hz).mono (fun b _ hb=>by unfold gB at hb;unfold Lo;omega))
def Ay (base:Nat) (v:Value) (w:World) (xs:List Value) (n:Nat) (e:Ending) (w':World):Prop :=
 ∃A c,e=.returned (.slice A n c)/\Rd w' (Lo base) 1 A n xs/\n<=c/\(A=none->c=0)/\ah (fun b=>v.ownBlock=some b) w w'
theorem ah.setCells {F:Nat->Prop}{b:Nat}:∀(vs:List Value) (o:Nat) {w w':World},ah F w w'->(F b\/w.heap.size<=b)->ah F w (w'.setCells b o vs)
 | [],_,_,_,h,_=>h
 | v::r,o,_,_,h,hb=>ah.setCells r (o+1) (h.setCell (p:=⟨b,o,none⟩) hb v) hb
theorem xn {w:World}{base:Nat}{e:TypeId}{g cap n:Nat}{xs:List Value}{cur:Array Value}(hg:w.heap[g]?=some (.cells cur e (0,0))) (hs:cur.size=cap*1) (ht:cur.toList.take (n*1)=xs) :
  (∀j v,xs[j]?=some v->w.cell? ⟨g,0+j,none⟩=some v)/\(∀j,j<cap->(w.cell? ⟨g,0+j,none⟩).isSome=true)/\∀j,w.frozen? ⟨g,0+j,none⟩=false:=by
 have hb:ax w g e cur:=hg;refine⟨fun j v hj=>?_,fun j hj=>?_,fun j=>hb.frozen _⟩
 ·rw[Nat.zero_add,hb.cell,<-Array.getElem?_toList]
  rw[<-ht,List.getElem?_take]at hj;split at hj
  ·exact hj
  ·cases hj
 ·rw[Nat.zero_add,hb.cell,Array.getElem?_eq_getElem (by omega)]
  rfl
theorem nX (w:World) (b i n:Nat) (xs:List Value) (u:Value) (hl:xs.length=n) (hi:i<=n)
  (xK:∀j v,xs[j]?=some v->w.cell? ⟨b,0+j,none⟩=some v) (rV:∀j,j<n+1->(w.cell? ⟨b,0+j,none⟩).isSome=true) :
  ∀j v,(xs.take i++u::xs.drop i)[j]?=some v->((w.setCells b (0+(i+1)) (xs.drop i)).setCells b (0+i) [u]).cell? ⟨b,0+j,none⟩=some v:=by
 intro j v hj;have rW:∀j,j<n+1->((w.setCells b (0+(i+1)) (xs.drop i)).cell? ⟨b,0+j,none⟩).isSome=true:=fun j hj =>
  isSome_setCells b _ _ _ (fun k hk=>by rw[List.length_drop]at hk;have:=rV (i+1+k) (by omega);rwa[<-Nat.add_assoc]at this) _ (rV j hj)
 rcases Nat.lt_trichotomy j i with h|h|h
 ·rw[List.getElem?_append_left (by rw[List.length_take];omega),List.getElem?_take_of_lt h]at hj
  rw[World.cell?_setCells_out _ _ _ _ _ (fun _ _=>.inl (by show 0+j<0+i;omega)),World.cell?_setCells_out _ _ _ _ _ (fun _ _=>.inl (by show 0+j<0+(i+1);omega))];exact xK j v hj
 ·subst h
  rw[List.getElem?_append_right (by rw[List.length_take];omega),List.length_take,Nat.min_eq_left (by omega)]at hj;simp at hj;subst hj
  have:=World.cell?_setCells_in b [u] (0+j) (w.setCells b (0+(j+1)) (xs.drop j)) (fun k hk=>by
   have:k=0:=by simpa using hk
   subst this
   exact rW j (by omega)) 0 (by simp)
  simpa using this
 ·rw[List.getElem?_append_right (by rw[List.length_take];omega),List.length_take,Nat.min_eq_left (by omega)]at hj
  obtain⟨k,hk⟩:∃k,j=i+1+k:=⟨j-i-1,by omega⟩;subst hk;rw[show i+1+k-i=k+1 by omega]at hj;simp only[List.getElem?_cons_succ]at hj;have l_:k<(xs.drop i).length:=(List.getElem?_eq_some_iff.1 hj).1;rw[World.cell?_setCells_out _ _ _ _ _ (fun _ _=>.inr (by show 0+i+1<=0+(i+1+k);omega))];have:=World.cell?_setCells_in b (xs.drop i) (0+(i+1)) w (fun k hk=>by rw[List.length_drop]at hk;have:=rV (i+1+k) (by omega);rwa[<-Nat.add_assoc]at this) k l_;rw[show 0+(i+1+k)=0+(i+1)+k by omega,this];rw[<-hj,List.getElem?_eq_getElem l_]
theorem Gn (w:World) (b i n:Nat) (xs:List Value) (u:Value) (cur:Array Value) (e:TypeId) (hl:xs.length=n) (hi:i<=n) (hb:ax w b e cur) (hs:n+1<=cur.size) (hc:∀j v,j<i->xs[j]?=some v->cur[j]?=some v) :
  ∀j v,(xs.take i++u::xs.drop i)[j]?=some v->((w.setCells b i [u]).drew.setCells b (i+1) (xs.drop i)).cell? ⟨b,0+j,none⟩=some v:=by
 intro j v hj;have rV:∀j,j<n+1->(w.cell? ⟨b,0+j,none⟩).isSome=true:=fun j hj=>by rw[Nat.zero_add,hb.cell,Array.getElem?_eq_getElem (by omega)];rfl
 have ab4:∀j,j<n+1->(w.cell? ⟨b,j,none⟩).isSome=true:=fun j hj=>by have:=rV j hj;rwa[Nat.zero_add]at this
 have rW:∀j,j<n+1->((w.setCells b i [u]).drew.cell? ⟨b,j,none⟩).isSome=true:=fun j hj =>
  isSome_setCells b [u] i w (fun k hk=>by
                       have:k=0:=by simpa using hk
                       subst this
                       exact ab4 i (by omega)) j (ab4 j hj)
 rw[Nat.zero_add];rcases Nat.lt_trichotomy j i with h|h|h
 ·rw[List.getElem?_append_left (by rw[List.length_take];omega),List.getElem?_take_of_lt h]at hj
  rw[World.cell?_setCells_out _ _ _ _ _ (fun _ _=>.inl (by show j<i+1;omega))];show(w.setCells b i [u]).cell? _=_;rw[World.cell?_setCells_out _ _ _ _ _ (fun _ _=>.inl (by show j<i;omega)),hb.cell];exact hc j v h hj
 ·subst h
  rw[List.getElem?_append_right (by rw[List.length_take];omega),List.length_take,Nat.min_eq_left (by omega)]at hj;simp at hj;subst hj;rw[World.cell?_setCells_out _ _ _ _ _ (fun _ _=>.inl (by show j<j+1;omega))];show(w.setCells b j [u]).cell? _=_
  have:=World.cell?_setCells_in b [u] j w (fun k hk=>by
   have:k=0:=by simpa using hk
   subst this
   exact ab4 j (by omega)) 0 (by simp)
  simpa using this
 ·rw[List.getElem?_append_right (by rw[List.length_take];omega),List.length_take,Nat.min_eq_left (by omega)]at hj
  obtain⟨k,hk⟩:∃k,j=i+1+k:=⟨j-i-1,by omega⟩;subst hk;rw[show i+1+k-i=k+1 by omega]at hj;simp only[List.getElem?_cons_succ]at hj;have l_:k<(xs.drop i).length:=(List.getElem?_eq_some_iff.1 hj).1;have:=World.cell?_setCells_in b (xs.drop i) (i+1) (w.setCells b i [u]).drew (fun k hk=>by rw[List.length_drop]at hk;exact rW (i+1+k) (by omega)) k l_;rw[this,<-hj,List.getElem?_eq_getElem l_]
theorem Qi (xs:List Value) (i n:Nat) (u:Value) (hl:xs.length=n) (hi:i<=n):(xs.take i++u::xs.drop i).length=(n+1)*1:=by
 simp;omega
theorem uD (z:Value) (hz:z.cells.size=1) (k:Nat):(Builtin.zeroCells z.cells k).size=k:=by rw[size_zeroCells,hz,Nat.mul_one]
theorem CY (i n:Nat) (hi:i<=n) (hn:n<100000) (base:Nat) (v:Value) (xs:List Value) (w:World) (aP:w.ownsRow base 9 1 v n xs) (h1c:∀u∈xs,u.oneCell'=true) (vb:Nat) (u:Value) (hu:u.oneCell'=true) (Vy:ax w vb 9 #[u]) (bQ:some vb≠v.ownBlock) (IJ:base<=w.heap.size) :
  Calls Tryz.prog 144 #[v,.int .i64 (i:Int),.slice (some ⟨vb,0,none⟩) 1 1] w (Ay base v w (xs.take i++u::xs.drop i) (n+1)):=by
 have Oz:∀j v,[u][j]?=some v->w.cell? ⟨vb,0+j,none⟩=some v:=fun j v hj=>by
  rw[Nat.zero_add,Vy.cell];simpa using hj
 have h1v:∀v ∈ [u],v.oneCell'=true:=fun v hv=>by simp at hv;subst hv;exact hu
 have hl:=aP.1;rw[Nat.mul_one]at hl;have eZ:=Qi xs i n u hl hi;rcases aP.2 with ⟨rfl,rfl⟩|⟨g,cap,cur,rfl,Bc,hg,OI,LU,xK,ht⟩
 ·have:i=0:=by omega
  subst this;have hx:xs = []:=List.eq_nil_of_length_eq_zero hl;subst hx;refine(Any2.slices_Insert_string_end_grow Tryz.pO none 0 0 vb 0 1 1 [] [u] w (by omega) (by omega) (by omega) (by omega) rfl rfl (fun _=>rfl) (fun a h=>by cases h) Oz h1v).mono ?_;rintro e w' ⟨he,rfl⟩;have Eu:=grownCap_ge w (0+1) 0 9;refine⟨_,_,he,⟨eZ,fun _=>⟨w.heap.size,0,rfl,by unfold Lo;omega,fun j x hx=>?_⟩⟩,Eu,(fun h=>by cases h),(ah.refl _ w).drew.alloc _⟩;simp only[Nat.zero_add];refine((ax.aS (b:=w.heap.size) w.drew _ _ rfl).cell j).trans ?_;rw[Array.getElem?_append_left (by have:=(List.getElem?_eq_some_iff.1 hx).1;simpa using this)];simpa using hx
 ·obtain⟨k1,k2,k3⟩:=xn (base:=base) hg xK ht
  unfold maxLen at LU;have Qy:g<w.heap.size:=by
   rcases Nat.lt_or_ge g w.heap.size with h|h
   ·exact h
   ·rw[Array.getElem?_eq_none h]at hg;cases hg
  have wy:vb≠g:=fun h=>bQ (by rw[h];rfl)
  have ab5:w.shape? g=some (9,cur.size):=by simp[World.shape?,hg]
  have ab6:w.shape? vb=some (9,1):=by unfold ax at Vy;simp[World.shape?,Vy]
  rcases Nat.lt_or_ge i n with bu|iC
  ·rcases Nat.lt_or_ge cap (n+1)with hr|hr
   ·refine(Any2.slices_Insert_string_grow Tryz.pO g 0 n cap i vb 0 1 1 xs [u] w bu (by omega) OI hr (by omega) hl rfl k1 Oz h1c h1v).mono ?_
    rintro e w' ⟨he,rfl⟩;have Eu:=grownCap_ge w (n+1) cap 9;refine⟨_,_,he,⟨eZ,fun _=>⟨w.heap.size,0,rfl,by unfold Lo;omega,?_⟩⟩,Eu,(fun h=>by cases h),(((((ah.refl _ w).alloc _).drew.setCells _ _ (.inr (Nat.le_refl _))).drew).setCells _ _ (.inr (Nat.le_refl _)))⟩;refine Gn _ w.heap.size i n xs u _ _ hl hi ((ax.aS (b:=w.heap.size) w _ _ rfl).drewN 1) ?_ ?_
    ·simp only[Array.size_append]
     rw[uD _ rfl,uD _ rfl];simp;show n+1<=_;have:n+1<=grownCap w (n+1) cap 9:=Eu;change n+1<=min i xs.length+(n+1-i)+(grownCap w (n+1) cap 9-(n+1));omega
    ·intro j x hj hx
     rw[Array.append_assoc,Array.getElem?_append_left (by simp;omega)];simp[List.getElem?_take_of_lt hj,hx]
   ·refine(Any2.slices_Insert_string_shift Tryz.pO g 0 n cap i vb 0 1 1 xs [u] w bu (by omega) hr (by omega) wy hl rfl k1 (fun j hj=>k2 j (by omega)) (fun j _=>k3 j) Oz h1c h1v 9 9 1 cur.size ab6 ab5 (by omega) (Vy.frozen 0) (Vy.frozen 1)).mono ?_
    rintro e w' ⟨he,rfl⟩;refine⟨_,_,he,⟨eZ,fun _=>⟨g,0,rfl,by unfold Lo;omega,?_⟩⟩,hr,(fun h=>by cases h),((ah.refl (fun b=>(Value.slice (some ⟨g,0,none⟩) n cap).ownBlock=some b) w).drew.setCells _ _ (.inl rfl)).setCells _ _ (.inl rfl)⟩;exact nX w.drew g i n xs u hl hi k1 (fun j hj=>k2 j (by omega))
  ·have:i=n:=by omega
   subst this;have ht':xs.take i=xs:=List.take_of_length_le (by omega);have Gf:xs.drop i = []:=List.drop_eq_nil_of_le (by omega);rcases Nat.lt_or_ge cap (i+1)with hr|hr
   ·refine(Any2.slices_Insert_string_end_grow Tryz.pO (some ⟨g,0,none⟩) i cap vb 0 1 1 xs [u] w (by omega) OI hr (by omega) hl rfl (fun h=>by cases h) (fun a h j x hx=>by
     injection h with h;subst h;have:=k1 j x hx;unfold Addr.add;split
     ·rename_i hj
      have:j=0:=by simpa using hj
      subst this;assumption
     ·exact this) Oz h1v).mono ?_
    rintro e w' ⟨he,rfl⟩;have Eu:=grownCap_ge w (i+1) cap 9;refine⟨_,_,he,⟨eZ,fun _=>⟨w.heap.size,0,rfl,by unfold Lo;omega,fun j x hx=>?_⟩⟩,Eu,(fun h=>by cases h),(ah.refl _ w).drew.alloc _⟩;simp only[Nat.zero_add];refine((ax.aS (b:=w.heap.size) w.drew _ _ rfl).cell j).trans ?_;rw[ht',Gf]at hx;rw[Array.getElem?_append_left (by have:=(List.getElem?_eq_some_iff.1 hx).1;simpa using this)];simpa using hx
   ·refine(Any2.slices_Insert_string_end_room Tryz.pO g 0 i cap vb 0 1 1 [u] w (by omega) hr (by omega) rfl (fun j hj=>by have:=k2 (i+j) (by omega);rwa[<-Nat.add_assoc]at this) (fun j hj=>by have:=k3 (i+j);rwa[<-Nat.add_assoc]at this) Oz h1v).mono ?_
    rintro e w' ⟨he,rfl⟩;refine⟨_,_,he,⟨eZ,fun _=>⟨g,0,rfl,by unfold Lo;omega,?_⟩⟩,hr,(fun h=>by cases h),(ah.refl (fun b=>(Value.slice (some ⟨g,0,none⟩) i cap).ownBlock=some b) w).setCells _ _ (.inl rfl)⟩;have:=nX w g i i xs u hl hi k1 (fun j hj=>k2 j (by omega));rw[Gf]at this ⊢;exact this
theorem Le (i n:Nat) (hi:i<=n) (hn:n<100000) (base:Nat) (v:Value) (xs:List Value) (w:World) (aP:w.ownsRow base 3 1 v n xs) (h1c:∀u∈xs,u.oneCell'=true) (vb:Nat) (u:Value) (hu:u.oneCell'=true) (Vy:ax w vb 3 #[u]) (bQ:some vb≠v.ownBlock) (IJ:base<=w.heap.size) :
  Calls Tryz.prog 145 #[v,.int .i64 (i:Int),.slice (some ⟨vb,0,none⟩) 1 1] w (Ay base v w (xs.take i++u::xs.drop i) (n+1)):=by
 have Oz:∀j v,[u][j]?=some v->w.cell? ⟨vb,0+j,none⟩=some v:=fun j v hj=>by
  rw[Nat.zero_add,Vy.cell];simpa using hj
 have h1v:∀v ∈ [u],v.oneCell'=true:=fun v hv=>by simp at hv;subst hv;exact hu
 have hl:=aP.1;rw[Nat.mul_one]at hl;have eZ:=Qi xs i n u hl hi;rcases aP.2 with ⟨rfl,rfl⟩|⟨g,cap,cur,rfl,Bc,hg,OI,LU,xK,ht⟩
 ·have:i=0:=by omega
  subst this;have hx:xs = []:=List.eq_nil_of_length_eq_zero hl;subst hx;refine(Any2.slices_Insert_int_end_grow Tryz.pQ none 0 0 vb 0 1 1 [] [u] w (by omega) (by omega) (by omega) (by omega) rfl rfl (fun _=>rfl) (fun a h=>by cases h) Oz h1v).mono ?_;rintro e w' ⟨he,rfl⟩;have Eu:=grownCap_ge w (0+1) 0 3;refine⟨_,_,he,⟨eZ,fun _=>⟨w.heap.size,0,rfl,by unfold Lo;omega,fun j x hx=>?_⟩⟩,Eu,(fun h=>by cases h),(ah.refl _ w).drew.alloc _⟩;simp only[Nat.zero_add];refine((ax.aS (b:=w.heap.size) w.drew _ _ rfl).cell j).trans ?_;rw[Array.getElem?_append_left (by have:=(List.getElem?_eq_some_iff.1 hx).1;simpa using this)];simpa using hx
 ·obtain⟨k1,k2,k3⟩:=xn (base:=base) hg xK ht
  unfold maxLen at LU;have Qy:g<w.heap.size:=by
   rcases Nat.lt_or_ge g w.heap.size with h|h
   ·exact h
   ·rw[Array.getElem?_eq_none h]at hg;cases hg
  have wy:vb≠g:=fun h=>bQ (by rw[h];rfl)
  have ab5:w.shape? g=some (3,cur.size):=by simp[World.shape?,hg]
  have ab6:w.shape? vb=some (3,1):=by unfold ax at Vy;simp[World.shape?,Vy]
  rcases Nat.lt_or_ge i n with bu|iC
  ·rcases Nat.lt_or_ge cap (n+1)with hr|hr
   ·refine(Any2.slices_Insert_int_grow Tryz.pQ g 0 n cap i vb 0 1 1 xs [u] w bu (by omega) OI hr (by omega) hl rfl k1 Oz h1c h1v).mono ?_
    rintro e w' ⟨he,rfl⟩;have Eu:=grownCap_ge w (n+1) cap 3;refine⟨_,_,he,⟨eZ,fun _=>⟨w.heap.size,0,rfl,by unfold Lo;omega,?_⟩⟩,Eu,(fun h=>by cases h),(((((ah.refl _ w).alloc _).drew.setCells _ _ (.inr (Nat.le_refl _))).drew).setCells _ _ (.inr (Nat.le_refl _)))⟩;refine Gn _ w.heap.size i n xs u _ _ hl hi ((ax.aS (b:=w.heap.size) w _ _ rfl).drewN 1) ?_ ?_
    ·simp only[Array.size_append]
     rw[uD _ rfl,uD _ rfl];simp;show n+1<=_;have:n+1<=grownCap w (n+1) cap 3:=Eu;change n+1<=min i xs.length+(n+1-i)+(grownCap w (n+1) cap 3-(n+1));omega
    ·intro j x hj hx
     rw[Array.append_assoc,Array.getElem?_append_left (by simp;omega)];simp[List.getElem?_take_of_lt hj,hx]
   ·refine(Any2.slices_Insert_int_shift Tryz.pQ g 0 n cap i vb 0 1 1 xs [u] w bu (by omega) hr (by omega) wy hl rfl k1 (fun j hj=>k2 j (by omega)) (fun j _=>k3 j) Oz h1c h1v 3 3 1 cur.size ab6 ab5 (by omega) (Vy.frozen 0) (Vy.frozen 1)).mono ?_
    rintro e w' ⟨he,rfl⟩;refine⟨_,_,he,⟨eZ,fun _=>⟨g,0,rfl,by unfold Lo;omega,?_⟩⟩,hr,(fun h=>by cases h),((ah.refl (fun b=>(Value.slice (some ⟨g,0,none⟩) n cap).ownBlock=some b) w).drew.setCells _ _ (.inl rfl)).setCells _ _ (.inl rfl)⟩;exact nX w.drew g i n xs u hl hi k1 (fun j hj=>k2 j (by omega))
  ·have:i=n:=by omega
   subst this;have ht':xs.take i=xs:=List.take_of_length_le (by omega);have Gf:xs.drop i = []:=List.drop_eq_nil_of_le (by omega);rcases Nat.lt_or_ge cap (i+1)with hr|hr
   ·refine(Any2.slices_Insert_int_end_grow Tryz.pQ (some ⟨g,0,none⟩) i cap vb 0 1 1 xs [u] w (by omega) OI hr (by omega) hl rfl (fun h=>by cases h) (fun a h j x hx=>by
     injection h with h;subst h;have:=k1 j x hx;unfold Addr.add;split
     ·rename_i hj
      have:j=0:=by simpa using hj
      subst this;assumption
     ·exact this) Oz h1v).mono ?_
    rintro e w' ⟨he,rfl⟩;have Eu:=grownCap_ge w (i+1) cap 3;refine⟨_,_,he,⟨eZ,fun _=>⟨w.heap.size,0,rfl,by unfold Lo;omega,fun j x hx=>?_⟩⟩,Eu,(fun h=>by cases h),(ah.refl _ w).drew.alloc _⟩;simp only[Nat.zero_add];refine((ax.aS (b:=w.heap.size) w.drew _ _ rfl).cell j).trans ?_;rw[ht',Gf]at hx;rw[Array.getElem?_append_left (by have:=(List.getElem?_eq_some_iff.1 hx).1;simpa using this)];simpa using hx
   ·refine(Any2.slices_Insert_int_end_room Tryz.pQ g 0 i cap vb 0 1 1 [u] w (by omega) hr (by omega) rfl (fun j hj=>by have:=k2 (i+j) (by omega);rwa[<-Nat.add_assoc]at this) (fun j hj=>by have:=k3 (i+j);rwa[<-Nat.add_assoc]at this) Oz h1v).mono ?_
    rintro e w' ⟨he,rfl⟩;refine⟨_,_,he,⟨eZ,fun _=>⟨g,0,rfl,by unfold Lo;omega,?_⟩⟩,hr,(fun h=>by cases h),(ah.refl (fun b=>(Value.slice (some ⟨g,0,none⟩) i cap).ownBlock=some b) w).setCells _ _ (.inl rfl)⟩;have:=nX w g i i xs u hl hi k1 (fun j hj=>k2 j (by omega));rw[Gf]at this ⊢;exact this
theorem DY (ks:List Bs) (i:Nat) (hi:i<ks.length) (base:Nat) (v:Value) (w:World) (aP:w.ownsRow base 9 1 v ks.length (aG ks)) :
  Calls Tryz.prog 151 #[v,.int .i64 (i:Int),.int .i64 ((i+1:Nat):Int)] w (Ay base v w (aG (ks.eraseIdx i)) (ks.length-1)):=by
 rcases aP.2 with ⟨_,h0⟩|⟨g,cap,cur,rfl,Bc,hg,OI,LU,xK,ht⟩
 ·omega
 obtain⟨k1,k2,k3⟩:=xn (base:=base) hg xK ht;unfold maxLen at LU;have bY:=aP.1;refine(Tryz.slices_Delete_string_cells g 0 ks.length cap i (i+1) (fun j=>au (ks.getD j [])) w OI (by omega) (by omega) (by omega) (fun j hj=>k1 j _ (by simp[aG,hj])) (fun j _=>k3 j)).mono ?_;rintro e w' ⟨he,q,rfl⟩;rw[show i+1-i=1 by omega]at he ⊢;have hso:Lib.strsOf (fun j=>au (ks.getD j [])) ks.length=ks:=by
  apply List.ext_getElem
  ·simp[Lib.strsOf]
  ·intro j h1 h2
   simp[Lib.strsOf,h2]
 have Oz:∀(l:List Bs),l.map encStr=aG l:=fun l=>rfl
 rw[hso,Oz];have hE:=(ah.refl (fun b=>(Value.slice (some ⟨g,0,none⟩) ks.length cap).ownBlock=some b) w).drewN q;refine⟨_,_,he,⟨by simp[aG,List.length_eraseIdx,hi],fun _=>⟨g,0,rfl,by unfold Lo;omega,fun j u hu=>?_⟩⟩,by omega,(fun h=>by cases h),hE.setCells _ _ (.inl rfl)⟩;have IG:j<(ks.eraseIdx i).length:=by have:=(List.getElem?_eq_some_iff.1 hu).1;simpa[aG]using this
 rw[List.eraseIdx_eq_take_drop_succ]at hu IG;have vJ:(aG (ks.take i++ks.drop (i+1)++List.replicate 1 [])).length=ks.length:=by simp[aG];omega
 have ZL:j<ks.length:=by simp at IG;omega
 have:=World.cell?_setCells_in g (aG (ks.take i++ks.drop (i+1)++List.replicate 1 [])) 0 (w.drewN q) (fun j hj=>k2 j (by omega)) j (by omega);rw[this,<-hu];rw[<-List.getElem?_eq_getElem (by omega)];simp only[aG,List.map_append];rw[List.getElem?_append_left (by simp at IG ⊢;omega)]
theorem Mm (ks:List Nat) (i:Nat) (hi:i<ks.length) (base:Nat) (v:Value) (w:World) (aP:w.ownsRow base 3 1 v ks.length (aK ks)) :
  Calls Tryz.prog 152 #[v,.int .i64 (i:Int),.int .i64 ((i+1:Nat):Int)] w (Ay base v w (aK (ks.eraseIdx i)) (ks.length-1)):=by
 rcases aP.2 with ⟨_,h0⟩|⟨g,cap,cur,rfl,Bc,hg,OI,LU,xK,ht⟩
 ·omega
 obtain⟨k1,k2,k3⟩:=xn (base:=base) hg xK ht;unfold maxLen at LU;have bY:=aP.1;refine(Tryz.slices_Delete_int_cells g 0 ks.length cap i (i+1) (ks.map (fun(k:Nat)=>(k:Int))) w (by simp) OI (by omega) (by omega) (by omega) (fun j hj=>k1 j _ (by simp at hj;simp[aK,hj])) (fun j _=>k3 j)).mono ?_;rintro e w' ⟨he,q,rfl⟩;rw[show i+1-i=1 by omega]at he ⊢;have Oz:((((ks.map (fun(k:Nat)=>(k:Int))).take ks.length).take i++((ks.map (fun(k:Nat)=>(k:Int))).take ks.length).drop (i+1)++List.replicate 1 0).map (Value.int .i64))=aK (ks.take i++ks.drop (i+1)++List.replicate 1 0):=by
  have hk:(ks.map (fun(k:Nat)=>(k:Int))).take ks.length=ks.map (fun(k:Nat)=>(k:Int)):=List.take_of_length_le (by simp);rw[hk];simp[aK,List.map_take,List.map_drop];rfl
 rw[Oz];have hE:=(ah.refl (fun b=>(Value.slice (some ⟨g,0,none⟩) ks.length cap).ownBlock=some b) w).drewN q;refine⟨_,_,he,⟨by simp[aK,List.length_eraseIdx,hi],fun _=>⟨g,0,rfl,by unfold Lo;omega,fun j u hu=>?_⟩⟩,by omega,(fun h=>by cases h),hE.setCells _ _ (.inl rfl)⟩;have IG:j<(ks.eraseIdx i).length:=by have:=(List.getElem?_eq_some_iff.1 hu).1;simpa[aK]using this
 rw[List.eraseIdx_eq_take_drop_succ]at hu IG;have vJ:(aK (ks.take i++ks.drop (i+1)++List.replicate 1 0)).length=ks.length:=by simp[aK];omega
 have ZL:j<ks.length:=by simp at IG;omega
 have:=World.cell?_setCells_in g (aK (ks.take i++ks.drop (i+1)++List.replicate 1 0)) 0 (w.drewN q) (fun j hj=>k2 j (by omega)) j (by omega);rw[this,<-hu];rw[<-List.getElem?_eq_getElem (by omega)];simp only[aK,List.map_append];rw[List.getElem?_append_left (by simp at IG ⊢;omega)]
def xc (K:Nat->Bs):Nat->Bs
 | 0=>[]
 | j+1=>xc K j++K (1+j)
theorem UQ {w:World}{b b2:Nat}{e:TypeId}{sz n:Nat}{v:Value}{xs:List Value}(h:w.ownsRow b e sz v n xs) (hb:b2<=b):w.ownsRow b2 e sz v n xs:=by
 refine⟨h.1,?_⟩;rcases h.2 with h0|⟨g,cap,cur,e1,h1,r⟩
 ·exact .inl h0
 ·exact .inr ⟨g,cap,cur,e1,by omega,r⟩
theorem Gq (cr:Bs->Nat):∀(ls:List (List (Nat×Bs))),ls.length<=(ls.flatMap fun l=>aM cr (aB l)).length
 | []=>Nat.le_refl _
 | l::ls=>by
  have:=Gq cr ls;rw[List.flatMap_cons,List.length_append,kX,List.length_cons];omega
theorem Ke {K:Nat->Bs}:∀(j:Nat),(∀i,i<j->(K (1+i)).length=64)->(xc K j).length=64*j
 | 0,_=>rfl
 | j+1,h=>by rw[xc,List.length_append,Ke j (fun i hi=>h i (by omega)),h j (by omega)];omega
theorem Cv {K:Nat->Bs}:∀(j:Nat),(∀i,i<j->(K (1+i)).length=64)->∀i,i<64*j->(xc K j)[i]?=(K (1+i / 64))[i%64]?
 | 0,_,i,hi=>by omega
 | j+1,h,i,hi=>by
  have hl:=Ke j (fun i hi=>h i (by omega));rw[xc]
  by_cases h1:i<64*j
  ·rw[List.getElem?_append_left (by omega)]
   exact Cv j (fun i hi=>h i (by omega)) i h1
  ·rw[List.getElem?_append_right (by omega),hl,show i / 64=j by omega,show i-64*j=i%64 by omega]
theorem Rq {K:Nat->Bs}{bytes:Bs}{j:Nat}(h:∀i,i<j->(K (1+i)).length=64) (hb:mR K bytes) (hj:bytes.length<=64*j):(xc K j).take bytes.length=bytes:=by
 apply List.ext_getElem?;intro i;rw[List.getElem?_take];split
 ·rename_i hi
  rw[Cv j h i (by omega)];exact hb i hi
 ·rename_i hi
  exact(List.getElem?_eq_none (by omega)).symm
theorem Uv {w:World}{D:Nat->Prop}{d kb:Nat}{k:Dk}(hd:aF w D d kb k) (tV:k.pd = []) (mX:k.down=false) (T:Nat->Nat) (hT:gJ w T) (h0D:0<w.heap.size) (m:Nat) (Al:2<=m) (Ua:m<=k.n) {ak:Nat}{bytes:Bs}{ls:List (List (Nat×Bs))}
  (hz:k.K 0=bZ (bT T) ak bytes.length) (Sy:mR k.K bytes) (Qz:bytes=ls.flatMap fun l=>aM (bT T) (aB l)) (gP:bytes.length<=64*(m-1)) (aX:∀l∈ls,(aB l).length<=65536) (he:ak<1152921504606846976) :
  Calls Tryz.prog 80 #[.pointer (some ⟨d,0,none⟩),.int .i64 0,.int .i64 (m:Int)] w fun e w'=>e=.returned (.tuple #[.pointer (some ⟨w.heap.size,0,none⟩),.int .i64 0])/\dM w' (New w w') w.heap.size d m ⟨ak,bytes,ls.map aB,[],false⟩/\ah No w w':=by
 have hn:=hd.n2;have h1:=hd.n1;have kV:k.pd.length<2^30:=by rw[tV];decide
 have Dm:∀w' ,ah (mf w) w w'->aF w' D d kb k:=fun w' e=>hd.ext e (fun b hb h1=>by have h2:w.heap.size<=b:=h1;have:=hd.old b hb;omega)
 have HDK:=aa Dm;have XF:Hid (∀w',ah (mf w) w w'->gJ w' T):=aa (fun w' e=>hT.ext e (fun h1=>by have h2:w.heap.size<=0:=h1;omega));have HS:=aa (fun w' (e:ah No w w')=>QJ (Dm w' e.of_no));have HW:=aa (fun w' (e:ah No w w')=>Jb (Dm w' e.of_no));rw[mX]at HW;have HR:=aa (fun i (hi:i<k.n) w' (e:ah (mf w) w w')=>Ja (Dm w' e) i hi kV mX);have HCU:Hid (∀i,k.cur i=k.K i):=aa (zo tV);have HP:=aa (fun w=>Tryz.strings_Repeat ⟨#[0]⟩ 64 w (by omega) (by show 1*64<=_;omega));have Di:(⟨(Lib.repeatL (⟨#[0]⟩:ByteArray).data.toList 64).toArray⟩:ByteArray)=au (zs 64):=uG 64;rw[Di]at HP;obtain⟨Z,hZ⟩:∃Z,Z=zs 64:=⟨_,rfl⟩;obtain⟨H,hH⟩:∃H,H=bZ (bT T) ak bytes.length:=⟨_,rfl⟩;obtain⟨N8,Ww⟩:∃N8,N8=n8 ak:=⟨_,rfl⟩;obtain⟨N4,Yl⟩:∃N4,N4=n4 bytes.length:=⟨_,rfl⟩;obtain⟨L,hL⟩:∃L,L=bytes.length:=⟨_,rfl⟩;have Gl:L<=64*(m-1):=by rw[hL];exact gP
 have hR0:=HR.out 0 (by omega);rw[HCU.out,hz,<-hH]at hR0;have HR0:=aa hR0;obtain⟨WU,Mk⟩:=OV (bT T) ak bytes.length;have bQ:=ZN (bT T) ak bytes.length;have HV8:=aa (fun w=>Hl N8 (by rw[Ww];exact Nat.le_of_eq rfl) w);rw[Ww,adI ak he,<-Ww]at HV8;have HV4:=aa (fun w=>Hl N4 (by rw[Yl,bX];decide) w);rw[Yl,aaQ bytes.length (by omega),<-Yl,<-hL]at HV4;have HHD:=aa (fun w' (e:ah (mf w) w w')=>Ij T w' (XF.out w' e) ak L he (by omega));rw[hL,<-hH,<-hL]at HHD;rw[<-hH,<-Ww]at WU;rw[<-hH,<-Yl]at Mk;rw[<-hH,<-hZ]at bQ;rw[<-hZ]at HP;have eZ:(au H).size=64:=by rw[az,hH,xJ]
 have ry:=aa (And.intro hz (And.intro Sy (And.intro Qz (And.intro gP aX))));have Jt:Hid (m<=k.n/\k.n<=65536):=aa ⟨Ua,hn⟩;have AJ:=aa hd.ES;have HKD:=aa hd;generalize Yb:k.n=n at *;have g1:¬((m:Int)<2):=by omega
 have g2:¬((n:Int)<m):=by omega
 have g3:((n:Int)==0)=false:=by simpa using (by omega:¬(n:Int)=0)
 have g4:¬((n:Int)<0):=by omega
 have HM:=aa (show 2<=m/\m<=65536 from⟨Al,by omega⟩);have Eg:=aa Gl;have lL:=aa hL;have HHE:=aa he;have Q0:=aa WU;have rz:=aa Mk;have HHS:=aa eZ;clear hd Di hz tV mX hT Sy Qz gP aX Dm hR0 hH Ww Yl hZ hL WU Mk he Gl Yb kV;go_enter Tryz.func80,Tryz.ntmps80;go_wp2_with (first|(go_at_call 93;refine(HS.out _ (ah.refl _ _)).mono ?_;rintro e w' ⟨rfl,rfl⟩)|(go_at_call 40;refine(HW.out _ (ah.refl _ _)).mono ?_;rintro e w' ⟨rfl,rfl⟩));have hb:=ax.new w 179 (gM d m);refine(HR0.out _ ((ah.refl _ _).alloc _)).mono ?_;rintro e w1 ⟨rfl,aT⟩;have hb1:=hb.ext aT (fun h=>h);go_wp2_with fail;refine(HP.out _).mono ?_;rintro e w2 ⟨rfl,aH⟩;have gG:=ah.of_below aH No;have ng:=aa (hb1.ext gG (fun h=>h));have dx:Hid (ah No w w2):=aa ((((ah.refl No w).alloc _).ag aT).ag gG);clear hb aT hb1 aH gG g1 g2 g3 g4;go_upto_region 11 with fail;have WU:=Q0.out;have Mk:=rz.out;have eZ:=HHS.out
 go_region_held3 (fun w'=>True) (trivial) (first
  | (go_at_call 121;with_reducible (refine(HV8.out _).mono ?_);rintro e w3 ⟨rfl,rfl⟩)
  | (go_at_call 121;with_reducible (refine(HV4.out _).mono ?_);rintro e w4 ⟨rfl,rfl⟩))
 clear WU Mk;have hw0:IntKind.i64.wrap ((m:Int)-1)=(m:Int)-1:=bA _ (by have:=HM.out;omega) (by have:=HM.out;omega);obtain⟨M,hM⟩:∃M,M=64*(m-1):=⟨_,rfl⟩;have vk:IntKind.i64.wrap (64*((m:Int)-1))=(M:Int):=by rw[show 64*((m:Int)-1)=(M:Int) by have:=HM.out;omega];exact bA _ (by omega) (by have:=HM.out;omega)
 have Nc:IntKind.u64.wrap (M:Int)=(M:Int):=wU _ (by have:=HM.out;omega);have Iu:IntKind.i64.wrap (ak:Int)=(ak:Int):=dJ _ (by have:=HHE.out;omega);have hw4:IntKind.i64.wrap (L:Int)=(L:Int):=dJ _ (by have:=Eg.out;have:=HM.out;omega);have ZF:¬((4611686018427387904:Int)<(ak:Int)):=by have:=HHE.out;omega
 have ZE:¬((M:Int)<(L:Int)):=by have:=Eg.out;omega
 have iF:Hid (ah No w w2.drew):=aa (dx.out.drew);clear hM;go_upto_region 14 with (go_at_call 122;refine(HHD.out _ iF.out.of_no).mono ?_;rintro e w5 ⟨rfl,bU⟩);have jl:Hid (ah No w w5):=aa (iF.out.ag bU);have AL:=aa ((ng.out.ext (ah.refl No w2).drew (fun h=>h)).ext bU (fun h=>h));obtain⟨x,hx⟩:∃x,x=w.heap.size:=⟨_,rfl⟩;rw[<-hx]at AL ⊢;have oF:=aa hx;have y3:=AL.out.cell 3;have f3:=AL.out.frozen 3;have lx:=AL.out.lt;simp[gM]at y3;obtain⟨W6,Fp⟩:∃W6,W6=w5.setCell ⟨x,3,none⟩ (.int .i64 (ak:Int)):=⟨_,rfl⟩;have Ha:=aa (show ax W6 x 179 #[.pointer (some ⟨d,0,none⟩),.int .i64 0,.int .i64 (m:Int),.int .i64 (ak:Int),.slice none 0 0,.slice none 0 0,.slice none 0 0,.bool false]from Fp▸(AL.out.aQ 3 _));have wP:Hid (ah (mf w) w W6):=aa (Fp▸ah.ay (F:=mf w) (jl.out.of_no) (b:=x) (show w.heap.size<=x by omega) _ _);obtain⟨NS,hNS⟩:∃NS,NS=(L+63) / 64:=⟨_,rfl⟩;have HNS:=aa hNS;clear bU hw0 vk Nc ZF ZE hx hNS;go_upto_region 15 with fail;rw[<-Fp];clear Fp y3 f3 lx;go_wp2_with fail;obtain⟨i0,mi,eQ,fe,eP⟩:=info_parts Tryz.Ot;go_loopg [13] NS (fun gk q13 wr=>∃(j i nb cb:Nat) (Ab:Option Addr),j+gk=NS/\q13=.int .i64 (i:Int)/\Hid (i=j+1)/\Hid (nb=64*j/\(j=0->Ab=none/\cb=0))/\Hid (ax wr x 179 #[.pointer (some ⟨d,0,none⟩),.int .i64 0,.int .i64 (m:Int),.int .i64 (ak:Int),.slice Ab nb cb,.slice none 0 0,.slice none 0 0,.bool false])/\Hid (wr.ownsRow (w.heap.size+1) 5 1 (.slice Ab nb cb) nb (dn (xc k.K j)))/\Hid (ah (mf w) w wr))
 case atStart=>exact⟨0,1,0,0,none,by omega,rfl,aa rfl,aa ⟨rfl,fun _=>⟨rfl,rfl⟩⟩,Ha,aa (World.ownsRow_nil _ _ _ _),wP⟩
 case round =>
  obtain⟨j,i,nb,cb,Ab,hj,rfl,HI,TJ,HB,HO,HX⟩:=hrel;have HJ:=aa hj;have c4:=HB.out.cell 4;have f4:=HB.out.frozen 4;have lx:=HB.out.lt;simp at c4
  by_cases bu:nb<L
  ·have iY:(nb:Int)<(L:Int):=by omega
   have hjN:j<NS:=by have:=HNS.out;have:=TJ.out.1;omega
   have HJN:=aa hjN;have iL:i<n:=by have:=HI.out;have:=HNS.out;have:=Eg.out;have:=Jt.out;have:=HM.out;omega
   have hr:=HR.out i iL wr HX.out;rw[HCU.out]at hr;have AV:(k.K i).length=64:=AJ.out i iL;obtain⟨S,hS⟩:∃S,S=k.K i:=⟨_,rfl⟩;rw[<-hS]at hr AV;have AB:=aa hr;have HSS:=aa hS;have yE:IntKind.i64.wrap ((i:Int)+1)=((i+1:Nat):Int):=by rw[show(i:Int)+1=((i+1:Nat):Int) by omega];exact bA _ (by omega) (by have:=Jt.out;omega)
   obtain⟨i2,Dw⟩:∃i2,i2=i+1:=⟨_,rfl⟩;rw[<-Dw]at yE;have HI2:=aa (show i2=(j+1)+1 by have:=HI.out;omega);have ZI:nb<5000000:=by have:=TJ.out.1;have:=Eg.out;have:=HM.out;omega
   have ah5:=aa ZI;clear hj hjN iL hr hS Dw bu ZI;go_wp2_with fail;refine(AB.out).mono ?_;rintro e w7 ⟨rfl,eX⟩;have JB:=aa (HB.out.ext eX (fun h=>h));have HO7:=aa (lH HO.out eX (fun _ _ h=>h));have nS:=aa (HX.out.ag eX.of_no);have c47:=JB.out.cell 4;have l7:=JB.out.lt;simp at c47;have ZA:w.heap.size+1<=w7.heap.size:=by have:=oF.out;omega
   have ZI:=ah5.out;clear eX c4 f4 lx;go_wp2_with (at_builtin;refine Lib.wpList_append_own_string _ (by rfl) _ _ 98 9 (by rfl) (w.heap.size+1) 5 i0 Tryz.underlying98 Tryz.underlying9 mi eQ fe eP (.slice Ab nb cb) nb (dn (xc k.K j)) (by rfl) HO7.out (au S) (by rfl) (by rw[az];unfold maxLen;omega) (by rw[az];omega) ZA ?_);intro v' w8 Lv hg8 _;obtain⟨A8,c8,hv⟩:=jo Lv;subst hv;rw[qB]at Lv;obtain⟨n8',Qu⟩:∃n8',n8'=nb+64:=⟨_,rfl⟩;rw[<-Qu]at Lv ⊢;have HN8:Hid (n8'=64*(j+1)):=aa (by rw[Qu,TJ.out.1];omega);have kK:ah (fun b=>w.heap.size+1<=b) w7 w8:=(ah.refl _ _).grown hg8 (fun g hg=>.inl (HO7.out.lt g hg |>.1));have JR:=aa (JB.out.ext kK (fun h1=>by have h2:w.heap.size+1<=x:=h1;have:=oF.out;omega));have MU:Hid (ah (mf w) w w8):=aa (nS.out.ag (kK.mono (fun b _ h1=>by have h2:w.heap.size+1<=b:=h1;show w.heap.size<=b;omega)))
   have HO8:Hid (w8.ownsRow (w.heap.size+1) 5 1 (.slice A8 n8' c8) n8' (dn (xc k.K (j+1)))):=aa (by
    have e:dn (xc k.K j)++dn S=dn (xc k.K (j+1)):=by rw[<-iO,HSS.out,HI.out,xc,Nat.add_comm j 1]
    rw[<-e];exact Lv)
   have q4:=JR.out.cell 4;have f8:=JR.out.frozen 4;have l8:=JR.out.lt;simp at q4;have En:=aa (JR.out.aQ 4 (.slice A8 n8' c8));have HO9:Hid ((w8.setCell ⟨x,4,none⟩ (.slice A8 n8' c8)).ownsRow (w.heap.size+1) 5 1 (.slice A8 n8' c8) n8' (dn (xc k.K (j+1)))):=aa (ownsRow_setCell_other HO8.out (by intro e;exact gZ HO8.out (show x<w.heap.size+1 by have:=oF.out;omega) e.symm) _);have qY:Hid (ah (mf w) w (w8.setCell ⟨x,4,none⟩ (.slice A8 n8' c8))):=aa (ah.ay (F:=mf w) MU.out (b:=x) (show w.heap.size<=x by have:=oF.out;omega) _ _);clear Lv hg8 kK Qu c47 l7 ZA ZI;go_wp2_with fail;go_roundg (gk-1)
   case rel=>exact⟨j+1,i2,n8',c8,A8,by have:=HJ.out;have:=HJN.out;omega,by go_num,HI2,aa ⟨HN8.out,fun h=>by omega⟩,En,HO9,qY⟩
   case measure=>have:=HJ.out;have:=HJN.out;omega
  ·have iC:¬((nb:Int)<(L:Int)):=by omega
   have hjk:∀i,i<j->(k.K (1+i)).length=64:=fun i hi=>AJ.out (1+i) (by have:=HNS.out;have:=Eg.out;have:=Jt.out;have:=HM.out;omega)
   obtain⟨_,Sy,Qz,_,aX⟩:=ry.out;have ab7:=Rq hjk Sy (by rw[<-lL.out];have:=TJ.out.1;omega);rw[<-lL.out]at ab7;have afn:=aa ab7;have YK:=aa Qz;have XN:=aa aX;have ajG:(L:Int)<=(nb:Int):=by omega
   have hL0:(0:Int)<=(L:Int):=by omega
   -- the bytes,cut;as a string
   have hAX:∃(Ac:Option Addr) (cc:Nat),(∀W,(Instr.slice 98 (.slice Ab nb cb) none (some (.int .u64 (L:Int))) (some (.int .u64 (L:Int)))).run Tryz.prog W=.ok (.slice Ac L cc) W)/\(L=0->Ac=none/\cc=0) /\
     (∀W,ah (On x) wr W->(convert 98 9 (.slice Ac L cc)).run Tryz.prog W=.ok (.string (au bytes)) W):=by
    by_cases hL:L=0
    ·have hj0:j=0:=by have:=HNS.out;have:=HJ.out;omega
     obtain⟨rfl,rfl⟩:=TJ.out.2 hj0;have agN:nb=0:=by rw[TJ.out.1,hj0]
     have O0:bytes = []:=List.eq_nil_of_length_eq_zero (by rw[<-lL.out];exact hL);subst agN;refine⟨none,0,fun W=>?_,fun _=>⟨rfl,rfl⟩,fun W _=>?_⟩
     ·rw[hL]
      simp[Instr.slice,run_underlying Tryz.underlying98,asIntOf,go_sem]
     ·rw[hL,O0]
      rw[run_convert_bytes_string (P:=Tryz.prog) W 98 9 5 none 0 0 Tryz.underlying98 Tryz.underlying5 Tryz.underlying9];rfl
    ·have Sj:0<nb:=by omega
     obtain⟨g,rfl,Bb,kL,Eu,iN⟩:=sW HO.out Sj;refine⟨some ⟨g,0,none⟩,L,fun W=>?_,fun h=>absurd h hL,fun W hW=>?_⟩
     ·have h1:(L:Int)<=(cb:Int):=by omega
      simp[Instr.slice,run_underlying Tryz.underlying98,asIntOf,go_sem,h1]
     ·have h1:=run_convert_bytes_back (P:=Tryz.prog) W 98 9 5 ⟨g,0,none⟩ L bytes Tryz.underlying98 Tryz.underlying5 Tryz.underlying9 (fun t ht=>by
       rw[Addr.iP,Nat.zero_add];refine aj hW (iN t _ ?_) (fun e=>by have e1:g=x:=e;have:=oF.out;omega);have h2:(xc k.K j)[t]?=some bytes[t]:=by
        rw[Cv j hjk t (by have:=TJ.out.1;have:=lL.out;omega),Sy t ht,List.getElem?_eq_getElem ht]
       unfold dn
       rw[List.getElem?_map,h2];rfl)
      rw[<-lL.out]at h1;exact h1
   clear Sy Qz aX ab7 hj;obtain⟨Ac,cc,AV,ae5,QD⟩:=hAX;have HCV:=aa QD;have HAC:=aa ae5;have adC:=aa (HB.out.aQ 4 (.slice Ac L cc));have oJ:ah (On x) wr (wr.setCell ⟨x,4,none⟩ (.slice Ac L cc)):=ah.ay (F:=On x) (ah.refl _ _) (b:=x) (show On x x from rfl) _ _;have Fy:Hid (ah (mf w) w (wr.setCell ⟨x,4,none⟩ (.slice Ac L cc))):=aa (ah.ay (F:=mf w) HX.out (b:=x) (show w.heap.size<=x by have:=oF.out;omega) _ _);have aeC:=HCV.out _ oJ;clear QD ae5 oJ;go_upto_region 21 with fail;generalize wr.setCell ⟨x,4,none⟩ (.slice Ac L cc)=W10 at *;have d4:=adC.out.cell 4;have ld:=adC.out.lt;simp at d4;clear c4 f4 lx;go_wp2_with fail;clear aeC d4 ld;obtain⟨i9,abZ,VC,VB,VA⟩:=info_parts Tryz.Ak;go_loopg [16] ls.length (fun gk q16 wz=>∃(j nr cr:Nat) (Ar:Option Addr),j+gk=ls.length/\q16=.string (au ((ls.drop j).flatMap fun l=>aM (bT T) (aB l)))/\Hid (nr=j)/\Hid (ax wz x 179 #[.pointer (some ⟨d,0,none⟩),.int .i64 0,.int .i64 (m:Int),.int .i64 (ak:Int),.slice Ac L cc,.slice Ar nr cr,.slice none 0 0,.bool false])/\Hid (wz.ownsRow (w.heap.size+1) 9 1 (.slice Ar nr cr) nr (iU ((ls.take j).map aB)))/\Hid (ah (mf w) w wz))
   case atStart=>exact⟨0,0,0,none,by omega,by rw[List.drop_zero,<-YK.out],aa rfl,adC,aa (World.ownsRow_nil _ _ _ _),Fy⟩
   case round =>
    obtain⟨j2,nr,cr,Ar,ZL,rfl,uA,HBz,HOz,HXz⟩:=hrel;have HJ2:=aa ZL;have e5:=HBz.out.cell 5;have fe5:=HBz.out.frozen 5;have le5:=HBz.out.lt;simp at e5
    by_cases iK:j2<ls.length
    ·obtain⟨l,hl⟩:∃l,ls[j2]?=some l:=⟨_,List.getElem?_eq_getElem iK⟩
     obtain⟨rest,VH⟩:∃rest,rest=(ls.drop (j2+1)).flatMap fun l=>aM (bT T) (aB l):=⟨_,rfl⟩
     obtain⟨rec,kU⟩:∃rec,rec=aB l:=⟨_,rfl⟩;have yF:(ls.drop j2).flatMap (fun l=>aM (bT T) (aB l))=aM (bT T) rec++rest:=by
      rw[List.drop_eq_getElem_cons iK,List.flatMap_cons,VH,kU,(List.getElem?_eq_some_iff.1 hl).2]
     rw[yF];have T9:rec.length<=65536:=by rw[kU];exact XN.out l (List.mem_of_getElem? hl)
     have oN:(aM (bT T) rec++rest).length<=L:=by
      rw[<-yF,lL.out,YK.out]
      conv=>rhs;rw[<-List.take_append_drop j2 ls,List.flatMap_append,List.length_append]
      omega
     have hUN:=JZ T wr (XF.out wr HXz.out) rec rest T9 (by have:=Eg.out;have:=HM.out;omega);have hBd:(aM (bT T) rec++rest).drop (rec.length+8)=rest:=List.drop_left' (by rw[kX]);have hBl:rec.length+8<=(aM (bT T) rec++rest).length:=by rw[List.length_append,kX];omega
     obtain⟨B,hB⟩:∃B,B=aM (bT T) rec++rest:=⟨_,rfl⟩;rw[<-hB]at hUN hBd hBl oN ⊢;have bQ:B.isEmpty=false:=by
      cases B with
      | nil=>simp at hBl
      | cons _ _=>rfl
     obtain⟨q,hq⟩:∃q,q=rec.length+8:=⟨_,rfl⟩;rw[<-hq]at hUN hBd hBl;obtain⟨lb,OM⟩:∃lb,lb=B.length:=⟨_,rfl⟩;have hsB:(au B).size=lb:=by rw[az,OM]
     have hxB:(au B).extract q lb=au rest:=by
      have:=nk B q;rw[<-OM,hBd]at this;exact this
     have ZF:(q:Int)<=(lb:Int):=by omega
     have hq0:(0:Int)<=(q:Int):=by omega
     have HUN:=aa hUN;have Nu:=aa VH;have HSN:Hid ((ls.take (j2+1)).map aB=(ls.take j2).map aB ++ [rec]):=aa (by rw[List.take_add_one,hl,Option.toList_some,List.map_append,kU];rfl);have Si:nr<5000000:=by
      have h1:=Gq (bT T) ls;rw[<-YK.out,<-lL.out]at h1;have h2:=uA.out;have:=Eg.out;have:=HM.out;omega
     have ah0:=aa Si;have afA:=aa iK;clear yF T9 oN hBd hBl hB hq OM VH kU hl ZL iK hUN Si;go_wp2_with fail;refine(HUN.out).mono ?_;rintro e PW ⟨rfl,ve⟩;have adB:=aa (HBz.out.ext ve (fun h=>h));have afw:=aa (lH HOz.out ve (fun _ _ h=>h));have nU:=aa (HXz.out.ag ve.of_no);have afa:=adB.out.cell 5;have l20:=adB.out.lt;simp at afa;have adV:w.heap.size+1<=PW.heap.size:=by have:=oF.out;omega
     have Si:=ah0.out;have m26:nr+1<=maxLen:=by unfold maxLen;omega
     have m36:(nr+1)*16<=140737488355328:=by omega
     have m66:∀o,w.heap.size+1<=(PW.alloc o).heap.size:=(fun o=>by simp;omega);have m76:∀o,(PW.alloc o).heap.size=PW.heap.size+1:=(fun o=>by simp);clear ve e5 fe5 le5;go_wp2_with (at_builtin;refine wpList_append_lies _ (by rfl) _ _ 38 (by rfl) (w.heap.size+1) 9 i9 (.string ⟨#[]⟩) 1 16 Tryz.underlying38 abZ VC VB VA (by rfl) (by decide) (.slice Ar nr cr) nr (iU ((ls.take j2).map aB)) (by rfl) (by exact afw.out.alloc _) ⟨PW.heap.size,0,none⟩ 1 1 [.string (au rec)] (by rfl) (by rfl) (by exact World.news_of_block (cs:=#[.string (au rec)]) (t:=9) (fr:=(0,0)) (heap_alloc_new PW _)) (by simp[Value.oneCell']) (by decide) m26 m36 (by exact m66 _) (PW.heap.size+1) (by exact m76 _) ?_);intro g21 GQ w21 OH aeu aeR aef;have Iq:ah (fun b=>w.heap.size+1<=b) PW w21:=((ah.refl (fun b=>w.heap.size+1<=b) PW).alloc _).grown aeu (fun g hg=>.inl (afw.out.lt g hg |>.1));obtain⟨n21,acm⟩:∃n21,n21=nr+1:=⟨_,rfl⟩;rw[<-acm]at OH ⊢;have ah6:Hid (n21=j2+1):=aa (by rw[acm,uA.out]);have aaN:=aa (adB.out.ext Iq (fun h1=>by have h2:w.heap.size+1<=x:=h1;have:=oF.out;omega));have Pz:Hid (ah (mf w) w w21):=aa (nU.out.ag (Iq.mono (fun b _ h1=>by have h2:w.heap.size+1<=b:=h1;show w.heap.size<=b;omega)))
     have afv:Hid (w21.ownsRow (w.heap.size+1) 9 1 (.slice (some ⟨g21,0,none⟩) n21 GQ) n21 (iU ((ls.take (j2+1)).map aB))):=aa (by
      rw[HSN.out];have e:iU ((ls.take j2).map aB ++ [rec])=iU ((ls.take j2).map aB) ++ [.string (au rec)]:=by simp[iU]
      rw[e]
      simpa using OH)
     have q5:=aaN.out.cell 5;have f21:=aaN.out.frozen 5;have l21:=aaN.out.lt;simp at q5;have aiF:=aa (aaN.out.aQ 5 (.slice (some ⟨g21,0,none⟩) n21 GQ));have ahZ:Hid ((w21.setCell ⟨x,5,none⟩ (.slice (some ⟨g21,0,none⟩) n21 GQ)).ownsRow (w.heap.size+1) 9 1 (.slice (some ⟨g21,0,none⟩) n21 GQ) n21 (iU ((ls.take (j2+1)).map aB))):=aa (ownsRow_setCell_other afv.out (by intro e;exact gZ afv.out (show x<w.heap.size+1 by have:=oF.out;omega) e.symm) _);have ac4:Hid (ah (mf w) w (w21.setCell ⟨x,5,none⟩ (.slice (some ⟨g21,0,none⟩) n21 GQ))):=aa (ah.ay (F:=mf w) Pz.out (b:=x) (show w.heap.size<=x by have:=oF.out;omega) _ _);clear OH aeu aeR aef Iq acm afa l20 adV Si m26 m36 m66 m76;go_wp2_with fail;go_roundg (gk-1)
     case rel=>exact⟨j2+1,n21,GQ,some ⟨g21,0,none⟩,by have:=HJ2.out;have:=afA.out;omega,by rw[<-Nu.out],ah6,aiF,ahZ,ac4⟩
     case measure=>have:=HJ2.out;have:=afA.out;omega
    ·have Ff:(ls.drop j2).flatMap (fun l=>aM (bT T) (aB l)) = []:=by rw[List.drop_eq_nil_of_le (by omega)];rfl
     have HTK:Hid (ls.take j2=ls):=aa (List.take_of_length_le (by omega));have HJE:Hid (nr=(ls.map aB).length):=aa (by rw[uA.out,List.length_map];omega);rw[Ff]
     have zG:Hid (dM wr (New w wr) x d m ⟨ak,bytes,ls.map aB,[],false⟩):=aa (by
      have h1:=HBz.out;have h2:=HOz.out;rw[HTK.out]at h2;have h3:=HJE.out;have h4:=lL.out;subst h3;refine⟨⟨Ac,cc,Ar,cr,?_,⟨?_,fun g hg=>?_⟩,fun hb=>HAC.out (by rw[h4];have xL:bytes = []:=hb;rw[xL];rfl)⟩,rfl,⟨by have:=oF.out;omega,h1.lt⟩,fun b hb=>hb.2,HM.out.1,HM.out.2⟩
      ·rw[h4]at h1;exact h1
      ·exact UQ h2 (Nat.zero_le _)
      ·have:=h2.lt g hg
       exact⟨⟨by omega,this.2⟩,by have:=oF.out;omega⟩)
     clear ZL iK Ff;go_wp2_with fail;go_ret2;have hxe:=oF.out;subst hxe;exact⟨rfl,zG.out,HXz.out.since⟩
theorem JW {w:World}{D:Nat->Prop}{d kb:Nat}{k:Dk}(hd:aF w D d kb k) (tV:k.pd = []) (mX:k.down=false) (T:Nat->Nat) (hT:gJ w T) (m:Nat) (Al:2<=m) (Ua:m<=k.n) {ak:Nat}{bytes:Bs}{ls:List (List (Nat×Bs))}
  (df:rO (bT T) k.K ak bytes ls) (gP:bytes.length<=64*(m-1)) (aX:∀l∈ls,(aB l).length<=65536) (he:ak<1152921504606846976) :
  Calls Tryz.prog 80 #[.pointer (some ⟨d,0,none⟩),.int .i64 0,.int .i64 (m:Int)] w fun e w'=>e=.returned (.tuple #[.pointer (some ⟨w.heap.size,0,none⟩),.int .i64 0])/\dM w' (New w w') w.heap.size d m ⟨ak,bytes,ls.map aB,[],false⟩/\ah No w w':=by
 rcases df.hd with hz|⟨hz,rfl,rfl,rfl⟩
 ·exact Uv hd tV mX T hT (World.block_lt_of_cell? w _ (hT.cell 0 (by decide))) m Al Ua hz df.by_ df.en gP aX he
 ·exact Uu hd tV mX m Al Ua hz
#print axioms JW
end Go.Proofs.YtccnemmlkcmceaaGreatDoor
namespace Go.Proofs.YtccnemmlkcmceaaGreatDoor
open Go.RowKit Go.BigFrame
section
variable {w:World}{D:Nat->Prop}{x d m:Nat}{l:Lg}
theorem dM.c (h:dM w D x d m l):∃Ab cb Ar cr,ax w x 179 (l.cells d m Ab cb Ar cr none 0)/\w.cell? ⟨x,0,none⟩=some (.pointer (some ⟨d,0,none⟩))/\w.cell? ⟨x,1,none⟩=some (.int .i64 0)/\w.cell? ⟨x,2,none⟩=some (.int .i64 (m:Int)) /\
  w.cell? ⟨x,3,none⟩=some (.int .i64 (l.ak:Int))/\w.cell? ⟨x,4,none⟩=some (.slice Ab l.bytes.length cb)/\w.cell? ⟨x,5,none⟩=some (.slice Ar l.recs.length cr)/\w.cell? ⟨x,6,none⟩=some (.slice none l.pend.length 0)/\w.cell? ⟨x,7,none⟩=some (.bool l.lost) /\
  x<w.heap.size/\(∀i,w.frozen? ⟨x,i,none⟩=false):=by
 obtain⟨Ab,cb,Ar,cr,h1,_,_⟩:=h.cells;exact⟨Ab,cb,Ar,cr,h1,h1.cell 0,h1.cell 1,h1.cell 2,h1.cell 3,h1.cell 4,h1.cell 5,h1.cell 6,h1.cell 7,h1.lt,fun i=>h1.frozen i⟩
theorem dM.ext {w':World}{F:Nat->Prop}(h:dM w D x d m l) (hx:ah F w w') (hF:∀b,D b->¬F b):dM w' D x d m l:=by
 obtain⟨Ab,cb,Ar,cr,h1,h2,h3⟩:=h.cells;exact⟨⟨Ab,cb,Ar,cr,h1.ext hx (hF x h.xx),h2.ext hx (fun b hb _=>hF b hb),h3⟩,h.pe,h.xx,fun b hb=>Nat.lt_of_lt_of_le (h.old b hb) hx.size,h.m1,h.m2⟩
theorem dM.full (h:dM w D x d m l) (hb:l.bytes = []):dW w D x d m l:=by
 obtain⟨Ab,cb,Ar,cr,h1,h2,h3⟩:=h.cells;obtain⟨rfl,rfl⟩:=h3 hb;have hp:=h.pe;refine⟨⟨none,0,Ar,cr,none,0,h1,?_,h2,?_,fun g _=>by rw[hp];intro e;cases e⟩,h.xx,h.old,h.m1,h.m2⟩
 ·rw[hb];exact⟨⟨rfl,.inl ⟨rfl,rfl⟩⟩,fun g hg=>by cases hg⟩
 ·rw[hp];exact⟨⟨rfl,.inl ⟨rfl,rfl⟩⟩,fun g hg=>by cases hg⟩
theorem KY (h:dM w D x d m l):Calls Tryz.prog 109 #[.pointer (some ⟨x,0,none⟩)] w fun e w'=>e=.returned (.bool false)/\w=w':=by
 obtain⟨Ab,cb,Ar,cr,_,c0,_,_,_,_,_,_,_,bu,_⟩:=h.c;clear h;go_enter Tryz.func109,Tryz.ntmps109;go_wp2_with fail;go_ret;exact⟨rfl,rfl⟩
theorem abN (h:dM w D x d m l):Calls Tryz.prog 112 #[.pointer (some ⟨x,0,none⟩)] w fun e w'=>e=.returned (.int .i64 (if l.lost then 10 else 0))/\w=w':=by
 have HN:=aa (KY h);obtain⟨Ab,cb,Ar,cr,_,_,_,_,_,_,_,_,c7,bu,_⟩:=h.c;clear h;cases hd:l.lost
 ·rw[hd]at c7
  go_enter Tryz.func112,Tryz.ntmps112;go_wp2_with (go_at_call 109;refine(HN.out).mono ?_;rintro e w' ⟨rfl,rfl⟩);go_ret;exact⟨rfl,rfl⟩
 ·rw[hd]at c7
  go_enter Tryz.func112,Tryz.ntmps112;go_wp2_with (go_at_call 109;refine(HN.out).mono ?_;rintro e w' ⟨rfl,rfl⟩);go_ret;exact⟨rfl,rfl⟩
end
theorem Ae {w:World}{D:Nat->Prop}{x d m:Nat}{l:Lg}(h:dM w D x d m l) (hn:l.recs.length<100000) :
  Calls Tryz.prog 81 #[.pointer (some ⟨x,0,none⟩)] w (zu 9 1 w (iU l.recs) l.recs.length):=by
 have HN:=aa (KY h);obtain⟨Ab,cb,Ar,cr,hb,or_,_⟩:=h.cells;have HC:=aa (gY ⟨Ar,l.recs.length,cr,iU l.recs⟩ w (or_.part (fun u hu=>by obtain⟨s,_,rfl⟩:=List.mem_map.1 hu;rfl)) hn);simp only[dC.v]at HC;have c5:w.cell? ⟨x,5,none⟩=some (.slice Ar l.recs.length cr):=hb.cell 5;have bu:=hb.lt;obtain⟨Q,hQ⟩:∃Q,Q=zu 9 1 w (iU l.recs) l.recs.length:=⟨_,rfl⟩;rw[<-hQ];have HQ:=aa hQ;clear h or_ hb hn hQ;go_enter Tryz.func81,Tryz.ntmps81;go_wp2_with fail;refine(HN.out).mono ?_;rintro e w1 ⟨rfl,rfl⟩;go_wp2_with fail;refine(HC.out).mono ?_;rintro e w2 ⟨A',c',rfl,ho,hx⟩;have HD:Hid (Q (.returned (.slice A' l.recs.length c')) w2):=aa (by rw[HQ.out];exact⟨A',c',rfl,ho,hx⟩);clear ho hx;go_wp2_with fail;exact HD.out
end Go.Proofs.YtccnemmlkcmceaaGreatDoor
namespace Go.Proofs.YtccnemmlkcmceaaGreatDoor
open Go.RowKit
section
variable {w:World}{D:Nat->Prop}{x d m:Nat}{l:Lg}
theorem dM.U3 (h:dM w D x d m l) (b:Bool):dM (w.setCell ⟨x,7,none⟩ (.bool b)) D x d m { l with lost:=b }:=by
 have hx:ah (On x) w (w.setCell ⟨x,7,none⟩ (.bool b)):=(ah.refl _ _).ay (F:=On x) rfl 7 _;obtain⟨Ab,cb,Ar,cr,h1,h3,h4⟩:=h.cells;exact⟨⟨Ab,cb,Ar,cr,h1.aQ 7 _,h3.ext hx (fun b _ bQ=>bQ),h4⟩,h.pe,h.xx,fun b hb=>Nat.lt_of_lt_of_le (h.old b hb) hx.size,h.m1,h.m2⟩
theorem dM.anew (h:dM w D x d m l):dM (((w.setCell ⟨x,3,none⟩ (.int .i64 ((l.ak:Int)+1))).setCell ⟨x,4,none⟩ (.slice none 0 0)).setCell ⟨x,5,none⟩ (.slice none 0 0)) D x d m { l with ak:=l.ak+1,bytes:=[],recs:=[] }:=by
 obtain⟨Ab,cb,Ar,cr,h1,h3,h4⟩:=h.cells;have hx:ah (On x) w (((w.setCell ⟨x,3,none⟩ (.int .i64 ((l.ak:Int)+1))).setCell ⟨x,4,none⟩ (.slice none 0 0)).setCell ⟨x,5,none⟩ (.slice none 0 0)):=(((ah.refl _ _).ay (F:=On x) rfl 3 _).ay (F:=On x) rfl 4 _).ay (F:=On x) rfl 5 _;exact⟨⟨none,0,none,0,((h1.aQ 3 _).aQ 4 _).aQ 5 _,⟨⟨rfl,.inl ⟨rfl,rfl⟩⟩,fun g hg=>by cases hg⟩,fun _=>⟨rfl,rfl⟩⟩,h.pe,h.xx,fun b hb=>Nat.lt_of_lt_of_le (h.old b hb) hx.size,h.m1,h.m2⟩
theorem Va (h:dM w D x d m l) (c:Nat) (hl:l.lost=false):Calls Tryz.prog 115 #[.pointer (some ⟨x,0,none⟩),.int .i64 (c:Int)] w fun e w'=>e=.returned (.int .i64 (c:Int))/\dM w' D x d m { l with lost:=decide (c≠0) }/\ah (On x) w w':=by
 have HL:=aa h.U3;obtain⟨Ab,cb,Ar,cr,_,_,_,_,_,_,_,_,c7,bu,xI⟩:=h.c;have f7:=xI 7;rw[hl]at c7;clear h xI
 by_cases hc:c=0
 ·subst hc
  go_enter Tryz.func115,Tryz.ntmps115;go_wp2_with fail;go_ret;exact⟨rfl,HL.out false,(ah.refl _ _).ay (F:=On x) rfl 7 _⟩
 ·have OY:((c:Int) != 0)=true:=by simp;omega
  have e:decide (c≠0)=true:=by simp[hc]
  rw[e];clear hc e;go_enter Tryz.func115,Tryz.ntmps115;go_wp2_with fail;go_ret;exact⟨rfl,HL.out true,(ah.refl _ _).ay (F:=On x) rfl 7 _⟩
end
theorem RV {w:World}{D Dd:Nat->Prop}{x d m kb:Nat}{l:Lg}{k:Dk}{T:Nat->Nat}(h:dM w D x d m l) (hd:aF w Dd d kb k) (hT:gJ w T) (xM:∀b,D b->¬Dd b) (hk:k.eD (2^29)) (ak len:Nat) (he:ak<2^60) (hl:len<2^32) :
  Calls Tryz.prog 117 #[.pointer (some ⟨x,0,none⟩),.int .i64 (ak:Int),.int .i64 (len:Int)] w fun e w'=>e=.returned (.int .i64 ((k.aO (bT T) ak len).1:Int))/\aF w' (bz Dd w w') d kb (k.aO (bT T) ak len).2/\ah Dd w w':=by
 obtain⟨H,hH⟩:∃H,H=bZ (bT T) ak len:=⟨_,rfl⟩;have HHD:=aa (fun w hT=>Ij T w hT ak len he hl);rw[<-hH]at HHD;have bY:H.length=64:=by rw[hH];exact xJ _ _ _
 have e0:k.aO (bT T) ak len=if (k.write 0 H).1≠0 then k.write 0 H else (k.write 0 H).2.flush:=by unfold Dk.aO;rw[hH]
 rw[e0];have lY:0<k.n:=hd.n1;have HW:=aa (fun(w:World) (hd:aF w Dd d kb k)=>xY hd 0 lY H (by omega) (by have:=hk.1;omega) (by have:=hk.2.1;omega) (by have:=hk.2.2;omega));have j_:=Dk.kM hk 0 H;have HF:=aa (fun(w:World) (D:Nat->Prop) (hd:aF w D d kb (k.write 0 H).2)=>uj hd (by have:=j_.1;omega) (by have:=j_.2.1;omega) (by have:=j_.2.2;omega));have HL:=aa h;have gF:=aa hd;have XF:=aa hT;have Q4:=aa xM;have vO:=aa hd.old;obtain⟨_,_,_,_,_,c0,c1,_,_,_,_,_,_,bu,_⟩:=h.c;clear h hd hT xM e0 hH hk j_;generalize k.write 0 H=kw at *;obtain⟨R,hR⟩:∃R,R=if kw.1≠0 then kw else kw.2.flush:=⟨_,rfl⟩
 rw[<-hR];have HR:=aa hR;clear hR;have zJ:=aa c0;have rC:=aa c1;go_enter Tryz.func117,Tryz.ntmps117;go_upto_region 1 with fail;clear c0 c1;have nT:w.drew.cell? ⟨x,0,none⟩=some (.pointer (some ⟨d,0,none⟩)):=aj ((ah.refl No w).drew) zJ.out (fun h=>h);have rW:w.drew.cell? ⟨x,1,none⟩=some (.int .i64 0):=aj ((ah.refl No w).drew) rC.out (fun h=>h);have wJ:ah No w w.drew:=(ah.refl No w).drew;have wQ:=aa wJ;have Uj:=aa (XF.out.ext wJ (fun h=>h));have yG:Hid (¬Dd x):=aa (Q4.out x HL.out.xx);clear wJ
 go_region_held3 (fun w'=>w'.cell? ⟨x,0,none⟩=some (.pointer (some ⟨d,0,none⟩))/\w'.cell? ⟨x,1,none⟩=some (.int .i64 0)) (first|exact⟨nT,rW⟩|exact⟨aj bC (aj (wQ.out.ag aH) zJ.out (fun h=>h)) yG.out,aj bC (aj (wQ.out.ag aH) rC.out (fun h=>h)) yG.out⟩|exact⟨aj (wQ.out.ag aH) zJ.out (fun h=>h),aj (wQ.out.ag aH) rC.out (fun h=>h)⟩) (first
  | (go_at_call 122;refine(HHD.out _ Uj.out).mono ?_;rintro e w2 ⟨rfl,aH⟩)
  | (go_at_call 161;refine(HW.out _ (gF.out.ext (wQ.out.ag aH) (fun _ _ h=>h))).mono ?_;rintro e w3 ⟨rfl,za,bC⟩))
 have dx:=aa (wQ.out.ag aH);have iF:=aa ((dx.out.of_no).ag bC);have yH:=aa za;have c3:=aj bC (aj dx.out zJ.out (fun h=>h)) yG.out;have yV:=bC.size;clear za aH nT rW
 by_cases hc:kw.1=0
 ·have hR:R=kw.2.flush:=by rw[HR.out,if_neg (by omega)]
  have jQ:(kw.1:Int)=0:=by omega
  rw[jQ];have Uk:=aa hR;clear hR;have Vu:x<w3.heap.size:=by have:=iF.out.size;omega
  clear hc jQ bC;go_wp2_with fail;refine(HF.out _ _ yH.out).mono ?_;rintro e w4 ⟨rfl,QC,ib⟩;go_wp2_with fail;go_ret;rw[Uk.out];exact⟨rfl,QC.mono (fun b hb=>bz.of dx.out.size ib.size hb) (bz.old vO.out (Nat.le_trans iF.out.size ib.size)),iF.out.trans ib (fun b hb hg=>bz.back dx.out.size hb hg)⟩
 ·have hR:R=kw:=by rw[HR.out,if_pos hc]
  have Uk:=aa hR;clear hR;have jQ:((kw.1:Int)==0)=false:=by simp;omega
  have JI:((kw.1:Int) != 0)=true:=by simp;omega
  clear hc bC;go_wp2_with fail;go_ret;rw[Uk.out];exact⟨rfl,yH.out.mono (fun b hb=>bz.of dx.out.size (Nat.le_refl _) hb) (bz.old vO.out iF.out.size),iF.out⟩
theorem RX {w:World}{D Dd:Nat->Prop}{x d m kb:Nat}{l:Lg}{k:Dk}{T:Nat->Nat}(h:dM w D x d m l) (hd:aF w Dd d kb k) (hT:gJ w T) (h0:¬Dd 0) (xM:∀b,D b->¬Dd b) (hk:k.eD (2^29)) (he:l.ak<2^59) (hl:l.lost=false) (hp:l.pend = []) :
  Calls Tryz.prog 111 #[.pointer (some ⟨x,0,none⟩)] w fun e w'=>e=.returned (.int .i64 ((k.aO (bT T) (l.ak+1) 0).1:Int))/\aF w' (bz Dd w w') d kb (k.aO (bT T) (l.ak+1) 0).2 /\
   dM w' D x d m (if (k.aO (bT T) (l.ak+1) 0).1≠0 then { l with lost:=true } else { l with ak:=l.ak+1,bytes:=[],recs:=[] })/\ah (fun b=>Dd b\/On x b) w w':=by
 have HU:=aa (abN h);rw[hl]at HU;have HW:=aa (RV h hd hT xM hk (l.ak+1) 0 (by omega) (by omega));have HL:=aa h;have Q4:=aa xM;have vO:=aa hd.old;have R_:=xM x h.xx;obtain⟨R,hR⟩:∃R,R=k.aO (bT T) (l.ak+1) 0:=⟨_,rfl⟩;rw[<-hR]at HW ⊢;obtain⟨l9,h9⟩:∃l9:Lg,l9=(if R.1≠0 then { l with lost:=true } else { l with ak:=l.ak+1,bytes:=[],recs:=[] }):=⟨_,rfl⟩;rw[<-h9];have H9:=aa h9;clear h9;obtain⟨Ab,cb,Ar,cr,_,c0,_,_,c3,c4,_,c6,_,bu,xI⟩:=h.c;rw[hp]at c6;have f3:=xI 3;have heb:(l.ak:Int)<576460752303423488:=by omega
 have bQ:((l.ak:Int)==4611686018427387904)=false:=by simp;omega
 rw[show((l.ak+1:Nat):Int)=(l.ak:Int)+1 by omega]at HW;have hwp:IntKind.i64.wrap ((l.ak:Int)+1)=(l.ak:Int)+1:=by rw[qo];unfold wrap64;omega
 have yG:Hid (¬Dd x):=aa R_;have HC3:=aa c3;have lL:=aa hl;clear h hd hT xM hk hR xI hp hl;go_enter Tryz.func111,Tryz.ntmps111;go_wp2_with fail;refine(HU.out).mono ?_;rintro e w1 ⟨rfl,rfl⟩;go_wp2_with fail;refine(HW.out).mono ?_;rintro e w2 ⟨rfl,hd2,aH⟩;have mE:=aa hd2;have dx:=aa aH;have vQ:=aa (HL.out.ext aH Q4.out);have XQ:=aa (Va vQ.out R.1 lL.out);clear hd2 aH c0 c3 c4 c6 f3;go_wp2_with fail;refine(XQ.out).mono ?_;rintro e w3 ⟨rfl,BF,bC⟩;have G8:=aa BF;have gN:∀b,bz Dd w w2 b->¬On x b:=fun b hb e=>by
  have e':b=x:=e;subst e';rcases hb with hb|hb
  ·exact yG.out hb
  ·omega
 have yH:=aa (mE.out.ext bC gN);have iF:Hid (ah (fun b=>Dd b\/On x b) w w3):=aa ((dx.out.mono (fun b _ hb=>.inl hb)).ag (bC.mono (fun b _ hb=>.inr hb)));have yV:=bC.size;have OB:=dx.out.size;have HND:=aa gN;clear BF gN R_
 by_cases hc:R.1=0
 ·have jQ:(R.1:Int)=0:=by omega
  have oG:=aa hc
  have M4:Hid (dM w3 D x d m l):=aa (by
   have:=G8.out;rw[hc]at this;have e:({ l with lost:=decide ((0:Nat)≠0) }:Lg)=l:=by
    have:=lL.out;cases l;simp_all
   rw[e]at this
   exact this)
  have HR4:=aa M4.out.anew;obtain⟨_,_,_,_,_,_,_,_,y3,_,_,_,_,ylt,YN⟩:=M4.out.c;have g3:=YN 3;have g4:=YN 4;have g5:=YN 5;rw[jQ];clear hc jQ bC YN;go_wp2_with fail;go_ret;rw[H9.out,if_neg (by have:=oG.out;omega)];refine⟨by rw[oG.out];rfl,?_,HR4.out,((iF.out.ay (F:=fun b=>Dd b\/On x b) (.inr rfl) 3 _).ay (F:=fun b=>Dd b\/On x b) (.inr rfl) 4 _).ay (F:=fun b=>Dd b\/On x b) (.inr rfl) 5 _⟩;have jO:ah (On x) w3 (((w3.setCell ⟨x,3,none⟩ (.int .i64 ((l.ak:Int)+1))).setCell ⟨x,4,none⟩ (.slice none 0 0)).setCell ⟨x,5,none⟩ (.slice none 0 0)):=(((ah.refl _ _).ay (F:=On x) rfl 3 _).ay (F:=On x) rfl 4 _).ay (F:=On x) rfl 5 _;exact(yH.out.ext jO HND.out).mono (fun b hb=>bz.of (Nat.le_refl _) (Nat.le_trans yV jO.size) hb) (bz.old vO.out (Nat.le_trans OB (Nat.le_trans yV jO.size)))
 ·have jQ:((R.1:Int) != 0)=true:=by simp;omega
  have oG:=aa hc
  have M4:Hid (dM w3 D x d m { l with lost:=true }):=aa (by
   have:=G8.out;rw[show decide (R.1≠0)=true by simp[hc]]at this
   exact this)
  clear hc bC;go_wp2_with fail;go_ret;rw[H9.out,if_pos oG.out];exact⟨rfl,yH.out.mono (fun b hb=>bz.of (Nat.le_refl _) yV hb) (bz.old vO.out (by omega)),M4.out,iF.out⟩
end Go.Proofs.YtccnemmlkcmceaaGreatDoor
