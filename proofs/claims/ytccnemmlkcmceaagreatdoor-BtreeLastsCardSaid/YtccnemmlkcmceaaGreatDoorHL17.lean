/- Proofs about the given program, joined out of the texts EB, EC, ED, R0, R1, R2, R3, C0, R4, V2. -/
import Derived.Test.YtccnemmlkcmceaaGreatDoorHL15
set_option linter.unusedVariables false
set_option linter.unusedSimpArgs false
set_option maxRecDepth 100000
set_option maxHeartbeats 6400000
namespace Go.Proofs.YtccnemmlkcmceaaGreatDoor
open Go.RowKit
structure Bes (v:V) (h:Nat) (p:dN) (n:Nd) (lo' jP:Bs) (at_:Nat) (a0 b0:List (Nat×Bs)) (pl pr:Nat) (key y:Bs) (ln rn:Nd) (Ql Qr MQ MP:List Nat) (El Er Q6 Q5:List bK):Prop where
 eq:v.beside p.n p.i n=(0,at_,ln.glue rn key)
 len:a0.length=at_
 kids:p.n.kids=a0.map (·.1)++pl::pr::b0.map (·.1)
 keys:p.n.keys ++ [jP]=a0.map (·.2)++key::y::b0.map (·.2)
 ra:m_ (gI true v h false) lo' a0 MQ Q6
 rb:m_ (gI true v h false) y b0 MP Q5
 bl:jN true v h ln (jb lo' a0) key Ql El
 br:jN true v h rn key y Qr Er
 lo:ln.ok=true
 ro:rn.ok=true
 ls:ln.size<=500
 rs:rn.size<=500
 sz:ln.size+rn.size<=665
 mn:Ew true false ln\/Ew true false rn
 ko:dV key=true
 ki:Bz (jb lo' a0) y key
 el:v.err pl=0
 er:v.err pr=0
theorem Aj {n:Nd}{lo hi key y:Bs}{a b:List (Nat×Bs)}(aX:n.ok=true) (hk:∀k∈n.keys,Bz lo hi k) (e:n.keys ++ [hi]=a.map (·.2)++key::y::b.map (·.2)):Bz (jb lo a) y key/\dV key=true:=by
 obtain⟨k1,k2,k3,k4⟩:=iG e;have hm:=k2 (by simp);have hS:=Nd.Ok.mH aX;have Dw:=hk key hm;rw[k1,List.dropLast_cons_of_ne_nil (by simp)]at hS;obtain⟨s1,s2⟩:=sU hS;refine⟨⟨?_,?_⟩,(Nd.Ok.of aX).k key hm⟩
 ·by_cases ha:a = []
  ·subst ha;exact Dw.1
  ·exact s1 _ (yQ ha)
 ·cases b with
  | nil =>
   have e2:n.keys ++ [hi]=(a.map (·.2) ++ [key])++y :: []:=by rw[e];simp
   obtain⟨_,_,j3,_⟩:=iG e2;rw[j3 rfl];exact Dw.2
  | cons q b =>
   exact .inr (s2 y (by rw[List.dropLast_cons_of_ne_nil (by simp)];simp))
theorem Tu {v:V}{h:Nat}{rt:Bool}{p:dN}{id:Nat}{n:Nd}{lo lo' hi jP:Bs}{a b:List (Nat×Bs)}{Pa Pb Q:List Nat}{Ea Eb E:List bK}(q2:v.node p.id=some p.n) (q3:Ew true rt p.n) (q4:p.n.leaf=false) (q5:p.n.Keys lo' jP)
  (q6:p.n.kids=a.map (·.1)++id::b.map (·.1)) (q7:p.n.keys ++ [jP]=a.map (·.2)++hi::b.map (·.2)) (q8:a.length=p.i) (q9:m_ (gI true v h false) lo' a Pa Ea) (q10:m_ (gI true v h false) hi b Pb Eb) (q14:lo=jb lo' a)
  (hb:jN true v h n lo hi Q E) (aX:n.ok=true) (hs:n.size<=165) (he:v.err id=0) :
  ∃at_ a0 b0 pl pr key y ln rn Ql Qr MQ MP El Er Q6 Q5,Bes v h p n lo' jP at_ a0 b0 pl pr key y ln rn Ql Qr MQ MP El Er Q6 Q5 /\
   (Pa++(id::Q++Pb)).Perm (MQ++((pl::Ql)++((pr::Qr)++MP)))/\Ea++(E++Eb)=Q6++(El++(Er++Q5)):=by
 have acs:p.n.keys ≠ []:=q3.2 q4 rfl
 by_cases OQ:0<p.i
 · -- the one before
  have ZY:a ≠ []:=fun e=>by rw[e]at q8;simp at q8;omega
  obtain⟨a0,⟨pl,key⟩,rfl⟩:∃a0 q,a=a0 ++ [q]:=⟨a.dropLast,a.getLast ZY,(List.dropLast_concat_getLast ZY).symm⟩;have xH:lo=key:=by rw[q14,Im];rfl
  subst xH;obtain⟨MQ,P2,Q6,E2,r1,r2,r3,rfl⟩:=m_.append.1 q9;obtain⟨P3,r4,r5⟩:=m_.one.1 r2;obtain⟨ln,Ql,s1,s2,s3,s4⟩:=gI.iff.1 r4;have oh:p.n.keys ++ [jP]=a0.map (·.2)++lo::hi::b.map (·.2):=by rw[q7];simp
  have Du:p.n.kids=a0.map (·.1)++pl::id::b.map (·.1):=by rw[q6];simp
  obtain⟨ki,ko⟩:=Aj (V.bM q2) q5.2 oh;have kL:=I4 s4 hb ki ko (V.bM s1) aX (V.fH s1) (by omega);have qP:p.i-1=a0.length:=by rw[<-q8];simp
  have e1:p.n.kids.getD (p.i-1) 0=pl:=by rw[Du,qP,<-List.length_map (f:=fun q:Nat×Bs=>q.1),xP]
  have lJ:p.n.keys=a0.map (·.2)++lo::(hi::b.map (·.2)).dropLast:=by
   have:=(iG oh).1;rw[this,List.dropLast_cons_of_ne_nil (by simp)]
  have e2:p.n.keys.getD (p.i-1) []=lo:=by rw[lJ,qP,<-List.length_map (f:=fun q:Nat×Bs=>q.2),xP]
  refine⟨p.i-1,a0,b,pl,id,lo,hi,ln,n,Ql,Q,MQ,Pb,E2,E,Q6,Eb,⟨?_,qP.symm,Du,oh,r1,q10,s4,hb,V.bM s1,aX,V.fH s1,by omega,by have:=V.fH s1;omega,.inl s2,ko,ki,V.fw s1,he⟩,?_,by simp⟩
  ·unfold V.beside
   rw[if_neg acs,if_pos OQ,e1,s1];simp only[e2,kL.1]
  ·refine cz fun z=>?_
   have h1:=r3.count_eq z;have h2:=r5.count_eq z;have h3:=s3.count_eq z;simp[List.count_cons]at h1 h2 h3 ⊢;omega
 · -- the one behind
  have ZY:a = []:=List.length_eq_zero_iff.1 (by omega);subst ZY;obtain⟨rfl,rfl⟩:=q9;have xH:lo=lo':=q14;subst xH;obtain⟨⟨pr,y⟩,b0,rfl⟩:∃q b0,b=q::b0:=by
   cases b with
   | nil =>
    have:=congrArg List.length q7;simp at this;exact absurd this acs
   | cons q b=>exact⟨q,b,rfl⟩
  obtain⟨P1,MP,E1,Q5,r1,r2,r3,rfl⟩:=q10;obtain⟨rn,Qr,s1,s2,s3,s4⟩:=gI.iff.1 r1;have oh:p.n.keys ++ [jP]=([]:List (Nat×Bs)).map (·.2)++hi::y::b0.map (·.2):=by rw[q7];simp
  have Du:p.n.kids=([]:List (Nat×Bs)).map (·.1)++id::pr::b0.map (·.1):=by rw[q6];simp
  obtain⟨ki,ko⟩:=Aj (V.bM q2) q5.2 oh;have kL:=I4 hb s4 ki ko aX (V.bM s1) (by omega) (V.fH s1);have e1:p.n.kids.getD 1 0=pr:=by rw[Du];simp
  have lJ:p.n.keys=hi::(y::b0.map (·.2)).dropLast:=by
   have:=(iG oh).1;rw[this,List.dropLast_cons_of_ne_nil (by simp)];rfl
  have e2:p.n.keys.getD 0 []=hi:=by rw[lJ];simp
  refine⟨0,[],b0,id,pr,hi,y,n,rn,Q,Qr,[],MP,E,E1,[],Q5,⟨?_,rfl,Du,oh,⟨rfl,rfl⟩,r2,hb,s4,aX,V.bM s1,by omega,V.fH s1,by have:=V.fH s1;omega,.inr s2,ko,ki,he,V.fw s1⟩,?_,by simp⟩
  ·unfold V.beside
   rw[if_neg acs,if_neg OQ,e1,s1];simp only[e2,kL.1]
  ·refine cz fun z=>?_
   have h1:=r3.count_eq z;have h3:=s3.count_eq z;simp[List.count_cons]at h1 h3 ⊢;omega
theorem WB {l r:Nd}{key:Bs}(hlr:l.leaf=r.leaf) (h:Ew true false l\/Ew true false r) (g rt:Bool):Ew g rt (l.glue r key):=by
 unfold Nd.glue;split
 ·rename_i hl
  have h2:2<=(l.cells++r.cells).length:=by
   rw[List.length_append];rcases h with h|h
   ·have:=(h.1 hl).2 rfl rfl;omega
   ·have:=(h.1 (by rw[<-hlr];exact hl)).2 rfl rfl;omega
  refine⟨fun _=>⟨fun e=>?_,fun _ _=>h2⟩,fun h=>by cases h⟩;have e':l.cells++r.cells = []:=e;rw[e']at h2;simp at h2
 ·refine⟨fun h=>(by cases h),fun _ _ e=>?_⟩
  have e':l.keys++key::r.keys = []:=e;simp at e'
theorem Nd.MJ {n:Nd}(h:n.ok=true):n.Sz=n.size:=by unfold Nd.Sz;rw[if_pos h]
def Jo (v:V) (root:Nat) (P:List Nat) (E:List bK):Prop:=(v.r root=0/\P = []/\E = [])\/∃h,gI true v h true (v.r root) [] [] P E
theorem w_ {v:V}{root id:Nat}{n:Nd}{first:Bool}(hc:first=false\/(n.leaf=true/\0<n.cells.length)\/0<n.keys.length):v.settle root id n first=v.wr id n:=by
 unfold V.settle;rw[if_pos hc]
theorem Qq {cap root:Nat}{v:V}{ups:List dN}{id h:Nat}{rt:Bool}{lo hi:Bs}{P Q:List Nat}{L R E:List bK}{n:Nd}(hH:nR true v root ups h id rt lo hi P L R) (hg:v.eB cap) (he:v.err id=0) (hb:jN true v h n lo hi Q E) (aX:n.ok=true) (hs:n.size<=500)
  (hm:Ew true rt n) (gN:(id::(P++Q)).Nodup) :
  (v.wr id n).1=0/\∃B,Tr (· = root) v (v.wr id n).2 (id::(P++Q)) B/\B.Nodup/\(v.wr id n).2.eB cap/\Jo (v.wr id n).2 root B (L++(E++R)):=by
 have hA:∀p∈id::(P++Q),v.err p=0:=by
  intro p hp;rcases List.mem_cons.1 hp with rfl|hp
  ·exact he
  ·rcases List.mem_append.1 hp with hp|hp
   ·exact hH.us p hp
   ·exact hb.us p hp
 have E5:=List.nodup_cons.1 gN;have bQ:∀p∈P++Q,p≠id:=fun p hp e=>E5.1 (e▸hp)
 obtain⟨v1,e1,g1,m1,r1,n1,p1,u1,t1⟩:=qp hg he aX hs;rw[e1];have ig:∀p∈P++Q,v.err p=0->v1.err p=0/\v1.pg p=v.pg p:=fun p hp h0=>⟨(u1 p).2 h0,p1 p (bQ p hp)⟩
 have hS1:gI true v1 h rt id lo hi (id::Q) E:=gI.iff.2 ⟨n,Q,n1,hm,List.Perm.refl _,hb.same (fun p hp=>ig p (by simp[hp]))⟩;have hH1:=hH.same (v':=v1) (by rw[r1]) (fun p hp=>ig p (by simp[hp]));have kV:=hH1.adL hS1;have mq:(P++id::Q).Perm (id::(P++Q)):=List.perm_middle;exact⟨rfl,_,(t1 _ _ hA (by simp)).congr (fun _=>Iff.rfl) (fun p=>mq.symm.mem_iff),mq.nodup_iff.2 gN,g1,.inr ⟨_,kV⟩⟩
theorem zU {cap root:Nat}:∀(ups:List dN) (st:dN) (n:Nd) (v:V) (h:Nat) (rt:Bool) (lo hi:Bs) (P Q:List Nat) (L R E:List bK),nR true v root ups h st.id rt lo hi P L R->v.eB cap->v.err st.id=0->jN true v h n lo hi Q E->n.ok=true->n.size<=500 ->
  (st.id::(P++Q)).Nodup ->
  ((V.shrink cap root (st::ups) n v).1=7/\v.room cap<ups.length+2)\/((V.shrink cap root (st::ups) n v).1=0 /\
  ∃B,Tr (· = root) v (V.shrink cap root (st::ups) n v).2 (st.id::(P++Q)) B/\B.Nodup/\(V.shrink cap root (st::ups) n v).2.eB cap/\Jo (V.shrink cap root (st::ups) n v).2 root B (L++(E++R)))
 | [],st,n,v,h,rt,lo,hi,P,Q,L,R,E,hH,hg,he,hb,aX,eZ,gN=>by
  right
  have eg:V.shrink cap root [st] n v=v.settle root st.id n true:=rfl;rw[eg]
  by_cases hc:(n.leaf=true/\0<n.cells.length)\/0<n.keys.length
  ·rw[w_ (.inr hc)]
   refine Qq hH hg he hb aX eZ ?_ gN;cases hH
   refine⟨fun hl=>⟨fun e=>?_,fun _ h=>by cases h⟩,fun hl _ e=>?_⟩
   ·have hk:=((Nd.Ok.of aX).lf hl).1
    rcases hc with ⟨_,h1⟩|h1
    ·rw[e]at h1;simp at h1
    ·rw[hk]at h1;simp at h1
   ·rcases hc with ⟨h1,_⟩|h1
    ·rw[hl]at h1;cases h1
    ·rw[e]at h1;simp at h1
  ·have wK:n.keys = []:=by
    apply List.length_eq_zero_iff.1;rcases Nat.eq_zero_or_pos n.keys.length with h|h
    ·exact h
    ·exact absurd (.inr h) hc
   obtain⟨next,VQ⟩:∃next,next=(if n.leaf then 0 else n.kids.getD 0 0):=⟨_,rfl⟩
   have e:v.settle root st.id n true=(0,(v.drop st.id).2.eU root next):=by
    unfold V.settle;rw[if_neg (by simp at hc ⊢;exact hc),if_neg (by rw[V.zk];simp[he]),VQ]
   rw[e];have hA:∀p∈st.id::(P++Q),v.err p=0:=by
    intro p hp;rcases List.mem_cons.1 hp with rfl|hp
    ·exact he
    ·rcases List.mem_append.1 hp with hp|hp
     ·exact hH.us p hp
     ·exact hb.us p hp
   have E5:=List.nodup_cons.1 gN
   have hT:=Tr.drop he hA (by simp) (B:=P++Q) (fun p=>by
    constructor
    ·intro hp;exact⟨by simp only[List.mem_cons];exact .inr hp,fun e=>E5.1 (e▸hp)⟩
    ·rintro⟨hp,bQ⟩;exact(List.mem_cons.1 hp).resolve_left bQ) (· = root)
   have Bd:=hT.trans (Tr.eU (v.drop st.id).2 root next _ hT.had);have ig:∀p∈P++Q,v.err p=0->(v.drop st.id).2.err p=0/\(v.drop st.id).2.pg p=v.pg p:=fun p hp h0=>by
    have bQ:p≠st.id:=fun e=>E5.1 (e▸hp)
    exact⟨(V.pY he p).2 ⟨h0,bQ⟩,V.xW p bQ⟩
   have er:((v.drop st.id).2.eU root next).r root=next:=by simp[V.eU]
   cases hH with
   | top _ _ hid =>
    refine⟨rfl,_,Bd,E5.2,(hg.drop _).eU _ _,?_⟩;cases h with
    | zero =>
     have hl:=hb.2.1;have xK:n.cells = []:=by
      apply List.length_eq_zero_iff.1;rcases Nat.eq_zero_or_pos n.cells.length with h|h
      ·exact h
      ·exact absurd (.inl ⟨hl,h⟩) hc
     have h3:=hb.2.2;rw[xK]at h3;obtain⟨rfl,rfl⟩:=h3
     left
     rw[er,VQ,hl];exact⟨rfl,rfl,rfl⟩
    | succ h =>
     obtain⟨_,hl,lst,l1,l2,l3⟩:=hb;rw[wK]at l2;obtain⟨⟨k,x⟩,rfl⟩:∃q,lst = [q]:=by
      match lst,l2 with
      | [q],_=>exact⟨q,rfl⟩
      | [],l2=>simp at l2
      | _::_::_,l2=>simp at l2
     have hx:x = []:=by simp at l2;exact l2
     subst hx;obtain⟨P',s1,s2⟩:=m_.one.1 l3
     right
     refine⟨h,?_⟩;have hk:next=k:=by rw[VQ,hl,l1];simp
     rw[er,hk];have rW:gI true (v.drop st.id).2 h false k [] [] P' E:=s1.same (fun p hp=>ig p (by simp[s2.mem_iff.2 hp]));simpa using (rW.root.eU root k).perm s2
 | p::up,st,n,v,h,rt,lo,hi,P,Q,L,R,E,hH,hg,he,hb,aX,eZ,gN=>by
  have ai9:=List.nodup_cons.1 gN;cases hH with
  | @down _ _ YX lo' jP P' L' R' _ _ _ a b Pa Pb Ea Eb _ _ _ _ q1 q2 q3 q4 q5 q6 q7 q8 q9 q10 q11 q12 q13 q14 =>
   have hH:nR true v root (p::up) h st.id false lo hi P L R:=.down q1 q2 q3 q4 q5 q6 q7 q8 q9 q10 q11 q12 q13 q14;have hA:∀p∈st.id::(P++Q),v.err p=0:=by
    intro p hp;rcases List.mem_cons.1 hp with rfl|hp
    ·exact he
    ·rcases List.mem_append.1 hp with hp|hp
     ·exact hH.us p hp
     ·exact hb.us p hp
   by_cases r_:166<=n.size
   ·right
    have eg:V.shrink cap root (st::p::up) n v=v.wr st.id n:=by
     rw[V.shrink,if_pos (by rw[Nd.MJ aX];exact r_),w_ (.inl rfl)]
    rw[eg];exact Qq hH hg he hb aX eZ (aau aX r_ _ _) gN
   ·obtain⟨at_,a0,b0,pl,pr,key,y,ln,rn,Ql,Qr,MQ,MP,El,Er,Q6,Q5,hB,Lu,Qp⟩:=Tu q2 q3 q4 q5 q6 q7 q8 q9 q10 q14 hb aX (by omega) he
    obtain⟨_,gok,gsz,glf⟩:=I4 hB.bl hB.br hB.ki hB.ko hB.lo hB.ro hB.ls hB.rs;have Me:=SK hB.bl hB.br hB.ki;generalize kL:ln.glue rn key=both at gok gsz glf Me;have hlr:ln.leaf=rn.leaf:=by
     have h1:=hB.bl.2;have h2:=hB.br.2;cases h with
     | zero=>rw[h1.1,h2.1]
     | succ h=>rw[h1.1,h2.1]
    have aht:∀g rt,Ew g rt both:=by rw[<-kL];exact WB hlr hB.mn
    have IJ:v.beside p.n p.i n=(0,at_,both):=by rw[hB.eq,kL]
    have l_:p.n.kids.getD at_ 0=pl:=by rw[hB.kids,<-hB.len,<-List.length_map (f:=fun q:Nat×Bs=>q.1),xP]
    have hkr:p.n.kids.getD (at_+1) 0=pr:=by
     have:p.n.kids=(a0.map (·.1) ++ [pl])++pr::b0.map (·.1):=by rw[hB.kids];simp
     rw[this,show at_+1=(a0.map (·.1) ++ [pl]).length from by simp[hB.len],xP]
    obtain⟨k1,_,_,_⟩:=iG hB.keys;rw[List.dropLast_cons_of_ne_nil (by simp)]at k1;have fF:(st.id::(P++Q)).Perm (p.id::(P'++(MQ++((pl::Ql)++((pr::Qr)++MP))))):=cz fun z=>by
     have h1:=Lu.count_eq z;have h2:=q11.count_eq z;simp[List.count_cons]at h1 h2 ⊢;omega
    have Dq:=fF.nodup_iff.1 gN;have kV:pl∈st.id::(P++Q):=fF.mem_iff.2 (by simp);have hpr:pr∈st.id::(P++Q):=fF.mem_iff.2 (by simp);have V_:L++(E++R)=L'++(Q6++(El++(Er++Q5))++R'):=by
     rw[q12,q13,<-Qp];simp
    have dI:(y::b0.map (·.2)).dropLast ++ [jP]=y::b0.map (·.2):=by
     have h1:p.n.keys ++ [jP]=a0.map (·.2)++key::((y::b0.map (·.2)).dropLast ++ [jP]):=by rw[k1];simp
     rw[hB.keys]at h1;have:=List.append_cancel_left h1;injection this with _ h2;exact h2.symm
    have Dt:=MF (V.bM q2) (V.fH q2) q4 q5.2 k1 hB.kids (by simp);have We:∀z∈P'++(MQ++(Ql++(Qr++MP))),z≠pl/\z≠pr:=by
     intro z hz;have h1:=List.nodup_iff_count.1 Dq;have Na:=List.count_pos_iff.2 hz;refine⟨fun e=>?_,fun e=>?_⟩
     ·subst e
      have:=h1 z;simp[List.count_cons]at this Na;omega
     ·subst e
      have:=h1 z;simp[List.count_cons]at this Na;omega
    have aca:pl≠pr:=by
     rintro rfl;have h1:=List.nodup_iff_count.1 Dq pl;simp[List.count_cons]at h1;omega
    have OE:p.id≠pl/\p.id≠pr:=by
     have h1:=List.nodup_iff_count.1 Dq p.id;refine⟨fun e=>?_,fun e=>?_⟩
     ·rw[e]at h1;simp[List.count_cons]at h1
     ·rw[e]at h1;simp[List.count_cons]at h1
    by_cases gP:both.size<=500
    · -- eO
     obtain⟨v1,e1,g1,m1,r1,n1,p1,u1,t1⟩:=qp hg hB.el gok gP;have ZO:v1.err pr=0:=(u1 pr).2 hB.er;have eg:V.shrink cap root (st::p::up) n v=V.shrink cap root (p::up) ⟨false,[],p.n.keys.eraseIdx at_,p.n.kids.eraseIdx (at_+1)⟩ (v1.drop pr).2:=by
      rw[V.shrink,if_neg (by rw[Nd.MJ aX];exact r_),IJ];simp only[ne_eq,not_true,if_false];rw[if_neg (by rw[Nd.MJ gok];omega),l_,hkr,e1];simp only[not_true,if_false];rw[if_neg (by rw[V.zk,ZO];simp)]
     rw[eg];have qN:p.n.keys.eraseIdx at_=a0.map (·.2)++(y::b0.map (·.2)).dropLast:=by
      rw[k1,<-hB.len,<-List.length_map (f:=fun q:Nat×Bs=>q.2),xV]
     have hie:p.n.kids.eraseIdx (at_+1)=a0.map (·.1)++pl::b0.map (·.1):=by
      have:p.n.kids=(a0.map (·.1) ++ [pl])++pr::b0.map (·.1):=by rw[hB.kids];simp
      rw[this,show at_+1=(a0.map (·.1) ++ [pl]).length from by simp[hB.len],xV];simp
     rw[<-qN,<-hie]at Dt;have nT:∀z∈P'++(MQ++(Ql++(Qr++MP))),v.err z=0->(v1.drop pr).2.err z=0/\(v1.drop pr).2.pg z=v.pg z:=fun z hz h0 =>
      ⟨(V.pY ZO z).2 ⟨(u1 z).2 h0,(We z hz).2⟩,(V.xW z (We z hz).2).trans (p1 z (We z hz).1)⟩
     have pV:(v1.drop pr).2.node pl=some both:=V.mU ((V.pY ZO pl).2 ⟨(u1 pl).2 hB.el,aca⟩) (V.xW pl aca) n1
     have mK:gI true (v1.drop pr).2 h false pl (jb lo' a0) y (pl::(Ql++Qr)) (El++Er):=gI.iff.2 ⟨both,_,pV,aht _ _,List.Perm.refl _,Me.same (fun z hz=>nT z (by
      simp at hz ⊢;rcases hz with h|h <;> simp[h]))⟩
     have hra:=hB.ra.mono (S':=gI true (v1.drop pr).2 h false) (fun _ _ _ _ _ hq hS=>hS.same (fun z hz=>nT z (by simp[hq z hz])));have hrb:=hB.rb.mono (S':=gI true (v1.drop pr).2 h false) (fun _ _ _ _ _ hq hS=>hS.same (fun z hz=>nT z (by simp[hq z hz])));have DF:jN true (v1.drop pr).2 (h+1) ⟨false,[],p.n.keys.eraseIdx at_,p.n.kids.eraseIdx (at_+1)⟩ lo' jP (MQ++((pl::(Ql++Qr))++MP)) (Q6++((El++Er)++Q5)):=by
      refine⟨⟨by simp,?_⟩,rfl,a0++(pl,y)::b0,by simp[hie],?_,m_.append.2 ⟨_,_,_,_,hra,⟨_,_,_,_,mK,hrb,List.Perm.refl _,rfl⟩,List.Perm.refl _,rfl⟩⟩
      ·intro k hk
       have mW:k∈p.n.keys.eraseIdx at_:=hk;exact Dt.2.2 k mW
      ·show p.n.keys.eraseIdx at_ ++ [jP]=_
       rw[qN,List.append_assoc,dI];simp
     have hH1:=q1.same (v':=(v1.drop pr).2) (by rw[V.O7,r1]) (fun z hz=>nT z (by simp[hz]));have hep:(v1.drop pr).2.err p.id=0:=(V.pY ZO p.id).2 ⟨(u1 _).2 (V.fw q2),OE.2⟩;have agK:(p.id::(P'++(MQ++((pl::(Ql++Qr))++MP)))).Nodup:=by
      have h1:=List.nodup_iff_count.1 Dq;refine List.nodup_iff_count.2 fun z=>?_
      have h2:=h1 z;simp[List.count_cons]at h2 ⊢;omega
     have L6:=t1 (· = root) _ hA kV
     have Bd:=L6.trans (Tr.drop ZO L6.had hpr (B:=p.id::(P'++(MQ++((pl::(Ql++Qr))++MP)))) (fun z=>by
      rw[fF.mem_iff];constructor
      ·intro hz
       refine⟨by simp at hz ⊢;rcases hz with h|h|h|h|h|h|h <;> simp[h],?_⟩;rintro rfl;have h1:=List.nodup_iff_count.1 Dq z;have h2:=List.count_pos_iff.2 hz;simp[List.count_cons]at h1 h2;omega
      ·rintro⟨hz,bQ⟩
       simp at hz ⊢;rcases hz with h|h|h|h|h|h|h|h
       ·simp[h]
       ·simp[h]
       ·simp[h]
       ·simp[h]
       ·simp[h]
       ·exact absurd h bQ
       ·simp[h]
       ·simp[h]) (· = root))
     have:=zU (cap:=cap) (root:=root) up p _ (v1.drop pr).2 (h+1) YX lo' jP P' _ L' R' _ hH1 (g1.drop pr) hep DF Dt.1 Dt.2.1 agK;rcases this with ⟨j1,j2⟩|⟨j1,B,j2,j3,j4,j5⟩
     ·left
      refine⟨j1,?_⟩;rw[V.Gx ZO,m1]at j2;simp only[List.length_cons];omega
     ·right
      refine⟨j1,B,Bd.trans j2,j3,j4,?_⟩;rw[V_];have e2:L'++(Q6++((El++Er)++Q5)++R')=L'++(Q6++(El++(Er++Q5))++R'):=by simp
      rw[<-e2];exact j5
    · -- shared
     have ahe:both.size<=804:=by have:=hB.sz;omega
     obtain⟨l,r,AU,hS⟩:=Cn gok (by omega) ahe;obtain⟨Q1,Q2,E1,E2,b1,b2,b3,b4⟩:=Me.split gok hS;have agU:=hS.Io gok ⟨Me.1.1,Me.1.2⟩;have agS:=hS.dV gok;obtain⟨v1,e1,g1,m1,r1,n1,p1,u1,t1⟩:=qp hg hB.el hS.lo hS.ls;obtain⟨v2,e2,g2,m2,r2,n2,p2,u2,t2⟩:=qp g1 ((u1 pr).2 hB.er) hS.ro hS.rs;have eg:V.shrink cap root (st::p::up) n v=V.grow cap root (p::up) ⟨false,[],p.n.keys.set at_ AU,p.n.kids⟩ v2:=by
      rw[V.shrink,if_neg (by rw[Nd.MJ aX];exact r_),IJ];simp only[ne_eq,not_true,if_false];rw[if_pos (by rw[Nd.MJ gok];omega)];unfold V.share;simp only[hS.eq,l_,hkr,e1,e2,ne_eq,not_true,if_false]
     rw[eg];have wK:p.n.keys.set at_ AU=a0.map (·.2)++AU::(y::b0.map (·.2)).dropLast:=by
      rw[k1,<-hB.len,<-List.length_map (f:=fun q:Nat×Bs=>q.2),YW]
     have hyy:y=((y::b0.map (·.2)).dropLast).headD jP:=by
      cases b0 with
      | nil=>simp at dI;simpa using dI.symm
      | cons q b=>rfl
     have Fj:=uo (iB:=pr) (lo:=jb lo' a0) (hi:=y) Dt.1 Dt.2.1 rfl Dt.2.2 rfl (by rw[pR]) hyy agU agS (qK (V.P5 hg hB.er).1 (V.P5 hg hB.er).2);have ahv:(a0.map (·.2)++(y::b0.map (·.2)).dropLast).insertIdx (a0.map (·.2)).length AU=p.n.keys.set at_ AU:=by rw[jq,wK]
     have ahu:(a0.map (·.1)++pl::b0.map (·.1)).insertIdx ((a0.map (·.2)).length+1) pr=p.n.kids:=by
      have h1:a0.map (·.1)++pl::b0.map (·.1)=(a0.map (·.1) ++ [pl])++b0.map (·.1):=by simp
      rw[h1,show(a0.map (·.2)).length+1=(a0.map (·.1) ++ [pl]).length from by simp,jq,hB.kids];simp
     simp only[ahv,ahu]at Fj;have nT:∀z∈P'++(MQ++(Ql++(Qr++MP))),v.err z=0->v2.err z=0/\v2.pg z=v.pg z:=fun z hz h0 =>
      ⟨(u2 z).2 ((u1 z).2 h0),(p2 z (We z hz).2).trans (p1 z (We z hz).1)⟩
     have pV:v2.node pl=some l:=V.mU ((u2 pl).2 ((u1 pl).2 hB.el)) (p2 pl aca) n1;have abd:∀z,z∈Q1\/z∈Q2->z∈P'++(MQ++(Ql++(Qr++MP))):=by
      intro z hz;have h1:z∈Ql++Qr:=b3.mem_iff.2 (by simp;exact hz);simp at h1 ⊢;rcases h1 with h|h <;> simp[h]
     have AV:gI true v2 h false pl (jb lo' a0) AU (pl::Q1) E1:=gI.iff.2 ⟨l,_,pV,hS.lm _ _,List.Perm.refl _,b1.same (fun z hz=>nT z (abd z (.inl hz)))⟩;have hsr:gI true v2 h false pr AU y (pr::Q2) E2:=gI.iff.2 ⟨r,_,n2,hS.rm _ _,List.Perm.refl _,b2.same (fun z hz=>nT z (abd z (.inr hz)))⟩;have hra:=hB.ra.mono (S':=gI true v2 h false) (fun _ _ _ _ _ hq hS=>hS.same (fun z hz=>nT z (by simp[hq z hz])));have hrb:=hB.rb.mono (S':=gI true v2 h false) (fun _ _ _ _ _ hq hS=>hS.same (fun z hz=>nT z (by simp[hq z hz])));have DF:jN true v2 (h+1) ⟨false,[],p.n.keys.set at_ AU,p.n.kids⟩ lo' jP (MQ++((pl::Q1)++((pr::Q2)++MP))) (Q6++(E1++(E2++Q5))):=by
      refine⟨⟨Fj.2.2.c,Fj.2.2.k⟩,rfl,a0++(pl,AU)::(pr,y)::b0,by simp[hB.kids],?_,m_.append.2 ⟨_,_,_,_,hra,⟨_,_,_,_,AV,⟨_,_,_,_,hsr,hrb,List.Perm.refl _,rfl⟩,List.Perm.refl _,rfl⟩,List.Perm.refl _,rfl⟩⟩;show p.n.keys.set at_ AU ++ [jP]=_;rw[wK,List.append_assoc,List.cons_append,dI];simp
     have hH1:=q1.same (v':=v2) (by rw[r2,r1]) (fun z hz=>nT z (by simp[hz]));have hep:v2.err p.id=0:=(u2 _).2 ((u1 _).2 (V.fw q2));have Dj:(p.id::(P'++(MQ++((pl::Q1)++((pr::Q2)++MP))))).Perm (st.id::(P++Q)):=cz fun z=>by
      have h1:=fF.count_eq z;have h2:=b3.count_eq z;simp[List.count_cons]at h1 h2 ⊢;omega
     have L6:=t1 (· = root) _ hA kV;have Bd:=L6.trans (t2 (· = root) _ L6.had hpr);obtain⟨s1,s2⟩:=q1.sp;have aha:=wD (cap:=cap) (root:=root) up p ⟨false,[],p.n.keys.set at_ AU,p.n.kids⟩ v2 lo' jP s1 g2 hep (fun q hq=>(u2 _).2 ((u1 _).2 (s2 q hq))) Fj.1 (by omega) Fj.2.2;rcases aha with jQ|⟨hc7,rG⟩
     ·right
      obtain⟨h',B,j1,j2,j3,j4⟩:=zf (cap:=cap) (root:=root) up p _ v2 (h+1) YX lo' jP P' _ L' R' _ hH1 g2 hep DF Fj.1 (by omega) ⟨fun h=>(by cases h),fun _ _ e=>(by
       have e':p.n.keys.set at_ AU = []:=e
       rw[wK]at e';simp at e')⟩ (Dj.nodup_iff.2 gN) jQ
      refine⟨jQ,B,Bd.trans (j1.congr (fun z=>Dj.mem_iff) (fun _=>Iff.rfl)),j2,j3,.inr ⟨h',?_⟩⟩;rw[V_];have e3:L'++(Q6++(E1++(E2++Q5))++R')=L'++(Q6++(El++(Er++Q5))++R'):=by
       rw[<-List.append_assoc E1,<-b4];simp
      rw[<-e3];exact j4
     ·left
      exact⟨hc7,by rw[m2,m1]at rG;simp only[List.length_cons];omega⟩
theorem Jo.of {v:V}{root:Nat}{P:List Nat}{E:List bK}(h:Jo v root P E) (hE:E.length<1000000):fu true v root P E:=by
 rcases h with h|⟨h',hs⟩
 ·exact .inl h
 ·refine .inr ⟨h',?_,hs⟩
  have hh':=hs.oM;rcases Nat.lt_or_ge h' 40 with h|h
  ·exact h
  ·exfalso
   have h1:2 ^ 40<=2 ^ h':=Nat.pow_le_pow_right (by omega) h;have h3:(2:Nat) ^ 40=1099511627776:=by decide
   omega
theorem Gb {v:V}{root h H:Nat}{P:List Nat}{E:List bK}(hs:gI true v h true (v.r root) [] [] P E) (hE:E.length<2 ^ H):h<H:=by
 have:=hs.oM;rcases Nat.lt_or_ge h H with h1|h1
 ·exact h1
 ·have:=Nat.pow_le_pow_right (n:=2) (by omega) h1
  omega
theorem wh {key:Bs}:∀{X:List bK},(∃e∈X,e.1=key)↔X.lookup key≠none
 | []=>by simp
 | (a,b)::X=>by
  rw[List.lookup_cons]
  by_cases h:a=key
  ·subst h;simp
  ·have:(key==a)=false:=by simp;exact fun e=>h e.symm
   rw[this];simp only[List.mem_cons];rw[<-wh];constructor
   ·rintro⟨e,he|he,h2⟩
    ·subst he;exact absurd h2 h
    ·exact⟨e,he,h2⟩
   ·rintro⟨e,he,h2⟩
    exact⟨e,.inr he,h2⟩
theorem S9 {cap:Nat}{v:V}{root:Nat}{key:Bs}{P:List Nat}{E:List bK}(hg:v.eB cap) (hT:fu true v root P E) (gN:P.Nodup) (hE:E.length<1000000) :
  (E.lookup key=none/\v.iD cap root key=(false,0,v))\/(E.lookup key≠none/\(v.iD cap root key).1=true/\(((v.iD cap root key).2.1=7/\∀H,E.length<2 ^ H->v.room cap<H+1)\/((v.iD cap root key).2.1=0 /\
  ∃B,Tr (· = root) v (v.iD cap root key).2.2 P B/\B.Nodup/\(v.iD cap root key).2.2.eB cap/\fu true (v.iD cap root key).2.2 root B (del key E)))):=by
 rcases hT with ⟨h0,rfl,rfl⟩|⟨h,hh,hS⟩
 ·left
  have hw:v.way root key=some []:=by unfold V.way;rw[h0];rfl
  refine⟨rfl,?_⟩;unfold V.iD;rw[hw];rfl
 ·obtain⟨ups,st,rt,lo,hi,P',L,R,A,B,QA,QB,EA,EB,hl⟩:=CP (key:=key) hS hh
  have kL:((st::ups).reverse).getLast?=some st:=by simp
  have Sr:=hl.get;rcases hl.hit with ⟨c,B',PC,b,Jp,PT,rfl,Am,e1,e2,e3,rfl,e4,e5⟩|⟨e5,e6,e7⟩
  ·right
   rw[e5]at Sr;simp only at Sr;obtain⟨b',_,Nh⟩:=Sr;have OA:∀p∈P,v.err p=0:=hS.us;have ach:(P'++st.id::(QA++QB)).Nodup:=hl.perm.nodup_iff.1 gN;have LA:(PC++(P'++st.id::(QA++Jp))).Nodup:=by
    refine(List.Perm.nodup_iff ?_).1 ach;refine cz fun z=>?_
    have h1:=e3.count_eq z;simp[List.count_cons]at h1 ⊢;omega
   have hPC:∀p∈P'++st.id::(QA++Jp),p∉PC:=fun p hp hq=>(List.nodup_append.1 LA).2.2 p hq p hp rfl
   have Dj:P.Perm (PC++(P'++st.id::(QA++Jp))):=cz fun z=>by
    have h1:=e3.count_eq z;have h2:=hl.perm.count_eq z;simp[List.count_cons]at h1 h2 ⊢;omega
   have iL:∀p∈P'++st.id::(QA++Jp),p∈P:=fun p hp=>Dj.mem_iff.2 (List.mem_append_right _ hp)
   obtain⟨l1,l2,l3,l4,l5,l6⟩:=e1.bG hg PC [] (· = root) (fun p hp=>(e1.us p hp).1) (fun p hp=>hp) (fun p=>by simp);have ig:∀p∈P'++st.id::(QA++Jp),v.err p=0->(v.bG c).2.err p=0/\(v.bG c).2.pg p=v.pg p:=fun p hp h0=>l2.kept h0 (hPC p hp)
   have aX:=V.bM hl.node;have hO:=Nd.Ok.of aX;have bL:=hO.lf hl.leaf;have hcut:st.n.cutAt st.i=⟨true,A++B',[],[]⟩:=by
    unfold Nd.cutAt;rw[hl.cells,<-hl.i];have h1:(A++c::B').take A.length=A:=by simp
    have h2:(A++c::B').drop (A.length+1)=B':=by rw[List.drop_append];simp
    rw[h1,h2,hl.leaf,bL.1,bL.2]
   have hS2:=Nd.Ok.jW aX;have Qs:=hO.c;have ha1:=hO.a1;have eZ:=V.fH hl.node;rw[Nd.uT aX hl.leaf,eF,hl.cells]at eZ;rw[hl.cells]at hS2 Qs ha1;have mK:(A++B').Sublist (A++c::B'):=(List.Sublist.refl A).append (List.sublist_cons_self _ _);have OW:(st.n.cutAt st.i).ok=true:=by
    rw[hcut];exact qF (Nat.le_trans mK.length_le ha1) (fun d hd=>Qs d (mK.subset hd)) (hS2.sublist (mK.map _))
   have ag_:(st.n.cutAt st.i).size<=500:=by
    rw[hcut,eF];have:di (A++c::B')=di (A++B')+c.size:=by simp[di];omega
    omega
   have DF:jN true (v.bG c).2 0 (st.n.cutAt st.i) lo hi (QA++Jp) (EA++PT):=by
    rw[hcut];refine⟨⟨fun d hd=>hl.keys.1 d (by rw[hl.cells];exact mK.subset hd),by simp⟩,rfl,bO.append.2 ⟨_,_,_,_,hl.ca.same (fun p hp=>ig p (by simp[hp])),e2.same (fun p hp=>ig p (by simp[hp])),List.Perm.refl _,rfl⟩⟩
   have hH2:=hl.hole.same (v':=(v.bG c).2) (by rw[l5]) (fun p hp=>ig p (by simp[hp]));have acA:=(ig st.id (by simp) (V.fw hl.node)).1;have VK:(st.id::(P'++(QA++Jp))).Perm (P'++st.id::(QA++Jp)):=List.perm_middle.symm;have Sl:(st.id::(P'++(QA++Jp))).Nodup:=VK.nodup_iff.2 (List.nodup_append.1 LA).2.1;have Bd:Tr (· = root) v (v.bG c).2 P (st.id::(P'++(QA++Jp))) :=
    (l2.more (C:=P'++st.id::(QA++Jp)) (fun p hp=>⟨OA p (iL p hp),hPC p hp⟩)).congr (fun p=>Dj.symm.mem_iff) (fun p=>by rw[VK.mem_iff];simp)
   have e:v.iD cap root key=(true,V.shrink cap root (st::ups) (st.n.cutAt st.i) (v.bG c).2):=by
    unfold V.iD;rw[hl.way];simp only[kL,e5,l1,ne_eq,not_true,if_false,List.reverse_reverse]
   rw[e];have ag8:del key E=L++(EA++PT++R):=by
    rw[hl.Yt];have h1:∀e∈L++EA,e.1≠key:=fun e he=>qJ (hl.lt e he)
    have h2:∀e∈PT++R,e.1≠key:=fun e he=>by
     rcases List.mem_append.1 he with he|he
     ·exact fun e1=>qJ (e4 e he) e1.symm
     ·exact fun e1=>qJ (hl.gt e he) e1.symm
    rw[<-List.append_assoc,O8,Jc h1,List.cons_append];have h3:del key ((key,b)::(PT++R))=PT++R:=by
     unfold del;rw[List.filter_cons_of_neg (by simp)];exact Jc h2
    rw[h3];simp
   refine⟨by rw[Nh];simp,rfl,?_⟩;rcases zU (cap:=cap) (root:=root) ups st _ (v.bG c).2 0 rt lo hi P' _ L R _ hH2 l3 acA DF OW ag_ Sl with ⟨j1,j2⟩|⟨j1,B2,j2,j3,j4,j5⟩
   ·refine .inl ⟨j1,fun H hH=>?_⟩
    have:=Gb hS hH;have:=hl.len;omega
   ·refine .inr ⟨j1,B2,Bd.trans j2,j3,j4,?_⟩
    rw[ag8];refine j5.of ?_;have:(L++(EA++PT++R)).length<=E.length:=by rw[hl.Yt];simp
    omega
  ·left
   rw[e5]at Sr;simp only at Sr;refine⟨Sr,?_⟩;unfold V.iD;rw[hl.way];simp only[kL,e5]
def wt (E:List bK):Nat:=(E.map fun e=>(e.2.length+495) / 496).sum
theorem Q8 (A B:List bK):wt (A++B)=wt A+wt B:=by simp[wt]
theorem bO.pages {v:V}:∀{cs:List aA}{P:List Nat}{E:List bK},bO true v cs P E->P.length<=wt E
 | [],P,E,h=>by obtain⟨rfl,rfl⟩:=h;simp
 | c::cs,P,E,h=>by
  obtain⟨P1,P2,b,E2,h1,h2,h3,rfl⟩:=h;have:=h2.pages;have hl:=h3.length_eq;rw[List.length_append]at hl;have h4:P1.length<=(b.length+495) / 496:=by
   rcases h1 with ⟨_,rfl,_⟩|⟨_,_,h5,h6⟩
   ·simp
   ·rw[(h6 rfl).1,h5];exact Nat.le_refl _
  have h5:wt ((c.key,b)::E2)=(b.length+495) / 496+wt E2:=by simp[wt]
  omega
theorem m_.pages {S:Nat->Bs->Bs->List Nat->List bK->Prop}(hS:∀k a b Q F,S k a b Q F->Q.length+1<=F.length+wt F) :
  ∀{l:List (Nat×Bs)}{lo:Bs}{P:List Nat}{E:List bK},m_ S lo l P E->P.length+l.length<=E.length+wt E
 | [],lo,P,E,h=>by obtain⟨rfl,rfl⟩:=h;simp
 | (k,x)::l,lo,P,E,h=>by
  obtain⟨P1,P2,E1,E2,h1,h2,h3,rfl⟩:=h;have a:=hS _ _ _ _ _ h1;have b:=m_.pages hS h2;have hl:=h3.length_eq;rw[List.length_append]at hl;rw[List.length_append,List.length_cons,Q8];omega
theorem gI.pages {v:V}:∀{h:Nat}{rt:Bool}{id:Nat}{lo hi:Bs}{P:List Nat}{E:List bK},gI true v h rt id lo hi P E->P.length+(if rt then 0 else 1)<=E.length+wt E
 | 0,rt,id,lo,hi,P,E,hh=>by
  obtain⟨n,Q,h1,h2,h3,h4,h5⟩:=hh;have a:=h5.2.pages;have hl:=h3.length_eq;rw[List.length_cons]at hl;have b:=h5.2.len;have h6:=h2.1 h5.1;cases rt with
  | true =>
   have:n.cells.length≠0:=fun e=>h6.1 (List.length_eq_zero_iff.1 e)
   simp;omega
  | false=>have:=h6.2 rfl rfl;simp;omega
 | h+1,rt,id,lo,hi,P,E,hh=>by
  obtain⟨n,Q,h1,h2,h3,h4,h5,l,l1,l2,h6⟩:=hh;have a:=m_.pages (fun _ _ _ _ _ hs=>by have:=gI.pages hs;simpa using this) h6;have hk:=h2.2 h5 rfl;have hl:2<=l.length:=by
   have t1:=congrArg List.length l2;have t2:n.keys.length≠0:=fun e=>hk (List.length_eq_zero_iff.1 e)
   rw[List.length_append,List.length_map,List.length_singleton]at t1;omega
  have vJ:=h3.length_eq;rw[List.length_cons]at vJ;split <;> omega
theorem fu.pages {v:V}{root:Nat}{P:List Nat}{E:List bK}(h:fu true v root P E):P.length<=E.length+wt E:=by
 rcases h with ⟨_,rfl,rfl⟩|⟨h',_,hs⟩
 ·simp
 ·have:=hs.pages;simpa using this
theorem YY {cap:Nat}{v:V}(hg:v.eB cap) {P:List Nat}(gN:P.Nodup) (hu:∀p,v.err p=0↔p∈P):v.room cap+P.length+1=cap/\v.high=v.cnt+P.length+1:=by
 obtain⟨⟨l,hl⟩,h2,h3⟩:=hg;have hp:(l++P).Perm (List.range' 1 (v.high-1)):=by
  refine(List.perm_ext_iff_of_nodup (List.nodup_append.2 ⟨hl.nd,gN,?_⟩) (List.nodup_range' ..)).2 fun a=>?_
  ·rintro a ha b hb rfl
   have h4:=(hl.mem a).2 ha;have h5:=(V.dH v a).1 ((hu a).2 hb);exact h5.2.2 h4.2.2
  ·rw[List.mem_append,List.mem_range'_1,<-hu a,<-hl.mem a,V.dH]
   constructor
   ·rintro(⟨h4,h5,_⟩|⟨h4,h5,_⟩) <;> omega
   ·rintro⟨h4,h5⟩
    by_cases hk:(v.pg a).kind=255
    ·exact .inl ⟨h4,by omega,hk⟩
    ·exact .inr ⟨h4,by omega,hk⟩
 have:=hp.length_eq;rw[List.length_append,List.length_range']at this;have hc:=hl.cnt;have h1:=hl.h1;unfold V.room;omega
theorem tK {v:V}{low high:Bs}:∀{cs:List aA}{P:List Nat}{E:List bK}(p:Nat),bO true v cs P E->(∀c∈cs,qf low high c.key=true)->v.fZ low high cs p=some (p+P.length)
 | [],P,E,p,h,_=>by obtain⟨rfl,_⟩:=h;rfl
 | c::cs,P,E,p,h,hb=>by
  obtain⟨P1,P2,b,E2,h1,h2,h3,rfl⟩:=h;have hl:=h3.length_eq;rw[List.length_append]at hl;rw[V.fZ,if_pos (hb c (by simp)),h1.val];simp only;rw[tK _ h2 (fun c hc=>hb c (by simp[hc]))];rcases h1 with ⟨h4,rfl,_⟩|⟨h4,h5,h6,h7⟩
  ·rw[if_neg (by omega)]
   simp at hl;rw[hl]
  ·have h8:=h7 rfl
   rw[if_pos (by omega)];have:max 1 ((c.len+495) / 496)=P1.length:=by omega
   rw[this,hl,Nat.add_assoc]
def J3:Bs->List (Nat×Bs)->List (Nat×Bs×Bs)
 | _,[]=>[]
 | lo,(k,x)::l=>(k,lo,x)::J3 x l
theorem J2:∀(l:List (Nat×Bs)) (lo:Bs),(l.map (·.1)).zip ((lo::(l.map (·.2)).dropLast).zip (l.map (·.2)))=J3 lo l
 | [],lo=>rfl
 | (k,x)::l,lo=>by
  have ih:=J2 l x;cases l with
  | nil=>rfl
  | cons q l =>
   simp only[List.map_cons,J3]at ih ⊢;rw[List.dropLast_cons_of_ne_nil (by simp)];simp only[List.zip_cons_cons];congr 1
theorem vH {v:V}{h k deep D:Nat}{low high:Bs}
  (IH:∀id lo hi P E p d,gI true v h false id lo hi P E->p+P.length<=65536->(d=none\/d=some D)->v.look k id deep lo hi (p,d)=some (p+P.length,some D)) :
  ∀(l:List (Nat×Bs)) (lo:Bs) (first:Bool) (P:List Nat) (E:List bK) (p:Nat) (d:Option Nat),m_ (gI true v h false) lo l P E->(first=false->qf low high lo=true)->(∀x∈(l.map (·.2)).dropLast,qf low high x=true)->p+P.length<=65536->(d=none\/d=some D) ->
   iI (fun kid lo hi s=>v.look k kid deep lo hi s) low high first (J3 lo l) (p,d)=some (p+P.length,if l = []then d else some D)
 | [],lo,first,P,E,p,d,hr,_,_,_,_=>by obtain⟨rfl,_⟩:=hr;simp[J3,iI]
 | (q,x)::l,lo,first,P,E,p,d,hr,hf,hx,hp,hd=>by
  obtain⟨P1,P2,E1,E2,h1,h2,h3,rfl⟩:=hr;have hl:=h3.length_eq;rw[List.length_append]at hl;rw[J3,iI,if_neg (by rintro⟨a,b⟩;rw[hf a]at b;cases b),IH q lo x P1 E1 p d h1 (by omega) hd];simp only;cases l with
  | nil =>
   obtain⟨rfl,_⟩:=h2;simp[J3,iI];simpa using hl.symm
  | cons r l =>
   have JD:qf low high x=true:=hx x (by simp only[List.map_cons];rw[List.dropLast_cons_of_ne_nil (by simp)];simp)
   rw[vH IH (r::l) x false P2 E2 (p+P1.length) (some D) h2 (fun _=>JD) (fun y hy=>hx y (by
    simp only[List.map_cons]at hy ⊢;rw[List.dropLast_cons_of_ne_nil (by simp)]
    exact List.mem_cons_of_mem _ hy)) (by omega) (.inr rfl)]
   simp;omega
theorem F3 {v:V}:∀(h k id deep:Nat) (rt:Bool) (lo hi:Bs) (P:List Nat) (E:List bK) (p:Nat) (d:Option Nat),gI true v h rt id lo hi P E->h<k->deep+h<=40->p+P.length<=65536->(d=none\/d=some (deep+h)) ->
  v.look k id deep lo hi (p,d)=some (p+P.length,some (deep+h))
 | 0,k+1,id,deep,rt,lo,hi,P,E,p,d,hs,hk,hd,hp,dL=>by
  obtain⟨n,Q,h1,h2,h3,h4,h5⟩:=hs;have hl:=h3.length_eq;rw[List.length_cons]at hl;rw[V.look,h1];simp only;rw[if_neg (by omega),tK _ h5.2 h4.1];simp only;rw[if_pos h5.1,if_neg]
  ·simp;omega
  ·rintro(⟨a,b⟩|a)
   ·rcases dL with rfl|rfl
    ·cases a
    ·exact b rfl
   ·exact(h2.1 h5.1).1 (List.length_eq_zero_iff.1 a)
 | h+1,k+1,id,deep,rt,lo,hi,P,E,p,d,hs,hk,hd,hp,dL=>by
  obtain⟨n,Q,h1,h2,h3,h4,h5,l,l1,l2,h6⟩:=hs;have hl:=h3.length_eq;rw[List.length_cons]at hl;have hc:=((Nd.Ok.of (V.bM h1)).br h5).1;rw[V.look,h1];simp only;rw[if_neg (by omega),hc,V.fZ];simp only;rw[h5];simp only[Bool.false_eq_true,if_false];have e:n.kids.zip ((lo::n.keys).zip (n.keys ++ [hi]))=J3 lo l:=by
   rw[l1,l2,<-nL l2];exact J2 l lo
  rw[e,vH (D:=deep+(h+1)) (fun id lo hi P E p d hs hp hd=>by
   have:=F3 h k id (deep+1) false lo hi P E p d hs (by omega) (by omega) hp (by rw[show deep+1+h=deep+(h+1)from by omega];exact hd)
   rw[this,show deep+1+h=deep+(h+1)from by omega]) l lo true Q E (p+1) d h6 (fun h=>by cases h) (fun x hx=>by
    rw[nL l2]at hx
    exact(h4.2 x hx).qf) (by omega) dL]
  rw[if_neg (KD l2)];simp;omega
theorem J8 {v:V}{root:Nat}{P:List Nat}{E:List bK}(hT:fu true v root P E) (hp:P.length<=65000):∃d,v.qx root=some (P.length,d):=by
 unfold V.qx;rcases hT with ⟨h0,rfl,rfl⟩|⟨h,hh,hs⟩
 ·rw[if_pos h0];exact⟨_,rfl⟩
 ·have h0:v.r root≠0:=by
   obtain⟨n,Q,h1,_⟩:=gI.iff.1 hs;have:=(V.dH v _).1 (V.fw h1);omega
  rw[if_neg h0,F3 h 42 (v.r root) 0 true [] [] P E 0 none hs (by omega) (by omega) (by omega) (.inl rfl)];exact⟨some (0+h),by rw[Nat.zero_add P.length]⟩
theorem vW (w:World) (key val:Bs) :
  Calls Tryz.prog 77 #[.string (au key),.string (au val)] w fun e w'=>e=.returned (.int .i64 (iE key val:Int))/\w=w':=by
 have hk:=az key;have hv:=az val;cases key with
 | nil =>
  go_enter Tryz.func77,Tryz.ntmps77;go_wp2_with fail;go_ret;exact⟨rfl,rfl⟩
 | cons a key =>
  have bQ:(a::key).isEmpty=false:=rfl;have hm:iE (a::key) val=if 140<(a::key).length\/16384<val.length then 3 else 0:=by simp[iE]
  rw[hm];have vo:=vS (s:=a::key) (by simp);generalize a::key=k at *;clear hm
  by_cases h1:140<k.length
  ·rw[if_pos (.inl h1)]
   go_enter Tryz.func77,Tryz.ntmps77;go_wp2_with fail;go_ret;exact⟨rfl,rfl⟩
  ·by_cases h2:16384<val.length
   ·rw[if_pos (.inr h2)]
    go_enter Tryz.func77,Tryz.ntmps77;go_wp2_with fail;go_ret;exact⟨rfl,rfl⟩
   ·rw[if_neg (by simp;omega)]
    go_enter Tryz.func77,Tryz.ntmps77;go_wp2_with fail;go_ret;exact⟨rfl,rfl⟩
structure Ac where
 kind:Int
 n:Int
 key:Bs
 val:Bs
def Ac.vals (a:Ac):List Value:=[.int .i64 a.kind,.int .i64 a.n,.string (au a.key),.string (au a.val)]
def Ac.agg (a:Ac):Value:=.agg #[.int .i64 a.kind,.int .i64 a.n,.string (au a.key),.string (au a.val)]
def UI (s:Bs):Nat->Bs
 | 0=>[]
 | k+1=>UI s k++s
def vE (n:Int):Nat:=((n.tmod 5+5).tmod 5).toNat+1
def Ac.value (a:Ac):Bs:=UI (a.val.take 400) (vE a.n)
theorem P8 (s:Bs) (k:Nat):(UI s k).length=k*s.length:=by
 induction k with
 | zero=>simp[UI]
 | succ k ih=>rw[UI,List.length_append,ih,Nat.succ_mul]
theorem J4 (n:Int):1<=vE n/\vE n<=5/\((n.tmod 5+5).tmod 5)=((vE n:Int)-1):=by
 have h1:-5<n.tmod 5/\n.tmod 5<5:=⟨by have:=Int.lt_tmod_of_pos n (show(0:Int)<5 by decide);omega,Int.tmod_lt_of_pos n (by decide)⟩;have h2:0<=(n.tmod 5+5).tmod 5:=Int.tmod_nonneg _ (by omega);have h3:(n.tmod 5+5).tmod 5<5:=Int.tmod_lt_of_pos _ (by decide);unfold vE;omega
theorem Ac.JY (a:Ac):a.value.length<=2000:=by
 unfold Ac.value;rw[P8,List.length_take];have:=(J4 a.n).2.1
 calc vE a.n*min 400 a.val.length<=5*400:=Nat.mul_le_mul this (by omega)
  _=2000:=rfl
theorem B_ (a:Ac) (hn:-(2:Int)^63<=a.n/\a.n<2^63) (hl:a.val.length<2^63) (w:World) :
  Calls Tryz.prog 26 #[a.agg] w fun e w'=>e=.returned (.string (au a.value))/\ah No w w':=by
 obtain⟨kind,n,key,val⟩:=a;simp only[Ac.agg,Ac.value];have hv:=az val;obtain⟨t1,t2,t3⟩:=J4 n;have t4:-5<n.tmod 5/\n.tmod 5<5:=⟨by have:=Int.lt_tmod_of_pos n (show(0:Int)<5 by decide);omega,Int.tmod_lt_of_pos n (by decide)⟩;have Su:(au val).extract 0 (min (val.length:Int) 400).toNat=au (val.take 400):=by
  rw[pE];congr 1;rw[show(min (val.length:Int) 400).toNat=min 400 val.length by omega,<-List.take_take,List.take_length]
 have AV:(val.take 400).length<=400:=by rw[List.length_take];omega
 obtain⟨O,hO⟩:∃O,O=au (UI (val.take 400) (vE n)):=⟨_,rfl⟩;rw[<-hO];go_enter Tryz.func26,Tryz.ntmps26;go_wp2_with fail;rw[show(1+((vE n:Int)-1))=(vE n:Int) by omega];have sj:ah No w (w.alloc (.cells #[.int .i64 kind,.int .i64 n,.string (au key),.string (au val)] 53)):=(ah.refl No w).alloc _;generalize val.take 400=s at *;generalize w.alloc (.cells #[.int .i64 kind,.int .i64 n,.string (au key),.string (au val)] 53)=W at *;generalize vE n=T at *;go_loopg [4,18] T (fun gk o i wr=>∃(k:Nat),k+gk=T/\o=.string (au (UI s k))/\i=.int .i64 (k:Int)/\W=wr)
 case atStart=>exact⟨0,by omega,rfl,rfl,rfl⟩
 case round =>
  obtain⟨k,hk,rfl,rfl,rfl⟩:=hrel
  by_cases bu:k<T
  ·have e1:=az (UI s k)
   have e2:=az s;rw[P8]at e1;have e3:k*s.length<=5*400:=Nat.mul_le_mul (by omega) (by omega);generalize k*s.length=m at e1 e3;have e4:=fM (UI s k) s;have e5:au (UI s (k+1))=au (UI s k++s):=rfl;go_wp2_with fail;go_roundg (gk-1)
   case rel=>exact⟨k+1,by omega,by rw[e5,<-e4],by go_num,rfl⟩
   case measure=>omega
  ·have:k=T:=by omega
   subst this;go_wp2_with fail;go_ret;exact⟨by rw[hO];rfl,sj⟩
def dR (E:List bK):List Value:=E.flatMap fun e=>[.string (au e.1),.string (au e.2)]
theorem I7 (e:bK) (E:List bK):dR (e::E) = [.string (au e.1),.string (au e.2)]++dR E:=rfl
theorem DW (a b:List bK):dR (a++b)=dR a++dR b:=by simp[dR]
theorem DV:∀(E:List bK) (i:Nat) (e:bK),E[i]?=some e->(dR E)[i*2]?=some (.string (au e.1))/\(dR E)[i*2+1]?=some (.string (au e.2))
 | d::E,0,e,h=>by
  have:d=e:=by simpa using h
  subst this;exact⟨rfl,rfl⟩
 | d::E,i+1,e,h=>by
  have h':E[i]?=some e:=by simpa using h
  obtain⟨h1,h2⟩:=DV E i e h';rw[I7];rw[show(i+1)*2=i*2+2 by omega];exact⟨h1,h2⟩
theorem Rd.DX {w:World}{F:Nat->Prop}{A:Option Addr}{E:List bK}(h:Rd w F 2 A E.length (dR E)) {i:Nat}{e:bK}(hc:E[i]?=some e) :
  ∃b o,A=some ⟨b,o,none⟩/\¬F b/\w.cell? ⟨b,o+i*2,none⟩=some (.string (au e.1))/\w.cell? ⟨b,o+i*2+1,none⟩=some (.string (au e.2)):=by
 have hi:i<E.length:=(List.getElem?_eq_some_iff.1 hc).1;obtain⟨b,o,e1,hb,hx⟩:=h.2 (by omega);obtain⟨h1,h2⟩:=DV E i e hc;refine⟨b,o,e1,hb,hx _ _ h1,?_⟩;have:=hx _ _ h2;rw[<-Nat.add_assoc]at this;exact this
structure jL (w:World) (F:Nat->Prop) (A:Option Addr) (c:Nat) (E:List bK):Prop where
 rd:Rd w F 2 A E.length (dR E)
 l:E.length<=c
 n:A=none->c=0
 b:E.length<65536
theorem jL.ext {w w':World}{F:Nat->Prop}{A:Option Addr}{c:Nat}{E:List bK}(h:jL w F A c E) (he:ah F w w'):jL w' F A c E:=⟨h.rd.ext he,h.l,h.n,h.b⟩
theorem jL.mono {w:World}{F G:Nat->Prop}{A:Option Addr}{c:Nat}{E:List bK}(h:jL w F A c E) (hG:∀b,b<w.heap.size->G b->F b):jL w G A c E:=⟨h.rd.mono (by decide) hG,h.l,h.n,h.b⟩
def vX (E:List bK) (key:Bs):Ending :=
 if iE key []=0 then (match E.lookup key with
  | some b=>.returned (.tuple #[.string (au b),.bool true,.int .i64 0])
  | none=>.returned (.tuple #[.string (au []),.bool false,.int .i64 0]))
 else .returned (.tuple #[.string (au []),.bool false,.int .i64 (iE key []:Int)])
theorem NV (w:World) (g:Nat) (A:Option Addr) (c:Nat) (E:List bK) (key:Bs) (hg:ax w g 32 #[.slice A E.length c]) (hr:jL w No A c E) :
  Calls Tryz.prog 65 #[.pointer (some ⟨g,0,none⟩),.string (au key)] w fun e w'=>e=vX E key/\w=w':=by
 have HM:=aa (fun w=>vW w key []);have c0:=hg.cell 0;have hb:=hr.b;have hl:=hr.l;simp at c0;have HR:=aa hr;have HG:=aa hg;clear hr hg
 by_cases hm:iE key []=0
 ·rw[hm]at HM
  obtain⟨D,hD⟩:∃D,D=vX E key:=⟨_,rfl⟩;rw[<-hD];simp only[vX,hm,if_true]at hD;go_enter Tryz.func65,Tryz.ntmps65;go_wp2_with fail;refine(HM.out _).mono ?_;rintro e w1 ⟨rfl,rfl⟩;go_wp2_with fail;go_loopg [8] E.length (fun gk i wr=>∃(k:Nat),k+gk=E.length/\i=.int .i64 (k:Int)/\Hid (E.lookup key=(E.drop k).lookup key)/\w=wr)
  case atStart=>exact⟨0,by omega,rfl,aa rfl,rfl⟩
  case round =>
   obtain⟨k,hk,rfl,hd,rfl⟩:=hrel
   by_cases bu:k<E.length
   ·obtain⟨e,he⟩:∃e,E[k]?=some e:=⟨_,List.getElem?_eq_getElem bu⟩
    obtain⟨b,o,rfl,_,k0,k1⟩:=HR.out.rd.DX he;have lc:=World.block_lt_of_cell? w _ k0;simp only at lc;have hdr:E.drop k=e::E.drop (k+1):=by
     rw[List.drop_eq_getElem_cons bu];congr 1;exact(List.getElem?_eq_some_iff.1 he).2
    have iY:(k:Int)<(E.length:Int):=by omega
    by_cases LM:e.1=key
    ·have hq:(e.1==key)=true:=by simpa using LM
     have hf:E.lookup key=some e.2:=by
      rw[hd.out,hdr];obtain⟨a,b⟩:=e;simp only at LM;subst LM;simp[List.lookup]
     rw[hf]at hD;simp only at hD;generalize E.length=El at *;go_wp2_with fail
     go_ret3
     exact⟨hD.symm,rfl⟩
    ·have hq:(e.1==key)=false:=by simpa using LM
     have hf:(E.drop k).lookup key=(E.drop (k+1)).lookup key:=by
      rw[hdr];obtain⟨a,b⟩:=e;have:(key==a)=false:=by simpa using fun h=>LM h.symm
      simp[List.lookup,this]
     have hd2:=aa (hd.out.trans hf);have hK:Hid (k+gk=E.length):=aa hk;generalize E.length=El at *;go_wp2_with fail;go_roundg (gk-1)
     case rel=>exact⟨k+1,by have:=hK.out;omega,by go_num,hd2,rfl⟩
     case measure=>have:=hK.out;omega
   ·have mW:k=E.length:=by omega
    have hf:E.lookup key=none:=by rw[hd.out,mW,List.drop_length];rfl
    rw[hf]at hD;simp only at hD;subst mW;go_wp2_with fail
    go_ret3
    exact⟨hD.symm,rfl⟩
 ·have hD:vX E key=.returned (.tuple #[.string (au []),.bool false,.int .i64 (iE key []:Int)]):=by rw[vX,if_neg hm]
  rw[hD];generalize iE key []=q at *;go_enter Tryz.func65,Tryz.ntmps65;go_wp2_with fail;refine(HM.out _).mono ?_;rintro e w1 ⟨rfl,rfl⟩;have hq:((q:Int)==0)=false:=by simpa using hm
  go_wp2_with fail
  go_ret3
  exact⟨rfl,rfl⟩
theorem Tryz.Vk:(Tryz.prog.info? 49).map (fun i=>(i.zero,i.size,i.bytes))=some (some (.agg #[.string ⟨#[]⟩,.string ⟨#[]⟩]),2,32):=by kernel_rfl
theorem uH {w:World}{base g cap:Nat}{es:List bK}{e:bK}(h:w.ownsRow base 49 2 (.slice (some ⟨g,0,none⟩) (es.length+1) cap) (es.length+1) (dR es ++ [.string (au e.1),.string (au e.2)])) :
  w.ownsRow base 49 2 (.slice (some ⟨g,0,none⟩) (es ++ [e]).length cap) (es ++ [e]).length (dR (es ++ [e])):=by
 rw[List.length_append,DW];exact h
theorem WY (key:Bs) (E:List bK) (e:bK):del key (E ++ [e])=if e.1=key then del key E else del key E ++ [e]:=by
 simp[del];split <;> simp_all
theorem Re {E:List bK}{k:Nat}{e:bK}(he:E[k]?=some e):E.take (k+1)=E.take k ++ [e]:=by
 rw[List.take_add_one,he];rfl
theorem Jd (key:Bs) (E:List bK):(del key E).length<=E.length:=List.length_filter_le _ _
structure zy (w:World) (g:Nat) (e0:Ending) (E':List bK) (e:Ending) (w':World):Prop where
 e:e=e0
 x:ah (On g) w w'
 m:∃A' c',ax w' g 32 #[.slice A' E'.length c']/\jL w' (Lo w.heap.size) A' c' E'
theorem NW (w:World) (g:Nat) (A:Option Addr) (c:Nat) (E:List bK) (key:Bs) (hg:ax w g 32 #[.slice A E.length c]) (hr:jL w No A c E) (hm:iE key []=0) :
  Calls Tryz.prog 37 #[.pointer (some ⟨g,0,none⟩),.string (au key)] w (zy w g (.returned (.tuple #[.bool (decide ((del key E).length<E.length)),.int .i64 0])) (del key E)):=by
 have HM:=aa (fun w=>vW w key []);rw[hm]at HM;have hb:=hr.b;have hl:=hr.l;have HR:=aa hr;have HG:=aa hg;have HB:=aa hb;have kL:=hg.lt;have HD:=aa (Jd key E);obtain⟨D,hD⟩:∃D,D=zy w g (.returned (.tuple #[.bool (decide ((del key E).length<E.length)),.int .i64 0])) (del key E):=⟨_,rfl⟩;rw[<-hD];clear hr hm;obtain⟨i0,mi,eQ,fe,eP⟩:=info_parts Tryz.Vk;go_enter Tryz.func37,Tryz.ntmps37;go_wp2_with fail;refine(HM.out _).mono ?_;rintro e w1 ⟨rfl,rfl⟩;go_wp2_with fail;go_loopg [7,8] E.length (fun gk v i wr=>∃(k:Nat) (A1:Option Addr) (c1:Nat),k+gk=E.length/\i=.int .i64 (k:Int)/\v=.slice A1 (del key (E.take k)).length c1/\wr.ownsRow w.heap.size 49 2 (.slice A1 (del key (E.take k)).length c1) (del key (E.take k)).length (dR (del key (E.take k)))/\ah No w wr)
 case atStart=>exact⟨0,none,0,by omega,rfl,rfl,World.ownsRow_nil _ _ _ _,ah.refl _ _⟩
 case round =>
  obtain⟨k,A1,c1,hk,rfl,rfl,aP,hE⟩:=hrel;have c0:=(HG.out.ext hE (fun h=>h)).cell 0;simp at c0;have HE:=aa hE;have HO:=aa aP;have HK:=aa hk;have m0:=hE.size;have hdl:=Jd key (E.take k);rw[List.length_take]at hdl
  by_cases bu:k<E.length
  ·obtain⟨e,he⟩:∃e,E[k]?=some e:=⟨_,List.getElem?_eq_getElem bu⟩
   obtain⟨b,o,hA,_,k0,k1⟩:=(HR.out.ext hE).rd.DX he;subst hA;have lc:=World.block_lt_of_cell? wr _ k0;simp only at lc;have iY:(k:Int)<(E.length:Int):=by omega
   have hsn:=Re he;have hds:=WY key (E.take k) e;rw[<-hsn]at hds
   by_cases LM:e.1=key
   ·have hq:(e.1==key)=true:=by simpa using LM
    rw[if_pos LM]at hds;have HDS:=aa hds;clear aP hE hk hds hsn;generalize E.length=El at *;go_wp2_with fail;go_roundg (gk-1)
    case rel=>exact⟨k+1,A1,c1,by have:=HK.out;omega,by go_num,by rw[HDS.out],by rw[HDS.out];exact HO.out,HE.out⟩
    case measure=>have:=HK.out;omega
   ·have hq:(e.1==key)=false:=by simpa using LM
    rw[if_neg LM]at hds;have HDS:=aa hds;clear aP hE hk hds hsn;have ajA:(del key (E.take k)).length<=65536:=by omega
    generalize E.length=El at *;generalize dL:del key (E.take k)=dd at *;have m2:dd.length+1<=maxLen:=by unfold maxLen;omega
    have m3:(dd.length+1)*32<=140737488355328:=by omega
    have m6:∀o,w.heap.size<=(wr.alloc o).heap.size:=(fun o=>by simp;omega);have m7:∀o,(wr.alloc o).heap.size=wr.heap.size+1:=(fun o=>by simp);go_wp2_with (at_builtin;refine wpList_append_lies _ (by rfl) _ _ 30 (by rfl) w.heap.size 49 i0 (.agg #[.string ⟨#[]⟩,.string ⟨#[]⟩]) 2 32 Tryz.underlying30 mi eQ fe eP (by rfl) (by decide) (.slice A1 dd.length c1) dd.length (dR dd) (by rfl) (by exact HO.out.alloc _) ⟨wr.heap.size,0,none⟩ 1 1 [.string (au e.1),.string (au e.2)] (by rfl) (by rfl) (by exact World.news_of_block (cs:=#[.string (au e.1),.string (au e.2)]) (t:=49) (fr:=(0,0)) (heap_alloc_new wr _)) (by simp[Value.oneCell']) (by decide) m2 m3 (by exact m6 _) (wr.heap.size+1) (by exact m7 _) ?_);intro g2 cap2 w6 bJ a_ uf iK;have MX:=aa (uH bJ);have DK:=aa ((HE.out.alloc _).grown a_ (mI HO.out (Nat.le_refl _)));clear bJ a_;go_wp2_with fail;go_roundg (gk-1)
    case rel=>exact⟨k+1,some ⟨g2,0,none⟩,cap2,by have:=HK.out;omega,by go_num,by rw[HDS.out];simp,by rw[HDS.out];exact MX.out,DK.out⟩
    case measure=>have:=HK.out;omega
  ·have mW:k=E.length:=by omega
   subst mW;rw[List.take_length]at HO;have fQ:=HE;have hcap:=dX HO.out;have pW:=dA HO.out;have Bc:=(HG.out.ext hE (fun h=>h)).aQ 0 (.slice A1 (del key E).length c1);have qh:=(HG.out.ext hE (fun h=>h)).frozen 0;have iK:=(HG.out.ext hE (fun h=>h)).lt;have fC:ah (On g) w (wr.setCell ⟨g,0,none⟩ (.slice A1 (del key E).length c1)):=ah.ay (F:=On g) (HE.out.of_no) (b:=g) (show On g g from rfl) _ _;have HBG:=aa Bc;have qi:=aa fC;have hD2:D (.returned (.tuple #[.bool (decide ((del key E).length<E.length)),.int .i64 0])) (wr.setCell ⟨g,0,none⟩ (.slice A1 (del key E).length c1)):=by
    rw[hD];refine⟨rfl,qi.out,A1,c1,HBG.out,?_,hcap,pW,by have:=HD.out;have:=HB.out;omega⟩;exact Rd.jf (ownsRow_setCell_other HO.out (by intro e;exact gZ HO.out kL e.symm) _) (by decide)
   clear Bc fC aP hE hk hD;simp only[List.take_length];generalize (del key E).length=dl at *;go_wp2_with fail;exact hD2
structure vN (cap:Nat) (v:V) (root:Nat) (X P:List Nat) (E:List bK):Prop where
 uZ:v.eB cap
 tree:fu true v root P E
 nodup:(P++X).Nodup
 us:∀p,v.err p=0↔p∈P++X
 small:∀e∈E,e.2.length<=2000
theorem JU:∀{E:List bK},(∀e∈E,e.2.length<=2000)->wt E<=5*E.length
 | [],_=>by simp[wt]
 | e::E,h=>by
  have h1:=JU (E:=E) (fun e he=>h e (by simp[he]));have h2:=h e (by simp);have h3:wt (e::E)=(e.2.length+495) / 496+wt E:=by simp[wt]
  rw[h3,List.length_cons];omega
theorem CZ (key val:Bs):∀E:List bK,(wu key val E).length<=E.length+1
 | []=>by simp[wu]
 | e::E=>by
  have:=CZ key val E;rw[wu];split
  ·simp;omega
  ·split <;> simp
theorem xC {key val:Bs}:∀{E:List bK}{e:bK},e∈wu key val E->e=(key,val)\/e∈E
 | [],e,h=>by simpa[wu]using h
 | a::E,e,h=>by
  rw[wu]at h;split at h
  ·rcases List.mem_cons.1 h with h|h
   ·exact .inr (by simp[h])
   ·rcases xC h with h|h
    ·exact .inl h
    ·exact .inr (by simp[h])
  ·split at h
   ·rcases List.mem_cons.1 h with h|h
    ·exact .inl h
    ·exact .inr (by simp[h])
   ·rcases List.mem_cons.1 h with h|h
    ·exact .inl h
    ·exact .inr h
theorem fu.sorted {g:Bool}{v:V}{root:Nat}{P:List Nat}{E:List bK}(h:fu g v root P E):ja E:=by
 rcases h with ⟨_,_,rfl⟩|⟨h,_,hs⟩
 ·exact .nil
 ·exact hs.told.2.2
theorem ja.map {E:List bK}(h:ja E):ed (E.map (·.1)):=List.pairwise_map.2 h
theorem fu.us {g:Bool}{v:V}{root:Nat}{P:List Nat}{E:List bK}(h:fu g v root P E):∀p∈P,v.err p=0:=by
 rcases h with ⟨_,rfl,_⟩|⟨h,_,hs⟩
 ·simp
 ·exact hs.us
theorem fu.kept {g:Bool}{v v':V}{root:Nat}{P:List Nat}{E:List bK}(h:fu g v root P E) (hr:v'.r root=v.r root) (hs:∀p∈P,v.err p=0->v'.err p=0/\v'.pg p=v.pg p):fu g v' root P E:=by
 rcases h with ⟨h0,rfl,rfl⟩|⟨h,hh,hS⟩
 ·exact .inl ⟨by rw[hr,h0],rfl,rfl⟩
 ·refine .inr ⟨h,hh,?_⟩
  rw[hr];exact hS.same hs
section
variable {cap root:Nat}{v v':V}{X P:List Nat}{E:List bK}
theorem vN.room (h:vN cap v root X P E):v.room cap+P.length+X.length+1=cap/\P.length<=6*E.length:=by
 have h1:=YY h.uZ h.nodup h.us;have h2:=h.tree.pages;have h3:=JU h.small;rw[List.length_append]at h1;omega
theorem vN.sorted (h:vN cap v root X P E):ed (E.map (·.1)):=h.tree.sorted.map
theorem vN.put (h:vN cap v root X P E) {key val:Bs}(hm:iE key val=0) (hv:val.length<=2000) (hE:E.length<100) (hc:6*E.length+X.length+15<=cap) :
  (v.Put cap root key val).1=0/\∃P',vN cap (v.Put cap root key val).2 root X P' (wu key val E)/\Tr (· = root) v (v.Put cap root key val).2 P P':=by
 have hr:=h.room;have h0:(v.fP cap root key val).1=0:=by
  rcases NZ h.uZ h.tree hm with h1|⟨h1,h2,h3⟩|⟨h1,h2,h3⟩
  ·exact h1
  ·exfalso
   rcases h.tree with ⟨h4,_⟩|⟨x,hx,hS⟩
   ·exact h1 h4
   ·have h5:=h3 x hS hx
    have h6:=Gb (H:=7) hS (by omega);omega
  ·exfalso
   omega
 obtain⟨P',t1,t2,t3,t4⟩:=Rw h.uZ h.tree (List.nodup_append.1 h.nodup).1 hm (by omega) h0;have e:v.Put cap root key val=v.fP cap root key val:=by
  unfold V.Put;rw[if_neg (by omega)];unfold V.sure;rw[if_pos h0]
 rw[e];refine⟨h0,P',⟨t3,t4,?_,?_,?_⟩,t1⟩
 ·refine List.nodup_append.2 ⟨t2,(List.nodup_append.1 h.nodup).2.1,?_⟩
  intro a ha b hb e;subst e;have h1:v.err a=0:=(h.us a).2 (by simp[hb]);have h2:a∉P:=fun hp=>(List.nodup_append.1 h.nodup).2.2 a hp a hb rfl
  exact(t1.fr a h1 h2).2 ha
 ·intro p
  rw[t1.us p,h.us p];have:=(List.nodup_append.1 h.nodup).2.2;simp only[List.mem_append];constructor
  ·rintro(⟨h1|h1,h2⟩|h1)
   ·exact absurd h1 h2
   ·exact .inr h1
   ·exact .inl h1
  ·rintro(h1|h1)
   ·exact .inr h1
   ·exact .inl ⟨.inr h1,fun hp=>this p hp p h1 rfl⟩
 ·intro x hx
  rcases xC hx with rfl|hx
  ·exact hv
  ·exact h.small x hx
theorem vN.del (h:vN cap v root X P E) {key:Bs}(hm:iE key []=0) (hE:E.length<100) (hc:6*E.length+X.length+15<=cap) :
  (v.vz cap root key).1=decide ((del key E).length<E.length)/\(v.vz cap root key).2.1=0/\∃P',vN cap (v.vz cap root key).2.2 root X P' (del key E)/\Tr (· = root) v (v.vz cap root key).2.2 P P':=by
 have hr:=h.room;have hn:=(List.nodup_append.1 h.nodup).1;have bu:E.lookup key≠none↔(YtccnemmlkcmceaaGreatDoor.del key E).length<E.length:=by
  rw[<-wh];unfold YtccnemmlkcmceaaGreatDoor.del;constructor
  ·rintro⟨e,he,h1⟩
   have:=List.length_filter_lt_length_iff_exists (p:=fun e:bK=>!(e.1==key)) (l:=E);exact this.2 ⟨e,he,by simp[h1]⟩
  ·intro h1
   have:=(List.length_filter_lt_length_iff_exists (p:=fun e:bK=>!(e.1==key)) (l:=E)).1 h1;obtain⟨e,he,h2⟩:=this;exact⟨e,he,by simpa using h2⟩
 rcases S9 (key:=key) h.uZ h.tree hn (by omega)with ⟨h1,h2⟩|⟨h1,h2,h3⟩
 ·have e:v.vz cap root key=(false,0,v):=by
   unfold V.vz;rw[if_neg (by omega),h2];rfl
  have hd:YtccnemmlkcmceaaGreatDoor.del key E=E:=Jc (fun e he h4=>by
   have:=(wh (key:=key) (X:=E)).1 ⟨e,he,h4⟩
   exact this h1)
  rw[e,hd];refine⟨by simp,rfl,P,h,Tr.refl _ _ _ h.tree.us⟩
 ·rcases h3 with ⟨h3,h4⟩|⟨h3,P',t1,t2,t3,t4⟩
  ·exfalso
   have:=h4 7 (by omega);omega
  ·have e:v.vz cap root key=v.iD cap root key:=by
    unfold V.vz;rw[if_neg (by omega),if_pos h3]
   rw[e];refine⟨by rw[h2];simpa using bu.1 h1,h3,P',⟨t3,t4,?_,?_,?_⟩,t1⟩
   ·refine List.nodup_append.2 ⟨t2,(List.nodup_append.1 h.nodup).2.1,?_⟩
    intro a ha b hb e;subst e;have h1:v.err a=0:=(h.us a).2 (by simp[hb]);have h2:a∉P:=fun hp=>(List.nodup_append.1 h.nodup).2.2 a hp a hb rfl
    exact(t1.fr a h1 h2).2 ha
   ·intro p
    rw[t1.us p,h.us p];have:=(List.nodup_append.1 h.nodup).2.2;simp only[List.mem_append];constructor
    ·rintro(⟨h1|h1,h2⟩|h1)
     ·exact absurd h1 h2
     ·exact .inr h1
     ·exact .inl h1
    ·rintro(h1|h1)
     ·exact .inr h1
     ·exact .inl ⟨.inr h1,fun hp=>this p hp p h1 rfl⟩
   ·intro x hx
    exact h.small x (List.mem_filter.1 hx).1
end
def Ac.fD (a:Ac):Bs:=107::a.key.take 130
def Ac.step (E:List bK) (a:Ac):List bK:=if a.kind=2 then del a.fD E else wu a.fD a.value E
def fE (l:List Ac):List bK:=l.foldl Ac.step []
theorem O4 (l:List Ac) (a:Ac):fE (l ++ [a])=a.step (fE l):=by simp[fE]
theorem Ac.UB (a:Ac) (E:List bK):(a.step E).length<=E.length+1:=by
 unfold Ac.step;split
 ·exact Nat.le_trans (Jd _ _) (by omega)
 ·exact CZ _ _ _
theorem Mh:∀(l:List Ac) (E:List bK),(l.foldl Ac.step E).length<=E.length+l.length
 | [],E=>by simp
 | a::l,E=>by
  have h1:=Mh l (a.step E);have h2:=a.UB E;simp only[List.foldl_cons,List.length_cons];omega
theorem Gv (l:List Ac):(fE l).length<=l.length:=by
 have:=Mh l [];simpa[fE]using this
theorem Ac.tQ (a:Ac) (val:Bs) (hv:val.length<=2000):iE a.fD val=0:=by
 unfold iE Ac.fD;have:(a.key.take 130).length<=130:=by rw[List.length_take];omega
 rw[if_neg (by simp),if_neg (by simp;omega)]
def mg (key val:Bs):Bool->List bK->List bK
 | put,[]=>if put then []else [(key,val)]
 | put,e::E=>(if !put&&!fA e.1 key then [(key,val)]else [])++(if e.1=key then []else [e])++mg key val (put||!fA e.1 key) E
theorem FO (key val:Bs):∀E,mg key val true E=del key E
 | []=>rfl
 | e::E=>by
  rw[mg,Bool.true_or,FO key val E]
  by_cases h:e.1=key <;> simp[del,h]
theorem Cy (key val:Bs):∀(E:List bK),ed (E.map (·.1))->mg key val false E=wu key val E
 | [],_=>rfl
 | e::E,h=>by
  have h':=List.pairwise_cons.1 h;rw[mg,wu];cases hk:fA e.1 key
  ·have hgt:∀x∈E,x.1≠key:=fun x hx e1=>by
    have h2:=h'.1 x.1 (List.mem_map.2 ⟨x,hx,rfl⟩);rw[e1,hk]at h2;cases h2
   simp only[Bool.not_false,Bool.and_true,if_true,Bool.false_or,FO,Jc hgt]
   by_cases he:e.1=key <;> simp[he]
  ·have bQ:e.1≠key:=qJ hk
   simp[bQ,Cy key val E h'.2]
theorem Rt (key val:Bs) (put:Bool) (e:bK) (E O:List bK):O++mg key val put (e::E)=(O++(if !put&&!fA e.1 key then [(key,val)]else []))++((if e.1=key then []else [e])++mg key val (put||!fA e.1 key) E):=by rw[mg];simp
theorem Kj (key val:Bs):∀(put:Bool) (E:List bK),(mg key val put E).length<=E.length+(if put then 0 else 1)
 | put,[]=>by cases put <;> simp[mg]
 | put,e::E=>by
  have h:=Kj key val (put||!fA e.1 key) E;rw[mg];simp only[List.length_append,List.length_cons];cases put <;> cases hk:fA e.1 key <;> simp[hk]at h ⊢ <;> by_cases he:e.1=key <;> simp[he]at * <;> omega
theorem Cz (w:World) (g:Nat) (A:Option Addr) (c:Nat) (E:List bK) (key val:Bs) (hg:ax w g 32 #[.slice A E.length c]) (hr:jL w No A c E) (hb1:E.length<65000) (hm:iE key val=0) :
  Calls Tryz.prog 38 #[.pointer (some ⟨g,0,none⟩),.string (au key),.string (au val)] w (zy w g (.returned (.int .i64 0)) (mg key val false E)):=by
 have HM:=aa (fun w=>vW w key val);rw[hm]at HM;have hl:=hr.l;have HR:=aa hr;have HG:=aa hg;have HEB:=aa hb1;have kL:=hg.lt;have HGL:=aa kL;have HD:=aa (Kj key val false E);obtain⟨D,hD⟩:∃D,D=zy w g (.returned (.int .i64 0)) (mg key val false E):=⟨_,rfl⟩;rw[<-hD];have gF:=aa hD;clear hr hm hg hD;obtain⟨i0,mi,eQ,fe,eP⟩:=info_parts Tryz.Vk;go_enter Tryz.func38,Tryz.ntmps38;go_wp2_with fail;refine(HM.out _).mono ?_;rintro e w1 ⟨rfl,rfl⟩;go_wp2_with fail;go_loopg [8,9,10] E.length (fun gk v pv i wr=>∃(k:Nat) (put:Bool) (O:List bK) (A1:Option Addr) (c1:Nat),k+gk=E.length/\i=.int .i64 (k:Int)/\pv=.bool put/\v=.slice A1 O.length c1/\wr.ownsRow w.heap.size 49 2 (.slice A1 O.length c1) O.length (dR O)/\Hid (O.length<=k+(if put then 1 else 0))/\Hid (O++mg key val put (E.drop k)=mg key val false E)/\ah No w wr)
 case atStart=>exact⟨0,false,[],none,0,by omega,rfl,rfl,rfl,World.ownsRow_nil _ _ _ _,aa (by simp),aa rfl,ah.refl _ _⟩
 case round =>
  obtain⟨k,put,O,A1,c1,hk,rfl,rfl,rfl,aP,HOL,hd,hE⟩:=hrel;have c0:=(HG.out.ext hE (fun h=>h)).cell 0;simp at c0;have HE:=aa hE;have HO:=aa aP;have HK:=aa hk;have m0:=hE.size
  by_cases bu:k<E.length
  ·obtain⟨e,he⟩:∃e,E[k]?=some e:=⟨_,List.getElem?_eq_getElem bu⟩
   obtain⟨b,o,hA,_,k0,k1⟩:=(HR.out.ext hE).rd.DX he;subst hA;have lc:=World.block_lt_of_cell? wr _ k0;simp only at lc;have iY:(k:Int)<(E.length:Int):=by omega
   have HDR:Hid (E.drop k=e::E.drop (k+1)):=aa (by
    rw[List.drop_eq_getElem_cons bu];congr 1
    exact(List.getElem?_eq_some_iff.1 he).2)
   have MW:=aa (show O.length<=65002 by have:=HOL.out;split at this <;> omega);have ru:=aa (((Rt key val put e (E.drop (k+1)) O).symm.trans (by rw[<-HDR.out])).trans hd.out);clear hE aP hk;go_upto_region 9 with fail;go_cut [39] (fun v wx=>v=.bool (!put&&!fA e.1 key)/\wr=wx)
   case first =>
    cases put
    ·cases l_:fA e.1 key
     ·go_wp2_with fail
      go_meet;exact⟨by simp[l_],rfl⟩
     ·go_wp2_with fail
      go_meet;exact⟨by simp[l_],rfl⟩
    ·go_wp2_with fail
     go_meet;exact⟨rfl,rfl⟩
   case rest =>
   obtain⟨rfl,rfl⟩:=hcut;obtain⟨bq,JJ⟩:∃bq,bq=(!put&&!fA e.1 key):=⟨_,rfl⟩;rw[<-JJ];have HBQ:=aa JJ;clear JJ;go_upto_if 39 with fail;go_cut [8,9] (fun v pv wx=>∃(O2:List bK) (A2:Option Addr) (c2:Nat),pv=.bool (put||!fA e.1 key)/\v=.slice A2 O2.length c2/\Hid (wx.ownsRow w.heap.size 49 2 (.slice A2 O2.length c2) O2.length (dR O2))/\Hid (O2=O++(if !put&&!fA e.1 key then [(key,val)]else []))/\Hid (ah No w wx))
   case first =>
    have JJ:=HBQ.out;cases bq
    ·go_wp2_with fail
     go_meet;exact⟨O,A1,c1,by cases put <;> cases h:fA e.1 key <;> simp[h]at JJ ⊢,rfl,HO,aa (by rw[<-HBQ.out];simp),HE⟩
    ·have ad3:put=false:=by cases put <;> simp at JJ ⊢
     have l_:fA e.1 key=false:=by cases h:fA e.1 key <;> simp[h]at JJ ⊢
     clear JJ;have m26:O.length+1<=maxLen:=by unfold maxLen;have:=MW.out;omega
     have m36:(O.length+1)*32<=140737488355328:=by have:=MW.out;omega
     have m66:∀o,w.heap.size<=(wr.alloc o).heap.size:=(fun o=>by have:=HE.out.size;simp;omega);have m76:∀o,(wr.alloc o).heap.size=wr.heap.size+1:=(fun o=>by simp);go_wp2_with (at_builtin;refine wpList_append_lies _ (by rfl) _ _ 30 (by rfl) w.heap.size 49 i0 (.agg #[.string ⟨#[]⟩,.string ⟨#[]⟩]) 2 32 Tryz.underlying30 mi eQ fe eP (by rfl) (by decide) (.slice A1 O.length c1) O.length (dR O) (by rfl) (by exact HO.out.alloc _) ⟨wr.heap.size,0,none⟩ 1 1 [.string (au key),.string (au val)] (by rfl) (by rfl) (by exact World.news_of_block (cs:=#[.string (au key),.string (au val)]) (t:=49) (fr:=(0,0)) (heap_alloc_new wr _)) (by simp[Value.oneCell']) (by decide) m26 m36 (by exact m66 _) (wr.heap.size+1) (by exact m76 _) ?_);intro g6 cap6 w6 Lx Dy acN agR;have MX:=aa (uH (e:=(key,val)) Lx);have Bn:=aa ((HE.out.alloc _).grown Dy (mI HO.out (Nat.le_refl _)));clear Lx Dy acN;go_wp2_with fail;go_meet;exact⟨O ++ [(key,val)],some ⟨g6,0,none⟩,cap6,by rw[ad3,l_];rfl,by simp,MX,aa (by rw[ad3,l_];simp),Bn⟩
   case rest =>
    obtain⟨O2,A2,c2,rfl,rfl,sD,Yz,fQ⟩:=hcut;have Nt:Hid (O2++((if e.1=key then []else [e])++mg key val (put||!fA e.1 key) (E.drop (k+1)))=mg key val false E):=aa (by rw[Yz.out];exact ru.out)
    have G8:Hid (O2.length<=k+(if (put||!fA e.1 key)then 1 else 0)):=aa (by
     have h1:=HOL.out;rw[Yz.out,List.length_append]
     cases put <;> cases fA e.1 key <;> simp at h1 ⊢ <;> omega)
    have MW:=aa (show O2.length<=65003 by have h1:=HEB.out;have h2:=HK.out;have:=G8.out;split at this <;> omega);clear ru HOL hd HO HE Yz;generalize (put||!fA e.1 key)=Y3 at *;have kG:=fQ.out;have c02:=(HG.out.ext kG (fun h=>h)).cell 0;simp at c02;have k3:wc.cell? ⟨b,o+k*2,none⟩=some (.string (au e.1)):=by
     obtain⟨b',o',hA,_,q0,q1⟩:=(HR.out.ext kG).rd.DX he;injection hA with hA;injection hA with hb ho;subst hb;subst ho;exact q0
    have k4:wc.cell? ⟨b,o+k*2+1,none⟩=some (.string (au e.2)):=by
     obtain⟨b',o',hA,_,q0,q1⟩:=(HR.out.ext kG).rd.DX he;injection hA with hA;injection hA with hb ho;subst hb;subst ho;exact q1
    have lc2:=World.block_lt_of_cell? wc _ k3;simp only at lc2;clear kG c0 k0 k1 lc
    by_cases LM:e.1=key
    ·have hq:(e.1==key)=true:=by simpa using LM
     have Yy:=aa (show O2++mg key val Y3 (E.drop (k+1))=mg key val false E by have:=Nt.out;rw[if_pos LM]at this;exact this);clear LM Nt;go_wp2_with fail;go_roundg (gk-1)
     case rel=>exact⟨k+1,Y3,O2,A2,c2,by have:=HK.out;omega,by go_num,rfl,rfl,sD.out,aa (by have:=G8.out;omega),Yy,fQ.out⟩
     case measure=>have:=HK.out;omega
    ·have hq:(e.1==key)=false:=by simpa using LM
     have Yy:=aa (show(O2 ++ [e])++mg key val Y3 (E.drop (k+1))=mg key val false E by have:=Nt.out;rw[if_neg LM]at this;rw[List.append_assoc];exact this);clear LM Nt;have m27:O2.length+1<=maxLen:=by unfold maxLen;have:=MW.out;omega
     have m37:(O2.length+1)*32<=140737488355328:=by have:=MW.out;omega
     have m67:∀o,w.heap.size<=(wc.alloc o).heap.size:=(fun o=>by have:=fQ.out.size;simp;omega);have m77:∀o,(wc.alloc o).heap.size=wc.heap.size+1:=(fun o=>by simp);go_wp2_with (at_builtin;refine wpList_append_lies _ (by rfl) _ _ 30 (by rfl) w.heap.size 49 i0 (.agg #[.string ⟨#[]⟩,.string ⟨#[]⟩]) 2 32 Tryz.underlying30 mi eQ fe eP (by rfl) (by decide) (.slice A2 O2.length c2) O2.length (dR O2) (by rfl) (by exact sD.out.alloc _) ⟨wc.heap.size,0,none⟩ 1 1 [.string (au e.1),.string (au e.2)] (by rfl) (by rfl) (by exact World.news_of_block (cs:=#[.string (au e.1),.string (au e.2)]) (t:=49) (fr:=(0,0)) (heap_alloc_new wc _)) (by simp[Value.oneCell']) (by decide) m27 m37 (by exact m67 _) (wc.heap.size+1) (by exact m77 _) ?_);intro g7 ahw w7 jc V7 ahj tY;have HO7:=aa (uH (e:=(e.1,e.2)) jc);have XY:=aa ((fQ.out.alloc _).grown V7 (mI sD.out (Nat.le_refl _)));clear jc V7 ahj;go_wp2_with fail;go_roundg (gk-1)
     case rel=>exact⟨k+1,Y3,O2 ++ [e],some ⟨g7,0,none⟩,ahw,by have:=HK.out;omega,by go_num,rfl,by simp,HO7.out,aa (by have:=G8.out;rw[List.length_append,List.length_singleton];omega),Yy,XY.out⟩
     case measure=>have:=HK.out;omega
  ·have mW:k=E.length:=by omega
   have HDR:Hid (E.drop k = []):=aa (by rw[mW,List.drop_length]);have MW:=aa (show O.length<=65002 by have:=HOL.out;split at this <;> omega);have zG:∀(O2:List bK) (A2:Option Addr) (c2:Nat) (wx:World),wx.ownsRow w.heap.size 49 2 (.slice A2 O2.length c2) O2.length (dR O2)->O2=mg key val false E->ah No w wx->D (.returned (.int .i64 0)) (wx.setCell ⟨g,0,none⟩ (.slice A2 O2.length c2)):=by
    intro O2 A2 c2 wx q1 q2 q3;rw[gF.out,<-q2];have aH:ah (On g) w (wx.setCell ⟨g,0,none⟩ (.slice A2 O2.length c2)):=ah.ay (F:=On g) (q3.of_no) (b:=g) (show On g g from rfl) _ _;have Bc:=(HG.out.ext q3 (fun h=>h)).aQ 0 (.slice A2 O2.length c2);refine⟨rfl,aH,A2,c2,Bc,?_,dX q1,dA q1,by have:=HD.out;have:=HEB.out;rw[q2];simp at *;omega⟩;exact Rd.jf (ownsRow_setCell_other q1 (by intro e;exact gZ q1 HGL.out e.symm) _) (by decide)
   have zG:=aa zG;have JO:=aa mW;clear hk mW aP;cases put
   ·have m26:O.length+1<=maxLen:=by unfold maxLen;have:=MW.out;omega
    have m36:(O.length+1)*32<=140737488355328:=by have:=MW.out;omega
    have m66:∀o,w.heap.size<=(wr.alloc o).heap.size:=(fun o=>by have:=HE.out.size;simp;omega);have m76:∀o,(wr.alloc o).heap.size=wr.heap.size+1:=(fun o=>by simp);go_wp2_with (at_builtin;refine wpList_append_lies _ (by rfl) _ _ 30 (by rfl) w.heap.size 49 i0 (.agg #[.string ⟨#[]⟩,.string ⟨#[]⟩]) 2 32 Tryz.underlying30 mi eQ fe eP (by rfl) (by decide) (.slice A1 O.length c1) O.length (dR O) (by rfl) (by exact HO.out.alloc _) ⟨wr.heap.size,0,none⟩ 1 1 [.string (au key),.string (au val)] (by rfl) (by rfl) (by exact World.news_of_block (cs:=#[.string (au key),.string (au val)]) (t:=49) (fr:=(0,0)) (heap_alloc_new wr _)) (by simp[Value.oneCell']) (by decide) m26 m36 (by exact m66 _) (wr.heap.size+1) (by exact m76 _) ?_);intro g6 cap6 w6 Lx Dy acN agR;have MX:=aa (uH (e:=(key,val)) Lx);have Bn:=aa ((HE.out.alloc _).grown Dy (mI HO.out (Nat.le_refl _)));clear Lx Dy acN;have PN:=Bn.out;have qh:=(HG.out.ext PN (fun h=>h)).frozen 0;have iK:=(HG.out.ext PN (fun h=>h)).lt;have c06:=(HG.out.ext PN (fun h=>h)).cell 0;simp at c06;have HX:=aa (zG.out (O ++ [(key,val)]) (some ⟨g6,0,none⟩) cap6 w6 MX.out (by rw[<-hd.out,HDR.out];rfl) Bn.out);rw[List.length_append,List.length_singleton]at HX;clear PN hE;go_wp2_with fail;exact HX.out
   ·have qh:=(HG.out.ext hE (fun h=>h)).frozen 0
    have iK:=(HG.out.ext hE (fun h=>h)).lt;have HX:=aa (zG.out O A1 c1 wr HO.out (by rw[<-hd.out,HDR.out];simp[mg]) HE.out);clear hE;go_wp2_with fail;exact HX.out
theorem Bw {B b:Nat}{bs:List Value}{w w':World}(h:Lib.IsBuilder 100 5 B b bs w) (hx:ah No w w'):Lib.IsBuilder 100 5 B b bs w':=by
 have key:∀p,Lib.BuilderAt 100 5 B b p bs w->Lib.BuilderAt 100 5 B b p bs w':=fun p ⟨hB,v,hb,ho,hn⟩=>by
  have bu:b<w.heap.size:=by
   rcases Nat.lt_or_ge b w.heap.size with h'|h'
   ·exact h'
   ·simp[Array.getElem?_eq_none h']at hb
  exact⟨hB,v,(hx.block b bu (fun h=>h)).trans hb,lH ho hx (fun _ _ h=>h),hn⟩
 exact h.imp (key _) (key _)
theorem zh {w0 w w':World}{B:Nat}(h:ah No w0 w) (hb:Below B w w') (hB:w0.heap.size<=B):ah No w0 w' :=
 ⟨hb.os.trans h.os,hb.tape.trans h.tape,hb.output.trans h.output,Nat.le_trans h.size hb.size,fun i hi hn=>(hb.block i (Nat.lt_of_lt_of_le hi hB)).trans (h.block i hi hn)⟩
theorem V.U8 {v:V}(hg:v.Good) {id n:Nat}{b:Bs}(h:v.link id=some (n,b)):1<=b.length/\b.length<=500:=by
 unfold V.link at h;split at h
 ·rename_i he
  have:=V.QH hg he;split at h
  ·rename_i hk
   injection h with h;injection h with h1 h2;rw[<-h2,List.length_drop];omega
  ·cases h
 ·cases h
theorem Ca (s:bH) (hs:s.Ok) (v:V) (hg:v.Good) (c:aA) (Fh:c.fits):BP s v c:=by
 by_cases hc:c.over=0
 ·exact sP s v c hc
 intro w gx i h hx;have HN:=aa (fun o=>mJ ⟨s.t,0,none⟩ (.int .i64 (i:Int)) gx (w.alloc o) (hx.alloc o));have HL:=aa (fun w' (e:ah No w w') id=>KW s hs w' v (h.no hs e) gx i (hx.ext e (fun h=>h)) id);have HG:=aa (fun id n b (h:v.link id=some (n,b))=>V.U8 hg h);have bY:c.len<4294967296:=Fh.2.2.2;obtain⟨D,hD⟩:∃D,D=v.value c:=⟨_,rfl⟩;rw[<-hD];unfold V.value at hD;rw[if_neg hc]at hD;have HD:=aa hD;have hov:¬((c.over:Int)<=0):=by omega
 clear h hg hx hD Fh;simp only[aA.agg];go_enter Tryz.func17,Tryz.ntmps17;go_wp2_with fail;refine(HN.out _).mono ?_;rintro e' w1 ⟨rfl,rfl⟩;go_wp2_with fail;obtain⟨W0,LY⟩:∃W0,W0=((w.alloc (.cells #[.string (au c.key),.string (au c.val),.int .i64 (c.over:Int),.int .i64 (c.len:Int)] 45)).alloc (.cells #[.pointer none,.slice none 0 0] 100)):=⟨_,rfl⟩;have sj:ah No w W0:=by rw[LY];exact((ah.refl No w).alloc _).alloc _
 have QE:ax W0 w.heap.size 45 #[.string (au c.key),.string (au c.val),.int .i64 (c.over:Int),.int .i64 (c.len:Int)]:=by rw[LY];exact(ax.new w 45 _).alloc _
 have BG:Lib.IsBuilder 100 5 (w.heap.size+1) (w.heap.size+1) (Lib.byteCells []) W0:=by
  refine .inl ⟨Nat.le_refl _,.slice none 0 0,?_,World.ownsRow_nil _ _ _ _,by simp[Value.ownBlock]⟩;rw[LY];exact ax.aS (b:=w.heap.size+1) (w.alloc _) 100 _ (by simp)
 rw[<-LY];have HBC:=aa QE;clear LY QE
 go_loopg [7] (c.len+2) (fun gk id wr=>∃(ID:Nat) (b:Bs),id=.int .i64 (ID:Int)/\Lib.IsBuilder 100 5 (w.heap.size+1) (w.heap.size+1) (Lib.byteCells b) wr/\ax wr w.heap.size 45 #[.string (au c.key),.string (au c.val),.int .i64 (c.over:Int),.int .i64 (c.len:Int)] /\
  Hid (c.len+2<=gk+b.length)/\Hid (b.length<=c.len+500)/\Hid (v.jV c.len gk ID b=v.jV c.len (c.len+2) c.over [])/\ah No w wr)
 case atStart=>exact⟨c.over,[],rfl,BG,HBC.out,aa (by simp),aa (by simp),aa rfl,sj⟩
 case round =>
  clear BG sj HBC;obtain⟨ID,b,rfl,BG,QE,hm,oN,hd,hE⟩:=hrel;have G9:=aa BG;have HBC:=aa QE;have HE:=aa hE;have OM:∀w',ah No wr w'->Calls Tryz.prog 49 #[.pointer (some ⟨w.heap.size+1,0,none⟩)] w' fun e w''=>e=.returned (.int .i64 (b.length:Int))/\w''=w':=fun w' e=>by
   have:=Tryz.Builder_Len _ _ _ w' (Bw G9.out e);rw[Lib.byteCells_length]at this;exact this
  have Eg:=aa OM;have y3:=QE.cell 3;have yl:=QE.lt;simp at y3;have JQ:=aa oN.out;clear OM BG QE hE
  by_cases Su:ID=0\/c.len<b.length
  ·have Gf:v.jV c.len gk ID b=some b:=by
    cases gk with
    | zero=>rfl
    | succ j=>rw[V.jV,if_pos Su]
   have nH:=HD.out;rw[<-hd.out,Gf]at nH;simp only at nH;have gF:=aa nH;clear hd Gf HD nH
   by_cases hz:ID=0
   ·subst hz
    clear Su;go_wp2_with fail;go_quiet (fail);go_wp2_with fail;have hq:ah No wr (wr.drewN nq):=(ah.refl No wr).drewN nq;generalize wr.drewN nq=wq at hq ⊢;have y3q:=aj hq y3 (fun h=>h);have ylq:w.heap.size<wq.heap.size:=Nat.lt_of_lt_of_le yl hq.size;have HQ:=aa hq;clear hq
    by_cases O0:b.length=c.len
    ·have ru:=aa (fun w' (e:ah No wr w')=>Tryz.Builder_String_any (w.heap.size+1) (w.heap.size+1) b w' (Bw G9.out e) (Nat.le_trans (Nat.succ_le_of_lt yl) e.size))
     have nH:=gF.out;rw[if_pos O0]at nH;have mE:=aa nH;have HBE:=aa O0;have bQ:((b.length:Int) != (c.len:Int))=false:=by simp[O0]
     clear O0 nH;go_quiet ((go_at_call 49;exact Calls.quiet_of_same ((Eg.out _ (by exact HQ.out.drewN _)).mono fun _ _ ⟨h1,h2⟩=>⟨h1,h2⟩)));go_wp2_with fail;refine(ru.out _ (HQ.out.drewN _)).mono ?_;rintro e w5 ⟨rfl,vK⟩;have AL:=aa vK;clear vK;go_wp2_with fail;go_ret2;rw[mE.out];exact⟨rfl,zh ((HE.out.ag HQ.out).drewN _) AL.out (Nat.le_succ _)⟩
    ·have nH:=gF.out
     rw[if_neg O0]at nH;have mE:=aa nH;have bQ:((b.length:Int) != (c.len:Int))=true:=by simpa using (by omega:¬(b.length:Int)=c.len)
     have wy:¬((b.length:Int)=(c.len:Int)):=by omega
     clear O0 nH;go_quiet ((go_at_call 49;exact Calls.quiet_of_same ((Eg.out _ (by exact HQ.out.drewN _)).mono fun _ _ ⟨h1,h2⟩=>⟨h1,h2⟩)));go_wp2_with fail;go_ret2;rw[mE.out];exact⟨rfl,(HE.out.ag HQ.out).drewN _⟩
   ·have bu:¬((b.length:Int)<=(c.len:Int)):=by rcases Su with h|h;exact absurd h hz;omega
    have iK:decide ((b.length:Int)<=(c.len:Int))=false:=by simpa using bu
    have OQ:((ID:Int) != 0)=true:=by simpa using (by omega:¬(ID:Int)=0)
    clear Su hz;go_wp2_with fail;go_quiet ((go_at_call 49;exact Calls.quiet_of_same ((Eg.out _ (by exact(ah.refl No wr).drewN _)).mono fun _ _ ⟨h1,h2⟩=>⟨h1,h2⟩)));go_wp2_with fail;have hq:ah No wr (wr.drewN nq):=(ah.refl No wr).drewN nq;generalize wr.drewN nq=wq at hq ⊢;have y3q:=aj hq y3 (fun h=>h);have ylq:w.heap.size<wq.heap.size:=Nat.lt_of_lt_of_le yl hq.size;have HQ:=aa hq;clear hq
    by_cases O0:b.length=c.len
    ·have ru:=aa (fun w' (e:ah No wr w')=>Tryz.Builder_String_any (w.heap.size+1) (w.heap.size+1) b w' (Bw G9.out e) (Nat.le_trans (Nat.succ_le_of_lt yl) e.size))
     have nH:=gF.out;rw[if_pos O0]at nH;have mE:=aa nH;have HBE:=aa O0;have bQ:((b.length:Int) != (c.len:Int))=false:=by simp[O0]
     clear O0 nH;go_quiet ((go_at_call 49;exact Calls.quiet_of_same ((Eg.out _ (by exact HQ.out.drewN _)).mono fun _ _ ⟨h1,h2⟩=>⟨h1,h2⟩)));go_wp2_with fail;refine(ru.out _ (HQ.out.drewN _)).mono ?_;rintro e w5 ⟨rfl,vK⟩;have AL:=aa vK;clear vK;go_wp2_with fail;go_ret2;rw[mE.out];exact⟨rfl,zh ((HE.out.ag HQ.out).drewN _) AL.out (Nat.le_succ _)⟩
    ·have nH:=gF.out
     rw[if_neg O0]at nH;have mE:=aa nH;have bQ:((b.length:Int) != (c.len:Int))=true:=by simpa using (by omega:¬(b.length:Int)=c.len)
     have wy:¬((b.length:Int)=(c.len:Int)):=by omega
     clear O0 nH;go_quiet ((go_at_call 49;exact Calls.quiet_of_same ((Eg.out _ (by exact HQ.out.drewN _)).mono fun _ _ ⟨h1,h2⟩=>⟨h1,h2⟩)));go_wp2_with fail;go_ret2;rw[mE.out];exact⟨rfl,(HE.out.ag HQ.out).drewN _⟩
  ·obtain⟨j,hj⟩:∃j,gk=j+1:=⟨gk-1,by have:=hm.out;omega⟩
   have OQ:((ID:Int) != 0)=true:=by simpa using (by omega:¬(ID:Int)=0)
   have LF:decide ((b.length:Int)<=(c.len:Int))=true:=by simp;omega
   have aje:(b.length:Int)<=(c.len:Int):=by omega
   have HEX:=aa Su;have dL:=hd.out;rw[hj,V.jV,if_neg Su]at dL;have HJ:=aa hj;have o8:=aa (fun w' (e:ah No w w')=>HL.out w' e ID);cases hl:v.link ID with
   | none =>
    rw[hl]at o8 dL;simp only[xA]at o8;have nH:=HD.out;rw[<-dL]at nH;have gF:=aa nH;clear hd dL nH HD Su hj hl;go_wp2_with fail;go_quiet ((go_at_call 49;exact Calls.quiet_of_same ((Eg.out _ (by exact(ah.refl No wr).drewN _)).mono fun _ _ ⟨h1,h2⟩=>⟨h1,h2⟩)));go_wp2_with fail;refine(o8.out _ (HE.out.drewN _)).mono ?_;rintro e w5 ⟨rfl,bU⟩;go_wp2_with fail;go_ret2;rw[gF.out];exact⟨rfl,(HE.out.drewN _).ag bU⟩
   | some r =>
    obtain⟨nx,sb⟩:=r;rw[hl]at o8 dL;simp only[xA]at o8;simp only at dL;obtain⟨nT,hs5⟩:=HG.out ID nx sb hl;have gF:=aa dL;have HS1:=aa nT;have HS5:=aa hs5;have HWS:=aa (fun w' (e:ah No wr w')=>Tryz.Builder_WriteString (w.heap.size+1) (w.heap.size+1) (Lib.byteCells b) (au sb) w' (Bw G9.out e) (by rw[Lib.byteCells_length,az];have:=JQ.out;omega) (Nat.le_trans (Nat.succ_le_of_lt yl) e.size));have HM:=aa hm.out;clear hd dL Su hj hl nT hs5 hm oN;go_wp2_with fail;go_quiet ((go_at_call 49;exact Calls.quiet_of_same ((Eg.out _ (by exact(ah.refl No wr).drewN _)).mono fun _ _ ⟨h1,h2⟩=>⟨h1,h2⟩)));go_wp2_with fail;refine(o8.out _ (HE.out.drewN _)).mono ?_;rintro e w5 ⟨rfl,bU⟩;have jl:=aa (((ah.refl No wr).drewN _).ag bU);clear bU;go_wp2_with fail;refine(HWS.out _ jl.out).mono ?_;rintro e w6 ⟨rfl,hba,wN⟩;have HBA:=aa hba;have Ha:=aa wN;clear hba wN;go_wp2_with fail;go_roundg j
    case rel =>
     refine⟨nx,b++sb,rfl,.inr ?_,?_,aa ?_,aa ?_,aa ?_,?_⟩
     ·have h1:=HBA.out
      have e1:Lib.byteCells (b++sb)=Lib.byteCells b++Lib.strCells (au sb):=by simp[Lib.byteCells,Lib.strCells]
      rw[e1];exact h1
     ·have h1:=HBC.out.ext jl.out (fun h=>h)
      exact(Ha.out.block w.heap.size (Nat.lt_succ_self _)).trans h1
     ·have:=HM.out;have:=HJ.out;have:=HS1.out;rw[List.length_append];omega
     ·have:=HS5.out;have h3:=HEX.out;rw[List.length_append];omega
     ·exact gF.out
     ·exact zh (HE.out.ag jl.out) Ha.out (Nat.le_succ _)
    case measure=>have:=HJ.out;omega
end Go.Proofs.YtccnemmlkcmceaaGreatDoor
