/- Proofs about the given program, joined out of the texts E4, E5, E6, E7, E8, E9, EA, V1. -/
import Derived.Test.YtccnemmlkcmceaaGreatDoorHL14
set_option linter.unusedVariables false
set_option linter.unusedSimpArgs false
set_option maxRecDepth 100000
set_option maxHeartbeats 6400000
namespace Go.Proofs.YtccnemmlkcmceaaGreatDoor
open Go.RowKit
inductive nR (g:Bool) (v:V) (root:Nat):List dN->Nat->Nat->Bool->Bs->Bs->List Nat->List bK->List bK->Prop
 | top (h id:Nat):id=v.r root->nR g v root [] h id true [] [] [] [] []
 | down {ups:List dN}{h:Nat}{rt:Bool}{lo' jP:Bs}{P':List Nat}{L' R':List bK}{p:dN}{id:Nat}{x:Bs}{a b:List (Nat×Bs)}{Pa Pb:List Nat}{Ea Eb:List bK}{lo:Bs}{P:List Nat}{L R:List bK} :
   nR g v root ups (h+1) p.id rt lo' jP P' L' R'->v.node p.id=some p.n->Ew g rt p.n->p.n.leaf=false->p.n.Keys lo' jP->p.n.kids=a.map (·.1)++id::b.map (·.1)->p.n.keys ++ [jP]=a.map (·.2)++x::b.map (·.2)->a.length=p.i ->
   m_ (gI g v h false) lo' a Pa Ea->m_ (gI g v h false) x b Pb Eb->P.Perm (p.id::(P'++(Pa++Pb)))->L=L'++Ea->R=Eb++R'->lo=jb lo' a->nR g v root (p::ups) h id false lo x P L R
section
variable {g:Bool}{v v':V}{root:Nat}{ups:List dN}{h id:Nat}{rt:Bool}{lo hi:Bs}{P Q P':List Nat}{L R E:List bK}
theorem nR.us (hh:nR g v root ups h id rt lo hi P L R):∀p∈P,v.err p=0:=by
 induction hh with
 | top=>simp
 | down h1 h2 h3 h4 h5 h6 h7 h8 h9 QG h11 Gm h13 h14 ih =>
  intro p hp;have:=h11.mem_iff.1 hp;rcases List.mem_cons.1 this with rfl|hp
  ·exact V.fw h2
  rcases List.mem_append.1 hp with hp|hp
  ·exact ih p hp
  rcases List.mem_append.1 hp with hp|hp
  ·exact h9.us (fun _ _ _ _ _ hs=>gI.us hs) p hp
  ·exact QG.us (fun _ _ _ _ _ hs=>gI.us hs) p hp
theorem nR.same (hh:nR g v root ups h id rt lo hi P L R) (hr:v'.r root=v.r root) (hs:∀p∈P,v.err p=0->v'.err p=0/\v'.pg p=v.pg p):nR g v' root ups h id rt lo hi P L R:=by
 induction hh with
 | top h id e=>exact .top h id (e.trans hr.symm)
 | down h1 h2 h3 h4 h5 h6 h7 h8 h9 QG h11 Gm h13 h14 ih =>
  have hs':=fun p hp=>hs p (h11.mem_iff.2 hp)
  have k:=hs' _ (by simp) (V.fw h2);exact .down (ih (fun p hp=>hs' p (by simp[hp]))) (V.mU k.1 k.2 h2) h3 h4 h5 h6 h7 h8
   (h9.mono (fun _ _ _ _ _ hq hS=>hS.same (fun p hp=>hs' p (by simp[hq p hp])))) (QG.mono (fun _ _ _ _ _ hq hS=>hS.same (fun p hp=>hs' p (by simp[hq p hp])))) h11 Gm h13 h14
theorem cz {l1 l2:List Nat}(h:∀a,l1.count a=l2.count a):l1.Perm l2:=List.perm_iff_count.2 h
theorem nR.adL (hh:nR g v root ups h id rt lo hi P L R) (hs:gI g v h rt id lo hi Q E):gI g v (h+ups.length) true (v.r root) [] [] (P++Q) (L++(E++R)):=by
 induction hh generalizing Q E with
 | top h id e=>subst e;simpa using hs
 | @down ups h rt lo' jP P' L' R' p id x a b Pa Pb Ea Eb lo P L R h1 h2 h3 h4 h5 h6 h7 h8 h9 QG h11 Gm h13 h14 ih =>
  subst h14;have hR:m_ (gI g v h false) lo' (a++(id,x)::b) (Pa++(Q++Pb)) (Ea++(E++Eb)) :=
   m_.append.2 ⟨_,_,_,_,h9,⟨_,_,_,_,hs,QG,List.Perm.refl _,rfl⟩,List.Perm.refl _,rfl⟩
  have:=ih (Q:=p.id::(Pa++(Q++Pb))) (E:=Ea++(E++Eb)) ⟨p.n,_,h2,h3,List.Perm.refl _,h5,h4,a++(id,x)::b,by simp[h6],by simp[h7],hR⟩;subst Gm;subst h13;have e:h+1+ups.length=h+(p::ups).length:=by simp;omega
  rw[e]at this;have e2:L'++(Ea++(E++Eb)++R')=L'++Ea++(E++(Eb++R')):=by simp
  rw[e2]at this;refine this.perm (cz fun z=>?_);have:=h11.count_eq z;simp[List.count_cons]at this ⊢;omega
end
theorem iG {ks A B:List Bs}{hi x:Bs}(h:ks ++ [hi]=A++x::B):ks=A++(x::B).dropLast/\(B ≠ []->x∈ks)/\(B = []->x=hi)/\∀y∈A,y∈ks:=by
 have h1:ks=A++(x::B).dropLast:=by
  have:=congrArg List.dropLast h;rw[List.dropLast_concat,List.dropLast_append_of_ne_nil (by simp)]at this;exact this
 refine⟨h1,fun hB=>?_,fun hB=>?_,fun y hy=>by rw[h1];exact List.mem_append_left _ hy⟩
 ·rw[h1,List.dropLast_cons_of_ne_nil hB];simp
 ·subst hB
  have:=congrArg List.getLast? h;simpa using this.symm
theorem yQ {lo:Bs}{a:List (Nat×Bs)}(h:a ≠ []):jb lo a∈a.map (·.2):=by
 rw[pR];obtain⟨y,hy⟩:∃y,(a.map (·.2)).getLast?=some y:=by
  cases a with
  | nil=>exact absurd rfl h
  | cons p a=>simp[List.getLast?_cons]
 rw[hy];exact List.mem_of_getLast? hy
theorem nR.out {g:Bool}{v:V}{root:Nat}{ups:List dN}{h id:Nat}{rt:Bool}{lo hi:Bs}{P:List Nat}{L R:List bK}(hh:nR g v root ups h id rt lo hi P L R) :
  (∀e∈L,fA e.1 lo=true)/\(∀e∈R,hi ≠ []/\fA e.1 hi=false):=by
 induction hh with
 | top=>simp
 | @down ups h rt lo' jP P' L' R' p id x a b Pa Pb Ea Eb lo P L R h1 h2 h3 h4 h5 h6 h7 h8 h9 QG h11 Gm h13 h14 ih =>
  subst Gm;subst h13;subst h14;obtain⟨k1,k2,k3,k4⟩:=iG h7;have bQ:=Qf (V.bM h2);have hT:∀k a b Q F,gI g v h false k a b Q F->Xq a b F:=fun _ _ _ _ _ hs=>gI.told hs
  have ta:=m_.told hT h9 (fun y hy=>bQ y (k4 y (List.dropLast_sublist _ |>.subset hy)))
  have tb:=m_.told hT QG (fun y hy=>bQ y (by
   rw[k1];refine List.mem_append_right _ ?_;cases b with
   | nil=>simp at hy
   | cons q b=>rw[List.map_cons,List.dropLast_cons_of_ne_nil (by simp)];exact List.mem_cons_of_mem _ hy))
  have xH:a = []\/jb lo' a∈p.n.keys:=by
   by_cases ha:a = []
   ·exact .inl ha
   ·exact .inr (k4 _ (yQ ha))
  refine⟨fun e he=>?_,fun e he=>?_⟩
  ·rcases List.mem_append.1 he with he|he
   ·have:=ih.1 e he
    rcases xH with rfl|hm
    ·exact this
    ·exact tJ this (cZ.1 (h5.2 _ hm).qf).1
   ·have:=cZ.1 (ta.1 e he)
    rcases xH with rfl|hm
    ·obtain⟨_,rfl⟩:=h9;simp at he
    ·exact this.2.resolve_left (bQ _ hm)
  ·rcases List.mem_append.1 he with he|he
   ·have hb:b ≠ []:=by rintro rfl;obtain⟨_,rfl⟩:=QG;simp at he
    have hm:=k2 (by simpa using hb);exact⟨bQ _ hm,(cZ.1 (tb.1 e he)).1⟩
   ·have:=ih.2 e he
    by_cases hb:b = []
    ·rw[k3 (by simp[hb])];exact this
    ·have hm:=k2 (by simpa using hb)
     have hx:=(cZ.1 (h5.2 _ hm).qf).2.resolve_left this.1;refine⟨bQ _ hm,?_⟩;cases hc:fA e.1 x
     ·rfl
     ·have h1:=dD hc hx;rw[this.2]at h1;cases h1
theorem Mf {n:Nd}(hl:n.leaf=false) (hs:ed n.keys) (key:Bs):∃A B,n.keys=A++B/\A.length=(n.find key).1/\(∀k∈A,fA key k=false)/\(∀k∈B,fA key k=true):=by
 have hp:=Az.uI hs key;have e:(n.find key).1=jX n.keys key+(if n.keys[jX n.keys key]?=some key then 1 else 0):=by unfold Nd.find;simp[hl]
 rw[e];generalize jX n.keys key=r at *;have bu:∀k∈n.keys.take r,fA k key=true:=by
  intro k hk;obtain⟨j,hj⟩:=List.getElem?_of_mem hk;rw[List.getElem?_take]at hj;split at hj
  ·rename_i h;rw[hp.at_ j k hj];simpa using h
  ·cases hj
 have iC:∀k∈n.keys.drop r,fA k key=false:=by
  intro k hk;obtain⟨j,hj⟩:=List.getElem?_of_mem hk;rw[List.getElem?_drop]at hj;rw[hp.at_ _ k hj];simp
 cases hd:n.keys.drop r with
 | nil =>
  have hr:n.keys[r]?=none:=by
   have:=congrArg List.length hd;rw[List.length_drop]at this;exact List.getElem?_eq_none (by simp at this;omega)
  refine⟨n.keys.take r,[],by rw[<-hd,List.take_append_drop],?_,fun k hk=>jJ (bu k hk),by simp⟩;rw[List.length_take,hr];simp;exact Nat.min_eq_left hp.le
 | cons c B =>
  have hr:n.keys[r]?=some c:=by
   have:(n.keys.drop r)[0]?=some c:=by rw[hd];rfl
   simpa using this
  have hn:n.keys=n.keys.take r++c::B:=by rw[<-hd,List.take_append_drop]
  have hsd:ed (c::B):=by rw[<-hd];exact hs.sublist (List.drop_sublist _ _)
  rw[hd]at iC;rw[hr]
  by_cases hc:c=key
  ·subst hc
   refine⟨n.keys.take r ++ [c],B,by simpa using hn,?_,?_,?_⟩
   ·rw[List.length_append,List.length_take];simp;exact Nat.min_eq_left hp.le
   ·intro k hk
    rcases List.mem_append.1 hk with hk|hk
    ·exact jJ (bu k hk)
    ·have:k=c:=by simpa using hk
     rw[this];exact ny c
   ·intro k hk;exact(List.pairwise_cons.1 hsd).1 k hk
  ·refine⟨n.keys.take r,c::B,hn,?_,fun k hk=>jJ (bu k hk),?_⟩
   ·rw[List.length_take];simp[hc];exact Nat.min_eq_left hp.le
   ·intro k hk
    have h1:=iC k hk;cases h2:fA key k
    ·have h3:=Bv k key h1 h2
     subst h3;rcases List.mem_cons.1 hk with rfl|hk
     ·exact absurd rfl hc
     ·have:=(List.pairwise_cons.1 hsd).1 k hk
      have h4:=iC c (by simp);rw[this]at h4;cases h4
    ·rfl
theorem SQ {n:Nd}(hl:n.leaf=true) (hs:ed (n.cells.map aA.key)) (key:Bs):∃A B,n.cells=A++B/\A.length=(n.find key).1/\(∀c∈A,fA c.key key=true)/\(∀c∈B,fA c.key key=false)/\((n.find key).2=decide (B.head?.map aA.key=some key)) /\
  (∀c∈B.tail,fA key c.key=true)/\(B.head?.map aA.key≠some key->∀c∈B,fA key c.key=true):=by
 have hp:=Az.uI hs key;have e:n.find key=(jX (n.cells.map aA.key) key,decide ((n.cells[jX (n.cells.map aA.key) key]?).map aA.key=some key)):=by unfold Nd.find;simp[hl]
 rw[e];generalize jX (n.cells.map aA.key) key=r at *;have LF:=hp.le;rw[List.length_map]at LF;have iC:∀c∈n.cells.drop r,fA c.key key=false:=by
  intro c hc;obtain⟨j,hj⟩:=List.getElem?_of_mem hc;rw[List.getElem?_drop]at hj;rw[hp.at_ (r+j) c.key (by rw[List.getElem?_map,hj];rfl)];simp
 have hsd:ed ((n.cells.drop r).map aA.key):=hs.sublist ((List.drop_sublist _ _).map _);have Iw:∀c∈(n.cells.drop r).tail,fA key c.key=true:=by
  intro c hc;cases hd:n.cells.drop r with
  | nil=>rw[hd]at hc;simp at hc
  | cons d B =>
   rw[hd]at hc hsd iC;simp only[List.tail_cons]at hc;have h1:=(List.pairwise_cons.1 hsd).1 c.key (List.mem_map.2 ⟨c,hc,rfl⟩);have h2:=iC d (by simp);exact Oq h2 h1
 refine⟨n.cells.take r,n.cells.drop r,(List.take_append_drop _ _).symm,by rw[List.length_take];omega,?_,iC,by rw[List.head?_drop],Iw,fun bQ c hc=>?_⟩
 ·intro c hc
  obtain⟨j,hj⟩:=List.getElem?_of_mem hc;rw[List.getElem?_take]at hj;split at hj
  ·rename_i h;rw[hp.at_ j c.key (by rw[List.getElem?_map,hj];rfl)];simpa using h
  ·cases hj
 ·cases hd:n.cells.drop r with
  | nil=>rw[hd]at hc;simp at hc
  | cons d B =>
   rw[hd]at hc Iw iC bQ;rcases List.mem_cons.1 hc with rfl|hc
   ·have h1:=iC c (by simp)
    cases h2:fA key c.key
    ·have:=Bv _ _ h1 h2
     exact absurd (by simp[this]) bQ
    ·rfl
   ·exact Iw c (by simpa using hc)
theorem vZ:∀(l:List (Nat×Bs)) (A B:List Bs),l.map (·.2)=A++B->∃a b,l=a++b/\a.map (·.2)=A/\b.map (·.2)=B
 | l,[],B,h=>⟨[],l,rfl,rfl,h⟩
 | [],_::_,B,h=>by simp at h
 | p::l,x::A,B,h=>by
  rw[List.map_cons,List.cons_append]at h;injection h with h1 h2;obtain⟨a,b,rfl,h3,h4⟩:=vZ l A B h2;exact⟨p::a,b,rfl,by simp[h1,h3],h4⟩
theorem QM {g:Bool}{v:V}{root:Nat}{key:Bs}:∀(h:Nat) {ups:List dN}{id:Nat}{rt:Bool}{lo hi:Bs}{P0 P:List Nat}{L R E:List bK}(fuel:Nat),nR g v root ups h id rt lo hi P0 L R->gI g v h rt id lo hi P E->qf lo hi key=true->h<fuel->ups.length+h<40 ->
  ∃(Ux:List dN) (st:dN) (YX:Bool) (lo' jP:Bs) (P' Q':List Nat) (L' R' E':List bK),v.lD key fuel id ups.reverse=some ((st::Ux).reverse)/\nR g v root Ux 0 st.id YX lo' jP P' L' R'/\v.node st.id=some st.n/\Ew g YX st.n/\jN g v 0 st.n lo' jP Q' E'/\st.i=(st.n.find key).1 /\
   qf lo' jP key=true/\(P0++P).Perm (P'++st.id::Q')/\L++(E++R)=L'++(E'++R')/\Ux.length=ups.length+h
 | 0,ups,id,rt,lo,hi,P0,P,L,R,E,fuel+1,hH,hS,hk,hf,hl=>by
  obtain⟨n,Q,h1,h2,h3,h4,h5⟩:=hS;have hu:=(V.dH v id).1 (V.fw h1);refine⟨ups,⟨id,n,(n.find key).1⟩,rt,lo,hi,P0,Q,L,R,E,?_,hH,h1,h2,⟨h4,h5⟩,rfl,hk,h3.append_left _,rfl,rfl⟩;rw[V.lD,if_neg (by omega),h1];simp only;rw[if_neg (by simp;omega),h5.1];simp
 | h+1,ups,id,rt,lo,hi,P0,P,L,R,E,fuel+1,hH,hS,hk,hf,hl=>by
  obtain⟨n,Q,h1,h2,h3,h4,h5,l,l1,l2,h6⟩:=hS;have hu:=(V.dH v id).1 (V.fw h1);obtain⟨A,B,e1,e2,e3,e4⟩:=Mf h5 (Nd.Ok.mH (V.bM h1)) key;have l2':l.map (·.2)=A++(B ++ [hi]):=by rw[<-l2,e1,List.append_assoc]
  obtain⟨a,b',rfl,ha,hb⟩:=vZ l _ _ l2';obtain⟨⟨kid,x⟩,b,rfl⟩:∃q b,b'=q::b:=by cases b' with|nil=>simp at hb|cons q b=>exact⟨q,b,rfl⟩
  obtain⟨Pa,P2,Ea,E2,r1,⟨Pk,Pb,Ek,Eb,r2,r3,r4,rfl⟩,r5,rfl⟩:=m_.append.1 h6;have ZZ:a.length=(n.find key).1:=by rw[<-e2,<-ha];simp
  have oK:n.kids.getD (n.find key).1 0=kid:=by
   rw[l1,<-ZZ,List.getD_eq_getElem?_getD];simp
  have Np:qf (jb lo a) x key=true:=by
   rw[cZ];have mW:=cZ.1 hk;constructor
   ·by_cases h0:a = []
    ·subst h0;exact mW.1
    ·exact e3 _ (by rw[<-ha];exact yQ h0)
   ·cases B with
    | nil =>
     have:x=hi:=by simp at hb;exact hb.1
     rw[this];exact mW.2
    | cons y B =>
     have:x=y:=by simp at hb;exact hb.1
     rw[this];exact .inr (e4 y (by simp))
  have hH':nR g v root (⟨id,n,(n.find key).1⟩::ups) h kid false (jb lo a) x (id::(P0++(Pa++Pb))) (L++Ea) (Eb++R) :=
   .down (p:=⟨id,n,(n.find key).1⟩) hH h1 h2 h5 h4 (by rw[l1];simp) (by rw[l2];simp) ZZ r1 r3 (List.Perm.refl _) rfl rfl rfl
  obtain⟨Ux,st,YX,lo',jP,P',Q',L',R',E',d1,d2,d3,d4,d5,d6,d7,d8,d9,d10⟩:=QM h fuel hH' r2 Np (by omega) (by simp;omega);refine⟨Ux,st,YX,lo',jP,P',Q',L',R',E',?_,d2,d3,d4,d5,d6,d7,?_,?_,by rw[d10];simp;omega⟩
  ·rw[V.lD,if_neg (by omega),h1]
   simp only;rw[if_neg (by simp;omega),h5,oK];simpa using d1
  ·refine List.Perm.trans (cz fun z=>?_) d8
   have q1:=h3.count_eq z;have q2:=r5.count_eq z;have q3:=r4.count_eq z;simp[List.count_cons]at q1 q2 q3 ⊢;omega
  ·rw[<-d9];simp
theorem UU (cs:List aA) (h1:∀c∈cs,c.ok=true) (h2:ed (cs.map aA.key)):∀k,k<=cs.length->EL cs k=true
 | 0,_=>rfl
 | k+1,hk=>by
  have hc:cs[k]?=some cs[k]:=List.getElem?_eq_getElem (by omega);rw[EL,UU cs h1 h2 k (by omega),hc];simp only[Bool.true_and,Bool.and_eq_true];refine⟨h1 _ (List.getElem_mem _),?_⟩
  match k,hk,hc with
  | 0,_,_=>rfl
  | j+1,hk,hc =>
   have hd:cs[j]?=some cs[j]:=List.getElem?_eq_getElem (by omega);simp only[hd];have:=List.pairwise_iff_getElem.1 h2 j (j+1) (by simp;omega) (by simp;omega) (by omega);simpa using this
theorem UT (cs:List Bs) (h1:∀c∈cs,dV c=true) (h2:ed cs):∀k,k<=cs.length->EK cs k=true
 | 0,_=>rfl
 | k+1,hk=>by
  have hc:cs[k]?=some cs[k]:=List.getElem?_eq_getElem (by omega);rw[EK,UT cs h1 h2 k (by omega),hc];simp only[Bool.true_and,Bool.and_eq_true];refine⟨h1 _ (List.getElem_mem _),?_⟩
  match k,hk,hc with
  | 0,_,_=>rfl
  | j+1,hk,hc =>
   have hd:cs[j]?=some cs[j]:=List.getElem?_eq_getElem (by omega);simp only[hd];exact List.pairwise_iff_getElem.1 h2 j (j+1) (by omega) (by omega) (by omega)
theorem qF {cs:List aA}(h0:cs.length<=255) (h1:∀c∈cs,c.ok=true) (h2:ed (cs.map aA.key)):(⟨true,cs,[],[]⟩:Nd).ok=true:=by
 unfold Nd.ok Nd.shape;simp only[UU cs h1 h2 _ (Nat.le_refl _),EK,List.length_nil,List.all_nil];simp[h0]
theorem kS {ks:List Bs}{is:List Nat}(h0:ks.length<=255) (h1:∀c∈ks,dV c=true) (h2:ed ks) (h3:is.length=ks.length+1) (h4:∀i∈is,jE i=true):(⟨false,[],ks,is⟩:Nd).ok=true:=by
 unfold Nd.ok Nd.shape;simp only[UT ks h1 h2 _ (Nat.le_refl _),EL,List.length_nil];simp[h0,h3];exact h4
theorem Nd.uT {n:Nd}(h:n.ok=true) (hl:n.leaf=true):n=⟨true,n.cells,[],[]⟩:=by
 have:=(Nd.Ok.of h).lf hl;obtain⟨a,b,c,d⟩:=n;simp at hl this;rw[hl,this.1,this.2]
theorem Nd.mZ {n:Nd}(h:n.ok=true) (hl:n.leaf=false):n=⟨false,[],n.keys,n.kids⟩:=by
 have:=(Nd.Ok.of h).br hl;obtain⟨a,b,c,d⟩:=n;simp at hl this;rw[hl,this.1]
theorem eF (cs:List aA):(⟨true,cs,[],[]⟩:Nd).size=2+di cs:=by simp[Nd.size,cK]
theorem dh (ks:List Bs) (is:List Nat):(⟨false,[],ks,is⟩:Nd).size=6+cK ks:=by simp[Nd.size,di];omega
theorem p_ {c:aA}(h:c.ok=true):4<=c.size/\c.size<=160:=by
 have hb:=aA.iW h;unfold aA.ok at h;split at h
 ·rename_i h0
  simp only[Bool.and_eq_true,decide_eq_true_eq]at h;refine⟨?_,h.2⟩;unfold aA.size;split <;> omega
 ·rename_i h0
  unfold aA.size;rw[if_pos (by omega)];omega
theorem nW (a b:List aA):di (a++b)=di a+di b:=by simp[di]
theorem zR (a b:List Bs):cK (a++b)=cK a+cK b:=by simp[cK]
theorem qz (cs:List aA) (h:∀c∈cs,c.ok=true):4*cs.length<=di cs/\di cs<=160*cs.length:=by
 induction cs with
 | nil=>simp[di]
 | cons c cs ih =>
  have h1:=ih (fun c hc=>h c (by simp[hc]));have h2:=p_ (h c (by simp));simp only[di,List.map_cons,List.sum_cons,List.length_cons]at *;omega
theorem Br (ks:List Bs) (h:∀c∈ks,dV c=true):6*ks.length<=cK ks/\cK ks<=145*ks.length:=by
 induction ks with
 | nil=>simp[cK]
 | cons c cs ih =>
  have h1:=ih (fun c hc=>h c (by simp[hc]));have h2:=dF (h c (by simp));simp only[cK,List.map_cons,List.sum_cons,List.length_cons]at *;omega
theorem IP (m:Nat):∀(ws:List Nat) (acc S:Nat),(∀a∈ws,a<=m)->2*acc<=S+m->S+m<2*(acc+ws.sum)->∃k,k<ws.length/\2*(acc+(ws.take k).sum)<=S+m/\S<=2*(acc+(ws.take k).sum)+m
 | [],acc,S,_,h1,h2=>by simp at h2;omega
 | w::ws,acc,S,h,h1,h2=>by
  have hw:=h w (by simp)
  by_cases hc:2*(acc+w)<=S+m
  ·obtain⟨k,k1,k2,k3⟩:=IP m ws (acc+w) S (fun a ha=>h a (by simp[ha])) hc (by simp at h2;omega)
   exact⟨k+1,by simp;exact k1,by simp;omega,by simp;omega⟩
  ·exact⟨0,by simp,by simp;omega,by simp;omega⟩
theorem oU (n:Nd):∀(f i:Nat) (r:Nat×Nat),(n.dm f i r).2<=r.2/\(∀j,i<=j->j<i+f->(n.dm f i r).2<=n.lS j)/\(n.dm f i r=r\/((n.dm f i r).2=n.lS (n.dm f i r).1/\i<=(n.dm f i r).1/\(n.dm f i r).1<i+f))
 | 0,i,r=>⟨Nat.le_refl _,fun j h1 h2=>by omega,.inl rfl⟩
 | f+1,i,r=>by
  rw[Nd.dm]
  by_cases hw:n.lS i<r.2
  ·rw[if_pos hw]
   obtain⟨h1,h2,h3⟩:=oU n f (i+1) (i,n.lS i);refine⟨Nat.le_trans h1 (by simp;omega),fun j j1 j2=>?_,?_⟩
   ·by_cases hj:j=i
    ·subst hj;exact h1
    ·exact h2 j (by omega) (by omega)
   ·right
    rcases h3 with h3|⟨h3,h4,h5⟩
    ·rw[h3];exact⟨rfl,Nat.le_refl _,by simp⟩
    ·exact⟨h3,by omega,by omega⟩
  ·rw[if_neg hw]
   obtain⟨h1,h2,h3⟩:=oU n f (i+1) r;refine⟨h1,fun j j1 j2=>?_,?_⟩
   ·by_cases hj:j=i
    ·subst hj;omega
    ·exact h2 j (by omega) (by omega)
   ·rcases h3 with h3|⟨h3,h4,h5⟩
    ·exact .inl h3
    ·exact .inr ⟨h3,by omega,by omega⟩
theorem GU (n:Nd) (h:2+n.gap<=n.all) (hw:n.lS 1<1073741824):1<=n.fV/\n.fV+n.gap<n.all/\∀j,1<=j->j+n.gap<n.all->n.lS n.fV<=n.lS j:=by
 unfold Nd.fV;obtain⟨h1,h2,h3⟩:=oU n (n.all-n.gap-1) 1 (1,1073741824);rcases h3 with h3|⟨h3,h4,h5⟩
 ·have:=h2 1 (Nat.le_refl _) (by omega)
  rw[h3]at this;simp at this;omega
 ·refine⟨h4,by omega,fun j j1 j2=>?_⟩
  rw[<-h3];exact h2 j j1 (by omega)
theorem Uz (cs:List aA) (k:Nat):di (cs.take k)=((cs.map aA.size).take k).sum:=by simp[di,List.map_take]
theorem Rf (cs:List Bs) (k:Nat):cK (cs.take k)=((cs.map fun k=>5+k.length).take k).sum:=by simp[cK,List.map_take]
structure oD (n l r:Nd) (key:Bs):Prop where
 eq:n.split=some (l,r,key)
 lo:l.ok=true
 ro:r.ok=true
 ls:l.size<=500
 rs:r.size<=500
 ll:l.leaf=n.leaf
 rl:r.leaf=n.leaf
 lm:∀g rt,Ew g rt l
 rm:∀g rt,Ew g rt r
 lf:n.leaf=true->n.cells=l.cells++r.cells/\(∃c,r.cells.head?=some c/\c.key=key)
 br:n.leaf=false->n.keys=l.keys++key::r.keys/\n.kids=l.kids++r.kids
theorem ED {n:Nd}(aX:n.ok=true) (bL:n.leaf=true) (h1:500<n.size) (h2:n.size<=804):∃l r key,oD n l r key:=by
 have hO:=Nd.Ok.of aX;have hs:=Nd.Ok.jW aX;obtain⟨cs,xK⟩:∃cs,cs=n.cells:=⟨_,rfl⟩;have hn:=Nd.uT aX bL;have Qs:=hO.c;have ha1:=hO.a1;rw[<-xK]at hn hs Qs ha1;subst hn;clear xK hO bL;rw[eF]at h1 h2;have iC:=qz cs Qs;have fF:Nd.all ⟨true,cs,[],[]⟩=cs.length:=rfl;have oL:Nd.gap ⟨true,cs,[],[]⟩=0:=rfl;have hw:∀i,Nd.lS ⟨true,cs,[],[]⟩ i=max (2+di (cs.take i)) (2+di (cs.drop i)):=by
  intro i;unfold Nd.lS;rw[fF,oL];simp only[Nd.part,if_true,Nat.sub_zero,List.drop_zero,Nat.add_zero,eF];rw[show List.take (cs.length-i) (List.drop i cs)=List.drop i cs from List.take_of_length_le (by simp)]
 have yX:∀i,di (cs.take i)+di (cs.drop i)=di cs:=by intro i;rw[<-nW,List.take_append_drop]
 obtain⟨k,k1,k2,k3⟩:=IP 160 (cs.map aA.size) 0 (di cs) (fun a ha=>by
  obtain⟨c,hc,rfl⟩:=List.mem_map.1 ha;exact(p_ (Qs c hc)).2) (by omega) (by simp only[di]at *;omega)
 rw[List.length_map]at k1;simp only[Nat.zero_add,<-Uz]at k2 k3;have jK:k≠0:=by rintro rfl;simp[di]at k3;simp[di]at h1;omega
 have hb:=GU ⟨true,cs,[],[]⟩ (by rw[fF,oL];omega) (by rw[hw];have:=yX 1;omega);rw[fF,oL]at hb;obtain⟨b1,b2,b3⟩:=hb;have hwk:=b3 k (by omega) (by omega);rw[hw,hw]at hwk;generalize Wo:Nd.fV ⟨true,cs,[],[]⟩=b at *;have s1:=yX k;have s2:=yX b;have aT:2+di (cs.take b)<=2+(di cs+160) / 2:=by omega
 have aH:2+di (cs.drop b)<=2+(di cs+160) / 2:=by omega
 have t1:=qz (cs.take b) (fun c hc=>Qs c (List.mem_of_mem_take hc));have t2:=qz (cs.drop b) (fun c hc=>Qs c (List.mem_of_mem_drop hc));rw[List.length_take,Nat.min_eq_left (by omega)]at t1;rw[List.length_drop]at t2;clear hwk k3 k2;have rV:Nd.split ⟨true,cs,[],[]⟩=some (⟨true,cs.take b,[],[]⟩,⟨true,cs.drop b,[],[]⟩,(cs.map aA.key).getD b []):=by
  unfold Nd.split;rw[if_neg (by rw[fF,oL,aX];simp only[Bool.true_eq_false,false_or];omega),Wo];simp only[Nd.part,Nd.mid,if_true,fF,oL,Nat.sub_zero,List.drop_zero,Nat.add_zero];rw[show List.take (cs.length-b) (List.drop b cs)=List.drop b cs from List.take_of_length_le (by simp)]
 refine⟨_,_,_,rV,qF (by rw[List.length_take];omega) (fun c hc=>Qs c (List.mem_of_mem_take hc)) (hs.sublist ((List.take_sublist _ _).map _)),
  qF (by rw[List.length_drop];omega) (fun c hc=>Qs c (List.mem_of_mem_drop hc)) (hs.sublist ((List.drop_sublist _ _).map _)),Nat.le_trans (Nat.le_of_eq (eF _)) (by omega),Nat.le_trans (Nat.le_of_eq (eF _)) (by omega),rfl,rfl,?_,?_,fun _=>⟨(List.take_append_drop _ _).symm,?_⟩,(fun h=>by cases h)⟩
 ·intro g rt
  refine⟨fun _=>⟨?_,fun _ _=>?_⟩,fun h=>by cases h⟩
  ·intro e
   have e':cs.take b = []:=e;have h9:(cs.take b).length=0:=by rw[e'];rfl
   rw[List.length_take]at h9;omega
  ·show 2<=(cs.take b).length;rw[List.length_take];omega
 ·intro g rt
  refine⟨fun _=>⟨?_,fun _ _=>?_⟩,fun h=>by cases h⟩
  ·intro e
   have e':cs.drop b = []:=e;have h9:(cs.drop b).length=0:=by rw[e'];rfl
   rw[List.length_drop]at h9;omega
  ·show 2<=(cs.drop b).length;rw[List.length_drop];omega
 ·refine⟨cs[b],?_,?_⟩
  ·show(cs.drop b).head?=_
   rw[List.head?_drop];exact List.getElem?_eq_getElem (by omega)
  ·rw[List.getD_eq_getElem?_getD,List.getElem?_map,List.getElem?_eq_getElem (by omega)];rfl
theorem AO {n:Nd}(aX:n.ok=true) (bL:n.leaf=false) (h1:500<n.size) (h2:n.size<=804):∃l r key,oD n l r key:=by
 have hO:=Nd.Ok.of aX;have hs:=Nd.Ok.mH aX;have hn:=Nd.mZ aX bL;have Dn:=hO.k;have ha1:=hO.a2;have qg:=(hO.br bL).2;have hid:=hO.i;generalize n.keys=ks at *;generalize n.kids=is at *;subst hn;clear hO bL;rw[dh]at h1 h2;have iC:=Br ks Dn;have fF:Nd.all ⟨false,[],ks,is⟩=ks.length:=rfl;have oL:Nd.gap ⟨false,[],ks,is⟩=1:=rfl;have hw:∀i,Nd.lS ⟨false,[],ks,is⟩ i=max (6+cK (ks.take i)) (6+cK (ks.drop (i+1))):=by
  intro i;unfold Nd.lS;rw[fF,oL];simp only[Nd.part,Bool.false_eq_true,if_false,Nat.sub_zero,List.drop_zero,dh];rw[show List.take (ks.length-(i+1)) (List.drop (i+1) ks)=List.drop (i+1) ks from List.take_of_length_le (by simp)]
 have yX:∀i,cK (ks.take i)+cK (ks.drop i)=cK ks:=by intro i;rw[<-zR,List.take_append_drop]
 have og:∀i,i<ks.length->cK (ks.drop i)<=cK (ks.drop (i+1))+145:=by
  intro i hi;rw[List.drop_eq_getElem_cons hi];have:=dF (Dn _ (List.getElem_mem hi));simp only[cK,List.map_cons,List.sum_cons];omega
 have LF:∀i,cK (ks.drop (i+1))<=cK (ks.drop i):=by
  intro i;rcases Nat.lt_or_ge i ks.length with hi|hi
  ·rw[List.drop_eq_getElem_cons hi];simp only[cK,List.map_cons,List.sum_cons];omega
  ·rw[List.drop_eq_nil_of_le (by omega),List.drop_eq_nil_of_le (by omega)];exact Nat.le_refl _
 obtain⟨k,k1,k2,k3⟩:=IP 145 (ks.map fun k=>5+k.length) 0 (cK ks) (fun a ha=>by
  obtain⟨c,hc,rfl⟩:=List.mem_map.1 ha;have:=dF (Dn c hc);omega) (by omega) (by simp only[cK]at *;omega)
 rw[List.length_map]at k1;simp only[Nat.zero_add,<-Rf]at k2 k3;have jK:k≠0:=by rintro rfl;simp[cK]at k3;simp[cK]at h1;omega
 have s1:=yX k;have j_:k+1≠ks.length:=by
  intro e;have:=og k k1;rw[e,List.drop_length]at this;simp[cK]at this s1 k2 h1;omega
 have hb:=GU ⟨false,[],ks,is⟩ (by rw[fF,oL];omega) (by rw[hw];have:=yX 1;have:=LF 1;omega);rw[fF,oL]at hb;obtain⟨b1,b2,b3⟩:=hb;have hwk:=b3 k (by omega) (by omega);rw[hw,hw]at hwk;generalize Wo:Nd.fV ⟨false,[],ks,is⟩=b at *;have s2:=yX b;have l1:=LF k;have rV:Nd.split ⟨false,[],ks,is⟩=some (⟨false,[],ks.take b,is.take (b+1)⟩,⟨false,[],ks.drop (b+1),is.drop (b+1)⟩,ks.getD b []):=by
  unfold Nd.split;rw[if_neg (by rw[fF,oL,aX];simp only[Bool.true_eq_false,false_or];omega),Wo];simp only[Nd.part,Nd.mid,Bool.false_eq_true,if_false,fF,oL,Nat.sub_zero,List.drop_zero];rw[show List.take (ks.length-(b+1)) (List.drop (b+1) ks)=List.drop (b+1) ks from List.take_of_length_le (by simp),show List.take (ks.length+1-(b+1)) (List.drop (b+1) is)=List.drop (b+1) is from List.take_of_length_le (by simp;omega)]
 have oN:b<ks.length:=by omega
 refine⟨_,_,_,rV,kS (by rw[List.length_take];omega) (fun c hc=>Dn c (List.mem_of_mem_take hc)) (hs.sublist (List.take_sublist _ _)) (by rw[List.length_take,List.length_take];omega) (fun c hc=>hid c (List.mem_of_mem_take hc)),
  kS (by rw[List.length_drop];omega) (fun c hc=>Dn c (List.mem_of_mem_drop hc)) (hs.sublist (List.drop_sublist _ _)) (by rw[List.length_drop,List.length_drop];omega) (fun c hc=>hid c (List.mem_of_mem_drop hc)),
  by rw[dh];omega,by rw[dh];omega,rfl,rfl,?_,?_,(fun h=>by cases h),fun _=>⟨?_,(List.take_append_drop _ _).symm⟩⟩
 ·intro g rt
  refine⟨fun h=>(by cases h),fun _ _ e=>?_⟩;have e':ks.take b = []:=e;have h9:(ks.take b).length=0:=by rw[e'];rfl
  rw[List.length_take]at h9;omega
 ·intro g rt
  refine⟨fun h=>(by cases h),fun _ _ e=>?_⟩;have e':ks.drop (b+1) = []:=e;have h9:(ks.drop (b+1)).length=0:=by rw[e'];rfl
  rw[List.length_drop]at h9;omega
 ·show ks=ks.take b++ks.getD b []::ks.drop (b+1)
  rw[List.getD_eq_getElem?_getD,List.getElem?_eq_getElem oN];simp only[Option.getD_some];rw[<-List.drop_eq_getElem_cons oN,List.take_append_drop]
theorem Cn {n:Nd}(aX:n.ok=true) (h1:500<n.size) (h2:n.size<=804):∃l r key,oD n l r key:=by
 cases hl:n.leaf
 ·exact AO aX hl h1 h2
 ·exact ED aX hl h1 h2
theorem V.fH {v:V}{id:Nat}{n:Nd}(h:v.node id=some n):n.size<=500:=by
 unfold V.node at h;split at h
 ·split at h
  ·exact W_ _ _ h
  ·cases h
 ·cases h
theorem qp {cap:Nat}{v:V}(hg:v.eB cap) {id:Nat}(he:v.err id=0) {n:Nd}(hn:n.ok=true) (hs:n.size<=500) :
  ∃v1,v.wr id n=(0,v1)/\v1.eB cap/\v1.room cap=v.room cap/\v1.r=v.r/\v1.node id=some n/\(∀p,p≠id->v1.pg p=v.pg p)/\(∀p,v1.err p=0↔v.err p=0) /\
   ∀K A,(∀p∈A,v.err p=0)->id∈A->Tr K v v1 A A :=
 ⟨_,V.Hf hn hs he,hg.put hn hs he,rfl,rfl,V.KL hn hs he,fun p hp=>by simp[V.put,hp],fun p=>V.xg v id _ (by simp) he p,fun K A hA hid=>Tr.put (by simp) he hA hid K⟩
theorem kW {cap:Nat}{v:V}(hg:v.eB cap) {n:Nd}(hn:n.ok=true) (hs:n.size<=500) :
  ((v.fresh cap n).2.1=7/\v.room cap=0/\(v.fresh cap n).2.2.eB cap) \/
  ∃id v1,v.fresh cap n=(id,0,v1)/\v1.eB cap/\v1.room cap+1=v.room cap/\v1.r=v.r/\v1.node id=some n/\v.err id≠0/\1<=id/\id<65536/\(∀p,p≠id->v1.pg p=v.pg p)/\(∀p,v1.err p=0↔v.err p=0\/p=id) /\
   ∀K A,(∀p∈A,v.err p=0)->Tr K v v1 A (id::A):=by
 rcases V.qX hg with ⟨h1,h2,h3⟩|⟨h1,h2,h3,h4,h5,h6,h7,h8,_⟩
 ·left
  rw[V.WC (by omega),h3];exact⟨h1,h2,hg⟩
 ·right
  have hS:=hg.alloc;have hT:=fun K A hA=>Tr.alloc hg h1 A hA K
  have he:=(h7 _).2 (.inr rfl);refine⟨_,_,V.WE hg hn hs h1,hS.put hn hs he,h3,h4,V.KL hn hs he,h2,by omega,h6,fun p hp=>?_,fun p=>?_,fun K A hA=>?_⟩
  ·rw[<-h8 p hp];simp[V.put,hp]
  ·rw[V.xg _ _ _ (by simp) he,h7]
  ·exact(hT K A hA).trans (Tr.put (by simp) he (hT K A hA).had (by simp) K)
theorem qK {id:Nat}(h1:1<=id) (h2:id<65536):jE id=true:=by unfold jE;simp;omega
theorem V.P5 {cap:Nat}{v:V}(hg:v.eB cap) {id:Nat}(he:v.err id=0):1<=id/\id<65536:=by
 have:=(V.dH v id).1 he;have:=hg.2.1;have:=hg.2.2;omega
structure Fit (n:Nd) (lo hi:Bs):Prop where
 c:∀c∈n.cells,qf lo hi c.key=true
 k:∀k∈n.keys,Bz lo hi k
def Sp:List dN->Bs->Bs->Prop
 | [],lo,hi=>lo = []/\hi = []
 | p::ups,lo,hi=>∃lo' jP A B,Sp ups lo' jP/\p.n.ok=true/\p.n.size<=500/\p.n.leaf=false/\(∀k∈p.n.keys,Bz lo' jP k)/\p.n.keys=A++B/\A.length=p.i/\lo=(A.getLast?).getD lo'/\hi=B.headD jP
theorem jq {α:Type}(A B:List α) (y:α):(A++B).insertIdx A.length y=A++y::B:=by
 induction A with
 | nil=>simp
 | cons a A ih=>simpa using ih
theorem oD.Io {n l r:Nd}{key lo hi:Bs}(h:oD n l r key) (aX:n.ok=true) (hf:Fit n lo hi):Bz lo hi key:=by
 cases hl:n.leaf
 ·obtain⟨e,_⟩:=h.br hl
  exact hf.k key (by rw[e];simp)
 ·obtain⟨e,c,hc,rfl⟩:=h.lf hl
  have LU:c∈r.cells:=List.mem_of_head? hc;have h2:=cZ.1 (hf.c c (by rw[e];simp[LU]));refine⟨?_,h2.2⟩;obtain⟨d,ds,hd⟩:=List.exists_cons_of_ne_nil ((h.lm true true).1 (by rw[h.ll,hl])).1;have h1:=cZ.1 (hf.c d (by rw[e,hd];simp));have hs:=Nd.Ok.jW aX;rw[e,hd,List.cons_append,List.map_cons]at hs;have:=(List.pairwise_cons.1 hs).1 c.key (List.mem_map.2 ⟨c,by simp[LU],rfl⟩);exact Oq h1.1 this
theorem oD.dV {n l r:Nd}{key:Bs}(h:oD n l r key) (aX:n.ok=true):dV key=true:=by
 have hO:=Nd.Ok.of aX;cases hl:n.leaf
 ·obtain⟨e,_⟩:=h.br hl
  exact hO.k key (by rw[e];simp)
 ·obtain⟨e,c,hc,rfl⟩:=h.lf hl
  have LU:c∈r.cells:=List.mem_of_head? hc;have:=aA.iW (hO.c c (by rw[e];simp[LU]));simp[YtccnemmlkcmceaaGreatDoor.dV];omega
theorem uo {p:Nd}{A B:List Bs}{key lo hi lo' jP:Bs}{iB:Nat}(aX:p.ok=true) (hs:p.size<=500) (hl:p.leaf=false) (iL:∀k∈p.keys,Bz lo' jP k) (e:p.keys=A++B) (xH:lo=(A.getLast?).getD lo') (hhi:hi=B.headD jP)
  (hk:Bz lo hi key) (Nj:dV key=true) (hid:jE iB=true) :
  (⟨false,[],p.keys.insertIdx A.length key,p.kids.insertIdx (A.length+1) iB⟩:Nd).ok=true/\(⟨false,[],p.keys.insertIdx A.length key,p.kids.insertIdx (A.length+1) iB⟩:Nd).size<=645 /\
   Fit ⟨false,[],p.keys.insertIdx A.length key,p.kids.insertIdx (A.length+1) iB⟩ lo' jP:=by
 have hO:=Nd.Ok.of aX;have OZ:=(hO.br hl).2;have hS:=Nd.Ok.mH aX;have eZ:cK p.keys<=494:=by
  have h2:=Nd.mZ aX hl;rw[h2,dh]at hs;omega
 have iC:=Br p.keys hO.k;have l_:=dF Nj;rw[e,jq];rw[e]at hS iL eZ iC OZ;have acr:∀c∈A++B,YtccnemmlkcmceaaGreatDoor.dV c=true:=by rw[<-e];exact hO.k
 rw[List.length_append]at OZ iC;have bY:(p.kids.insertIdx (A.length+1) iB).length=p.kids.length+1:=List.length_insertIdx_of_le_length (by omega) _;obtain⟨hSA,hSB,hAB⟩:=List.pairwise_append.1 hS;have hA:∀a∈A,fA a key=true:=by
  intro a ha;have vJ:fA lo key=true:=hk.1;cases kL:A.getLast? with
  | none=>rw[List.getLast?_eq_none_iff]at kL;subst kL;simp at ha
  | some z =>
   rw[kL]at xH;simp only[Option.getD_some]at xH;subst xH;obtain⟨A',SH⟩:=List.getLast?_eq_some_iff.1 kL;subst SH;rcases List.mem_append.1 ha with h|h
   ·exact dD ((List.pairwise_append.1 hSA).2.2 a h lo (by simp)) vJ
   ·have:a=lo:=by simpa using h
    rw[this];exact vJ
 have hB:∀b∈B,fA key b=true:=by
  intro b hb;cases B with
  | nil=>simp at hb
  | cons c B =>
   have hc:hi=c:=hhi;have bQ:c ≠ []:=by
    rintro rfl;have:=dF (acr [] (by simp));simp at this
   have h2:fA key c=true:=by rw[<-hc];exact hk.2.resolve_left (by rw[hc];exact bQ)
   rcases List.mem_cons.1 hb with rfl|h
   ·exact h2
   ·exact dD h2 ((List.pairwise_cons.1 hSB).1 b h)
 refine⟨kS (by simp;omega) ?_ ?_ (by simp only[bY,List.length_append,List.length_cons];omega) ?_,?_,⟨by simp,?_⟩⟩
 ·intro c hc
  rcases List.mem_append.1 hc with h|h
  ·exact acr c (by simp[h])
  ·rcases List.mem_cons.1 h with rfl|h
   ·exact Nj
   ·exact acr c (by simp[h])
 ·exact List.pairwise_append.2 ⟨hSA,List.pairwise_cons.2 ⟨hB,hSB⟩,fun a ha b hb=>by
   rcases List.mem_cons.1 hb with rfl|h
   ·exact hA a ha
   ·exact hAB a ha b h⟩
 ·intro i hi
  rcases(List.mem_insertIdx (by omega)).1 hi with h|h
  ·rw[h];exact hid
  ·exact hO.i i h
 ·rw[dh]
  have:cK (A++key::B)=cK (A++B)+(5+key.length):=by simp[cK];omega
  rw[this];omega
 ·intro k JG
  have IE:k∈A++key::B:=JG;have aei:∀a∈A,Bz lo' jP a:=fun a ha=>iL a (by simp[ha])
  rcases List.mem_append.1 IE with h|h
  ·exact aei k h
  ·rcases List.mem_cons.1 h with rfl|h
   ·constructor
    ·cases kL:A.getLast? with
     | none=>rw[kL]at xH;simp at xH;rw[<-xH];exact hk.1
     | some z =>
      have:=aei z (List.mem_of_getLast? kL);exact dD this.1 (hA z (List.mem_of_getLast? kL))
    ·cases hBB:B with
     | nil=>rw[hBB]at hhi;simp at hhi;rw[<-hhi];exact hk.2
     | cons c B' =>
      have h3:=iL c (by rw[hBB];simp);rcases h3.2 with h4|h4
      ·exact .inl h4
      ·exact .inr (dD (hB c (by rw[hBB];simp)) h4)
   ·exact iL k (by simp[h])
theorem wD {cap root:Nat}:∀(ups:List dN) (st:dN) (n:Nd) (v:V) (lo hi:Bs),Sp ups lo hi->v.eB cap->v.err st.id=0->(∀p∈ups,v.err p.id=0)->n.ok=true->n.size<=804->Fit n lo hi ->
  (V.grow cap root (st::ups) n v).1=0\/((V.grow cap root (st::ups) n v).1=7/\v.room cap<ups.length+2)
 | ups,st,n,v,lo,hi,rV,hg,he,hu,aX,eZ,hf=>by
  by_cases hs:n.size<=500
  ·left
   rw[V.grow,V.Hf aX hs he];simp
  ·obtain⟨l,r,key,hS⟩:=Cn aX (by omega) eZ
   obtain⟨v1,e1,g1,m1,r1,n1,p1,u1,_⟩:=qp hg he hS.lo hS.ls;have e0:v.wr st.id n=(3,v):=V.PV aX (by omega);have hki:=hS.Io aX hf;have Nj:=hS.dV aX;rcases kW g1 hS.ro hS.rs with ⟨f1,f2,_⟩|⟨iB,v2,e2,g2,m2,r2,n2,x2,i1,i2,p2,u2,_⟩
   ·right
    rw[V.grow,e0];simp only[ne_eq,not_true,if_false,hS.eq,e1,f1];exact⟨by simp[f1],by omega⟩
   ·have V5:=V.P5 hg he
    cases ups with
    | nil =>
     have acp:(⟨false,[],[key],[st.id,iB]⟩:Nd).ok=true:=kS (by simp) (by simpa using Nj) (by simp) (by simp) (by
      intro i hi;simp at hi;rcases hi with rfl|rfl
      ·exact qK V5.1 V5.2
      ·exact qK i1 i2)
     have Iy:(⟨false,[],[key],[st.id,iB]⟩:Nd).size<=500:=by rw[dh];have:=dF Nj;simp[cK];omega
     rcases kW g2 acp Iy with ⟨f1,f2,_⟩|⟨Ya,v3,e3,_⟩
     ·right
      rw[V.grow,e0];simp only[ne_eq,not_true,if_false,hS.eq,e1,e2,f1];exact⟨by simp[f1],by simp;omega⟩
     ·left
      rw[V.grow,e0];simp only[ne_eq,not_true,if_false,hS.eq,e1,e2,e3]
    | cons p ups =>
     obtain⟨lo',jP,A,B,h1,h2,h3,h4,h5,h6,h7,h8,h9⟩:=rV;have Fj:=uo h2 h3 h4 h5 h6 h8 h9 hki Nj (qK i1 i2);rw[h7]at Fj;have OA:∀q,v.err q=0->v2.err q=0:=fun q hq=>(u2 q).2 (.inl ((u1 q).2 hq))
     have:=wD (cap:=cap) (root:=root) ups p _ v2 lo' jP h1 g2 (OA _ (hu p (by simp))) (fun q hq=>OA _ (hu q (by simp[hq]))) Fj.1 (by omega) Fj.2.2;have e:V.grow cap root (st::p::ups) n v=V.grow cap root (p::ups) ⟨false,[],p.n.keys.insertIdx p.i key,p.n.kids.insertIdx (p.i+1) iB⟩ v2:=by
      rw[V.grow,e0];simp only[ne_eq,not_true,if_false,hS.eq,e1,e2]
     rw[e];rcases this with h|⟨h,h'⟩
     ·exact .inl h
     ·exact .inr ⟨h,by simp only[List.length_cons];omega⟩
 termination_by ups=>ups.length
theorem nR.sp {g:Bool}{v:V}{root:Nat}{ups:List dN}{h id:Nat}{rt:Bool}{lo hi:Bs}{P:List Nat}{L R:List bK}(hh:nR g v root ups h id rt lo hi P L R):Sp ups lo hi/\∀p∈ups,v.err p.id=0:=by
 induction hh with
 | top=>exact⟨⟨rfl,rfl⟩,by simp⟩
 | @down ups h rt lo' jP P' L' R' p id x a b Pa Pb Ea Eb lo P L R h1 h2 h3 h4 h5 h6 h7 h8 h9 QG h11 Gm h13 h14 ih =>
  obtain⟨k1,k2,k3,k4⟩:=iG h7;refine⟨⟨lo',jP,a.map (·.2),(x::b.map (·.2)).dropLast,ih.1,V.bM h2,V.fH h2,h4,h5.2,k1,by simpa using h8,by rw[h14,pR],?_⟩,?_⟩
  ·cases b with
   | nil=>simpa using k3 rfl
   | cons q b=>rfl
  ·intro q hq
   rcases List.mem_cons.1 hq with rfl|hq
   ·exact V.fw h2
   ·exact ih.2 q hq
theorem sU {A B:List Bs}{key:Bs}(h:ed (A++key::B)):(∀a∈A,fA a key=true)/\∀b∈B,fA key b=true :=
 ⟨fun a ha=>(List.pairwise_append.1 h).2.2 a ha key (by simp),fun b hb=>(List.pairwise_cons.1 (List.pairwise_append.1 h).2.1).1 b hb⟩
theorem jN.split {g:Bool}{v:V}{h:Nat}{n l r:Nd}{key lo hi:Bs}{Q:List Nat}{E:List bK}(hb:jN g v h n lo hi Q E) (aX:n.ok=true) (hS:oD n l r key) :
  ∃Ql Qr El Er,jN g v h l lo key Ql El/\jN g v h r key hi Qr Er/\Q.Perm (Ql++Qr)/\E=El++Er:=by
 have hki:=hS.Io aX ⟨hb.1.1,hb.1.2⟩;have Uh:=Nd.Ok.of hS.lo;have hOr:=Nd.Ok.of hS.ro;cases h with
 | zero =>
  obtain⟨hk,hl,hc⟩:=hb;obtain⟨e,c,hch,rfl⟩:=hS.lf hl;rw[e]at hc;obtain⟨Ql,Qr,El,Er,c1,c2,c3,c4⟩:=bO.append.1 hc;have hs:=Nd.Ok.jW aX;rw[e,List.map_append]at hs;obtain⟨rs,hrs⟩:∃rs,r.cells=c::rs:=by
   cases hr:r.cells with
   | nil=>rw[hr]at hch;simp at hch
   | cons d rs=>rw[hr]at hch;simp at hch;exact⟨rs,by rw[hch]⟩
  rw[hrs,List.map_cons]at hs;obtain⟨s1,s2⟩:=sU hs;refine⟨Ql,Qr,El,Er,⟨⟨fun d hd=>?_,?_⟩,hS.ll.trans hl,c1⟩,⟨⟨fun d hd=>?_,?_⟩,hS.rl.trans hl,c2⟩,c3,c4⟩
  ·have:=cZ.1 (hk.1 d (by rw[e];simp[hd]))
   exact cZ.2 ⟨this.1,.inr (s1 d.key (List.mem_map.2 ⟨d,hd,rfl⟩))⟩
  ·rw[(Uh.lf (hS.ll.trans hl)).1];simp
  ·have:=cZ.1 (hk.1 d (by rw[e];simp[hd]))
   refine cZ.2 ⟨?_,this.2⟩;rw[hrs]at hd;rcases List.mem_cons.1 hd with rfl|hd
   ·exact ny _
   ·exact jJ (s2 d.key (List.mem_map.2 ⟨d,hd,rfl⟩))
  ·rw[(hOr.lf (hS.rl.trans hl)).1];simp
 | succ h =>
  obtain⟨hk,hl,lst,l1,l2,hR⟩:=hb;obtain⟨e,e'⟩:=hS.br hl;have tZ:=(Uh.br (hS.ll.trans hl));have T9:=(hOr.br (hS.rl.trans hl));have l2':lst.map (·.2)=(l.keys ++ [key])++(r.keys ++ [hi]):=by rw[<-l2,e];simp
  obtain⟨la,lb,rfl,ha,hb⟩:=vZ lst _ _ l2';have bY:(la.map (·.1)).length=l.kids.length:=by
   have:=congrArg List.length ha;simp at this;simp;omega
  rw[l1,List.map_append]at e';obtain⟨k1,k2⟩:=List.append_inj e' bY;obtain⟨Ql,Qr,El,Er,c1,c2,c3,c4⟩:=m_.append.1 hR;have dI:jb lo la=key:=by rw[pR,ha];simp
  rw[dI]at c2;have hs:=Nd.Ok.mH aX;rw[e]at hs;obtain⟨s1,s2⟩:=sU hs;refine⟨Ql,Qr,El,Er,⟨⟨by rw[tZ.1];simp,fun d hd=>?_⟩,hS.ll.trans hl,la,k1.symm,ha.symm,c1⟩,⟨⟨by rw[T9.1];simp,fun d hd=>?_⟩,hS.rl.trans hl,lb,k2.symm,hb.symm,c2⟩,c3,c4⟩
  ·exact⟨(hk.2 d (by rw[e];simp[hd])).1,.inr (s1 d hd)⟩
  ·exact⟨s2 d hd,(hk.2 d (by rw[e];simp[hd])).2⟩
theorem gI.eU {g:Bool}{v:V}{h:Nat}{rt:Bool}{id:Nat}{lo hi:Bs}{P:List Nat}{E:List bK}(hs:gI g v h rt id lo hi P E) (i k:Nat):gI g (v.eU i k) h rt id lo hi P E:=hs.same (fun _ _ he=>⟨he,rfl⟩)
theorem Tr.eU (v:V) (i k:Nat) (A:List Nat) (hA:∀p∈A,v.err p=0):Tr (· = i) v (v.eU i k) A A :=
 ⟨fun p=>by
  rw[V.UE]
  by_cases hp:p∈A
  ·simp[hp,hA p hp]
  ·simp[hp],fun p _ hq=>⟨rfl,hq⟩,fun j hj=>by
  have hj':¬j=i:=hj
  simp[V.eU,hj']⟩
theorem zf {cap root:Nat}:∀(ups:List dN) (st:dN) (n:Nd) (v:V) (h:Nat) (rt:Bool) (lo hi:Bs) (P Q:List Nat) (L R E:List bK),nR true v root ups h st.id rt lo hi P L R->v.eB cap->v.err st.id=0->jN true v h n lo hi Q E->n.ok=true->n.size<=804->Ew true rt n ->
  (st.id::(P++Q)).Nodup->(V.grow cap root (st::ups) n v).1=0 ->
  ∃h' B,Tr (· = root) v (V.grow cap root (st::ups) n v).2 (st.id::(P++Q)) B/\B.Nodup/\(V.grow cap root (st::ups) n v).2.eB cap/\gI true (V.grow cap root (st::ups) n v).2 h' true ((V.grow cap root (st::ups) n v).2.r root) [] [] B (L++(E++R))
 | ups,st,n,v,h,rt,lo,hi,P,Q,L,R,E,hH,hg,he,hb,aX,eZ,hm,gN,hc=>by
  have hA:∀p∈st.id::(P++Q),v.err p=0:=by
   intro p hp;rcases List.mem_cons.1 hp with rfl|hp
   ·exact he
   ·rcases List.mem_append.1 hp with hp|hp
    ·exact hH.us p hp
    ·exact hb.us p hp
  have E5:=List.nodup_cons.1 gN;have bQ:∀p∈P++Q,p≠st.id:=fun p hp e=>E5.1 (e▸hp)
  by_cases hs:n.size<=500
  ·obtain⟨v1,e1,g1,m1,r1,n1,p1,u1,t1⟩:=qp hg he aX hs
   have eg:V.grow cap root (st::ups) n v=(0,v1):=by rw[V.grow,e1];simp
   rw[eg];have ig:∀p∈P++Q,v.err p=0->v1.err p=0/\v1.pg p=v.pg p:=fun p hp h0=>⟨(u1 p).2 h0,p1 p (bQ p hp)⟩
   have hS1:gI true v1 h rt st.id lo hi (st.id::Q) E:=gI.iff.2 ⟨n,Q,n1,hm,List.Perm.refl _,hb.same (fun p hp=>ig p (by simp[hp]))⟩;have hH1:=hH.same (v':=v1) (by rw[r1]) (fun p hp=>ig p (by simp[hp]));have kV:=hH1.adL hS1;have mq:(P++st.id::Q).Perm (st.id::(P++Q)):=List.perm_middle;exact⟨_,_,(t1 _ _ hA (by simp)).congr (fun _=>Iff.rfl) (fun p=>mq.symm.mem_iff),mq.nodup_iff.2 gN,g1,kV⟩
  ·obtain⟨l,r,key,hS⟩:=Cn aX (by omega) eZ
   obtain⟨v1,e1,g1,m1,r1,n1,p1,u1,t1⟩:=qp hg he hS.lo hS.ls;have e0:v.wr st.id n=(3,v):=V.PV aX (by omega);have hki:=hS.Io aX ⟨hb.1.1,hb.1.2⟩;have Nj:=hS.dV aX;obtain⟨Ql,Qr,El,Er,b1,b2,b3,rfl⟩:=hb.split aX hS;rcases kW g1 hS.ro hS.rs with ⟨f1,f2,_⟩|⟨iB,v2,e2,g2,m2,r2,n2,x2,i1,i2,p2,u2,t2⟩
   ·exfalso
    rw[V.grow,e0]at hc;simp[hS.eq,e1,f1]at hc
   ·have V5:=V.P5 hg he
    have aH:v.err iB≠0:=fun h=>x2 ((u1 iB).2 h)
    have agO:st.id≠iB:=fun e=>aH (e▸he)
    have ig:∀p∈P++Q,v.err p=0->v2.err p=0/\v2.pg p=v.pg p:=fun p hp h0 =>
     ⟨(u2 p).2 (.inl ((u1 p).2 h0)),(p2 p (fun e=>aH (e▸h0))).trans (p1 p (bQ p hp))⟩
    have Et:v2.node st.id=some l:=V.mU ((u2 _).2 (.inl ((u1 _).2 he))) (p2 _ agO) n1;have Bd:Tr (· = root) v v2 (st.id::(P++Q)) (iB::st.id::(P++Q)):=by
     have h1:=t1 (· = root) _ hA (by simp);exact h1.trans (t2 _ _ h1.had)
    have Yk:gI true v2 h false st.id lo key (st.id::Ql) El:=gI.iff.2 ⟨l,Ql,Et,hS.lm true false,List.Perm.refl _,b1.same (fun p hp=>ig p (by
     refine List.mem_append_right _ (b3.mem_iff.2 ?_);simp[hp]))⟩
    have hSr:gI true v2 h false iB key hi (iB::Qr) Er:=gI.iff.2 ⟨r,Qr,n2,hS.rm true false,List.Perm.refl _,b2.same (fun p hp=>ig p (by
     refine List.mem_append_right _ (b3.mem_iff.2 ?_);simp[hp]))⟩
    have Sl:(iB::st.id::(P++Q)).Nodup:=List.nodup_cons.2 ⟨fun hm=>aH (hA iB hm),gN⟩;have hH2:=hH.same (v':=v2) (by rw[r2,r1]) (fun p hp=>ig p (by simp[hp]));cases hH2 with
    | top _ _ hid =>
     have acp:(⟨false,[],[key],[st.id,iB]⟩:Nd).ok=true:=kS (by simp) (by simpa using Nj) (by simp) (by simp) (by
      intro i hi;simp at hi;rcases hi with hi|rfl
      ·rw[hi];exact qK V5.1 V5.2
      ·exact qK i1 i2)
     have Iy:(⟨false,[],[key],[st.id,iB]⟩:Nd).size<=500:=by rw[dh];have:=dF Nj;simp[cK];omega
     rcases kW g2 acp Iy with ⟨f1,f2,_⟩|⟨Ya,v3,e3,g3,m3,r3,n3,x3,_,_,p3,u3,t3⟩
     ·exfalso
      rw[V.grow,e0]at hc;simp[hS.eq,e1,e2,f1]at hc
     ·have eg:V.grow cap root (st :: []) n v=(0,v3.eU root Ya):=by
       rw[V.grow,e0];simp only[ne_eq,not_true,if_false,hS.eq,e1,e2,e3]
      rw[eg];have VG:∀p,v2.err p=0->v3.err p=0/\v3.pg p=v2.pg p:=fun p h0=>⟨(u3 p).2 (.inl h0),p3 p (fun e=>x3 (e▸h0))⟩
      have ahp:=Yk.same (fun p _=>VG p);have aho:=hSr.same (fun p _=>VG p);have hSt:gI true v3 (h+1) true Ya [] [] (Ya::((st.id::Ql)++(iB::Qr))) (El++Er) :=
       ⟨⟨false,[],[key],[st.id,iB]⟩,_,n3,⟨fun h=>(by cases h),fun _ _ h=>(by cases h)⟩,List.Perm.refl _,⟨by simp,by simpa using hki⟩,rfl,[(st.id,key),(iB,[])],rfl,rfl,
        ⟨_,_,_,_,ahp,m_.one.2 ⟨_,aho,List.Perm.refl _⟩,List.Perm.refl _,rfl⟩⟩
      have Yj:=Bd.trans (t3 (· = root) _ Bd.had);have mq:(Ya::((st.id::Ql)++(iB::Qr))).Perm (Ya::iB::st.id::([]++Q)):=cz fun z=>by
       have:=b3.count_eq z;simp[List.count_cons]at this ⊢;omega
      have hT4:=Yj.trans (Tr.eU v3 root Ya _ Yj.had);refine⟨h+1,_,hT4.congr (fun _=>Iff.rfl) (fun p=>mq.symm.mem_iff),mq.nodup_iff.2 (List.nodup_cons.2 ⟨fun hm=>x3 (Bd.had _ hm),Sl⟩),g3.eU _ _,?_⟩;have er:(v3.eU root Ya).r root=Ya:=by simp[V.eU]
      rw[er];simpa using hSt.eU root Ya
    | @down ups _ YX lo' jP P' L' R' p _ _ a b Pa Pb Ea Eb _ _ _ _ q1 q2 q3 q4 q5 q6 q7 q8 q9 q10 q11 q12 q13 q14 =>
     have eg:V.grow cap root (st::p::ups) n v=V.grow cap root (p::ups) ⟨false,[],p.n.keys.insertIdx p.i key,p.n.kids.insertIdx (p.i+1) iB⟩ v2:=by
      rw[V.grow,e0];simp only[ne_eq,not_true,if_false,hS.eq,e1,e2]
     rw[eg]at hc ⊢;obtain⟨k1,k2,k3,k4⟩:=iG q7;have hAl:(a.map (·.2)).length=p.i:=by simpa using q8
     have hhi:hi=((hi::b.map (·.2)).dropLast).headD jP:=by
      cases b with
      | nil=>simpa using k3 rfl
      | cons q b=>rfl
     have Fj:=uo (V.bM q2) (V.fH q2) q4 q5.2 k1 (by rw[q14,pR]) hhi hki Nj (qK i1 i2);rw[hAl]at Fj;have oh:p.n.keys.insertIdx p.i key=a.map (·.2)++key::(hi::b.map (·.2)).dropLast:=by rw[k1,<-hAl,jq]
     have dI:(hi::b.map (·.2)).dropLast ++ [jP]=hi::b.map (·.2):=by
      have:p.n.keys ++ [jP]=a.map (·.2)++((hi::b.map (·.2)).dropLast ++ [jP]):=by rw[<-List.append_assoc,<-k1]
      rw[q7]at this;exact(List.append_cancel_left this).symm
     have Du:p.n.kids.insertIdx (p.i+1) iB=a.map (·.1)++st.id::iB::b.map (·.1):=by
      have:a.map (·.1)++st.id::b.map (·.1)=(a.map (·.1) ++ [st.id])++b.map (·.1):=by simp
      rw[q6,this,show p.i+1=(a.map (·.1) ++ [st.id]).length from by simp[q8],jq];simp
     subst q14;have hB2:jN true v2 (h+1) ⟨false,[],p.n.keys.insertIdx p.i key,p.n.kids.insertIdx (p.i+1) iB⟩ lo' jP (Pa++((st.id::Ql)++((iB::Qr)++Pb))) (Ea++(El++(Er++Eb))) :=
      ⟨⟨Fj.2.2.c,Fj.2.2.k⟩,rfl,a++(st.id,key)::(iB,hi)::b,by simp[Du],by simp only[oh,List.append_assoc,List.cons_append,dI,List.map_append,List.map_cons],
       m_.append.2 ⟨_,_,_,_,q9,⟨_,_,_,_,Yk,⟨_,_,_,_,hSr,q10,List.Perm.refl _,rfl⟩,List.Perm.refl _,rfl⟩,List.Perm.refl _,rfl⟩⟩
     have mq:(p.id::(P'++(Pa++((st.id::Ql)++((iB::Qr)++Pb))))).Perm (iB::st.id::(P++Q)):=cz fun z=>by
      have h1:=b3.count_eq z;have h2:=q11.count_eq z;simp[List.count_cons]at h1 h2 ⊢;omega
     obtain⟨h',B,j1,j2,j3,j4⟩:=zf (cap:=cap) (root:=root) ups p _ v2 (h+1) YX lo' jP P' _ L' R' _ q1 g2 (V.fw q2) hB2 Fj.1 (by omega) ⟨fun h=>(by cases h),fun _ _ e=>(by
      have e':p.n.keys.insertIdx p.i key = []:=e
      rw[oh]at e';simp at e')⟩ (mq.nodup_iff.2 Sl) hc
     refine⟨h',B,Bd.trans (j1.congr (fun p=>mq.mem_iff) (fun _=>Iff.rfl)),j2,j3,?_⟩;rw[q12,q13];have:L'++(Ea++(El++(Er++Eb))++R')=L'++Ea++(El++Er++(Eb++R')):=by simp
     rw[<-this];exact j4
 termination_by ups=>ups.length
structure Loc (g:Bool) (v:V) (root h:Nat) (key:Bs) (P:List Nat) (E:List bK) (ups:List dN) (st:dN) (rt:Bool) (lo hi:Bs) (P':List Nat) (L R:List bK) (A B:List aA) (QA QB:List Nat) (EA EB:List bK):Prop where
 way:v.way root key=some ((st::ups).reverse)
 hole:nR g v root ups 0 st.id rt lo hi P' L R
 node:v.node st.id=some st.n
 min:Ew g rt st.n
 leaf:st.n.leaf=true
 keys:st.n.Keys lo hi
 cells:st.n.cells=A++B
 i:A.length=st.i
 fi:(st.n.find key).1=st.i
 ca:bO g v A QA EA
 cb:bO g v B QB EB
 inb:qf lo hi key=true
 perm:P.Perm (P'++st.id::(QA++QB))
 Yt:E=L++(EA++(EB++R))
 len:ups.length=h
 lt:∀e∈L++EA,fA e.1 key=true
 gt:∀e∈R,fA key e.1=true
 alt:∀c∈A,fA c.key key=true
 tail:∀c∈B.tail,fA key c.key=true
 there:(st.n.find key).2=(hit ((st::ups).reverse) key).isSome
 hit:(∃c B' PC b Jp PT,B=c::B'/\c.key=key/\jF g v c PC b/\bO g v B' Jp PT/\QB.Perm (PC++Jp)/\EB=(key,b)::PT/\(∀e∈PT,fA key e.1=true)/\YtccnemmlkcmceaaGreatDoor.hit ((st::ups).reverse) key=some c) \/
  (YtccnemmlkcmceaaGreatDoor.hit ((st::ups).reverse) key=none/\(∀e∈EB,fA key e.1=true)/\∀c∈B,fA key c.key=true)
theorem CP {g:Bool}{v:V}{root h:Nat}{key:Bs}{P:List Nat}{E:List bK}(hS:gI g v h true (v.r root) [] [] P E) (hh:h<40) :
  ∃ups st rt lo hi P' L R A B QA QB EA EB,Loc g v root h key P E ups st rt lo hi P' L R A B QA QB EA EB:=by
 obtain⟨ups,st,rt,lo,hi,P',Q,L,R,E',d1,d2,d3,d4,d5,d6,d7,d8,d9,d10⟩:=QM (root:=root) (key:=key) h 41 (.top h (v.r root) rfl) hS (Lf key) (by omega) (by simp;omega);obtain⟨hk,hl,hc⟩:=d5;obtain⟨A,B,f1,f2,f3,f4,f5,f6,f7⟩:=SQ hl (Nd.Ok.jW (V.bM d3)) key;rw[f1]at hc;obtain⟨QA,QB,EA,EB,c1,c2,c3,rfl⟩:=bO.append.1 hc;have ho:=d2.out;have hb:=cZ.1 d7;have hAi:A.length=st.i:=f2.trans d6.symm;have qP:st.n.cells[st.i]?=B.head?:=by rw[f1,<-hAi];cases B <;> simp
 have kL:((st::ups).reverse).getLast?=some st:=by simp
 have Ba:∀{cs:List aA}{Q:List Nat}{F:List bK},bO g v cs Q F->∀e∈F,∃c∈cs,c.key=e.1:=by
  intro cs Q F h e he;have:e.1∈cs.map aA.key:=by rw[<-h.keys];exact List.mem_map.2 ⟨e,he,rfl⟩
  obtain⟨c,hc,e1⟩:=List.mem_map.1 this;exact⟨c,hc,e1⟩
 refine⟨ups,st,rt,lo,hi,P',L,R,A,B,QA,QB,EA,EB,d1,d2,d3,d4,hl,hk,f1,hAi,d6.symm,c1,c2,d7,?_,?_,by simpa using d10,?_,?_,f3,f6,?_,?_⟩
 ·refine List.Perm.trans ?_ (d8.trans ((c3.cons st.id).append_left P'))
  simp
 ·simpa using d9
 ·intro e he
  rcases List.mem_append.1 he with he|he
  ·exact tJ (ho.1 e he) hb.1
  ·obtain⟨c,hc,e1⟩:=Ba c1 e he
   rw[<-e1];exact f3 c hc
 ·intro e he
  obtain⟨h1,h2⟩:=ho.2 e he;exact tJ (hb.2.resolve_left h1) h2
 ·rw[f5]
  unfold YtccnemmlkcmceaaGreatDoor.hit;rw[kL];simp only[qP];cases B with
  | nil=>simp
  | cons c B =>
   simp
   by_cases Am:c.key=key
   ·simp[Am]
   ·simp[Am]
 ·cases B with
  | nil =>
   obtain⟨rfl,rfl⟩:=c2;refine .inr ⟨?_,by simp,by simp⟩;unfold YtccnemmlkcmceaaGreatDoor.hit;rw[kL];simp only[qP];rfl
  | cons c B =>
   by_cases Am:c.key=key
   ·obtain⟨PC,Jp,b,PT,e1,e2,e3,rfl⟩:=c2
    refine .inl ⟨c,B,PC,b,Jp,PT,rfl,Am,e1,e2,e3,by rw[Am],fun e he=>?_,?_⟩
    ·obtain⟨d,hd,e4⟩:=Ba e2 e he
     rw[<-e4];exact f6 d (by simpa using hd)
    ·unfold YtccnemmlkcmceaaGreatDoor.hit
     rw[kL];simp only[qP,List.head?_cons,Am,if_true]
   ·have f8:=f7 (by simp[Am])
    refine .inr ⟨?_,fun e he=>?_,f8⟩
    ·unfold YtccnemmlkcmceaaGreatDoor.hit
     rw[kL];simp only[qP,List.head?_cons,Am,if_false]
    ·obtain⟨d,hd,e4⟩:=Ba c2 e he
     rw[<-e4];exact f8 d hd
def wu (key val:Bs):List bK->List bK
 | []=>[(key,val)]
 | e::E=>if fA e.1 key then e::wu key val E else if e.1=key then (key,val)::E else (key,val)::e::E
def del (key:Bs) (E:List bK):List bK:=E.filter fun e=>!(e.1==key)
theorem Vi {key val:Bs}{L X:List bK}(h:∀e∈L,fA e.1 key=true):wu key val (L++X)=L++wu key val X:=by
 induction L with
 | nil=>rfl
 | cons e L ih=>rw[List.cons_append,wu,if_pos (h e (by simp)),ih (fun e he=>h e (by simp[he]))];rfl
theorem abR {key val:Bs}{X:List bK}(h:∀e∈X,fA key e.1=true):wu key val X=(key,val)::X:=by
 cases X with
 | nil=>rfl
 | cons e X =>
  have:=h e (by simp);rw[wu,if_neg (by rw[jJ this];simp),if_neg (fun e1=>qJ this e1.symm)]
theorem abS {key val b:Bs}{X:List bK}:wu key val ((key,b)::X)=(key,val)::X:=by
 rw[wu,if_neg (by simp[ny]),if_pos rfl]
theorem Jc {key:Bs}{X:List bK}(h:∀e∈X,e.1≠key):del key X=X:=by
 unfold del;exact List.filter_eq_self.2 (fun e he=>by simpa using h e he)
theorem O8 (key:Bs) (X Y:List bK):del key (X++Y)=del key X++del key Y:=by simp[del]
theorem FY {key:Bs}:∀{X:List bK},(∀e∈X,e.1≠key)->X.lookup key=none
 | [],_=>rfl
 | e::X,h=>by
  obtain⟨a,b⟩:=e;have h1:=h (a,b) (by simp);rw[List.lookup_cons];have:(key==a)=false:=by simp;exact fun e=>h1 e.symm
  rw[this];exact FY (fun e he=>h e (by simp[he]))
theorem z_ {key:Bs}:∀{X Y:List bK},(∀e∈X,e.1≠key)->(X++Y).lookup key=Y.lookup key
 | [],_,_=>rfl
 | (a,b)::X,Y,h=>by
  have h1:=h (a,b) (by simp);rw[List.cons_append,List.lookup_cons];have:(key==a)=false:=by simp;exact fun e=>h1 e.symm
  rw[this];exact z_ (fun e he=>h e (by simp[he]))
section
variable {g:Bool}{v:V}{root h:Nat}{key:Bs}{P:List Nat}{E:List bK}{ups:List dN}{st:dN}{rt:Bool}{lo hi:Bs}{P':List Nat}{L R:List bK}{A B:List aA}{QA QB:List Nat}{EA EB:List bK}
theorem Loc.get (hl:Loc g v root h key P E ups st rt lo hi P' L R A B QA QB EA EB):(match YtccnemmlkcmceaaGreatDoor.hit ((st::ups).reverse) key with|none=>E.lookup key=none|some c=>∃b,v.value c=some b/\E.lookup key=some b):=by
 have h1:∀e∈L++EA,e.1≠key:=fun e he=>qJ (hl.lt e he)
 rw[hl.Yt,<-List.append_assoc,z_ h1];rcases hl.hit with ⟨c,B',PC,b,Jp,PT,rfl,Am,e1,e2,e3,rfl,e4,e5⟩|⟨e5,e6,_⟩
 ·rw[e5]
  exact⟨b,e1.val,by simp⟩
 ·rw[e5]
  exact FY (fun e he=>by
   rcases List.mem_append.1 he with he|he
   ·exact fun e1=>qJ (e6 e he) e1.symm
   ·exact fun e1=>qJ (hl.gt e he) e1.symm)
end
def fu (g:Bool) (v:V) (root:Nat) (P:List Nat) (E:List bK):Prop:=(v.r root=0/\P = []/\E = [])\/∃h,h<40/\gI g v h true (v.r root) [] [] P E
theorem L_ {g:Bool}{v:V}{root:Nat}{key:Bs}{P:List Nat}{E:List bK}(hT:fu g v root P E) (hm:iE key []=0) :
  v.get root key=(match E.lookup key with|none=>([],false,0)|some b=>(b,true,0)):=by
 unfold V.get;rw[if_neg (by omega)];rcases hT with ⟨h0,rfl,rfl⟩|⟨h,hh,hS⟩
 ·have:v.way root key=some []:=by unfold V.way;rw[h0];rfl
  rw[this];rfl
 ·obtain⟨ups,st,rt,lo,hi,P',L,R,A,B,QA,QB,EA,EB,hl⟩:=CP (key:=key) hS hh
  have hg:=hl.get;rw[hl.way];simp only;cases hx:hit (st::ups).reverse key with
  | none=>rw[hx]at hg;simp only at hg;rw[hg]
  | some c =>
   rw[hx]at hg;simp only at hg;obtain⟨b,h1,h2⟩:=hg;simp only[h1,h2]
theorem m_.many {S:Nat->Bs->Bs->List Nat->List bK->Prop}{m:Nat}(hS:∀k a b Q F,S k a b Q F->m<=F.length) :
  ∀{l:List (Nat×Bs)}{lo:Bs}{P:List Nat}{E:List bK},m_ S lo l P E->l.length*m<=E.length
 | [],lo,P,E,h=>by simp
 | (k,x)::l,lo,P,E,h=>by
  obtain⟨P1,P2,E1,E2,h1,h2,h3,rfl⟩:=h;have a:=hS _ _ _ _ _ h1;have b:=m_.many hS h2;rw[List.length_append,List.length_cons,Nat.add_one_mul];omega
theorem gI.oM {v:V}:∀{h:Nat}{rt:Bool}{id:Nat}{lo hi:Bs}{P:List Nat}{E:List bK},gI true v h rt id lo hi P E->2 ^ h<=E.length
 | 0,rt,id,lo,hi,P,E,hh=>by
  have:=hh.told.1;have:E.length≠0:=fun e=>this (List.length_eq_zero_iff.1 e)
  simp;omega
 | h+1,rt,id,lo,hi,P,E,hh=>by
  obtain⟨n,Q,h1,h2,h3,h4,h5,l,l1,l2,h6⟩:=hh;have hm:=m_.many (m:=2 ^ h) (fun _ _ _ _ _ hs=>gI.oM hs) h6;have hk:=h2.2 h5 rfl;have hl:2<=l.length:=by
   have t1:=congrArg List.length l2;have t2:n.keys.length≠0:=fun e=>hk (List.length_eq_zero_iff.1 e)
   rw[List.length_append,List.length_map,List.length_singleton]at t1;omega
  have:2*2 ^ h<=l.length*2 ^ h:=Nat.mul_le_mul_right _ hl;rw[Nat.pow_succ,Nat.mul_comm];exact Nat.le_trans this hm
theorem Nd.Rv {n:Nd}{c:aA}{A B:List aA}(h:n.cells=A++B) (hi:A.length=(n.find c.key).1):(n.put c).cells=A++c::(if (n.find c.key).2 then B.tail else B):=by
 unfold Nd.put;simp only[h,<-hi];congr 1
 ·simp
 ·congr 1
  split
  ·rw[List.drop_append];simp
  ·simp
theorem FR {g:Bool}{cap:Nat}{v:V}{root h:Nat}{key val:Bs}{P:List Nat}{E:List bK}{ups:List dN}{st:dN}{rt:Bool}{lo hi:Bs}{P':List Nat}{L R:List bK}{A B:List aA}{QA QB:List Nat}{EA EB:List bK}
  (hg:v.eB cap) (hl:Loc g v root h key P E ups st rt lo hi P' L R A B QA QB EA EB) (hm:iE key val=0) (K:Nat->Prop) :
  ((v.fP cap root key val).1=7/\v.room cap<(val.length+495) / 496) \/
  ∃v2 c ns PC B2 QU X8,v.fP cap root key val=V.grow cap root (st::ups) (st.n.put c) v2/\v2.eB cap/\v2.r=v.r/\c.ok=true/\c.key=key/\v.room cap<=v2.room cap+(val.length+495) / 496/\jF true v2 c ns val/\ns.Nodup /\
   Tr K v v2 PC ns/\(∀p∈PC,v.err p=0/\(v.pg p).kind=3)/\QB.Perm (PC++QU)/\bO g v B2 QU X8/\(st.n.put c).cells=A++c::B2/\(∀d∈B2,fA key d.key=true)/\B2.Sublist B/\(∀e∈X8,fA key e.1=true)/\(EB=X8\/∃b,EB=(key,b)::X8):=by
 obtain⟨m1,m2⟩:=tH hg key val hm K [] (by simp) List.nodup_nil;rcases m2 with ⟨k1,k2,_⟩|⟨k1,ns,k2,k3,k4,k5,k6,k7,k8,k9⟩
 ·left
  unfold V.fP;rw[hl.way];simp only[k1];simp[k2,k1]
 ·right
  rw[List.append_nil]at k4 k5;have kL:((st::ups).reverse).getLast?=some st:=by simp
  have hi:A.length=(st.n.find (v.aI cap key val).1.key).1:=by rw[k7,hl.fi,hl.i]
  have hpc:=Nd.Rv hl.cells hi;rw[k7,hl.there]at hpc;rcases hl.hit with ⟨c0,B',PC,b,Jp,PT,rfl,Am,e1,e2,e3,rfl,e4,e5⟩|⟨e5,e6,e7⟩
  ·rw[e5]at hpc
   simp only[Option.isSome_some,if_true,List.tail_cons]at hpc;have e1':jF g (v.aI cap key val).2.2 c0 PC b:=e1.same (fun p hp he=>k4.kept he (by simp));obtain⟨l1,l2,l3,l4,l5,l6⟩:=e1'.bG m1 PC [] K (fun p hp=>(k4.kept (e1.us p hp).1 (by simp)).1) (fun p hp=>hp) (fun p=>by simp);have hT:Tr K v ((v.aI cap key val).2.2.bG c0).2 PC ns:=by
    have h1:=k4.more (C:=PC) (fun p hp=>⟨(e1.us p hp).1,by simp⟩);have h2:=l2.more (C:=ns) (fun p hp=>⟨k4.had p hp,fun hq=>(k4.fr p (e1.us p hq).1 (by simp)).2 hp⟩);exact(h1.trans (h2.congr (fun p=>by simp[or_comm]) (fun _=>Iff.rfl))).congr (fun p=>by simp) (fun p=>by simp)
   refine⟨((v.aI cap key val).2.2.bG c0).2,(v.aI cap key val).1,ns,PC,B',Jp,PT,?_,l3,by rw[l5,k9],k8,k7,by omega,k3.same (fun p hp he=>l2.kept he (fun hq=>(k4.fr p (e1.us p hq).1 (by simp)).2 hp)),k5,hT,e1.us,e3,e2,hpc,fun d hd=>hl.tail d (by simpa using hd),List.sublist_cons_self _ _,e4,.inr ⟨b,rfl⟩⟩;unfold V.fP;rw[hl.way];simp only[k1,kL,e5,ne_eq,not_true,if_false,l1,List.reverse_reverse]
  ·rw[e5]at hpc
   simp only[Option.isSome_none,Bool.false_eq_true,if_false]at hpc;refine⟨(v.aI cap key val).2.2,(v.aI cap key val).1,ns,[],B,QB,EB,?_,m1,k9,k8,k7,by omega,k3,k5,k4,by simp,List.Perm.refl _,hl.cb,hpc,e7,List.Sublist.refl _,e6,.inl rfl⟩;unfold V.fP;rw[hl.way];simp only[k1,kL,e5,ne_eq,not_true,if_false,List.reverse_reverse]
theorem Ko {n:Nd}{c:aA}{A B B2:List aA}{lo hi:Bs}(aX:n.ok=true) (hs:n.size<=500) (hl:n.leaf=true) (hk:n.Keys lo hi) (e:n.cells=A++B) (hc:c.ok=true) (iL:qf lo hi c.key=true) (h2:(n.put c).cells=A++c::B2) (hA:∀d∈A,fA d.key c.key=true)
  (hB:∀d∈B2,fA c.key d.key=true) (Sc:B2.Sublist B) :
  (n.put c).ok=true/\(n.put c).size<=660/\(n.put c).Keys lo hi/\(n.put c).leaf=true:=by
 have mK:∀d∈B2,d∈B:=fun d hd=>Sc.subset hd
 have hO:=Nd.Ok.of aX;have bL:=hO.lf hl;have hn:n.put c=⟨true,A++c::B2,[],[]⟩:=by
  have h3:n.put c=⟨n.leaf,(n.put c).cells,n.keys,n.kids⟩:=rfl;rw[h3,h2,hl,bL.1,bL.2]
 have eZ:di n.cells<=498:=by
  have:=Nd.uT aX hl;rw[this,eF]at hs;omega
 have iC:=qz n.cells hO.c;have hS:=Nd.Ok.jW aX;have Qs:=hO.c;rw[e]at hS eZ iC Qs;rw[List.map_append]at hS;obtain⟨s1,s2,s3⟩:=List.pairwise_append.1 hS;have xK:=p_ hc;have hBl:=Sc.length_le;have hBs:di B2<=di B:=by
  unfold di;have h1:∀{X Y:List aA},X.Sublist Y->(X.map aA.size).sum<=(Y.map aA.size).sum:=by
   intro X Y h
   induction h with
   | slnil=>exact Nat.le_refl _
   | cons a h ih=>simp;omega
   | cons_cons a h ih=>simp;omega
  exact h1 Sc
 rw[nW]at eZ iC;rw[List.length_append]at iC;rw[hn];refine⟨qF ?_ ?_ ?_,?_,⟨?_,by simp⟩,rfl⟩
 ·rw[List.length_append,List.length_cons];omega
 ·intro d hd
  rcases List.mem_append.1 hd with h|h
  ·exact Qs d (by simp[h])
  ·rcases List.mem_cons.1 h with rfl|h
   ·exact hc
   ·exact Qs d (by simp[mK d h])
 ·rw[List.map_append,List.map_cons]
  refine List.pairwise_append.2 ⟨s1,List.pairwise_cons.2 ⟨fun k hk=>?_,s2.sublist (Sc.map _)⟩,fun a ha b hb=>?_⟩
  ·obtain⟨d,hd,rfl⟩:=List.mem_map.1 hk;exact hB d hd
  ·obtain⟨d,hd,rfl⟩:=List.mem_map.1 ha
   rcases List.mem_cons.1 hb with rfl|hb
   ·exact hA d hd
   ·obtain⟨d',Gf,rfl⟩:=List.mem_map.1 hb
    exact dD (hA d hd) (hB d' Gf)
 ·rw[eF,nW]
  have:di (c::B2)=c.size+di B2:=by simp[di]
  rw[this];omega
 ·intro d hd
  have Gf:d∈A++c::B2:=hd;rcases List.mem_append.1 Gf with h|h
  ·exact hk.1 d (by rw[e];simp[h])
  ·rcases List.mem_cons.1 h with rfl|h
   ·exact iL
   ·exact hk.1 d (by rw[e];simp[mK d h])
theorem NZ {g:Bool}{cap:Nat}{v:V}{root:Nat}{key val:Bs}{P:List Nat}{E:List bK}(hg:v.eB cap) (hT:fu g v root P E) (hm:iE key val=0) :
  (v.fP cap root key val).1=0\/(v.r root≠0/\(v.fP cap root key val).1=7/\∀h,gI g v h true (v.r root) [] [] P E->h<40->v.room cap<(val.length+495) / 496+h+2)\/(v.r root=0/\(v.fP cap root key val).1=7/\v.room cap<(val.length+495) / 496+1):=by
 by_cases h0:v.r root=0
 ·obtain⟨m1,m2⟩:=tH hg key val hm (fun _=>False) [] (by simp) List.nodup_nil
  have hw:v.way root key=some []:=by unfold V.way;rw[h0];rfl
  rcases m2 with ⟨k1,k2,_⟩|⟨k1,ns,k2,k3,k4,k5,k6,k7,k8,k9⟩
  ·right;right
   unfold V.fP;rw[hw];simp only[k1];refine⟨h0,by simp[k1],by omega⟩
  ·have Dn:(⟨true,[(v.aI cap key val).1],[],[]⟩:Nd).ok=true:=qF (by simp) (by simpa using k8) (by simp)
   have Iy:(⟨true,[(v.aI cap key val).1],[],[]⟩:Nd).size<=500:=by rw[eF];have:=p_ k8;simp[di];omega
   rcases kW m1 Dn Iy with ⟨f1,f2,_⟩|⟨id,v1,e1,_⟩
   ·right;right
    unfold V.fP;rw[hw];simp only[k1,f1];refine⟨h0,by simp[f1],by omega⟩
   ·left
    unfold V.fP;rw[hw];simp[k1,e1]
 ·rcases hT with ⟨h1,_⟩|⟨h,hh,hS⟩
  ·exact absurd h1 h0
  ·obtain⟨ups,st,rt,lo,hi,P',L,R,A,B,QA,QB,EA,EB,hl⟩:=CP (key:=key) hS hh
   rcases FR hg hl hm (fun _=>False)with ⟨k1,k2⟩|⟨v2,c,ns,PC,B2,QU,X8,e,g2,r2,c1,c2,rm,c3,nd,tr,pc,q1,q2,q3,q4,q5,q6,q7⟩
   ·exact .inr (.inl ⟨h0,k1,fun h _ _=>by omega⟩)
   ·have kV:=Ko (V.bM hl.node) (V.fH hl.node) hl.leaf hl.keys hl.cells c1 (by rw[c2];exact hl.inb) q3 (by rw[c2];exact hl.alt) (by rw[c2];exact q4) q5
    obtain⟨s1,s2⟩:=hl.hole.sp
    have t_:∀p n,v.node p=some n->v2.err p=0:=fun p n hn=>(tr.kept (V.fw hn) (fun hp=>by
     have h3:=(pc p hp).2;unfold V.node at hn;split at hn
     ·split at hn
      ·omega
      ·cases hn
     ·cases hn)).1
    have agx:∀p∈ups,v2.err p.id=0:=by
     have:∀{ups:List dN}{h id:Nat}{rt:Bool}{lo hi:Bs}{P:List Nat}{L R:List bK},nR g v root ups h id rt lo hi P L R->∀p∈ups,∃n,v.node p.id=some n:=by
      intro ups h id rt lo hi P L R hh
      induction hh with
      | top=>simp
      | down h1 h2 h3 h4 h5 h6 h7 h8 h9 QG h11 Gm h13 h14 ih =>
       intro q hq;rcases List.mem_cons.1 hq with rfl|hq
       ·exact⟨_,h2⟩
       ·exact ih q hq
     intro p hp;obtain⟨n,hn⟩:=this hl.hole p hp;exact t_ _ n hn
    have:=wD (cap:=cap) (root:=root) ups st (st.n.put c) v2 lo hi s1 g2 (t_ _ _ hl.node) agx kV.1 (by omega) ⟨kV.2.2.1.1,kV.2.2.1.2⟩;rw[e];rcases this with h|⟨h1,h2⟩
    ·exact .inl h
    ·refine .inr (.inl ⟨h0,h1,fun h' hs' hh'=>?_⟩)
     obtain⟨ai0,st2,rt2,lo2,Dw,P2,L2,R2,A2,B2',QA2,ajK,EA2,ajQ,vJ⟩:=CP (key:=key) hs' hh';have h5:=hl.way;rw[vJ.way]at h5;injection h5 with h5;have h6:=congrArg List.length h5;simp at h6;have h7:=hl.len;have h8:=vJ.len;omega
theorem Rw {cap:Nat}{v:V}{root:Nat}{key val:Bs}{P:List Nat}{E:List bK}(hg:v.eB cap) (hT:fu true v root P E) (gN:P.Nodup) (hm:iE key val=0) (hE:E.length<1000000) (hc:(v.fP cap root key val).1=0) :
  ∃B,Tr (· = root) v (v.fP cap root key val).2 P B/\B.Nodup/\(v.fP cap root key val).2.eB cap/\fu true (v.fP cap root key val).2 root B (wu key val E):=by
 rcases hT with ⟨h0,rfl,rfl⟩|⟨h,hh,hS⟩
 ·obtain⟨m1,m2⟩:=tH hg key val hm (· = root) [] (by simp) List.nodup_nil
  have hw:v.way root key=some []:=by unfold V.way;rw[h0];rfl
  rcases m2 with ⟨k1,k2,_⟩|⟨k1,ns,k2,k3,k4,k5,k6,k7,k8,k9⟩
  ·exfalso
   unfold V.fP at hc;rw[hw]at hc;simp only[k1]at hc;simp[k1]at hc
  ·rw[List.append_nil]at k4 k5
   have Dn:(⟨true,[(v.aI cap key val).1],[],[]⟩:Nd).ok=true:=qF (by simp) (by simpa using k8) (by simp);have Iy:(⟨true,[(v.aI cap key val).1],[],[]⟩:Nd).size<=500:=by rw[eF];have:=p_ k8;simp[di];omega
   rcases kW m1 Dn Iy with ⟨f1,f2,_⟩|⟨id,v1,e1,g1,m1',r1,n1,x1,_,_,p1,u1,t1⟩
   ·exfalso
    unfold V.fP at hc;rw[hw]at hc;simp only[k1,f1]at hc;simp[f1]at hc
   ·have e:v.fP cap root key val=(0,v1.eU root id):=by
     unfold V.fP;rw[hw];simp[k1,e1]
    rw[e];have L6:=k4.trans (t1 (· = root) ns k4.had);have Bd:=L6.trans (Tr.eU v1 root id _ L6.had);have hca:jF true v1 (v.aI cap key val).1 ns val:=k3.same (fun p hp he=>⟨(u1 p).2 (.inl he),p1 p (fun e=>x1 (e▸he))⟩);have mK:gI true v1 0 true id [] [] (id::ns) [(key,val)]:=⟨_,ns,n1,⟨fun _=>⟨by simp,fun _ h=>by cases h⟩,fun h=>by cases h⟩,List.Perm.refl _,⟨fun c _=>Lf _,by simp⟩,rfl,ns,[],val,[],hca,⟨rfl,rfl⟩,by simp,by rw[k7]⟩;refine⟨_,Bd,List.nodup_cons.2 ⟨fun hm=>x1 (k4.had _ hm),k5⟩,g1.eU _ _,.inr ⟨0,by omega,?_⟩⟩;have er:(v1.eU root id).r root=id:=by simp[V.eU]
    rw[er];exact mK.eU root id
 ·obtain⟨ups,st,rt,lo,hi,P',L,R,A,B,QA,QB,EA,EB,hl⟩:=CP (key:=key) hS hh
  rcases FR hg hl hm (· = root)with ⟨k1,k2⟩|⟨v2,c,ns,PC,B2,QU,X8,e,g2,r2,c1,c2,rm,c3,nd,tr,pc,q1,q2,q3,q4,q5,q6,q7⟩
  ·rw[k1]at hc;cases hc
  ·have kV:=Ko (V.bM hl.node) (V.fH hl.node) hl.leaf hl.keys hl.cells c1 (by rw[c2];exact hl.inb) q3 (by rw[c2];exact hl.alt) (by rw[c2];exact q4) q5
   rw[e]at hc ⊢;have OA:∀p∈P,v.err p=0:=hS.us;have ach:(P'++st.id::(QA++QB)).Nodup:=hl.perm.nodup_iff.1 gN;have LA:(PC++(P'++st.id::(QA++QU))).Nodup:=by
    refine(List.Perm.nodup_iff ?_).1 ach;refine cz fun z=>?_
    have h1:=q1.count_eq z;simp[List.count_cons]at h1 ⊢;omega
   have hPC:∀p∈P'++st.id::(QA++QU),p∉PC:=fun p hp hq=>(List.nodup_append.1 LA).2.2 p hq p hp rfl
   have iL:∀p∈P'++st.id::(QA++QU),p∈P:=by
    intro p hp;rw[hl.perm.mem_iff];simp only[List.mem_append,List.mem_cons]at hp ⊢;rcases hp with h|h|h|h
    ·exact .inl h
    ·exact .inr (.inl h)
    ·exact .inr (.inr (.inl h))
    ·exact .inr (.inr (.inr (q1.mem_iff.2 (by simp[h]))))
   have ig:∀p∈P'++st.id::(QA++QU),v.err p=0->v2.err p=0/\v2.pg p=v.pg p:=fun p hp h0=>tr.kept h0 (hPC p hp)
   have hH2:=hl.hole.same (v':=v2) (by rw[r2]) (fun p hp=>ig p (by simp[hp]));have hca:=hl.ca.same (fun p hp=>ig p (by simp[hp]));have Gh:=q2.same (fun p hp=>ig p (by simp[hp]));have DF:jN true v2 0 (st.n.put c) lo hi (QA++(ns++QU)) (EA++(key,val)::X8):=by
    refine⟨kV.2.2.1,kV.2.2.2,?_⟩;rw[q3];exact bO.append.2 ⟨_,_,_,_,hca,⟨_,_,_,_,c3,Gh,List.Perm.refl _,by rw[c2]⟩,List.Perm.refl _,rfl⟩
   have acA:v2.err st.id=0:=(ig st.id (by simp) (V.fw hl.node)).1;have Sl:(st.id::(P'++(QA++(ns++QU)))).Nodup:=by
    have h1:(ns++(P'++st.id::(QA++QU))).Nodup:=by
     refine List.nodup_append.2 ⟨nd,(List.nodup_append.1 LA).2.1,fun p hp q hq e=>?_⟩;subst e;exact(tr.fr p (OA p (iL p hq)) (hPC p hq)).2 hp
    refine(List.Perm.nodup_iff ?_).1 h1;refine cz fun z=>?_
    simp[List.count_cons];omega
   have aee:Ew true rt (st.n.put c):=by
    refine⟨fun _=>⟨by rw[q3];simp,fun _ hrt=>?_⟩,fun h=>by rw[kV.2.2.2]at h;cases h⟩;rw[q3];have h1:=(hl.min.1 hl.leaf).2 rfl hrt;rw[hl.cells]at h1;have h2:=hl.ca.len;have h3:=hl.cb.len;have h4:=q2.len;have h5:EB.length<=X8.length+1:=by rcases q7 with rfl|⟨b,rfl⟩ <;> simp
    rw[List.length_append]at h1 ⊢;rw[List.length_cons];omega
   obtain⟨h',B',j1,j2,j3,j4⟩:=zf (cap:=cap) (root:=root) ups st (st.n.put c) v2 0 rt lo hi P' (QA++(ns++QU)) L R _ hH2 g2 acA DF kV.1 (by omega) aee Sl hc;have Bd:Tr (· = root) v v2 P (st.id::(P'++(QA++(ns++QU)))):=by
    refine(tr.more (C:=P'++st.id::(QA++QU)) (fun p hp=>⟨OA p (iL p hp),hPC p hp⟩)).congr (fun p=>?_) (fun p=>?_)
    ·rw[hl.perm.mem_iff]
     have h1:=q1.mem_iff (a:=p);simp only[List.mem_append,List.mem_cons,h1];constructor
     ·rintro(h|h|h|h|h)
      ·exact .inr (.inr (.inr (.inl h)))
      ·exact .inl h
      ·exact .inr (.inl h)
      ·exact .inr (.inr (.inl h))
      ·exact .inr (.inr (.inr (.inr h)))
     ·rintro(h|h|h|h|h)
      ·exact .inr (.inl h)
      ·exact .inr (.inr (.inl h))
      ·exact .inr (.inr (.inr (.inl h)))
      ·exact .inl h
      ·exact .inr (.inr (.inr (.inr h)))
    ·simp only[List.mem_append,List.mem_cons]
     constructor
     ·rintro(h|h|h|h|h)
      ·exact .inr (.inr (.inr (.inl h)))
      ·exact .inr (.inl h)
      ·exact .inl h
      ·exact .inr (.inr (.inl h))
      ·exact .inr (.inr (.inr (.inr h)))
     ·rintro(h|h|h|h|h)
      ·exact .inr (.inr (.inl h))
      ·exact .inr (.inl h)
      ·exact .inr (.inr (.inr (.inl h)))
      ·exact .inl h
      ·exact .inr (.inr (.inr (.inr h)))
   have OP:wu key val E=L++(EA++(key,val)::X8++R):=by
    rw[hl.Yt,<-List.append_assoc,Vi hl.lt];rcases q7 with rfl|⟨b,rfl⟩
    ·rw[abR (fun e he=>by
      rcases List.mem_append.1 he with he|he
      ·exact q6 e he
      ·exact hl.gt e he)]
     simp
    ·rw[List.cons_append,abS]
     simp
   refine⟨B',Bd.trans j1,j2,j3,.inr ⟨h',?_,by rw[OP];exact j4⟩⟩;have hh':=j4.oM;rcases Nat.lt_or_ge h' 40 with h|h
   ·exact h
   ·exfalso
    have h1:2 ^ 40<=2 ^ h':=Nat.pow_le_pow_right (by omega) h;have h2:(L++(EA++(key,val)::X8++R)).length<=E.length+1:=by
     rw[hl.Yt];have:X8.length<=EB.length:=by rcases q7 with rfl|⟨b,rfl⟩ <;> simp
     simp;omega
    have h3:(2:Nat) ^ 40=1099511627776:=by decide
    omega
theorem Vn {lo key hi k:Bs}(h:qf lo key k=true) (hk:Bz lo hi key):qf lo hi k=true:=by
 have h1:=cZ.1 h;have bQ:key ≠ []:=fun e=>by rw[e]at hk;have:=hk.1;rw[lI]at this;cases this
 refine cZ.2 ⟨h1.1,?_⟩;rcases hk.2 with h2|h2
 ·exact .inl h2
 ·exact .inr (dD (h1.2.resolve_left bQ) h2)
theorem R9 {lo key hi k:Bs}(h:qf key hi k=true) (hk:Bz lo hi key):qf lo hi k=true:=by
 have h1:=cZ.1 h;exact cZ.2 ⟨jJ (tJ hk.1 h1.1),h1.2⟩
theorem Vm {lo key hi k:Bs}(h:Bz lo key k) (hk:Bz lo hi key):Bz lo hi k:=by
 have bQ:key ≠ []:=fun e=>by rw[e]at hk;have:=hk.1;rw[lI]at this;cases this
 refine⟨h.1,?_⟩;rcases hk.2 with h2|h2
 ·exact .inl h2
 ·exact .inr (dD (h.2.resolve_left bQ) h2)
theorem R8 {lo key hi k:Bs}(h:Bz key hi k) (hk:Bz lo hi key):Bz lo hi k:=⟨dD hk.1 h.1,h.2⟩
theorem SK {g:Bool}{v:V}{h:Nat}{l r:Nd}{key lo hi:Bs}{Ql Qr:List Nat}{El Er:List bK}(hl:jN g v h l lo key Ql El) (hr:jN g v h r key hi Qr Er) (hk:Bz lo hi key):jN g v h (l.glue r key) lo hi (Ql++Qr) (El++Er):=by
 have hc:∀c∈l.cells++r.cells,qf lo hi c.key=true:=by
  intro c hc;rcases List.mem_append.1 hc with h|h
  ·exact Vn (hl.1.1 c h) hk
  ·exact R9 (hr.1.1 c h) hk
 cases h with
 | zero =>
  have e:l.glue r key=⟨true,l.cells++r.cells,[],[]⟩:=by unfold Nd.glue;rw[if_pos hl.2.1]
  rw[e];exact⟨⟨hc,by simp⟩,rfl,bO.append.2 ⟨_,_,_,_,hl.2.2,hr.2.2,List.Perm.refl _,rfl⟩⟩
 | succ h =>
  obtain⟨⟨_,k1⟩,Ni,la,l1,l2,l3⟩:=hl;obtain⟨⟨_,k2⟩,hr0,lb,r1,r2,r3⟩:=hr;have e:l.glue r key=⟨false,l.cells++r.cells,l.keys++key::r.keys,l.kids++r.kids⟩:=by unfold Nd.glue;rw[if_neg (by simp[Ni])]
  rw[e];refine⟨⟨hc,?_⟩,rfl,la++lb,by simp[l1,r1],?_,?_⟩
  ·intro k JG
   have IE:k∈l.keys++key::r.keys:=JG;rcases List.mem_append.1 IE with h|h
   ·exact Vm (k1 k h) hk
   ·rcases List.mem_cons.1 h with rfl|h
    ·exact hk
    ·exact R8 (k2 k h) hk
  ·show(l.keys++key::r.keys) ++ [hi]=_
   rw[List.map_append,<-l2,<-r2];simp
  ·refine m_.append.2 ⟨_,_,_,_,l3,?_,List.Perm.refl _,rfl⟩
   rw[F5 l2];exact r3
theorem I4 {g:Bool}{v:V}{h:Nat}{l r:Nd}{key lo hi:Bs}{Ql Qr:List Nat}{El Er:List bK}(hl:jN g v h l lo key Ql El) (hr:jN g v h r key hi Qr Er) (hk:Bz lo hi key) (Nj:dV key=true)
  (ho:l.ok=true) (hp:r.ok=true) (hs:l.size<=500) (ht:r.size<=500) :
  l.join r key=some (l.glue r key)/\(l.glue r key).ok=true/\(l.glue r key).size<=l.size+r.size+139/\(l.glue r key).leaf=l.leaf:=by
 have hO:=Nd.Ok.of ho;have hP:=Nd.Ok.of hp;have hlr:l.leaf=r.leaf:=by
  cases h with
  | zero=>rw[hl.2.1,hr.2.1]
  | succ h=>rw[hl.2.1,hr.2.1]
 have l_:=dF Nj;have bQ:key ≠ []:=fun e=>by rw[e]at l_;simp at l_
 have main:(l.glue r key).ok=true/\(l.glue r key).size<=l.size+r.size+139/\(l.glue r key).leaf=l.leaf:=by
  cases bL:l.leaf
  ·have Eo:r.leaf=false:=by rw[<-hlr];exact bL
   have e:l.glue r key=⟨false,[],l.keys++key::r.keys,l.kids++r.kids⟩:=by unfold Nd.glue;rw[if_neg (by simp[bL]),(hO.br bL).1,(hP.br Eo).1];rfl
   have s1:l.size=6+cK l.keys:=by rw[Nd.mZ ho bL,dh]
   have s2:r.size=6+cK r.keys:=by rw[Nd.mZ hp Eo,dh]
   have g1:=Br l.keys hO.k;have g2:=Br r.keys hP.k;have b1:=(hO.br bL).2;have b2:=(hP.br Eo).2;rw[e];refine⟨kS ?_ ?_ ?_ ?_ ?_,?_,rfl⟩
   ·rw[List.length_append,List.length_cons];omega
   ·intro k JG
    rcases List.mem_append.1 JG with h|h
    ·exact hO.k k h
    ·rcases List.mem_cons.1 h with rfl|h
     ·exact Nj
     ·exact hP.k k h
   ·refine List.pairwise_append.2 ⟨Nd.Ok.mH ho,List.pairwise_cons.2 ⟨fun k JG=>(hr.1.2 k JG).1,Nd.Ok.mH hp⟩,fun a ha b hb=>?_⟩
    have h1:=(hl.1.2 a ha).2.resolve_left bQ;rcases List.mem_cons.1 hb with rfl|hb
    ·exact h1
    ·exact dD h1 (hr.1.2 b hb).1
   ·rw[List.length_append,List.length_append,List.length_cons];omega
   ·intro i hi
    rcases List.mem_append.1 hi with h|h
    ·exact hO.i i h
    ·exact hP.i i h
   ·rw[dh,zR]
    have:cK (key::r.keys)=5+key.length+cK r.keys:=by simp[cK]
    rw[this];omega
  ·have Eo:r.leaf=true:=by rw[<-hlr];exact bL
   have e:l.glue r key=⟨true,l.cells++r.cells,[],[]⟩:=by unfold Nd.glue;rw[if_pos bL]
   have s1:l.size=2+di l.cells:=by rw[Nd.uT ho bL,eF]
   have s2:r.size=2+di r.cells:=by rw[Nd.uT hp Eo,eF]
   have g1:=qz l.cells hO.c;have g2:=qz r.cells hP.c;rw[e];refine⟨qF ?_ ?_ ?_,?_,rfl⟩
   ·rw[List.length_append];omega
   ·intro c hc
    rcases List.mem_append.1 hc with h|h
    ·exact hO.c c h
    ·exact hP.c c h
   ·rw[List.map_append]
    refine List.pairwise_append.2 ⟨Nd.Ok.jW ho,Nd.Ok.jW hp,fun a ha b hb=>?_⟩;obtain⟨c,hc,rfl⟩:=List.mem_map.1 ha;obtain⟨d,hd,rfl⟩:=List.mem_map.1 hb;have h1:=cZ.1 (hl.1.1 c hc);have h2:=cZ.1 (hr.1.1 d hd);exact tJ (h1.2.resolve_left bQ) h2.1
   ·rw[eF,nW];omega
 refine⟨?_,main⟩;unfold Nd.join;rw[if_neg (by simp[ho,hp,hlr]),if_pos main.1]
theorem MF {p:Nd}{A B:List Bs}{key lo' jP:Bs}{C D:List Nat}{x y:Nat}(aX:p.ok=true) (hs:p.size<=500) (hl:p.leaf=false) (iL:∀k∈p.keys,Bz lo' jP k) (e:p.keys=A++key::B) (ei:p.kids=C++x::y::D) (hC:C.length=A.length) :
  (⟨false,[],A++B,C++x::D⟩:Nd).ok=true/\(⟨false,[],A++B,C++x::D⟩:Nd).size<=500/\(∀k∈A++B,Bz lo' jP k):=by
 have hO:=Nd.Ok.of aX;have OZ:=(hO.br hl).2;have hS:=Nd.Ok.mH aX;have eZ:cK p.keys<=494:=by
  have h2:=Nd.mZ aX hl;rw[h2,dh]at hs;omega
 have h2:=hO.a2;have Nj:=hO.k;have hid:=hO.i;rw[e]at hS iL eZ OZ h2 Nj;rw[ei]at OZ hid;have Ba:∀k∈A++B,k∈A++key::B:=by
  intro k hk;simp at hk ⊢;rcases hk with h|h <;> simp[h]
 have mK:(A++B).Sublist (A++key::B):=(List.Sublist.refl A).append (List.sublist_cons_self _ _);simp only[List.length_append,List.length_cons]at OZ h2
 refine⟨kS (by rw[List.length_append];omega) (fun k hk=>Nj k (Ba k hk)) (hS.sublist mK) (by simp only[List.length_append,List.length_cons];omega) (fun i hi=>hid i (by
  simp at hi ⊢;rcases hi with h|h|h <;> simp[h])),?_,fun k hk=>iL k (Ba k hk)⟩
 rw[dh];have:cK (A++key::B)=cK (A++B)+(5+key.length):=by simp[cK];omega
 omega
theorem xV {α:Type}(A B:List α) (y:α):(A++y::B).eraseIdx A.length=A++B:=by
 induction A with
 | nil=>rfl
 | cons a A ih=>simpa using ih
theorem YW {α:Type}(A B:List α) (y z:α):(A++y::B).set A.length z=A++z::B:=by
 induction A with
 | nil=>rfl
 | cons a A ih=>simp
theorem xP {α:Type}(A B:List α) (y d:α):(A++y::B).getD A.length d=y:=by
 rw[List.getD_eq_getElem?_getD];simp
theorem Ew.root {g rt:Bool}{n:Nd}(h:Ew g false n):Ew g rt n:=⟨fun hl=>⟨(h.1 hl).1,fun hg _=>(h.1 hl).2 hg rfl⟩,h.2⟩
theorem gI.root {g:Bool}{v:V}{h:Nat}{rt:Bool}{id:Nat}{lo hi:Bs}{P:List Nat}{E:List bK}(hs:gI g v h false id lo hi P E):gI g v h rt id lo hi P E:=by
 rw[gI.iff]at hs ⊢;obtain⟨n,Q,h1,h2,h3⟩:=hs;exact⟨n,Q,h1,h2.root,h3⟩
theorem aau {n:Nd}(aX:n.ok=true) (hs:166<=n.size) (g rt:Bool):Ew g rt n:=by
 have hO:=Nd.Ok.of aX;refine⟨fun hl=>?_,fun hl _ e=>?_⟩
 ·rw[Nd.uT aX hl,eF]at hs
  have:=qz n.cells hO.c;refine⟨fun e=>?_,fun _ _=>?_⟩
  ·rw[e]at hs;simp[di]at hs
  ·omega
 ·rw[Nd.mZ aX hl,dh,e]at hs
  simp[cK]at hs
def Tryz.Ag:Go.Shelf.Ren:=⟨fun|166=>51|240=>92|276=>133|n=>n,fun|0=>0|3=>3|4=>4|9=>9|20=>20|37=>98|5=>5|70=>97|72=>100|75=>102|80=>105|164=>197|n=>n,fun|n=>n⟩
theorem Tryz.Zm:Go.Proofs.Lays.n166 Tryz.prog Tryz.Ag:={
 mixed:=by kernel_rfl
 f166:=Tryz.func51.trans (congrArg some (by kernel_rfl))
 f240:=Tryz.func92.trans (congrArg some (by kernel_rfl))
 f276:=Tryz.func133.trans (congrArg some (by kernel_rfl))
 t0:=Tryz.underlying0
 a0:=Tryz.isAgg0
 z0:=Tryz.sizeOf0
 v0:=Tryz.zeroValue0
 t3:=Tryz.underlying3
 a3:=Tryz.isAgg3
 z3:=Tryz.sizeOf3
 v3:=Tryz.zeroValue3
 t4:=Tryz.underlying4
 a4:=Tryz.isAgg4
 z4:=Tryz.sizeOf4
 v4:=Tryz.zeroValue4
 t9:=Tryz.underlying9
 a9:=Tryz.isAgg9
 z9:=Tryz.sizeOf9
 v9:=Tryz.zeroValue9
 t20:=Tryz.underlying20
 a20:=Tryz.isAgg20
 z20:=Tryz.sizeOf20
 v20:=Tryz.zeroValue20
 t37:=Tryz.underlying98
 a37:=Tryz.isAgg98
 z37:=Tryz.sizeOf98
 v37:=Tryz.zeroValue98
 t70:=Tryz.underlying97
 a70:=Tryz.isAgg97
 z70:=Tryz.sizeOf97
 v70:=Tryz.zeroValue97
 t72:=Tryz.underlying100
 a72:=Tryz.isAgg100
 z72:=Tryz.sizeOf100
 v72:=Tryz.zeroValue100
 t75:=Tryz.underlying102
 a75:=Tryz.isAgg102
 z75:=Tryz.sizeOf102
 v75:=Tryz.zeroValue102
 t164:=Tryz.underlying197
 a164:=Tryz.isAgg197
 z164:=Tryz.sizeOf197
 v164:=Tryz.zeroValue197 }
theorem Tryz.yB:Go.Proofs.Builder.Extra Tryz.prog Tryz.Ag:={
 sizeBuilder:=by kernel_rfl
 liesBuilder:=by kernel_rfl
 t5:=Tryz.underlying5
 a5:=Tryz.isAgg5
 z5:=Tryz.sizeOf5
 v5:=Tryz.zeroValue5
 infoByte:=by kernel_rfl
 cellsByte:=by kernel_rfl
 sizeByte:=by kernel_rfl
 neB5:=by decide }
theorem Tryz.Builder_WriteString (B b:Nat) (bs:List Value) (s:ByteArray) (w:World) (h:Lib.IsBuilder 100 5 B b bs w) (bY:bs.length+s.size<=140737488355328) (hBw:B<=w.heap.size) :
  Calls Tryz.prog 51 #[.pointer (some ⟨b,0,none⟩),.string s] w fun e w'=>e=.returned (.tuple #[.int .i64 s.size,.nilIface])/\(Lib.BuilderAt 100 5 B b (.pointer (some ⟨b,0,none⟩)) (bs++Lib.strCells s) w'/\Below B w w') :=
 Go.Proofs.Any.Builder_WriteString Tryz.Zm Tryz.yB B b bs s w h bY hBw
end Go.Proofs.YtccnemmlkcmceaaGreatDoor
