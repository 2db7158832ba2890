/- Proofs about the given program, joined out of the texts E7, E8, E9, EB. -/
import Derived.Test.YtccnemmlkcmceaaGreatDoorHE28
set_option linter.unusedVariables false
set_option linter.unusedSimpArgs false
set_option maxRecDepth 100000
set_option maxHeartbeats 6400000
namespace Go.Proofs.YtccnemmlkcmceaaGreatDoor
open Go.RowKit
theorem Hole.sp {g:Bool} {v:V} {root:Nat} {ups:List Stp} {h id:Nat} {rt:Bool} {lo hi:Bs} {P:List Nat} {L R:List Ent} (hh:Hole g v root ups h id rt lo hi P L R):Sp ups lo hi ∧ ∀ p ∈ ups,v.err p.id = 0:=by
 induction hh with
 | top=>exact ⟨⟨rfl,rfl⟩,by simp⟩
 | @down ups h rt lo' hi' P' L' R' p id x a b Pa Pb Ea Eb lo P L R h1 h2 h3 h4 h5 h6 h7 h8 h9 h10 h11 h12 h13 h14 ih =>
  obtain ⟨k1,k2,k3,k4⟩:=split_keys h7
  refine ⟨⟨lo',hi',a.map (·.2),(x :: b.map (·.2)).dropLast,ih.1,V.node_ok h2,V.node_size h2,h4,h5.2,k1,by simpa using h8,by rw [h14,lastB_eq],?_⟩,?_⟩
  ·cases b with
   | nil=>simpa using k3 rfl
   | cons q b=>rfl
  ·intro q hq
   rcases List.mem_cons.1 hq with rfl | hq
   ·exact V.node_us h2
   ·exact ih.2 q hq
theorem sorted_left {A B:List Bs} {key:Bs} (h:Sorted (A ++ key :: B)):(∀ a ∈ A,klt a key = true) ∧ ∀ b ∈ B,klt key b = true :=
 ⟨fun a ha=>(List.pairwise_append.1 h).2.2 a ha key (by simp),fun b hb=>(List.pairwise_cons.1 (List.pairwise_append.1 h).2.1).1 b hb⟩
theorem Body.split {g:Bool} {v:V} {h:Nat} {n l r:Nd} {key lo hi:Bs} {Q:List Nat} {E:List Ent} (hb:Body g v h n lo hi Q E) (hok:n.ok = true) (hS:SplitIs n l r key) :
  ∃ Ql Qr El Er,Body g v h l lo key Ql El ∧ Body g v h r key hi Qr Er ∧ Q.Perm (Ql ++ Qr) ∧ E = El ++ Er:=by
 have hki:=hS.key_in hok ⟨hb.1.1,hb.1.2⟩
 have hOl:=Nd.Ok.of hS.lo
 have hOr:=Nd.Ok.of hS.ro
 cases h with
 | zero =>
  obtain ⟨hk,hl,hc⟩:=hb
  obtain ⟨e,c,hch,rfl⟩:=hS.lf hl
  rw [e] at hc
  obtain ⟨Ql,Qr,El,Er,c1,c2,c3,c4⟩:=CellsAt.append.1 hc
  have hs:=Nd.Ok.sortedC hok
  rw [e,List.map_append] at hs
  obtain ⟨rs,hrs⟩:∃ rs,r.cells = c :: rs:=by
   cases hr:r.cells with
   | nil=>rw [hr] at hch;simp at hch
   | cons d rs=>rw [hr] at hch;simp at hch;exact ⟨rs,by rw [hch]⟩
  rw [hrs,List.map_cons] at hs
  obtain ⟨s1,s2⟩:=sorted_left hs
  refine ⟨Ql,Qr,El,Er,⟨⟨fun d hd=>?_,?_⟩,hS.ll.trans hl,c1⟩,⟨⟨fun d hd=>?_,?_⟩,hS.rl.trans hl,c2⟩,c3,c4⟩
  ·have:=inB_iff.1 (hk.1 d (by rw [e];simp [hd]))
   exact inB_iff.2 ⟨this.1,.inr (s1 d.key (List.mem_map.2 ⟨d,hd,rfl⟩))⟩
  ·rw [(hOl.lf (hS.ll.trans hl)).1];simp
  ·have:=inB_iff.1 (hk.1 d (by rw [e];simp [hd]))
   refine inB_iff.2 ⟨?_,this.2⟩
   rw [hrs] at hd
   rcases List.mem_cons.1 hd with rfl | hd
   ·exact klt_irrefl _
   ·exact klt_asymm (s2 d.key (List.mem_map.2 ⟨d,hd,rfl⟩))
  ·rw [(hOr.lf (hS.rl.trans hl)).1];simp
 | succ h =>
  obtain ⟨hk,hl,lst,l1,l2,hR⟩:=hb
  obtain ⟨e,e'⟩:=hS.br hl
  have hll:=(hOl.br (hS.ll.trans hl))
  have hrl:=(hOr.br (hS.rl.trans hl))
  have l2':lst.map (·.2) = (l.keys ++ [key]) ++ (r.keys ++ [hi]):=by rw [← l2,e];simp
  obtain ⟨la,lb,rfl,ha,hb⟩:=pair_split lst _ _ l2'
  have hlen:(la.map (·.1)).length = l.kids.length:=by
   have:=congrArg List.length ha
   simp at this
   simp
   omega
  rw [l1,List.map_append] at e'
  obtain ⟨k1,k2⟩:=List.append_inj e' hlen
  obtain ⟨Ql,Qr,El,Er,c1,c2,c3,c4⟩:=Run.append.1 hR
  have hlast:lastB lo la = key:=by rw [lastB_eq,ha];simp
  rw [hlast] at c2
  have hs:=Nd.Ok.sortedK hok
  rw [e] at hs
  obtain ⟨s1,s2⟩:=sorted_left hs
  refine ⟨Ql,Qr,El,Er,⟨⟨by rw [hll.1];simp,fun d hd=>?_⟩,hS.ll.trans hl,la,k1.symm,ha.symm,c1⟩,⟨⟨by rw [hrl.1];simp,fun d hd=>?_⟩,hS.rl.trans hl,lb,k2.symm,hb.symm,c2⟩,c3,c4⟩
  ·exact ⟨(hk.2 d (by rw [e];simp [hd])).1,.inr (s1 d hd)⟩
  ·exact ⟨s2 d hd,(hk.2 d (by rw [e];simp [hd])).2⟩
theorem Sub.setR {g:Bool} {v:V} {h:Nat} {rt:Bool} {id:Nat} {lo hi:Bs} {P:List Nat} {E:List Ent} (hs:Sub g v h rt id lo hi P E) (i k:Nat):Sub g (v.setR i k) h rt id lo hi P E:=hs.same (fun _ _ he=>⟨he,rfl⟩)
theorem Tr.setR (v:V) (i k:Nat) (A:List Nat) (hA:∀ p ∈ A,v.err p = 0):Tr (· = i) v (v.setR i k) A A :=
 ⟨fun p=>by
  rw [V.setR_err]
  by_cases hp:p ∈ A
  ·simp [hp,hA p hp]
  ·simp [hp],fun p _ hq=>⟨rfl,hq⟩,fun j hj=>by
  have hj':¬ j = i:=hj
  simp [V.setR,hj']⟩
theorem grow_tree {cap root:Nat}:∀ (ups:List Stp) (st:Stp) (n:Nd) (v:V) (h:Nat) (rt:Bool) (lo hi:Bs) (P Q:List Nat) (L R E:List Ent),Hole true v root ups h st.id rt lo hi P L R → v.Sane cap → v.err st.id = 0 → Body true v h n lo hi Q E → n.ok = true → n.size ≤ 804 → Min true rt n →
  (st.id :: (P ++ Q)).Nodup → (V.grow cap root (st :: ups) n v).1 = 0 →
  ∃ h' B,Tr (· = root) v (V.grow cap root (st :: ups) n v).2 (st.id :: (P ++ Q)) B ∧ B.Nodup ∧ (V.grow cap root (st :: ups) n v).2.Sane cap ∧ Sub true (V.grow cap root (st :: ups) n v).2 h' true ((V.grow cap root (st :: ups) n v).2.r root) [] [] B (L ++ (E ++ R))
 | ups,st,n,v,h,rt,lo,hi,P,Q,L,R,E,hH,hg,he,hb,hok,hsz,hm,hnd,hc=>by
  have hA:∀ p ∈ st.id :: (P ++ Q),v.err p = 0:=by
   intro p hp
   rcases List.mem_cons.1 hp with rfl | hp
   ·exact he
   ·rcases List.mem_append.1 hp with hp | hp
    ·exact hH.us p hp
    ·exact hb.us p hp
  have hnd':=List.nodup_cons.1 hnd
  have hne:∀ p ∈ P ++ Q,p ≠ st.id:=fun p hp e=>hnd'.1 (e ▸ hp)
  by_cases hs:n.size ≤ 500
  ·obtain ⟨v1,e1,g1,m1,r1,n1,p1,u1,t1⟩:=wr_told hg he hok hs
   have eg:V.grow cap root (st :: ups) n v = (0,v1):=by rw [V.grow,e1];simp
   rw [eg]
   have hsame:∀ p ∈ P ++ Q,v.err p = 0 → v1.err p = 0 ∧ v1.pg p = v.pg p:=fun p hp h0=>⟨(u1 p).2 h0,p1 p (hne p hp)⟩
   have hS1:Sub true v1 h rt st.id lo hi (st.id :: Q) E:=Sub.iff.2 ⟨n,Q,n1,hm,List.Perm.refl _,hb.same (fun p hp=>hsame p (by simp [hp]))⟩
   have hH1:=hH.same (v':=v1) (by rw [r1]) (fun p hp=>hsame p (by simp [hp]))
   have hpl:=hH1.plug hS1
   have hperm:(P ++ st.id :: Q).Perm (st.id :: (P ++ Q)):=List.perm_middle
   exact ⟨_,_,(t1 _ _ hA (by simp)).congr (fun _=>Iff.rfl) (fun p=>hperm.symm.mem_iff),hperm.nodup_iff.2 hnd,g1,hpl⟩
  ·obtain ⟨l,r,key,hS⟩:=split_is hok (by omega) hsz
   obtain ⟨v1,e1,g1,m1,r1,n1,p1,u1,t1⟩:=wr_told hg he hS.lo hS.ls
   have e0:v.wr st.id n = (3,v):=V.wr_long hok (by omega)
   have hki:=hS.key_in hok ⟨hb.1.1,hb.1.2⟩
   have hko:=hS.keyOk hok
   obtain ⟨Ql,Qr,El,Er,b1,b2,b3,rfl⟩:=hb.split hok hS
   rcases fresh_told g1 hS.ro hS.rs with ⟨f1,f2,_⟩ | ⟨id2,v2,e2,g2,m2,r2,n2,x2,i1,i2,p2,u2,t2⟩
   ·exfalso
    rw [V.grow,e0] at hc
    simp [hS.eq,e1,f1] at hc
   ·have hid1:=V.us_lt hg he
    have hx2:v.err id2 ≠ 0:=fun h=>x2 ((u1 id2).2 h)
    have hn12:st.id ≠ id2:=fun e=>hx2 (e ▸ he)
    have hsame:∀ p ∈ P ++ Q,v.err p = 0 → v2.err p = 0 ∧ v2.pg p = v.pg p:=fun p hp h0 =>
     ⟨(u2 p).2 (.inl ((u1 p).2 h0)),(p2 p (fun e=>hx2 (e ▸ h0))).trans (p1 p (hne p hp))⟩
    have hm1:v2.node st.id = some l:=V.node_same ((u2 _).2 (.inl ((u1 _).2 he))) (p2 _ hn12) n1
    have hT2:Tr (· = root) v v2 (st.id :: (P ++ Q)) (id2 :: st.id :: (P ++ Q)):=by
     have h1:=t1 (· = root) _ hA (by simp)
     exact h1.trans (t2 _ _ h1.had)
    have hSl:Sub true v2 h false st.id lo key (st.id :: Ql) El:=Sub.iff.2 ⟨l,Ql,hm1,hS.lm true false,List.Perm.refl _,b1.same (fun p hp=>hsame p (by
     refine List.mem_append_right _ (b3.mem_iff.2 ?_);simp [hp]))⟩
    have hSr:Sub true v2 h false id2 key hi (id2 :: Qr) Er:=Sub.iff.2 ⟨r,Qr,n2,hS.rm true false,List.Perm.refl _,b2.same (fun p hp=>hsame p (by
     refine List.mem_append_right _ (b3.mem_iff.2 ?_);simp [hp]))⟩
    have hnd2:(id2 :: st.id :: (P ++ Q)).Nodup:=List.nodup_cons.2 ⟨fun hm=>hx2 (hA id2 hm),hnd⟩
    have hH2:=hH.same (v':=v2) (by rw [r2,r1]) (fun p hp=>hsame p (by simp [hp]))
    cases hH2 with
    | top _ _ hid =>
     have hko1:(⟨false,[],[key],[st.id,id2]⟩:Nd).ok = true:=ok_branch (by simp) (by simpa using hko) (by simp) (by simp) (by
      intro i hi
      simp at hi
      rcases hi with hi | rfl
      ·rw [hi];exact idOk_of hid1.1 hid1.2
      ·exact idOk_of i1 i2)
     have hsz1:(⟨false,[],[key],[st.id,id2]⟩:Nd).size ≤ 500:=by rw [size_branch];have:=keyOk_len hko;simp [sumK];omega
     rcases fresh_told g2 hko1 hsz1 with ⟨f1,f2,_⟩ | ⟨id3,v3,e3,g3,m3,r3,n3,x3,_,_,p3,u3,t3⟩
     ·exfalso
      rw [V.grow,e0] at hc
      simp [hS.eq,e1,e2,f1] at hc
     ·have eg:V.grow cap root (st :: []) n v = (0,v3.setR root id3):=by
       rw [V.grow,e0]
       simp only [ne_eq,not_true,if_false,hS.eq,e1,e2,e3]
      rw [eg]
      have hsame3:∀ p,v2.err p = 0 → v3.err p = 0 ∧ v3.pg p = v2.pg p:=fun p h0=>⟨(u3 p).2 (.inl h0),p3 p (fun e=>x3 (e ▸ h0))⟩
      have hSl3:=hSl.same (fun p _=>hsame3 p)
      have hSr3:=hSr.same (fun p _=>hsame3 p)
      have hSt:Sub true v3 (h + 1) true id3 [] [] (id3 :: ((st.id :: Ql) ++ (id2 :: Qr))) (El ++ Er) :=
       ⟨⟨false,[],[key],[st.id,id2]⟩,_,n3,⟨fun h=>(by cases h),fun _ _ h=>(by cases h)⟩,List.Perm.refl _,⟨by simp,by simpa using hki⟩,rfl,[(st.id,key),(id2,[])],rfl,rfl,
        ⟨_,_,_,_,hSl3,Run.one.2 ⟨_,hSr3,List.Perm.refl _⟩,List.Perm.refl _,rfl⟩⟩
      have hT3:=hT2.trans (t3 (· = root) _ hT2.had)
      have hperm:(id3 :: ((st.id :: Ql) ++ (id2 :: Qr))).Perm (id3 :: id2 :: st.id :: ([] ++ Q)):=perm_of_count fun z=>by
       have:=b3.count_eq z
       simp [List.count_cons] at this ⊢
       omega
      have hT4:=hT3.trans (Tr.setR v3 root id3 _ hT3.had)
      refine ⟨h + 1,_,hT4.congr (fun _=>Iff.rfl) (fun p=>hperm.symm.mem_iff),hperm.nodup_iff.2 (List.nodup_cons.2 ⟨fun hm=>x3 (hT2.had _ hm),hnd2⟩),g3.setR _ _,?_⟩
      have er:(v3.setR root id3).r root = id3:=by simp [V.setR]
      rw [er]
      simpa using hSt.setR root id3
    | @down ups _ rt' lo' hi' P' L' R' p _ _ a b Pa Pb Ea Eb _ _ _ _ q1 q2 q3 q4 q5 q6 q7 q8 q9 q10 q11 q12 q13 q14 =>
     have eg:V.grow cap root (st :: p :: ups) n v = V.grow cap root (p :: ups) ⟨false,[],p.n.keys.insertIdx p.i key,p.n.kids.insertIdx (p.i + 1) id2⟩ v2:=by
      rw [V.grow,e0]
      simp only [ne_eq,not_true,if_false,hS.eq,e1,e2]
     rw [eg] at hc ⊢
     obtain ⟨k1,k2,k3,k4⟩:=split_keys q7
     have hAl:(a.map (·.2)).length = p.i:=by simpa using q8
     have hhi:hi = ((hi :: b.map (·.2)).dropLast).headD hi':=by
      cases b with
      | nil=>simpa using k3 rfl
      | cons q b=>rfl
     have hbm:=branch_more (V.node_ok q2) (V.node_size q2) q4 q5.2 k1 (by rw [q14,lastB_eq]) hhi hki hko (idOk_of i1 i2)
     rw [hAl] at hbm
     have hkeys:p.n.keys.insertIdx p.i key = a.map (·.2) ++ key :: (hi :: b.map (·.2)).dropLast:=by rw [k1,← hAl,insertIdx_len]
     have hlast:(hi :: b.map (·.2)).dropLast ++ [hi'] = hi :: b.map (·.2):=by
      have:p.n.keys ++ [hi'] = a.map (·.2) ++ ((hi :: b.map (·.2)).dropLast ++ [hi']):=by rw [← List.append_assoc,← k1]
      rw [q7] at this
      exact (List.append_cancel_left this).symm
     have hkids:p.n.kids.insertIdx (p.i + 1) id2 = a.map (·.1) ++ st.id :: id2 :: b.map (·.1):=by
      have:a.map (·.1) ++ st.id :: b.map (·.1) = (a.map (·.1) ++ [st.id]) ++ b.map (·.1):=by simp
      rw [q6,this,show p.i + 1 = (a.map (·.1) ++ [st.id]).length from by simp [q8],insertIdx_len]
      simp
     subst q14
     have hB2:Body true v2 (h + 1) ⟨false,[],p.n.keys.insertIdx p.i key,p.n.kids.insertIdx (p.i + 1) id2⟩ lo' hi' (Pa ++ ((st.id :: Ql) ++ ((id2 :: Qr) ++ Pb))) (Ea ++ (El ++ (Er ++ Eb))) :=
      ⟨⟨hbm.2.2.c,hbm.2.2.k⟩,rfl,a ++ (st.id,key) :: (id2,hi) :: b,by simp [hkids],by simp only [hkeys,List.append_assoc,List.cons_append,hlast,List.map_append,List.map_cons],
       Run.append.2 ⟨_,_,_,_,q9,⟨_,_,_,_,hSl,⟨_,_,_,_,hSr,q10,List.Perm.refl _,rfl⟩,List.Perm.refl _,rfl⟩,List.Perm.refl _,rfl⟩⟩
     have hperm:(p.id :: (P' ++ (Pa ++ ((st.id :: Ql) ++ ((id2 :: Qr) ++ Pb))))).Perm (id2 :: st.id :: (P ++ Q)):=perm_of_count fun z=>by
      have h1:=b3.count_eq z
      have h2:=q11.count_eq z
      simp [List.count_cons] at h1 h2 ⊢
      omega
     obtain ⟨h',B,j1,j2,j3,j4⟩:=grow_tree (cap:=cap) (root:=root) ups p _ v2 (h + 1) rt' lo' hi' P' _ L' R' _ q1 g2 (V.node_us q2) hB2 hbm.1 (by omega) ⟨fun h=>(by cases h),fun _ _ e=>(by
      have e':p.n.keys.insertIdx p.i key = []:=e
      rw [hkeys] at e';simp at e')⟩ (hperm.nodup_iff.2 hnd2) hc
     refine ⟨h',B,hT2.trans (j1.congr (fun p=>hperm.mem_iff) (fun _=>Iff.rfl)),j2,j3,?_⟩
     rw [q12,q13]
     have:L' ++ (Ea ++ (El ++ (Er ++ Eb)) ++ R') = L' ++ Ea ++ (El ++ Er ++ (Eb ++ R')):=by simp
     rw [← this]
     exact j4
 termination_by ups=>ups.length
structure Loc (g:Bool) (v:V) (root h:Nat) (key:Bs) (P:List Nat) (E:List Ent) (ups:List Stp) (st:Stp) (rt:Bool) (lo hi:Bs) (P':List Nat) (L R:List Ent) (A B:List Cell) (QA QB:List Nat) (EA EB:List Ent):Prop where
 way:v.way root key = some ((st :: ups).reverse)
 hole:Hole g v root ups 0 st.id rt lo hi P' L R
 node:v.node st.id = some st.n
 min:Min g rt st.n
 leaf:st.n.leaf = true
 keys:st.n.Keys lo hi
 cells:st.n.cells = A ++ B
 i:A.length = st.i
 fi:(st.n.find key).1 = st.i
 ca:CellsAt g v A QA EA
 cb:CellsAt g v B QB EB
 inb:inB lo hi key = true
 perm:P.Perm (P' ++ st.id :: (QA ++ QB))
 ent:E = L ++ (EA ++ (EB ++ R))
 len:ups.length = h
 lt:∀ e ∈ L ++ EA,klt e.1 key = true
 gt:∀ e ∈ R,klt key e.1 = true
 alt:∀ c ∈ A,klt c.key key = true
 tail:∀ c ∈ B.tail,klt key c.key = true
 there:(st.n.find key).2 = (hit ((st :: ups).reverse) key).isSome
 hit:(∃ c B' PC b QB' EB',B = c :: B' ∧ c.key = key ∧ CellAt g v c PC b ∧ CellsAt g v B' QB' EB' ∧ QB.Perm (PC ++ QB') ∧ EB = (key,b) :: EB' ∧ (∀ e ∈ EB',klt key e.1 = true) ∧ YtccnemmlkcmceaaGreatDoor.hit ((st :: ups).reverse) key = some c) ∨
  (YtccnemmlkcmceaaGreatDoor.hit ((st :: ups).reverse) key = none ∧ (∀ e ∈ EB,klt key e.1 = true) ∧ ∀ c ∈ B,klt key c.key = true)
theorem locate {g:Bool} {v:V} {root h:Nat} {key:Bs} {P:List Nat} {E:List Ent} (hS:Sub g v h true (v.r root) [] [] P E) (hh:h < 40) :
  ∃ ups st rt lo hi P' L R A B QA QB EA EB,Loc g v root h key P E ups st rt lo hi P' L R A B QA QB EA EB:=by
 obtain ⟨ups,st,rt,lo,hi,P',Q,L,R,E',d1,d2,d3,d4,d5,d6,d7,d8,d9,d10⟩:=descend (root:=root) (key:=key) h 41 (.top h (v.r root) rfl) hS (inB_full key) (by omega) (by simp;omega)
 obtain ⟨hk,hl,hc⟩:=d5
 obtain ⟨A,B,f1,f2,f3,f4,f5,f6,f7⟩:=find_leaf hl (Nd.Ok.sortedC (V.node_ok d3)) key
 rw [f1] at hc
 obtain ⟨QA,QB,EA,EB,c1,c2,c3,rfl⟩:=CellsAt.append.1 hc
 have ho:=d2.out
 have hb:=inB_iff.1 d7
 have hAi:A.length = st.i:=f2.trans d6.symm
 have hat:st.n.cells[st.i]? = B.head?:=by rw [f1,← hAi];cases B <;> simp
 have hgl:((st :: ups).reverse).getLast? = some st:=by simp
 have hmem:∀ {cs:List Cell} {Q:List Nat} {F:List Ent},CellsAt g v cs Q F → ∀ e ∈ F,∃ c ∈ cs,c.key = e.1:=by
  intro cs Q F h e he
  have:e.1 ∈ cs.map Cell.key:=by rw [← h.keys];exact List.mem_map.2 ⟨e,he,rfl⟩
  obtain ⟨c,hc,e1⟩:=List.mem_map.1 this
  exact ⟨c,hc,e1⟩
 refine ⟨ups,st,rt,lo,hi,P',L,R,A,B,QA,QB,EA,EB,d1,d2,d3,d4,hl,hk,f1,hAi,d6.symm,c1,c2,d7,?_,?_,by simpa using d10,?_,?_,f3,f6,?_,?_⟩
 ·refine List.Perm.trans ?_ (d8.trans ((c3.cons st.id).append_left P'))
  simp
 ·simpa using d9
 ·intro e he
  rcases List.mem_append.1 he with he | he
  ·exact lt_kle (ho.1 e he) hb.1
  ·obtain ⟨c,hc,e1⟩:=hmem c1 e he
   rw [← e1];exact f3 c hc
 ·intro e he
  obtain ⟨h1,h2⟩:=ho.2 e he
  exact lt_kle (hb.2.resolve_left h1) h2
 ·rw [f5]
  unfold YtccnemmlkcmceaaGreatDoor.hit
  rw [hgl]
  simp only [hat]
  cases B with
  | nil=>simp
  | cons c B =>
   simp
   by_cases hck:c.key = key
   ·simp [hck]
   ·simp [hck]
 ·cases B with
  | nil =>
   obtain ⟨rfl,rfl⟩:=c2
   refine .inr ⟨?_,by simp,by simp⟩
   unfold YtccnemmlkcmceaaGreatDoor.hit
   rw [hgl]
   simp only [hat]
   rfl
  | cons c B =>
   by_cases hck:c.key = key
   ·obtain ⟨PC,QB',b,EB',e1,e2,e3,rfl⟩:=c2
    refine .inl ⟨c,B,PC,b,QB',EB',rfl,hck,e1,e2,e3,by rw [hck],fun e he=>?_,?_⟩
    ·obtain ⟨d,hd,e4⟩:=hmem e2 e he
     rw [← e4];exact f6 d (by simpa using hd)
    ·unfold YtccnemmlkcmceaaGreatDoor.hit
     rw [hgl]
     simp only [hat,List.head?_cons,hck,if_true]
   ·have f8:=f7 (by simp [hck])
    refine .inr ⟨?_,fun e he=>?_,f8⟩
    ·unfold YtccnemmlkcmceaaGreatDoor.hit
     rw [hgl]
     simp only [hat,List.head?_cons,hck,if_false]
    ·obtain ⟨d,hd,e4⟩:=hmem c2 e he
     rw [← e4];exact f8 d hd
def ins (key val:Bs):List Ent → List Ent
 | []=>[(key,val)]
 | e :: E=>if klt e.1 key then e :: ins key val E else if e.1 = key then (key,val) :: E else (key,val) :: e :: E
theorem ins_left {key val:Bs} {L X:List Ent} (h:∀ e ∈ L,klt e.1 key = true):ins key val (L ++ X) = L ++ ins key val X:=by
 induction L with
 | nil=>rfl
 | cons e L ih=>rw [List.cons_append,ins,if_pos (h e (by simp)),ih (fun e he=>h e (by simp [he]))];rfl
theorem ins_gt {key val:Bs} {X:List Ent} (h:∀ e ∈ X,klt key e.1 = true):ins key val X = (key,val) :: X:=by
 cases X with
 | nil=>rfl
 | cons e X =>
  have:=h e (by simp)
  rw [ins,if_neg (by rw [klt_asymm this];simp),if_neg (fun e1=>klt_ne this e1.symm)]
theorem ins_eq {key val b:Bs} {X:List Ent}:ins key val ((key,b) :: X) = (key,val) :: X:=by
 rw [ins,if_neg (by simp [klt_irrefl]),if_pos rfl]
theorem lookup_ne {key:Bs}:∀ {X:List Ent},(∀ e ∈ X,e.1 ≠ key) → X.lookup key = none
 | [],_=>rfl
 | e :: X,h=>by
  obtain ⟨a,b⟩:=e
  have h1:=h (a,b) (by simp)
  rw [List.lookup_cons]
  have:(key == a) = false:=by simp;exact fun e=>h1 e.symm
  rw [this]
  exact lookup_ne (fun e he=>h e (by simp [he]))
theorem lookup_skip {key:Bs}:∀ {X Y:List Ent},(∀ e ∈ X,e.1 ≠ key) → (X ++ Y).lookup key = Y.lookup key
 | [],_,_=>rfl
 | (a,b) :: X,Y,h=>by
  have h1:=h (a,b) (by simp)
  rw [List.cons_append,List.lookup_cons]
  have:(key == a) = false:=by simp;exact fun e=>h1 e.symm
  rw [this]
  exact lookup_skip (fun e he=>h e (by simp [he]))
section
variable {g:Bool} {v:V} {root h:Nat} {key:Bs} {P:List Nat} {E:List Ent} {ups:List Stp} {st:Stp} {rt:Bool} {lo hi:Bs} {P':List Nat} {L R:List Ent} {A B:List Cell} {QA QB:List Nat} {EA EB:List Ent}
theorem Loc.get (hl:Loc g v root h key P E ups st rt lo hi P' L R A B QA QB EA EB):(match YtccnemmlkcmceaaGreatDoor.hit ((st :: ups).reverse) key with | none=>E.lookup key = none | some c=>∃ b,v.value c = some b ∧ E.lookup key = some b):=by
 have h1:∀ e ∈ L ++ EA,e.1 ≠ key:=fun e he=>klt_ne (hl.lt e he)
 rw [hl.ent,← List.append_assoc,lookup_skip h1]
 rcases hl.hit with ⟨c,B',PC,b,QB',EB',rfl,hck,e1,e2,e3,rfl,e4,e5⟩ | ⟨e5,e6,_⟩
 ·rw [e5]
  exact ⟨b,e1.val,by simp⟩
 ·rw [e5]
  exact lookup_ne (fun e he=>by
   rcases List.mem_append.1 he with he | he
   ·exact fun e1=>klt_ne (e6 e he) e1.symm
   ·exact fun e1=>klt_ne (hl.gt e he) e1.symm)
end
def TreeOf (g:Bool) (v:V) (root:Nat) (P:List Nat) (E:List Ent):Prop:=(v.r root = 0 ∧ P = [] ∧ E = []) ∨ ∃ h,h < 40 ∧ Sub g v h true (v.r root) [] [] P E
theorem Run.many {S:Nat → Bs → Bs → List Nat → List Ent → Prop} {m:Nat} (hS:∀ k a b Q F,S k a b Q F → m ≤ F.length) :
  ∀ {l:List (Nat × Bs)} {lo:Bs} {P:List Nat} {E:List Ent},Run S lo l P E → l.length * m ≤ E.length
 | [],lo,P,E,h=>by simp
 | (k,x) :: l,lo,P,E,h=>by
  obtain ⟨P1,P2,E1,E2,h1,h2,h3,rfl⟩:=h
  have a:=hS _ _ _ _ _ h1
  have b:=Run.many hS h2
  rw [List.length_append,List.length_cons,Nat.add_one_mul]
  omega
theorem Sub.height {v:V}:∀ {h:Nat} {rt:Bool} {id:Nat} {lo hi:Bs} {P:List Nat} {E:List Ent},Sub true v h rt id lo hi P E → 2 ^ h ≤ E.length
 | 0,rt,id,lo,hi,P,E,hh=>by
  have:=hh.told.1
  have:E.length ≠ 0:=fun e=>this (List.length_eq_zero_iff.1 e)
  simp;omega
 | h + 1,rt,id,lo,hi,P,E,hh=>by
  obtain ⟨n,Q,h1,h2,h3,h4,h5,l,l1,l2,h6⟩:=hh
  have hm:=Run.many (m:=2 ^ h) (fun _ _ _ _ _ hs=>Sub.height hs) h6
  have hk:=h2.2 h5 rfl
  have hl:2 ≤ l.length:=by
   have t1:=congrArg List.length l2
   have t2:n.keys.length ≠ 0:=fun e=>hk (List.length_eq_zero_iff.1 e)
   rw [List.length_append,List.length_map,List.length_singleton] at t1
   omega
  have:2 * 2 ^ h ≤ l.length * 2 ^ h:=Nat.mul_le_mul_right _ hl
  rw [Nat.pow_succ,Nat.mul_comm]
  exact Nat.le_trans this hm
theorem Nd.put_cells {n:Nd} {c:Cell} {A B:List Cell} (h:n.cells = A ++ B) (hi:A.length = (n.find c.key).1):(n.put c).cells = A ++ c :: (if (n.find c.key).2 then B.tail else B):=by
 unfold Nd.put
 simp only [h,← hi]
 congr 1
 ·simp
 ·congr 1
  split
  ·rw [List.drop_append];simp
  ·simp
theorem put0_prep {g:Bool} {cap:Nat} {v:V} {root h:Nat} {key val:Bs} {P:List Nat} {E:List Ent} {ups:List Stp} {st:Stp} {rt:Bool} {lo hi:Bs} {P':List Nat} {L R:List Ent} {A B:List Cell} {QA QB:List Nat} {EA EB:List Ent}
  (hg:v.Sane cap) (hl:Loc g v root h key P E ups st rt lo hi P' L R A B QA QB EA EB) (hm:may key val = 0) (K:Nat → Prop) :
  ((v.put0 cap root key val).1 = 7 ∧ v.room cap < (val.length + 495) / 496) ∨
  ∃ v2 c ns PC B2 QB2 EB2,v.put0 cap root key val = V.grow cap root (st :: ups) (st.n.put c) v2 ∧ v2.Sane cap ∧ v2.r = v.r ∧ c.ok = true ∧ c.key = key ∧ v.room cap ≤ v2.room cap + (val.length + 495) / 496 ∧ CellAt true v2 c ns val ∧ ns.Nodup ∧
   Tr K v v2 PC ns ∧ (∀ p ∈ PC,v.err p = 0 ∧ (v.pg p).kind = 3) ∧ QB.Perm (PC ++ QB2) ∧ CellsAt g v B2 QB2 EB2 ∧ (st.n.put c).cells = A ++ c :: B2 ∧ (∀ d ∈ B2,klt key d.key = true) ∧ B2.Sublist B ∧ (∀ e ∈ EB2,klt key e.1 = true) ∧ (EB = EB2 ∨ ∃ b,EB = (key,b) :: EB2):=by
 obtain ⟨m1,m2⟩:=mkCell_told hg key val hm K [] (by simp) List.nodup_nil
 rcases m2 with ⟨k1,k2,_⟩ | ⟨k1,ns,k2,k3,k4,k5,k6,k7,k8,k9⟩
 ·left
  unfold V.put0
  rw [hl.way]
  simp only [k1]
  simp [k2,k1]
 ·right
  rw [List.append_nil] at k4 k5
  have hgl:((st :: ups).reverse).getLast? = some st:=by simp
  have hi:A.length = (st.n.find (v.mkCell cap key val).1.key).1:=by rw [k7,hl.fi,hl.i]
  have hpc:=Nd.put_cells hl.cells hi
  rw [k7,hl.there] at hpc
  rcases hl.hit with ⟨c0,B',PC,b,QB',EB',rfl,hck,e1,e2,e3,rfl,e4,e5⟩ | ⟨e5,e6,e7⟩
  ·rw [e5] at hpc
   simp only [Option.isSome_some,if_true,List.tail_cons] at hpc
   have e1':CellAt g (v.mkCell cap key val).2.2 c0 PC b:=e1.same (fun p hp he=>k4.kept he (by simp))
   obtain ⟨l1,l2,l3,l4,l5,l6⟩:=e1'.letGo m1 PC [] K (fun p hp=>(k4.kept (e1.us p hp).1 (by simp)).1) (fun p hp=>hp) (fun p=>by simp)
   have hT:Tr K v ((v.mkCell cap key val).2.2.letGo c0).2 PC ns:=by
    have h1:=k4.more (C:=PC) (fun p hp=>⟨(e1.us p hp).1,by simp⟩)
    have h2:=l2.more (C:=ns) (fun p hp=>⟨k4.had p hp,fun hq=>(k4.fr p (e1.us p hq).1 (by simp)).2 hp⟩)
    exact (h1.trans (h2.congr (fun p=>by simp [or_comm]) (fun _=>Iff.rfl))).congr (fun p=>by simp) (fun p=>by simp)
   refine ⟨((v.mkCell cap key val).2.2.letGo c0).2,(v.mkCell cap key val).1,ns,PC,B',QB',EB',?_,l3,by rw [l5,k9],k8,k7,by omega,k3.same (fun p hp he=>l2.kept he (fun hq=>(k4.fr p (e1.us p hq).1 (by simp)).2 hp)),k5,hT,e1.us,e3,e2,hpc,fun d hd=>hl.tail d (by simpa using hd),List.sublist_cons_self _ _,e4,.inr ⟨b,rfl⟩⟩
   unfold V.put0
   rw [hl.way]
   simp only [k1,hgl,e5,ne_eq,not_true,if_false,l1,List.reverse_reverse]
  ·rw [e5] at hpc
   simp only [Option.isSome_none,Bool.false_eq_true,if_false] at hpc
   refine ⟨(v.mkCell cap key val).2.2,(v.mkCell cap key val).1,ns,[],B,QB,EB,?_,m1,k9,k8,k7,by omega,k3,k5,k4,by simp,List.Perm.refl _,hl.cb,hpc,e7,List.Sublist.refl _,e6,.inl rfl⟩
   unfold V.put0
   rw [hl.way]
   simp only [k1,hgl,e5,ne_eq,not_true,if_false,List.reverse_reverse]
theorem put_leaf {n:Nd} {c:Cell} {A B B2:List Cell} {lo hi:Bs} (hok:n.ok = true) (hs:n.size ≤ 500) (hl:n.leaf = true) (hk:n.Keys lo hi) (e:n.cells = A ++ B) (hc:c.ok = true) (hin:inB lo hi c.key = true) (h2:(n.put c).cells = A ++ c :: B2) (hA:∀ d ∈ A,klt d.key c.key = true)
  (hB:∀ d ∈ B2,klt c.key d.key = true) (hsb:B2.Sublist B) :
  (n.put c).ok = true ∧ (n.put c).size ≤ 660 ∧ (n.put c).Keys lo hi ∧ (n.put c).leaf = true:=by
 have hsub:∀ d ∈ B2,d ∈ B:=fun d hd=>hsb.subset hd
 have hO:=Nd.Ok.of hok
 have hlf:=hO.lf hl
 have hn:n.put c = ⟨true,A ++ c :: B2,[],[]⟩:=by
  have h3:n.put c = ⟨n.leaf,(n.put c).cells,n.keys,n.kids⟩:=rfl
  rw [h3,h2,hl,hlf.1,hlf.2]
 have hsz:sumC n.cells ≤ 498:=by
  have:=Nd.eq_leaf hok hl
  rw [this,size_leaf] at hs
  omega
 have hge:=sumC_ge n.cells hO.c
 have hS:=Nd.Ok.sortedC hok
 have hoc:=hO.c
 rw [e] at hS hsz hge hoc
 rw [List.map_append] at hS
 obtain ⟨s1,s2,s3⟩:=List.pairwise_append.1 hS
 have hcs:=cell_size hc
 have hBl:=hsb.length_le
 have hBs:sumC B2 ≤ sumC B:=by
  unfold sumC
  have h1:∀ {X Y:List Cell},X.Sublist Y → (X.map Cell.size).sum ≤ (Y.map Cell.size).sum:=by
   intro X Y h
   induction h with
   | slnil=>exact Nat.le_refl _
   | cons a h ih=>simp;omega
   | cons_cons a h ih=>simp;omega
  exact h1 hsb
 rw [sumC_append] at hsz hge
 rw [List.length_append] at hge
 rw [hn]
 refine ⟨ok_leaf ?_ ?_ ?_,?_,⟨?_,by simp⟩,rfl⟩
 ·rw [List.length_append,List.length_cons];omega
 ·intro d hd
  rcases List.mem_append.1 hd with h | h
  ·exact hoc d (by simp [h])
  ·rcases List.mem_cons.1 h with rfl | h
   ·exact hc
   ·exact hoc d (by simp [hsub d h])
 ·rw [List.map_append,List.map_cons]
  refine List.pairwise_append.2 ⟨s1,List.pairwise_cons.2 ⟨fun k hk=>?_,s2.sublist (hsb.map _)⟩,fun a ha b hb=>?_⟩
  ·obtain ⟨d,hd,rfl⟩:=List.mem_map.1 hk;exact hB d hd
  ·obtain ⟨d,hd,rfl⟩:=List.mem_map.1 ha
   rcases List.mem_cons.1 hb with rfl | hb
   ·exact hA d hd
   ·obtain ⟨d',hd',rfl⟩:=List.mem_map.1 hb
    exact klt_trans (hA d hd) (hB d' hd')
 ·rw [size_leaf,sumC_append]
  have:sumC (c :: B2) = c.size + sumC B2:=by simp [sumC]
  rw [this];omega
 ·intro d hd
  have hd':d ∈ A ++ c :: B2:=hd
  rcases List.mem_append.1 hd' with h | h
  ·exact hk.1 d (by rw [e];simp [h])
  ·rcases List.mem_cons.1 h with rfl | h
   ·exact hin
   ·exact hk.1 d (by rw [e];simp [hsub d h])
theorem put0_codes {g:Bool} {cap:Nat} {v:V} {root:Nat} {key val:Bs} {P:List Nat} {E:List Ent} (hg:v.Sane cap) (hT:TreeOf g v root P E) (hm:may key val = 0) :
  (v.put0 cap root key val).1 = 0 ∨ (v.r root ≠ 0 ∧ (v.put0 cap root key val).1 = 7 ∧ ∀ h,Sub g v h true (v.r root) [] [] P E → h < 40 → v.room cap < (val.length + 495) / 496 + h + 2) ∨ (v.r root = 0 ∧ (v.put0 cap root key val).1 = 7 ∧ v.room cap < (val.length + 495) / 496 + 1):=by
 by_cases h0:v.r root = 0
 ·obtain ⟨m1,m2⟩:=mkCell_told hg key val hm (fun _=>False) [] (by simp) List.nodup_nil
  have hw:v.way root key = some []:=by unfold V.way;rw [h0];rfl
  rcases m2 with ⟨k1,k2,_⟩ | ⟨k1,ns,k2,k3,k4,k5,k6,k7,k8,k9⟩
  ·right;right
   unfold V.put0
   rw [hw]
   simp only [k1]
   refine ⟨h0,by simp [k1],by omega⟩
  ·have hok1:(⟨true,[(v.mkCell cap key val).1],[],[]⟩:Nd).ok = true:=ok_leaf (by simp) (by simpa using k8) (by simp)
   have hsz1:(⟨true,[(v.mkCell cap key val).1],[],[]⟩:Nd).size ≤ 500:=by rw [size_leaf];have:=cell_size k8;simp [sumC];omega
   rcases fresh_told m1 hok1 hsz1 with ⟨f1,f2,_⟩ | ⟨id,v1,e1,_⟩
   ·right;right
    unfold V.put0
    rw [hw]
    simp only [k1,f1]
    refine ⟨h0,by simp [f1],by omega⟩
   ·left
    unfold V.put0
    rw [hw]
    simp [k1,e1]
 ·rcases hT with ⟨h1,_⟩ | ⟨h,hh,hS⟩
  ·exact absurd h1 h0
  ·obtain ⟨ups,st,rt,lo,hi,P',L,R,A,B,QA,QB,EA,EB,hl⟩:=locate (key:=key) hS hh
   rcases put0_prep hg hl hm (fun _=>False) with ⟨k1,k2⟩ | ⟨v2,c,ns,PC,B2,QB2,EB2,e,g2,r2,c1,c2,rm,c3,nd,tr,pc,q1,q2,q3,q4,q5,q6,q7⟩
   ·exact .inr (.inl ⟨h0,k1,fun h _ _=>by omega⟩)
   ·have hpl:=put_leaf (V.node_ok hl.node) (V.node_size hl.node) hl.leaf hl.keys hl.cells c1 (by rw [c2];exact hl.inb) q3 (by rw [c2];exact hl.alt) (by rw [c2];exact q4) q5
    obtain ⟨s1,s2⟩:=hl.hole.sp
    have hkeep:∀ p n,v.node p = some n → v2.err p = 0:=fun p n hn=>(tr.kept (V.node_us hn) (fun hp=>by
     have h3:=(pc p hp).2
     unfold V.node at hn
     split at hn
     ·split at hn
      ·omega
      ·cases hn
     ·cases hn)).1
    have hups:∀ p ∈ ups,v2.err p.id = 0:=by
     have:∀ {ups:List Stp} {h id:Nat} {rt:Bool} {lo hi:Bs} {P:List Nat} {L R:List Ent},Hole g v root ups h id rt lo hi P L R → ∀ p ∈ ups,∃ n,v.node p.id = some n:=by
      intro ups h id rt lo hi P L R hh
      induction hh with
      | top=>simp
      | down h1 h2 h3 h4 h5 h6 h7 h8 h9 h10 h11 h12 h13 h14 ih =>
       intro q hq
       rcases List.mem_cons.1 hq with rfl | hq
       ·exact ⟨_,h2⟩
       ·exact ih q hq
     intro p hp
     obtain ⟨n,hn⟩:=this hl.hole p hp
     exact hkeep _ n hn
    have:=grow_codes (cap:=cap) (root:=root) ups st (st.n.put c) v2 lo hi s1 g2 (hkeep _ _ hl.node) hups hpl.1 (by omega) ⟨hpl.2.2.1.1,hpl.2.2.1.2⟩
    rw [e]
    rcases this with h | ⟨h1,h2⟩
    ·exact .inl h
    ·refine .inr (.inl ⟨h0,h1,fun h' hs' hh'=>?_⟩)
     obtain ⟨ups2,st2,rt2,lo2,hi2,P2,L2,R2,A2,B2',QA2,QB2',EA2,EB2',hl2⟩:=locate (key:=key) hs' hh'
     have h5:=hl.way
     rw [hl2.way] at h5
     injection h5 with h5
     have h6:=congrArg List.length h5
     simp at h6
     have h7:=hl.len
     have h8:=hl2.len
     omega
theorem put0_tree {cap:Nat} {v:V} {root:Nat} {key val:Bs} {P:List Nat} {E:List Ent} (hg:v.Sane cap) (hT:TreeOf true v root P E) (hnd:P.Nodup) (hm:may key val = 0) (hE:E.length < 1000000) (hc:(v.put0 cap root key val).1 = 0) :
  ∃ B,Tr (· = root) v (v.put0 cap root key val).2 P B ∧ B.Nodup ∧ (v.put0 cap root key val).2.Sane cap ∧ TreeOf true (v.put0 cap root key val).2 root B (ins key val E):=by
 rcases hT with ⟨h0,rfl,rfl⟩ | ⟨h,hh,hS⟩
 ·obtain ⟨m1,m2⟩:=mkCell_told hg key val hm (· = root) [] (by simp) List.nodup_nil
  have hw:v.way root key = some []:=by unfold V.way;rw [h0];rfl
  rcases m2 with ⟨k1,k2,_⟩ | ⟨k1,ns,k2,k3,k4,k5,k6,k7,k8,k9⟩
  ·exfalso
   unfold V.put0 at hc
   rw [hw] at hc
   simp only [k1] at hc
   simp [k1] at hc
  ·rw [List.append_nil] at k4 k5
   have hok1:(⟨true,[(v.mkCell cap key val).1],[],[]⟩:Nd).ok = true:=ok_leaf (by simp) (by simpa using k8) (by simp)
   have hsz1:(⟨true,[(v.mkCell cap key val).1],[],[]⟩:Nd).size ≤ 500:=by rw [size_leaf];have:=cell_size k8;simp [sumC];omega
   rcases fresh_told m1 hok1 hsz1 with ⟨f1,f2,_⟩ | ⟨id,v1,e1,g1,m1',r1,n1,x1,_,_,p1,u1,t1⟩
   ·exfalso
    unfold V.put0 at hc
    rw [hw] at hc
    simp only [k1,f1] at hc
    simp [f1] at hc
   ·have e:v.put0 cap root key val = (0,v1.setR root id):=by
     unfold V.put0
     rw [hw]
     simp [k1,e1]
    rw [e]
    have hT1:=k4.trans (t1 (· = root) ns k4.had)
    have hT2:=hT1.trans (Tr.setR v1 root id _ hT1.had)
    have hca:CellAt true v1 (v.mkCell cap key val).1 ns val:=k3.same (fun p hp he=>⟨(u1 p).2 (.inl he),p1 p (fun e=>x1 (e ▸ he))⟩)
    have hsub:Sub true v1 0 true id [] [] (id :: ns) [(key,val)]:=⟨_,ns,n1,⟨fun _=>⟨by simp,fun _ h=>by cases h⟩,fun h=>by cases h⟩,List.Perm.refl _,⟨fun c _=>inB_full _,by simp⟩,rfl,ns,[],val,[],hca,⟨rfl,rfl⟩,by simp,by rw [k7]⟩
    refine ⟨_,hT2,List.nodup_cons.2 ⟨fun hm=>x1 (k4.had _ hm),k5⟩,g1.setR _ _,.inr ⟨0,by omega,?_⟩⟩
    have er:(v1.setR root id).r root = id:=by simp [V.setR]
    rw [er]
    exact hsub.setR root id
 ·obtain ⟨ups,st,rt,lo,hi,P',L,R,A,B,QA,QB,EA,EB,hl⟩:=locate (key:=key) hS hh
  rcases put0_prep hg hl hm (· = root) with ⟨k1,k2⟩ | ⟨v2,c,ns,PC,B2,QB2,EB2,e,g2,r2,c1,c2,rm,c3,nd,tr,pc,q1,q2,q3,q4,q5,q6,q7⟩
  ·rw [k1] at hc;cases hc
  ·have hpl:=put_leaf (V.node_ok hl.node) (V.node_size hl.node) hl.leaf hl.keys hl.cells c1 (by rw [c2];exact hl.inb) q3 (by rw [c2];exact hl.alt) (by rw [c2];exact q4) q5
   rw [e] at hc ⊢
   have hus:∀ p ∈ P,v.err p = 0:=hS.us
   have hndP:(P' ++ st.id :: (QA ++ QB)).Nodup:=hl.perm.nodup_iff.1 hnd
   have hndP2:(PC ++ (P' ++ st.id :: (QA ++ QB2))).Nodup:=by
    refine (List.Perm.nodup_iff ?_).1 hndP
    refine perm_of_count fun z=>?_
    have h1:=q1.count_eq z
    simp [List.count_cons] at h1 ⊢
    omega
   have hPC:∀ p ∈ P' ++ st.id :: (QA ++ QB2),p ∉ PC:=fun p hp hq=>(List.nodup_append.1 hndP2).2.2 p hq p hp rfl
   have hin:∀ p ∈ P' ++ st.id :: (QA ++ QB2),p ∈ P:=by
    intro p hp
    rw [hl.perm.mem_iff]
    simp only [List.mem_append,List.mem_cons] at hp ⊢
    rcases hp with h | h | h | h
    ·exact .inl h
    ·exact .inr (.inl h)
    ·exact .inr (.inr (.inl h))
    ·exact .inr (.inr (.inr (q1.mem_iff.2 (by simp [h]))))
   have hsame:∀ p ∈ P' ++ st.id :: (QA ++ QB2),v.err p = 0 → v2.err p = 0 ∧ v2.pg p = v.pg p:=fun p hp h0=>tr.kept h0 (hPC p hp)
   have hH2:=hl.hole.same (v':=v2) (by rw [r2]) (fun p hp=>hsame p (by simp [hp]))
   have hca:=hl.ca.same (fun p hp=>hsame p (by simp [hp]))
   have hcb:=q2.same (fun p hp=>hsame p (by simp [hp]))
   have hbody:Body true v2 0 (st.n.put c) lo hi (QA ++ (ns ++ QB2)) (EA ++ (key,val) :: EB2):=by
    refine ⟨hpl.2.2.1,hpl.2.2.2,?_⟩
    rw [q3]
    exact CellsAt.append.2 ⟨_,_,_,_,hca,⟨_,_,_,_,c3,hcb,List.Perm.refl _,by rw [c2]⟩,List.Perm.refl _,rfl⟩
   have hest:v2.err st.id = 0:=(hsame st.id (by simp) (V.node_us hl.node)).1
   have hnd2:(st.id :: (P' ++ (QA ++ (ns ++ QB2)))).Nodup:=by
    have h1:(ns ++ (P' ++ st.id :: (QA ++ QB2))).Nodup:=by
     refine List.nodup_append.2 ⟨nd,(List.nodup_append.1 hndP2).2.1,fun p hp q hq e=>?_⟩
     subst e
     exact (tr.fr p (hus p (hin p hq)) (hPC p hq)).2 hp
    refine (List.Perm.nodup_iff ?_).1 h1
    refine perm_of_count fun z=>?_
    simp [List.count_cons]
    omega
   have hmin:Min true rt (st.n.put c):=by
    refine ⟨fun _=>⟨by rw [q3];simp,fun _ hrt=>?_⟩,fun h=>by rw [hpl.2.2.2] at h;cases h⟩
    rw [q3]
    have h1:=(hl.min.1 hl.leaf).2 rfl hrt
    rw [hl.cells] at h1
    have h2:=hl.ca.len
    have h3:=hl.cb.len
    have h4:=q2.len
    have h5:EB.length ≤ EB2.length + 1:=by rcases q7 with rfl | ⟨b,rfl⟩ <;> simp
    rw [List.length_append] at h1 ⊢
    rw [List.length_cons]
    omega
   obtain ⟨h',B',j1,j2,j3,j4⟩:=grow_tree (cap:=cap) (root:=root) ups st (st.n.put c) v2 0 rt lo hi P' (QA ++ (ns ++ QB2)) L R _ hH2 g2 hest hbody hpl.1 (by omega) hmin hnd2 hc
   have hT2:Tr (· = root) v v2 P (st.id :: (P' ++ (QA ++ (ns ++ QB2)))):=by
    refine (tr.more (C:=P' ++ st.id :: (QA ++ QB2)) (fun p hp=>⟨hus p (hin p hp),hPC p hp⟩)).congr (fun p=>?_) (fun p=>?_)
    ·rw [hl.perm.mem_iff]
     have h1:=q1.mem_iff (a:=p)
     simp only [List.mem_append,List.mem_cons,h1]
     constructor
     ·rintro (h | h | h | h | h)
      ·exact .inr (.inr (.inr (.inl h)))
      ·exact .inl h
      ·exact .inr (.inl h)
      ·exact .inr (.inr (.inl h))
      ·exact .inr (.inr (.inr (.inr h)))
     ·rintro (h | h | h | h | h)
      ·exact .inr (.inl h)
      ·exact .inr (.inr (.inl h))
      ·exact .inr (.inr (.inr (.inl h)))
      ·exact .inl h
      ·exact .inr (.inr (.inr (.inr h)))
    ·simp only [List.mem_append,List.mem_cons]
     constructor
     ·rintro (h | h | h | h | h)
      ·exact .inr (.inr (.inr (.inl h)))
      ·exact .inr (.inl h)
      ·exact .inl h
      ·exact .inr (.inr (.inl h))
      ·exact .inr (.inr (.inr (.inr h)))
     ·rintro (h | h | h | h | h)
      ·exact .inr (.inr (.inl h))
      ·exact .inr (.inl h)
      ·exact .inr (.inr (.inr (.inl h)))
      ·exact .inl h
      ·exact .inr (.inr (.inr (.inr h)))
   have hins:ins key val E = L ++ (EA ++ (key,val) :: EB2 ++ R):=by
    rw [hl.ent,← List.append_assoc,ins_left hl.lt]
    rcases q7 with rfl | ⟨b,rfl⟩
    ·rw [ins_gt (fun e he=>by
      rcases List.mem_append.1 he with he | he
      ·exact q6 e he
      ·exact hl.gt e he)]
     simp
    ·rw [List.cons_append,ins_eq]
     simp
   refine ⟨B',hT2.trans j1,j2,j3,.inr ⟨h',?_,by rw [hins];exact j4⟩⟩
   have hh':=j4.height
   rcases Nat.lt_or_ge h' 40 with h | h
   ·exact h
   ·exfalso
    have h1:2 ^ 40 ≤ 2 ^ h':=Nat.pow_le_pow_right (by omega) h
    have h2:(L ++ (EA ++ (key,val) :: EB2 ++ R)).length ≤ E.length + 1:=by
     rw [hl.ent]
     have:EB2.length ≤ EB.length:=by rcases q7 with rfl | ⟨b,rfl⟩ <;> simp
     simp;omega
    have h3:(2:Nat) ^ 40 = 1099511627776:=by decide
    omega
structure Bes (v:V) (h:Nat) (p:Stp) (n:Nd) (lo' hi':Bs) (at_:Nat) (a0 b0:List (Nat × Bs)) (pl pr:Nat) (key y:Bs) (ln rn:Nd) (Ql Qr Pa0 Pb0:List Nat) (El Er Ea0 Eb0:List Ent):Prop where
 eq:v.beside p.n p.i n = (0,at_,ln.glue rn key)
 len:a0.length = at_
 kids:p.n.kids = a0.map (·.1) ++ pl :: pr :: b0.map (·.1)
 keys:p.n.keys ++ [hi'] = a0.map (·.2) ++ key :: y :: b0.map (·.2)
 ra:Run (Sub true v h false) lo' a0 Pa0 Ea0
 rb:Run (Sub true v h false) y b0 Pb0 Eb0
 bl:Body true v h ln (lastB lo' a0) key Ql El
 br:Body true v h rn key y Qr Er
 lo:ln.ok = true
 ro:rn.ok = true
 ls:ln.size ≤ 500
 rs:rn.size ≤ 500
 sz:ln.size + rn.size ≤ 665
 mn:Min true false ln ∨ Min true false rn
 ko:keyOk key = true
 ki:inS (lastB lo' a0) y key
 el:v.err pl = 0
 er:v.err pr = 0
end Go.Proofs.YtccnemmlkcmceaaGreatDoor
