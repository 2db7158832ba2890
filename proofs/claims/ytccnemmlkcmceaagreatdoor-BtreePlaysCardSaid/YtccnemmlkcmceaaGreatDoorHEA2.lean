/- Proofs about the given program, joined out of the texts EB, EC, R0, R2, R3, C0. -/
import Derived.Test.YtccnemmlkcmceaaGreatDoorHE32
import Derived.Test.YtccnemmlkcmceaaGreatDoorHEA1
set_option linter.unusedVariables false
set_option linter.unusedSimpArgs false
set_option maxRecDepth 100000
set_option maxHeartbeats 6400000
namespace Go.Proofs.YtccnemmlkcmceaaGreatDoor
open Go.RowKit
theorem key_between {n:Nd} {lo hi key y:Bs} {a b:List (Nat × Bs)} (hok:n.ok = true) (hk:∀ k ∈ n.keys,inS lo hi k) (e:n.keys ++ [hi] = a.map (·.2) ++ key :: y :: b.map (·.2)):inS (lastB lo a) y key ∧ keyOk key = true:=by
 obtain ⟨k1,k2,k3,k4⟩:=split_keys e
 have hm:=k2 (by simp)
 have hS:=Nd.Ok.sortedK hok
 have hi2:=hk key hm
 rw [k1,List.dropLast_cons_of_ne_nil (by simp)] at hS
 obtain ⟨s1,s2⟩:=sorted_left hS
 refine ⟨⟨?_,?_⟩,(Nd.Ok.of hok).k key hm⟩
 ·by_cases ha:a = []
  ·subst ha;exact hi2.1
  ·exact s1 _ (lastB_mem ha)
 ·cases b with
  | nil =>
   have e2:n.keys ++ [hi] = (a.map (·.2) ++ [key]) ++ y :: []:=by rw [e];simp
   obtain ⟨_,_,j3,_⟩:=split_keys e2
   rw [j3 rfl];exact hi2.2
  | cons q b =>
   exact .inr (s2 y (by rw [List.dropLast_cons_of_ne_nil (by simp)];simp))
theorem beside_is {v:V} {h:Nat} {rt:Bool} {p:Stp} {id:Nat} {n:Nd} {lo lo' hi hi':Bs} {a b:List (Nat × Bs)} {Pa Pb Q:List Nat} {Ea Eb E:List Ent} (q2:v.node p.id = some p.n) (q3:Min true rt p.n) (q4:p.n.leaf = false) (q5:p.n.Keys lo' hi')
  (q6:p.n.kids = a.map (·.1) ++ id :: b.map (·.1)) (q7:p.n.keys ++ [hi'] = a.map (·.2) ++ hi :: b.map (·.2)) (q8:a.length = p.i) (q9:Run (Sub true v h false) lo' a Pa Ea) (q10:Run (Sub true v h false) hi b Pb Eb) (q14:lo = lastB lo' a)
  (hb:Body true v h n lo hi Q E) (hok:n.ok = true) (hs:n.size ≤ 165) (he:v.err id = 0) :
  ∃ at_ a0 b0 pl pr key y ln rn Ql Qr Pa0 Pb0 El Er Ea0 Eb0,Bes v h p n lo' hi' at_ a0 b0 pl pr key y ln rn Ql Qr Pa0 Pb0 El Er Ea0 Eb0 ∧
   (Pa ++ (id :: Q ++ Pb)).Perm (Pa0 ++ ((pl :: Ql) ++ ((pr :: Qr) ++ Pb0))) ∧ Ea ++ (E ++ Eb) = Ea0 ++ (El ++ (Er ++ Eb0)):=by
 have hkne:p.n.keys ≠ []:=q3.2 q4 rfl
 by_cases hi0:0 < p.i
 · -- the one before
  have hane:a ≠ []:=fun e=>by rw [e] at q8;simp at q8;omega
  obtain ⟨a0,⟨pl,key⟩,rfl⟩:∃ a0 q,a = a0 ++ [q]:=⟨a.dropLast,a.getLast hane,(List.dropLast_concat_getLast hane).symm⟩
  have hlo:lo = key:=by rw [q14,lastB_append];rfl
  subst hlo
  obtain ⟨Pa0,P2,Ea0,E2,r1,r2,r3,rfl⟩:=Run.append.1 q9
  obtain ⟨P3,r4,r5⟩:=Run.one.1 r2
  obtain ⟨ln,Ql,s1,s2,s3,s4⟩:=Sub.iff.1 r4
  have hkeys:p.n.keys ++ [hi'] = a0.map (·.2) ++ lo :: hi :: b.map (·.2):=by rw [q7];simp
  have hkids:p.n.kids = a0.map (·.1) ++ pl :: id :: b.map (·.1):=by rw [q6];simp
  obtain ⟨ki,ko⟩:=key_between (V.node_ok q2) q5.2 hkeys
  have hgl:=glue_ok s4 hb ki ko (V.node_ok s1) hok (V.node_size s1) (by omega)
  have hat:p.i - 1 = a0.length:=by rw [← q8];simp
  have e1:p.n.kids.getD (p.i - 1) 0 = pl:=by rw [hkids,hat,← List.length_map (f:=fun q:Nat × Bs=>q.1),getD_len]
  have hk2:p.n.keys = a0.map (·.2) ++ lo :: (hi :: b.map (·.2)).dropLast:=by
   have:=(split_keys hkeys).1
   rw [this,List.dropLast_cons_of_ne_nil (by simp)]
  have e2:p.n.keys.getD (p.i - 1) [] = lo:=by rw [hk2,hat,← List.length_map (f:=fun q:Nat × Bs=>q.2),getD_len]
  refine ⟨p.i - 1,a0,b,pl,id,lo,hi,ln,n,Ql,Q,Pa0,Pb,E2,E,Ea0,Eb,⟨?_,hat.symm,hkids,hkeys,r1,q10,s4,hb,V.node_ok s1,hok,V.node_size s1,by omega,by have:=V.node_size s1;omega,.inl s2,ko,ki,V.node_us s1,he⟩,?_,by simp⟩
  ·unfold V.beside
   rw [if_neg hkne,if_pos hi0,e1,s1]
   simp only [e2,hgl.1]
  ·refine perm_of_count fun z=>?_
   have h1:=r3.count_eq z
   have h2:=r5.count_eq z
   have h3:=s3.count_eq z
   simp [List.count_cons] at h1 h2 h3 ⊢
   omega
 · -- the one behind
  have hane:a = []:=List.length_eq_zero_iff.1 (by omega)
  subst hane
  obtain ⟨rfl,rfl⟩:=q9
  have hlo:lo = lo':=q14
  subst hlo
  obtain ⟨⟨pr,y⟩,b0,rfl⟩:∃ q b0,b = q :: b0:=by
   cases b with
   | nil =>
    have:=congrArg List.length q7
    simp at this
    exact absurd this hkne
   | cons q b=>exact ⟨q,b,rfl⟩
  obtain ⟨P1,Pb0,E1,Eb0,r1,r2,r3,rfl⟩:=q10
  obtain ⟨rn,Qr,s1,s2,s3,s4⟩:=Sub.iff.1 r1
  have hkeys:p.n.keys ++ [hi'] = ([]:List (Nat × Bs)).map (·.2) ++ hi :: y :: b0.map (·.2):=by rw [q7];simp
  have hkids:p.n.kids = ([]:List (Nat × Bs)).map (·.1) ++ id :: pr :: b0.map (·.1):=by rw [q6];simp
  obtain ⟨ki,ko⟩:=key_between (V.node_ok q2) q5.2 hkeys
  have hgl:=glue_ok hb s4 ki ko hok (V.node_ok s1) (by omega) (V.node_size s1)
  have e1:p.n.kids.getD 1 0 = pr:=by rw [hkids];simp
  have hk2:p.n.keys = hi :: (y :: b0.map (·.2)).dropLast:=by
   have:=(split_keys hkeys).1
   rw [this,List.dropLast_cons_of_ne_nil (by simp)];rfl
  have e2:p.n.keys.getD 0 [] = hi:=by rw [hk2];simp
  refine ⟨0,[],b0,id,pr,hi,y,n,rn,Q,Qr,[],Pb0,E,E1,[],Eb0,⟨?_,rfl,hkids,hkeys,⟨rfl,rfl⟩,r2,hb,s4,hok,V.node_ok s1,by omega,V.node_size s1,by have:=V.node_size s1;omega,.inr s2,ko,ki,he,V.node_us s1⟩,?_,by simp⟩
  ·unfold V.beside
   rw [if_neg hkne,if_neg hi0,e1,s1]
   simp only [e2,hgl.1]
  ·refine perm_of_count fun z=>?_
   have h1:=r3.count_eq z
   have h3:=s3.count_eq z
   simp [List.count_cons] at h1 h3 ⊢
   omega
theorem glue_min {l r:Nd} {key:Bs} (hlr:l.leaf = r.leaf) (h:Min true false l ∨ Min true false r) (g rt:Bool):Min g rt (l.glue r key):=by
 unfold Nd.glue
 split
 ·rename_i hl
  have h2:2 ≤ (l.cells ++ r.cells).length:=by
   rw [List.length_append]
   rcases h with h | h
   ·have:=(h.1 hl).2 rfl rfl;omega
   ·have:=(h.1 (by rw [← hlr];exact hl)).2 rfl rfl;omega
  refine ⟨fun _=>⟨fun e=>?_,fun _ _=>h2⟩,fun h=>by cases h⟩
  have e':l.cells ++ r.cells = []:=e
  rw [e'] at h2;simp at h2
 ·refine ⟨fun h=>(by cases h),fun _ _ e=>?_⟩
  have e':l.keys ++ key :: r.keys = []:=e
  simp at e'
theorem Nd.Sz_ok {n:Nd} (h:n.ok = true):n.Sz = n.size:=by unfold Nd.Sz;rw [if_pos h]
def TreeAt (v:V) (root:Nat) (P:List Nat) (E:List Ent):Prop:=(v.r root = 0 ∧ P = [] ∧ E = []) ∨ ∃ h,Sub true v h true (v.r root) [] [] P E
theorem settle_wr_eq {v:V} {root id:Nat} {n:Nd} {first:Bool} (hc:first = false ∨ (n.leaf = true ∧ 0 < n.cells.length) ∨ 0 < n.keys.length):v.settle root id n first = v.wr id n:=by
 unfold V.settle;rw [if_pos hc]
theorem hole_wr {cap root:Nat} {v:V} {ups:List Stp} {id h:Nat} {rt:Bool} {lo hi:Bs} {P Q:List Nat} {L R E:List Ent} {n:Nd} (hH:Hole true v root ups h id rt lo hi P L R) (hg:v.Sane cap) (he:v.err id = 0) (hb:Body true v h n lo hi Q E) (hok:n.ok = true) (hs:n.size ≤ 500)
  (hm:Min true rt n) (hnd:(id :: (P ++ Q)).Nodup) :
  (v.wr id n).1 = 0 ∧ ∃ B,Tr (· = root) v (v.wr id n).2 (id :: (P ++ Q)) B ∧ B.Nodup ∧ (v.wr id n).2.Sane cap ∧ TreeAt (v.wr id n).2 root B (L ++ (E ++ R)):=by
 have hA:∀ p ∈ id :: (P ++ Q),v.err p = 0:=by
  intro p hp
  rcases List.mem_cons.1 hp with rfl | hp
  ·exact he
  ·rcases List.mem_append.1 hp with hp | hp
   ·exact hH.us p hp
   ·exact hb.us p hp
 have hnd':=List.nodup_cons.1 hnd
 have hne:∀ p ∈ P ++ Q,p ≠ id:=fun p hp e=>hnd'.1 (e ▸ hp)
 obtain ⟨v1,e1,g1,m1,r1,n1,p1,u1,t1⟩:=wr_told hg he hok hs
 rw [e1]
 have hsame:∀ p ∈ P ++ Q,v.err p = 0 → v1.err p = 0 ∧ v1.pg p = v.pg p:=fun p hp h0=>⟨(u1 p).2 h0,p1 p (hne p hp)⟩
 have hS1:Sub true v1 h rt id lo hi (id :: Q) E:=Sub.iff.2 ⟨n,Q,n1,hm,List.Perm.refl _,hb.same (fun p hp=>hsame p (by simp [hp]))⟩
 have hH1:=hH.same (v':=v1) (by rw [r1]) (fun p hp=>hsame p (by simp [hp]))
 have hpl:=hH1.plug hS1
 have hperm:(P ++ id :: Q).Perm (id :: (P ++ Q)):=List.perm_middle
 exact ⟨rfl,_,(t1 _ _ hA (by simp)).congr (fun _=>Iff.rfl) (fun p=>hperm.symm.mem_iff),hperm.nodup_iff.2 hnd,g1,.inr ⟨_,hpl⟩⟩
theorem shrink_tree {cap root:Nat}:∀ (ups:List Stp) (st:Stp) (n:Nd) (v:V) (h:Nat) (rt:Bool) (lo hi:Bs) (P Q:List Nat) (L R E:List Ent),Hole true v root ups h st.id rt lo hi P L R → v.Sane cap → v.err st.id = 0 → Body true v h n lo hi Q E → n.ok = true → n.size ≤ 500 →
  (st.id :: (P ++ Q)).Nodup →
  ((V.shrink cap root (st :: ups) n v).1 = 7 ∧ v.room cap < ups.length + 2) ∨ ((V.shrink cap root (st :: ups) n v).1 = 0 ∧
  ∃ B,Tr (· = root) v (V.shrink cap root (st :: ups) n v).2 (st.id :: (P ++ Q)) B ∧ B.Nodup ∧ (V.shrink cap root (st :: ups) n v).2.Sane cap ∧ TreeAt (V.shrink cap root (st :: ups) n v).2 root B (L ++ (E ++ R)))
 | [],st,n,v,h,rt,lo,hi,P,Q,L,R,E,hH,hg,he,hb,hok,hsz,hnd=>by
  right
  have eg:V.shrink cap root [st] n v = v.settle root st.id n true:=rfl
  rw [eg]
  by_cases hc:(n.leaf = true ∧ 0 < n.cells.length) ∨ 0 < n.keys.length
  ·rw [settle_wr_eq (.inr hc)]
   refine hole_wr hH hg he hb hok hsz ?_ hnd
   cases hH
   refine ⟨fun hl=>⟨fun e=>?_,fun _ h=>by cases h⟩,fun hl _ e=>?_⟩
   ·have hk:=((Nd.Ok.of hok).lf hl).1
    rcases hc with ⟨_,h1⟩ | h1
    ·rw [e] at h1;simp at h1
    ·rw [hk] at h1;simp at h1
   ·rcases hc with ⟨h1,_⟩ | h1
    ·rw [hl] at h1;cases h1
    ·rw [e] at h1;simp at h1
  ·have hks:n.keys = []:=by
    apply List.length_eq_zero_iff.1
    rcases Nat.eq_zero_or_pos n.keys.length with h | h
    ·exact h
    ·exact absurd (.inr h) hc
   obtain ⟨next,hnext⟩:∃ next,next = (if n.leaf then 0 else n.kids.getD 0 0):=⟨_,rfl⟩
   have e:v.settle root st.id n true = (0,(v.drop st.id).2.setR root next):=by
    unfold V.settle
    rw [if_neg (by simp at hc ⊢;exact hc),if_neg (by rw [V.drop_code];simp [he]),hnext]
   rw [e]
   have hA:∀ p ∈ st.id :: (P ++ Q),v.err p = 0:=by
    intro p hp
    rcases List.mem_cons.1 hp with rfl | hp
    ·exact he
    ·rcases List.mem_append.1 hp with hp | hp
     ·exact hH.us p hp
     ·exact hb.us p hp
   have hnd':=List.nodup_cons.1 hnd
   have hT:=Tr.drop he hA (by simp) (B:=P ++ Q) (fun p=>by
    constructor
    ·intro hp;exact ⟨by simp only [List.mem_cons];exact .inr hp,fun e=>hnd'.1 (e ▸ hp)⟩
    ·rintro ⟨hp,hne⟩;exact (List.mem_cons.1 hp).resolve_left hne) (· = root)
   have hT2:=hT.trans (Tr.setR (v.drop st.id).2 root next _ hT.had)
   have hsame:∀ p ∈ P ++ Q,v.err p = 0 → (v.drop st.id).2.err p = 0 ∧ (v.drop st.id).2.pg p = v.pg p:=fun p hp h0=>by
    have hne:p ≠ st.id:=fun e=>hnd'.1 (e ▸ hp)
    exact ⟨(V.drop_err he p).2 ⟨h0,hne⟩,V.drop_pg p hne⟩
   have er:((v.drop st.id).2.setR root next).r root = next:=by simp [V.setR]
   cases hH with
   | top _ _ hid =>
    refine ⟨rfl,_,hT2,hnd'.2,(hg.drop _).setR _ _,?_⟩
    cases h with
    | zero =>
     have hl:=hb.2.1
     have hcs:n.cells = []:=by
      apply List.length_eq_zero_iff.1
      rcases Nat.eq_zero_or_pos n.cells.length with h | h
      ·exact h
      ·exact absurd (.inl ⟨hl,h⟩) hc
     have h3:=hb.2.2
     rw [hcs] at h3
     obtain ⟨rfl,rfl⟩:=h3
     left
     rw [er,hnext,hl]
     exact ⟨rfl,rfl,rfl⟩
    | succ h =>
     obtain ⟨_,hl,lst,l1,l2,l3⟩:=hb
     rw [hks] at l2
     obtain ⟨⟨k,x⟩,rfl⟩:∃ q,lst = [q]:=by
      match lst,l2 with
      | [q],_=>exact ⟨q,rfl⟩
      | [],l2=>simp at l2
      | _ :: _ :: _,l2=>simp at l2
     have hx:x = []:=by simp at l2;exact l2
     subst hx
     obtain ⟨P',s1,s2⟩:=Run.one.1 l3
     right
     refine ⟨h,?_⟩
     have hk:next = k:=by rw [hnext,hl,l1];simp
     rw [er,hk]
     have hs2:Sub true (v.drop st.id).2 h false k [] [] P' E:=s1.same (fun p hp=>hsame p (by simp [s2.mem_iff.2 hp]))
     simpa using (hs2.root.setR root k).perm s2
 | p :: up,st,n,v,h,rt,lo,hi,P,Q,L,R,E,hH,hg,he,hb,hok,hsz,hnd=>by
  have hndc:=List.nodup_cons.1 hnd
  cases hH with
  | @down _ _ rt' lo' hi' P' L' R' _ _ _ a b Pa Pb Ea Eb _ _ _ _ q1 q2 q3 q4 q5 q6 q7 q8 q9 q10 q11 q12 q13 q14 =>
   have hH:Hole true v root (p :: up) h st.id false lo hi P L R:=.down q1 q2 q3 q4 q5 q6 q7 q8 q9 q10 q11 q12 q13 q14
   have hA:∀ p ∈ st.id :: (P ++ Q),v.err p = 0:=by
    intro p hp
    rcases List.mem_cons.1 hp with rfl | hp
    ·exact he
    ·rcases List.mem_append.1 hp with hp | hp
     ·exact hH.us p hp
     ·exact hb.us p hp
   by_cases hbig:166 ≤ n.size
   ·right
    have eg:V.shrink cap root (st :: p :: up) n v = v.wr st.id n:=by
     rw [V.shrink,if_pos (by rw [Nd.Sz_ok hok];exact hbig),settle_wr_eq (.inl rfl)]
    rw [eg]
    exact hole_wr hH hg he hb hok hsz (big_min hok hbig _ _) hnd
   ·obtain ⟨at_,a0,b0,pl,pr,key,y,ln,rn,Ql,Qr,Pa0,Pb0,El,Er,Ea0,Eb0,hB,hp1,hp2⟩:=beside_is q2 q3 q4 q5 q6 q7 q8 q9 q10 q14 hb hok (by omega) he
    obtain ⟨_,gok,gsz,glf⟩:=glue_ok hB.bl hB.br hB.ki hB.ko hB.lo hB.ro hB.ls hB.rs
    have gbody:=glue_body hB.bl hB.br hB.ki
    generalize hgl:ln.glue rn key = both at gok gsz glf gbody
    have hlr:ln.leaf = rn.leaf:=by
     have h1:=hB.bl.2;have h2:=hB.br.2
     cases h with
     | zero=>rw [h1.1,h2.1]
     | succ h=>rw [h1.1,h2.1]
    have gmin:∀ g rt,Min g rt both:=by rw [← hgl];exact glue_min hlr hB.mn
    have hbs:v.beside p.n p.i n = (0,at_,both):=by rw [hB.eq,hgl]
    have hkl:p.n.kids.getD at_ 0 = pl:=by rw [hB.kids,← hB.len,← List.length_map (f:=fun q:Nat × Bs=>q.1),getD_len]
    have hkr:p.n.kids.getD (at_ + 1) 0 = pr:=by
     have:p.n.kids = (a0.map (·.1) ++ [pl]) ++ pr :: b0.map (·.1):=by rw [hB.kids];simp
     rw [this,show at_ + 1 = (a0.map (·.1) ++ [pl]).length from by simp [hB.len],getD_len]
    obtain ⟨k1,_,_,_⟩:=split_keys hB.keys
    rw [List.dropLast_cons_of_ne_nil (by simp)] at k1
    have hall:(st.id :: (P ++ Q)).Perm (p.id :: (P' ++ (Pa0 ++ ((pl :: Ql) ++ ((pr :: Qr) ++ Pb0))))):=perm_of_count fun z=>by
     have h1:=hp1.count_eq z
     have h2:=q11.count_eq z
     simp [List.count_cons] at h1 h2 ⊢
     omega
    have hndall:=hall.nodup_iff.1 hnd
    have hpl:pl ∈ st.id :: (P ++ Q):=hall.mem_iff.2 (by simp)
    have hpr:pr ∈ st.id :: (P ++ Q):=hall.mem_iff.2 (by simp)
    have hent:L ++ (E ++ R) = L' ++ (Ea0 ++ (El ++ (Er ++ Eb0)) ++ R'):=by
     rw [q12,q13,← hp2];simp
    have hlast:(y :: b0.map (·.2)).dropLast ++ [hi'] = y :: b0.map (·.2):=by
     have h1:p.n.keys ++ [hi'] = a0.map (·.2) ++ key :: ((y :: b0.map (·.2)).dropLast ++ [hi']):=by rw [k1];simp
     rw [hB.keys] at h1
     have:=List.append_cancel_left h1
     injection this with _ h2
     exact h2.symm
    have hless:=branch_less (V.node_ok q2) (V.node_size q2) q4 q5.2 k1 hB.kids (by simp)
    have hdis:∀ z ∈ P' ++ (Pa0 ++ (Ql ++ (Qr ++ Pb0))),z ≠ pl ∧ z ≠ pr:=by
     intro z hz
     have h1:=List.nodup_iff_count.1 hndall
     have hz1:=List.count_pos_iff.2 hz
     refine ⟨fun e=>?_,fun e=>?_⟩
     ·subst e
      have:=h1 z
      simp [List.count_cons] at this hz1
      omega
     ·subst e
      have:=h1 z
      simp [List.count_cons] at this hz1
      omega
    have hplr:pl ≠ pr:=by
     rintro rfl
     have h1:=List.nodup_iff_count.1 hndall pl
     simp [List.count_cons] at h1
     omega
    have hpp:p.id ≠ pl ∧ p.id ≠ pr:=by
     have h1:=List.nodup_iff_count.1 hndall p.id
     refine ⟨fun e=>?_,fun e=>?_⟩
     ·rw [e] at h1;simp [List.count_cons] at h1
     ·rw [e] at h1;simp [List.count_cons] at h1
    by_cases hfit:both.size ≤ 500
    · -- joined
     obtain ⟨v1,e1,g1,m1,r1,n1,p1,u1,t1⟩:=wr_told hg hB.el gok hfit
     have he1:v1.err pr = 0:=(u1 pr).2 hB.er
     have eg:V.shrink cap root (st :: p :: up) n v = V.shrink cap root (p :: up) ⟨false,[],p.n.keys.eraseIdx at_,p.n.kids.eraseIdx (at_ + 1)⟩ (v1.drop pr).2:=by
      rw [V.shrink,if_neg (by rw [Nd.Sz_ok hok];exact hbig),hbs]
      simp only [ne_eq,not_true,if_false]
      rw [if_neg (by rw [Nd.Sz_ok gok];omega),hkl,hkr,e1]
      simp only [not_true,if_false]
      rw [if_neg (by rw [V.drop_code,he1];simp)]
     rw [eg]
     have hke:p.n.keys.eraseIdx at_ = a0.map (·.2) ++ (y :: b0.map (·.2)).dropLast:=by
      rw [k1,← hB.len,← List.length_map (f:=fun q:Nat × Bs=>q.2),eraseIdx_len]
     have hie:p.n.kids.eraseIdx (at_ + 1) = a0.map (·.1) ++ pl :: b0.map (·.1):=by
      have:p.n.kids = (a0.map (·.1) ++ [pl]) ++ pr :: b0.map (·.1):=by rw [hB.kids];simp
      rw [this,show at_ + 1 = (a0.map (·.1) ++ [pl]).length from by simp [hB.len],eraseIdx_len]
      simp
     rw [← hke,← hie] at hless
     have hs1:∀ z ∈ P' ++ (Pa0 ++ (Ql ++ (Qr ++ Pb0))),v.err z = 0 → (v1.drop pr).2.err z = 0 ∧ (v1.drop pr).2.pg z = v.pg z:=fun z hz h0 =>
      ⟨(V.drop_err he1 z).2 ⟨(u1 z).2 h0,(hdis z hz).2⟩,(V.drop_pg z (hdis z hz).2).trans (p1 z (hdis z hz).1)⟩
     have hnl:(v1.drop pr).2.node pl = some both:=V.node_same ((V.drop_err he1 pl).2 ⟨(u1 pl).2 hB.el,hplr⟩) (V.drop_pg pl hplr) n1
     have hsub:Sub true (v1.drop pr).2 h false pl (lastB lo' a0) y (pl :: (Ql ++ Qr)) (El ++ Er):=Sub.iff.2 ⟨both,_,hnl,gmin _ _,List.Perm.refl _,gbody.same (fun z hz=>hs1 z (by
      simp at hz ⊢;rcases hz with h | h <;> simp [h]))⟩
     have hra:=hB.ra.mono (S':=Sub true (v1.drop pr).2 h false) (fun _ _ _ _ _ hq hS=>hS.same (fun z hz=>hs1 z (by simp [hq z hz])))
     have hrb:=hB.rb.mono (S':=Sub true (v1.drop pr).2 h false) (fun _ _ _ _ _ hq hS=>hS.same (fun z hz=>hs1 z (by simp [hq z hz])))
     have hbody:Body true (v1.drop pr).2 (h + 1) ⟨false,[],p.n.keys.eraseIdx at_,p.n.kids.eraseIdx (at_ + 1)⟩ lo' hi' (Pa0 ++ ((pl :: (Ql ++ Qr)) ++ Pb0)) (Ea0 ++ ((El ++ Er) ++ Eb0)):=by
      refine ⟨⟨by simp,?_⟩,rfl,a0 ++ (pl,y) :: b0,by simp [hie],?_,Run.append.2 ⟨_,_,_,_,hra,⟨_,_,_,_,hsub,hrb,List.Perm.refl _,rfl⟩,List.Perm.refl _,rfl⟩⟩
      ·intro k hk
       have hk':k ∈ p.n.keys.eraseIdx at_:=hk
       exact hless.2.2 k hk'
      ·show p.n.keys.eraseIdx at_ ++ [hi'] = _
       rw [hke,List.append_assoc,hlast];simp
     have hH1:=q1.same (v':=(v1.drop pr).2) (by rw [V.drop_r,r1]) (fun z hz=>hs1 z (by simp [hz]))
     have hep:(v1.drop pr).2.err p.id = 0:=(V.drop_err he1 p.id).2 ⟨(u1 _).2 (V.node_us q2),hpp.2⟩
     have hndn:(p.id :: (P' ++ (Pa0 ++ ((pl :: (Ql ++ Qr)) ++ Pb0)))).Nodup:=by
      have h1:=List.nodup_iff_count.1 hndall
      refine List.nodup_iff_count.2 fun z=>?_
      have h2:=h1 z
      simp [List.count_cons] at h2 ⊢
      omega
     have hT1:=t1 (· = root) _ hA hpl
     have hT2:=hT1.trans (Tr.drop he1 hT1.had hpr (B:=p.id :: (P' ++ (Pa0 ++ ((pl :: (Ql ++ Qr)) ++ Pb0)))) (fun z=>by
      rw [hall.mem_iff]
      constructor
      ·intro hz
       refine ⟨by simp at hz ⊢;rcases hz with h | h | h | h | h | h | h <;> simp [h],?_⟩
       rintro rfl
       have h1:=List.nodup_iff_count.1 hndall z
       have h2:=List.count_pos_iff.2 hz
       simp [List.count_cons] at h1 h2
       omega
      ·rintro ⟨hz,hne⟩
       simp at hz ⊢
       rcases hz with h | h | h | h | h | h | h | h
       ·simp [h]
       ·simp [h]
       ·simp [h]
       ·simp [h]
       ·simp [h]
       ·exact absurd h hne
       ·simp [h]
       ·simp [h]) (· = root))
     have:=shrink_tree (cap:=cap) (root:=root) up p _ (v1.drop pr).2 (h + 1) rt' lo' hi' P' _ L' R' _ hH1 (g1.drop pr) hep hbody hless.1 hless.2.1 hndn
     rcases this with ⟨j1,j2⟩ | ⟨j1,B,j2,j3,j4,j5⟩
     ·left
      refine ⟨j1,?_⟩
      rw [V.drop_room he1,m1] at j2
      simp only [List.length_cons];omega
     ·right
      refine ⟨j1,B,hT2.trans j2,j3,j4,?_⟩
      rw [hent]
      have e2:L' ++ (Ea0 ++ ((El ++ Er) ++ Eb0) ++ R') = L' ++ (Ea0 ++ (El ++ (Er ++ Eb0)) ++ R'):=by simp
      rw [← e2];exact j5
    · -- shared
     have hbsz:both.size ≤ 804:=by have:=hB.sz;omega
     obtain ⟨l,r,key2,hS⟩:=split_is gok (by omega) hbsz
     obtain ⟨Q1,Q2,E1,E2,b1,b2,b3,b4⟩:=gbody.split gok hS
     have hki2:=hS.key_in gok ⟨gbody.1.1,gbody.1.2⟩
     have hko2:=hS.keyOk gok
     obtain ⟨v1,e1,g1,m1,r1,n1,p1,u1,t1⟩:=wr_told hg hB.el hS.lo hS.ls
     obtain ⟨v2,e2,g2,m2,r2,n2,p2,u2,t2⟩:=wr_told g1 ((u1 pr).2 hB.er) hS.ro hS.rs
     have eg:V.shrink cap root (st :: p :: up) n v = V.grow cap root (p :: up) ⟨false,[],p.n.keys.set at_ key2,p.n.kids⟩ v2:=by
      rw [V.shrink,if_neg (by rw [Nd.Sz_ok hok];exact hbig),hbs]
      simp only [ne_eq,not_true,if_false]
      rw [if_pos (by rw [Nd.Sz_ok gok];omega)]
      unfold V.share
      simp only [hS.eq,hkl,hkr,e1,e2,ne_eq,not_true,if_false]
     rw [eg]
     have hks:p.n.keys.set at_ key2 = a0.map (·.2) ++ key2 :: (y :: b0.map (·.2)).dropLast:=by
      rw [k1,← hB.len,← List.length_map (f:=fun q:Nat × Bs=>q.2),set_len]
     have hyy:y = ((y :: b0.map (·.2)).dropLast).headD hi':=by
      cases b0 with
      | nil=>simp at hlast;simpa using hlast.symm
      | cons q b=>rfl
     have hbm:=branch_more (id2:=pr) (lo:=lastB lo' a0) (hi:=y) hless.1 hless.2.1 rfl hless.2.2 rfl (by rw [lastB_eq]) hyy hki2 hko2 (idOk_of (V.us_lt hg hB.er).1 (V.us_lt hg hB.er).2)
     have ekey:(a0.map (·.2) ++ (y :: b0.map (·.2)).dropLast).insertIdx (a0.map (·.2)).length key2 = p.n.keys.set at_ key2:=by rw [insertIdx_len,hks]
     have ekid:(a0.map (·.1) ++ pl :: b0.map (·.1)).insertIdx ((a0.map (·.2)).length + 1) pr = p.n.kids:=by
      have h1:a0.map (·.1) ++ pl :: b0.map (·.1) = (a0.map (·.1) ++ [pl]) ++ b0.map (·.1):=by simp
      rw [h1,show (a0.map (·.2)).length + 1 = (a0.map (·.1) ++ [pl]).length from by simp,insertIdx_len,hB.kids]
      simp
     simp only [ekey,ekid] at hbm
     have hs1:∀ z ∈ P' ++ (Pa0 ++ (Ql ++ (Qr ++ Pb0))),v.err z = 0 → v2.err z = 0 ∧ v2.pg z = v.pg z:=fun z hz h0 =>
      ⟨(u2 z).2 ((u1 z).2 h0),(p2 z (hdis z hz).2).trans (p1 z (hdis z hz).1)⟩
     have hnl:v2.node pl = some l:=V.node_same ((u2 pl).2 ((u1 pl).2 hB.el)) (p2 pl hplr) n1
     have hbmem:∀ z,z ∈ Q1 ∨ z ∈ Q2 → z ∈ P' ++ (Pa0 ++ (Ql ++ (Qr ++ Pb0))):=by
      intro z hz
      have h1:z ∈ Ql ++ Qr:=b3.mem_iff.2 (by simp;exact hz)
      simp at h1 ⊢
      rcases h1 with h | h <;> simp [h]
     have hsl:Sub true v2 h false pl (lastB lo' a0) key2 (pl :: Q1) E1:=Sub.iff.2 ⟨l,_,hnl,hS.lm _ _,List.Perm.refl _,b1.same (fun z hz=>hs1 z (hbmem z (.inl hz)))⟩
     have hsr:Sub true v2 h false pr key2 y (pr :: Q2) E2:=Sub.iff.2 ⟨r,_,n2,hS.rm _ _,List.Perm.refl _,b2.same (fun z hz=>hs1 z (hbmem z (.inr hz)))⟩
     have hra:=hB.ra.mono (S':=Sub true v2 h false) (fun _ _ _ _ _ hq hS=>hS.same (fun z hz=>hs1 z (by simp [hq z hz])))
     have hrb:=hB.rb.mono (S':=Sub true v2 h false) (fun _ _ _ _ _ hq hS=>hS.same (fun z hz=>hs1 z (by simp [hq z hz])))
     have hbody:Body true v2 (h + 1) ⟨false,[],p.n.keys.set at_ key2,p.n.kids⟩ lo' hi' (Pa0 ++ ((pl :: Q1) ++ ((pr :: Q2) ++ Pb0))) (Ea0 ++ (E1 ++ (E2 ++ Eb0))):=by
      refine ⟨⟨hbm.2.2.c,hbm.2.2.k⟩,rfl,a0 ++ (pl,key2) :: (pr,y) :: b0,by simp [hB.kids],?_,Run.append.2 ⟨_,_,_,_,hra,⟨_,_,_,_,hsl,⟨_,_,_,_,hsr,hrb,List.Perm.refl _,rfl⟩,List.Perm.refl _,rfl⟩,List.Perm.refl _,rfl⟩⟩
      show p.n.keys.set at_ key2 ++ [hi'] = _
      rw [hks,List.append_assoc,List.cons_append,hlast];simp
     have hH1:=q1.same (v':=v2) (by rw [r2,r1]) (fun z hz=>hs1 z (by simp [hz]))
     have hep:v2.err p.id = 0:=(u2 _).2 ((u1 _).2 (V.node_us q2))
     have hperm2:(p.id :: (P' ++ (Pa0 ++ ((pl :: Q1) ++ ((pr :: Q2) ++ Pb0))))).Perm (st.id :: (P ++ Q)):=perm_of_count fun z=>by
      have h1:=hall.count_eq z
      have h2:=b3.count_eq z
      simp [List.count_cons] at h1 h2 ⊢
      omega
     have hT1:=t1 (· = root) _ hA hpl
     have hT2:=hT1.trans (t2 (· = root) _ hT1.had hpr)
     obtain ⟨s1,s2⟩:=q1.sp
     have hcod:=grow_codes (cap:=cap) (root:=root) up p ⟨false,[],p.n.keys.set at_ key2,p.n.kids⟩ v2 lo' hi' s1 g2 hep (fun q hq=>(u2 _).2 ((u1 _).2 (s2 q hq))) hbm.1 (by omega) hbm.2.2
     rcases hcod with hc0 | ⟨hc7,hroom⟩
     ·right
      obtain ⟨h',B,j1,j2,j3,j4⟩:=grow_tree (cap:=cap) (root:=root) up p _ v2 (h + 1) rt' lo' hi' P' _ L' R' _ hH1 g2 hep hbody hbm.1 (by omega) ⟨fun h=>(by cases h),fun _ _ e=>(by
       have e':p.n.keys.set at_ key2 = []:=e
       rw [hks] at e';simp at e')⟩ (hperm2.nodup_iff.2 hnd) hc0
      refine ⟨hc0,B,hT2.trans (j1.congr (fun z=>hperm2.mem_iff) (fun _=>Iff.rfl)),j2,j3,.inr ⟨h',?_⟩⟩
      rw [hent]
      have e3:L' ++ (Ea0 ++ (E1 ++ (E2 ++ Eb0)) ++ R') = L' ++ (Ea0 ++ (El ++ (Er ++ Eb0)) ++ R'):=by
       rw [← List.append_assoc E1,← b4];simp
      rw [← e3];exact j4
     ·left
      exact ⟨hc7,by rw [m2,m1] at hroom;simp only [List.length_cons];omega⟩
theorem TreeAt.of {v:V} {root:Nat} {P:List Nat} {E:List Ent} (h:TreeAt v root P E) (hE:E.length < 1000000):TreeOf true v root P E:=by
 rcases h with h | ⟨h',hs⟩
 ·exact .inl h
 ·refine .inr ⟨h',?_,hs⟩
  have hh':=hs.height
  rcases Nat.lt_or_ge h' 40 with h | h
  ·exact h
  ·exfalso
   have h1:2 ^ 40 ≤ 2 ^ h':=Nat.pow_le_pow_right (by omega) h
   have h3:(2:Nat) ^ 40 = 1099511627776:=by decide
   omega
theorem lookup_mem {key:Bs}:∀ {X:List Ent},(∃ e ∈ X,e.1 = key) ↔ X.lookup key ≠ none
 | []=>by simp
 | (a,b) :: X=>by
  rw [List.lookup_cons]
  by_cases h:a = key
  ·subst h;simp
  ·have:(key == a) = false:=by simp;exact fun e=>h e.symm
   rw [this]
   simp only [List.mem_cons]
   rw [← lookup_mem]
   constructor
   ·rintro ⟨e,he | he,h2⟩
    ·subst he;exact absurd h2 h
    ·exact ⟨e,he,h2⟩
   ·rintro ⟨e,he,h2⟩
    exact ⟨e,.inr he,h2⟩
theorem del0_told {cap:Nat} {v:V} {root:Nat} {key:Bs} {P:List Nat} {E:List Ent} (hg:v.Sane cap) (hT:TreeOf true v root P E) (hnd:P.Nodup) (hE:E.length < 1000000) :
  (E.lookup key = none ∧ v.del0 cap root key = (false,0,v)) ∨ (E.lookup key ≠ none ∧ (v.del0 cap root key).1 = true ∧ (((v.del0 cap root key).2.1 = 7 ∧ ∀ H,E.length < 2 ^ H → v.room cap < H + 1) ∨ ((v.del0 cap root key).2.1 = 0 ∧
  ∃ B,Tr (· = root) v (v.del0 cap root key).2.2 P B ∧ B.Nodup ∧ (v.del0 cap root key).2.2.Sane cap ∧ TreeOf true (v.del0 cap root key).2.2 root B (del key E)))):=by
 rcases hT with ⟨h0,rfl,rfl⟩ | ⟨h,hh,hS⟩
 ·left
  have hw:v.way root key = some []:=by unfold V.way;rw [h0];rfl
  refine ⟨rfl,?_⟩
  unfold V.del0
  rw [hw]
  rfl
 ·obtain ⟨ups,st,rt,lo,hi,P',L,R,A,B,QA,QB,EA,EB,hl⟩:=locate (key:=key) hS hh
  have hgl:((st :: ups).reverse).getLast? = some st:=by simp
  have hget:=hl.get
  rcases hl.hit with ⟨c,B',PC,b,QB',EB',rfl,hck,e1,e2,e3,rfl,e4,e5⟩ | ⟨e5,e6,e7⟩
  ·right
   rw [e5] at hget
   simp only at hget
   obtain ⟨b',_,hlk⟩:=hget
   have hus:∀ p ∈ P,v.err p = 0:=hS.us
   have hndP:(P' ++ st.id :: (QA ++ QB)).Nodup:=hl.perm.nodup_iff.1 hnd
   have hndP2:(PC ++ (P' ++ st.id :: (QA ++ QB'))).Nodup:=by
    refine (List.Perm.nodup_iff ?_).1 hndP
    refine perm_of_count fun z=>?_
    have h1:=e3.count_eq z
    simp [List.count_cons] at h1 ⊢
    omega
   have hPC:∀ p ∈ P' ++ st.id :: (QA ++ QB'),p ∉ PC:=fun p hp hq=>(List.nodup_append.1 hndP2).2.2 p hq p hp rfl
   have hperm2:P.Perm (PC ++ (P' ++ st.id :: (QA ++ QB'))):=perm_of_count fun z=>by
    have h1:=e3.count_eq z
    have h2:=hl.perm.count_eq z
    simp [List.count_cons] at h1 h2 ⊢
    omega
   have hin:∀ p ∈ P' ++ st.id :: (QA ++ QB'),p ∈ P:=fun p hp=>hperm2.mem_iff.2 (List.mem_append_right _ hp)
   obtain ⟨l1,l2,l3,l4,l5,l6⟩:=e1.letGo hg PC [] (· = root) (fun p hp=>(e1.us p hp).1) (fun p hp=>hp) (fun p=>by simp)
   have hsame:∀ p ∈ P' ++ st.id :: (QA ++ QB'),v.err p = 0 → (v.letGo c).2.err p = 0 ∧ (v.letGo c).2.pg p = v.pg p:=fun p hp h0=>l2.kept h0 (hPC p hp)
   have hok:=V.node_ok hl.node
   have hO:=Nd.Ok.of hok
   have hlf:=hO.lf hl.leaf
   have hcut:st.n.cutAt st.i = ⟨true,A ++ B',[],[]⟩:=by
    unfold Nd.cutAt
    rw [hl.cells,← hl.i]
    have h1:(A ++ c :: B').take A.length = A:=by simp
    have h2:(A ++ c :: B').drop (A.length + 1) = B':=by rw [List.drop_append];simp
    rw [h1,h2,hl.leaf,hlf.1,hlf.2]
   have hS2:=Nd.Ok.sortedC hok
   have hoc:=hO.c
   have ha1:=hO.a1
   have hsz:=V.node_size hl.node
   rw [Nd.eq_leaf hok hl.leaf,size_leaf,hl.cells] at hsz
   rw [hl.cells] at hS2 hoc ha1
   have hsub:(A ++ B').Sublist (A ++ c :: B'):=(List.Sublist.refl A).append (List.sublist_cons_self _ _)
   have hcok:(st.n.cutAt st.i).ok = true:=by
    rw [hcut]
    exact ok_leaf (Nat.le_trans hsub.length_le ha1) (fun d hd=>hoc d (hsub.subset hd)) (hS2.sublist (hsub.map _))
   have hcsz:(st.n.cutAt st.i).size ≤ 500:=by
    rw [hcut,size_leaf]
    have:sumC (A ++ c :: B') = sumC (A ++ B') + c.size:=by simp [sumC];omega
    omega
   have hbody:Body true (v.letGo c).2 0 (st.n.cutAt st.i) lo hi (QA ++ QB') (EA ++ EB'):=by
    rw [hcut]
    refine ⟨⟨fun d hd=>hl.keys.1 d (by rw [hl.cells];exact hsub.subset hd),by simp⟩,rfl,CellsAt.append.2 ⟨_,_,_,_,hl.ca.same (fun p hp=>hsame p (by simp [hp])),e2.same (fun p hp=>hsame p (by simp [hp])),List.Perm.refl _,rfl⟩⟩
   have hH2:=hl.hole.same (v':=(v.letGo c).2) (by rw [l5]) (fun p hp=>hsame p (by simp [hp]))
   have hest:=(hsame st.id (by simp) (V.node_us hl.node)).1
   have hperm3:(st.id :: (P' ++ (QA ++ QB'))).Perm (P' ++ st.id :: (QA ++ QB')):=List.perm_middle.symm
   have hnd2:(st.id :: (P' ++ (QA ++ QB'))).Nodup:=hperm3.nodup_iff.2 (List.nodup_append.1 hndP2).2.1
   have hT2:Tr (· = root) v (v.letGo c).2 P (st.id :: (P' ++ (QA ++ QB'))) :=
    (l2.more (C:=P' ++ st.id :: (QA ++ QB')) (fun p hp=>⟨hus p (hin p hp),hPC p hp⟩)).congr (fun p=>hperm2.symm.mem_iff) (fun p=>by rw [hperm3.mem_iff];simp)
   have e:v.del0 cap root key = (true,V.shrink cap root (st :: ups) (st.n.cutAt st.i) (v.letGo c).2):=by
    unfold V.del0
    rw [hl.way]
    simp only [hgl,e5,l1,ne_eq,not_true,if_false,List.reverse_reverse]
   rw [e]
   have hdel:del key E = L ++ (EA ++ EB' ++ R):=by
    rw [hl.ent]
    have h1:∀ e ∈ L ++ EA,e.1 ≠ key:=fun e he=>klt_ne (hl.lt e he)
    have h2:∀ e ∈ EB' ++ R,e.1 ≠ key:=fun e he=>by
     rcases List.mem_append.1 he with he | he
     ·exact fun e1=>klt_ne (e4 e he) e1.symm
     ·exact fun e1=>klt_ne (hl.gt e he) e1.symm
    rw [← List.append_assoc,del_append,del_ne h1,List.cons_append]
    have h3:del key ((key,b) :: (EB' ++ R)) = EB' ++ R:=by
     unfold del
     rw [List.filter_cons_of_neg (by simp)]
     exact del_ne h2
    rw [h3];simp
   refine ⟨by rw [hlk];simp,rfl,?_⟩
   rcases shrink_tree (cap:=cap) (root:=root) ups st _ (v.letGo c).2 0 rt lo hi P' _ L R _ hH2 l3 hest hbody hcok hcsz hnd2 with ⟨j1,j2⟩ | ⟨j1,B2,j2,j3,j4,j5⟩
   ·refine .inl ⟨j1,fun H hH=>?_⟩
    have:=height_lt hS hH
    have:=hl.len
    omega
   ·refine .inr ⟨j1,B2,hT2.trans j2,j3,j4,?_⟩
    rw [hdel]
    refine j5.of ?_
    have:(L ++ (EA ++ EB' ++ R)).length ≤ E.length:=by rw [hl.ent];simp
    omega
  ·left
   rw [e5] at hget
   simp only at hget
   refine ⟨hget,?_⟩
   unfold V.del0
   rw [hl.way]
   simp only [hgl,e5]
theorem refmay_any (w:World) (key val:Bs) :
  Calls Tryz.prog 77 #[.string (str key),.string (str val)] w fun e w'=>e = .returned (.int .i64 (may key val:Int)) ∧ w = w':=by
 have hk:=str_size key
 have hv:=str_size val
 cases key with
 | nil =>
  go_enter Tryz.func77,Tryz.ntmps77
  go_wp2_with fail
  go_ret
  exact ⟨rfl,rfl⟩
 | cons a key =>
  have hne:(a :: key).isEmpty = false:=rfl
  have hm:may (a :: key) val = if 140 < (a :: key).length ∨ 16384 < val.length then 3 else 0:=by simp [may]
  rw [hm]
  have hn2:=str_ne_nil (s:=a :: key) (by simp)
  generalize a :: key = k at *
  clear hm
  by_cases h1:140 < k.length
  ·rw [if_pos (.inl h1)]
   go_enter Tryz.func77,Tryz.ntmps77
   go_wp2_with fail
   go_ret
   exact ⟨rfl,rfl⟩
  ·by_cases h2:16384 < val.length
   ·rw [if_pos (.inr h2)]
    go_enter Tryz.func77,Tryz.ntmps77
    go_wp2_with fail
    go_ret
    exact ⟨rfl,rfl⟩
   ·rw [if_neg (by simp;omega)]
    go_enter Tryz.func77,Tryz.ntmps77
    go_wp2_with fail
    go_ret
    exact ⟨rfl,rfl⟩
theorem entVals_cons (e:Ent) (E:List Ent):entVals (e :: E) = [.string (str e.1),.string (str e.2)] ++ entVals E:=rfl
theorem entVals_append (a b:List Ent):entVals (a ++ b) = entVals a ++ entVals b:=by simp [entVals]
theorem entVals_at:∀ (E:List Ent) (i:Nat) (e:Ent),E[i]? = some e → (entVals E)[i * 2]? = some (.string (str e.1)) ∧ (entVals E)[i * 2 + 1]? = some (.string (str e.2))
 | d :: E,0,e,h=>by
  have:d = e:=by simpa using h
  subst this;exact ⟨rfl,rfl⟩
 | d :: E,i + 1,e,h=>by
  have h':E[i]? = some e:=by simpa using h
  obtain ⟨h1,h2⟩:=entVals_at E i e h'
  rw [entVals_cons]
  rw [show (i + 1) * 2 = i * 2 + 2 by omega]
  exact ⟨h1,h2⟩
theorem Rd.entAt {w:World} {F:Nat → Prop} {A:Option Addr} {E:List Ent} (h:Rd w F 2 A E.length (entVals E)) {i:Nat} {e:Ent} (hc:E[i]? = some e) :
  ∃ b o,A = some ⟨b,o,none⟩ ∧ ¬ F b ∧ w.cell? ⟨b,o + i * 2,none⟩ = some (.string (str e.1)) ∧ w.cell? ⟨b,o + i * 2 + 1,none⟩ = some (.string (str e.2)):=by
 have hi:i < E.length:=(List.getElem?_eq_some_iff.1 hc).1
 obtain ⟨b,o,e1,hb,hx⟩:=h.2 (by omega)
 obtain ⟨h1,h2⟩:=entVals_at E i e hc
 refine ⟨b,o,e1,hb,hx _ _ h1,?_⟩
 have:=hx _ _ h2
 rw [← Nat.add_assoc] at this;exact this
theorem RefAt.ext {w w':World} {F:Nat → Prop} {A:Option Addr} {c:Nat} {E:List Ent} (h:RefAt w F A c E) (he:Ext F w w'):RefAt w' F A c E:=⟨h.rd.ext he,h.l,h.n,h.b⟩
theorem RefAt.mono {w:World} {F G:Nat → Prop} {A:Option Addr} {c:Nat} {E:List Ent} (h:RefAt w F A c E) (hG:∀ b,b < w.heap.size → G b → F b):RefAt w G A c E:=⟨h.rd.mono (by decide) hG,h.l,h.n,h.b⟩
theorem Tryz.info49:(Tryz.prog.info? 49).map (fun i=>(i.zero,i.size,i.bytes)) = some (some (.agg #[.string ⟨#[]⟩,.string ⟨#[]⟩]),2,32):=by kernel_rfl
theorem own_pushE {w:World} {base g cap:Nat} {es:List Ent} {e:Ent} (h:w.ownsRow base 49 2 (.slice (some ⟨g,0,none⟩) (es.length + 1) cap) (es.length + 1) (entVals es ++ [.string (str e.1),.string (str e.2)])) :
  w.ownsRow base 49 2 (.slice (some ⟨g,0,none⟩) (es ++ [e]).length cap) (es ++ [e]).length (entVals (es ++ [e])):=by
 rw [List.length_append,entVals_append];exact h
theorem del_snoc (key:Bs) (E:List Ent) (e:Ent):del key (E ++ [e]) = if e.1 = key then del key E else del key E ++ [e]:=by
 simp [del];split <;> simp_all
theorem take_snoc {E:List Ent} {k:Nat} {e:Ent} (he:E[k]? = some e):E.take (k + 1) = E.take k ++ [e]:=by
 rw [List.take_add_one,he];rfl
theorem del_len (key:Bs) (E:List Ent):(del key E).length ≤ E.length:=List.length_filter_le _ _
theorem TreeOf.sorted {g:Bool} {v:V} {root:Nat} {P:List Nat} {E:List Ent} (h:TreeOf g v root P E):SortedE E:=by
 rcases h with ⟨_,_,rfl⟩ | ⟨h,_,hs⟩
 ·exact .nil
 ·exact hs.told.2.2
theorem SortedE.map {E:List Ent} (h:SortedE E):Sorted (E.map (·.1)):=List.pairwise_map.2 h
theorem TreeOf.us {g:Bool} {v:V} {root:Nat} {P:List Nat} {E:List Ent} (h:TreeOf g v root P E):∀ p ∈ P,v.err p = 0:=by
 rcases h with ⟨_,rfl,_⟩ | ⟨h,_,hs⟩
 ·simp
 ·exact hs.us
section
variable {cap root:Nat} {v v':V} {X P:List Nat} {E:List Ent}
theorem One.sorted (h:One cap v root X P E):Sorted (E.map (·.1)):=h.tree.sorted.map
theorem One.put (h:One cap v root X P E) {key val:Bs} (hm:may key val = 0) (hv:val.length ≤ 2000) (hE:E.length < 100) (hc:6 * E.length + X.length + 15 ≤ cap) :
  (v.Put cap root key val).1 = 0 ∧ ∃ P',One cap (v.Put cap root key val).2 root X P' (ins key val E) ∧ Tr (· = root) v (v.Put cap root key val).2 P P':=by
 have hr:=h.room
 have h0:(v.put0 cap root key val).1 = 0:=by
  rcases put0_codes h.sane h.tree hm with h1 | ⟨h1,h2,h3⟩ | ⟨h1,h2,h3⟩
  ·exact h1
  ·exfalso
   rcases h.tree with ⟨h4,_⟩ | ⟨x,hx,hS⟩
   ·exact h1 h4
   ·have h5:=h3 x hS hx
    have h6:=height_lt (H:=7) hS (by omega)
    omega
  ·exfalso
   omega
 obtain ⟨P',t1,t2,t3,t4⟩:=put0_tree h.sane h.tree (List.nodup_append.1 h.nodup).1 hm (by omega) h0
 have e:v.Put cap root key val = v.put0 cap root key val:=by
  unfold V.Put
  rw [if_neg (by omega)]
  unfold V.sure
  rw [if_pos h0]
 rw [e]
 refine ⟨h0,P',⟨t3,t4,?_,?_,?_⟩,t1⟩
 ·refine List.nodup_append.2 ⟨t2,(List.nodup_append.1 h.nodup).2.1,?_⟩
  intro a ha b hb e
  subst e
  have h1:v.err a = 0:=(h.us a).2 (by simp [hb])
  have h2:a ∉ P:=fun hp=>(List.nodup_append.1 h.nodup).2.2 a hp a hb rfl
  exact (t1.fr a h1 h2).2 ha
 ·intro p
  rw [t1.us p,h.us p]
  have:=(List.nodup_append.1 h.nodup).2.2
  simp only [List.mem_append]
  constructor
  ·rintro (⟨h1 | h1,h2⟩ | h1)
   ·exact absurd h1 h2
   ·exact .inr h1
   ·exact .inl h1
  ·rintro (h1 | h1)
   ·exact .inr h1
   ·exact .inl ⟨.inr h1,fun hp=>this p hp p h1 rfl⟩
 ·intro x hx
  rcases insE_mem hx with rfl | hx
  ·exact hv
  ·exact h.small x hx
theorem One.del (h:One cap v root X P E) {key:Bs} (hm:may key [] = 0) (hE:E.length < 100) (hc:6 * E.length + X.length + 15 ≤ cap) :
  (v.Del cap root key).1 = decide ((del key E).length < E.length) ∧ (v.Del cap root key).2.1 = 0 ∧ ∃ P',One cap (v.Del cap root key).2.2 root X P' (del key E) ∧ Tr (· = root) v (v.Del cap root key).2.2 P P':=by
 have hr:=h.room
 have hn:=(List.nodup_append.1 h.nodup).1
 have hlt:E.lookup key ≠ none ↔ (YtccnemmlkcmceaaGreatDoor.del key E).length < E.length:=by
  rw [← lookup_mem]
  unfold YtccnemmlkcmceaaGreatDoor.del
  constructor
  ·rintro ⟨e,he,h1⟩
   have:=List.length_filter_lt_length_iff_exists (p:=fun e:Ent=>!(e.1 == key)) (l:=E)
   exact this.2 ⟨e,he,by simp [h1]⟩
  ·intro h1
   have:=(List.length_filter_lt_length_iff_exists (p:=fun e:Ent=>!(e.1 == key)) (l:=E)).1 h1
   obtain ⟨e,he,h2⟩:=this
   exact ⟨e,he,by simpa using h2⟩
 rcases del0_told (key:=key) h.sane h.tree hn (by omega) with ⟨h1,h2⟩ | ⟨h1,h2,h3⟩
 ·have e:v.Del cap root key = (false,0,v):=by
   unfold V.Del
   rw [if_neg (by omega),h2];rfl
  have hd:YtccnemmlkcmceaaGreatDoor.del key E = E:=del_ne (fun e he h4=>by
   have:=(lookup_mem (key:=key) (X:=E)).1 ⟨e,he,h4⟩
   exact this h1)
  rw [e,hd]
  refine ⟨by simp,rfl,P,h,Tr.refl _ _ _ h.tree.us⟩
 ·rcases h3 with ⟨h3,h4⟩ | ⟨h3,P',t1,t2,t3,t4⟩
  ·exfalso
   have:=h4 7 (by omega)
   omega
  ·have e:v.Del cap root key = v.del0 cap root key:=by
    unfold V.Del
    rw [if_neg (by omega),if_pos h3]
   rw [e]
   refine ⟨by rw [h2];simpa using hlt.1 h1,h3,P',⟨t3,t4,?_,?_,?_⟩,t1⟩
   ·refine List.nodup_append.2 ⟨t2,(List.nodup_append.1 h.nodup).2.1,?_⟩
    intro a ha b hb e
    subst e
    have h1:v.err a = 0:=(h.us a).2 (by simp [hb])
    have h2:a ∉ P:=fun hp=>(List.nodup_append.1 h.nodup).2.2 a hp a hb rfl
    exact (t1.fr a h1 h2).2 ha
   ·intro p
    rw [t1.us p,h.us p]
    have:=(List.nodup_append.1 h.nodup).2.2
    simp only [List.mem_append]
    constructor
    ·rintro (⟨h1 | h1,h2⟩ | h1)
     ·exact absurd h1 h2
     ·exact .inr h1
     ·exact .inl h1
    ·rintro (h1 | h1)
     ·exact .inr h1
     ·exact .inl ⟨.inr h1,fun hp=>this p hp p h1 rfl⟩
   ·intro x hx
    exact h.small x (List.mem_filter.1 hx).1
end
end Go.Proofs.YtccnemmlkcmceaaGreatDoor
