/- Proofs about the given program, joined out of the texts E4, E5, E6. -/
import Derived.Test.YtccnemmlkcmceaaGreatDoorHE26
set_option linter.unusedVariables false
set_option linter.unusedSimpArgs false
set_option maxRecDepth 100000
set_option maxHeartbeats 6400000
namespace Go.Proofs.YtccnemmlkcmceaaGreatDoor
open Go.RowKit
inductive Hole (g:Bool) (v:V) (root:Nat):List Stp → Nat → Nat → Bool → Bs → Bs → List Nat → List Ent → List Ent → Prop
 | top (h id:Nat):id = v.r root → Hole g v root [] h id true [] [] [] [] []
 | down {ups:List Stp} {h:Nat} {rt:Bool} {lo' hi':Bs} {P':List Nat} {L' R':List Ent} {p:Stp} {id:Nat} {x:Bs} {a b:List (Nat × Bs)} {Pa Pb:List Nat} {Ea Eb:List Ent} {lo:Bs} {P:List Nat} {L R:List Ent} :
   Hole g v root ups (h + 1) p.id rt lo' hi' P' L' R' → v.node p.id = some p.n → Min g rt p.n → p.n.leaf = false → p.n.Keys lo' hi' → p.n.kids = a.map (·.1) ++ id :: b.map (·.1) → p.n.keys ++ [hi'] = a.map (·.2) ++ x :: b.map (·.2) → a.length = p.i →
   Run (Sub g v h false) lo' a Pa Ea → Run (Sub g v h false) x b Pb Eb → P.Perm (p.id :: (P' ++ (Pa ++ Pb))) → L = L' ++ Ea → R = Eb ++ R' → lo = lastB lo' a → Hole g v root (p :: ups) h id false lo x P L R
section
variable {g:Bool} {v v':V} {root:Nat} {ups:List Stp} {h id:Nat} {rt:Bool} {lo hi:Bs} {P Q P':List Nat} {L R E:List Ent}
theorem Hole.us (hh:Hole g v root ups h id rt lo hi P L R):∀ p ∈ P,v.err p = 0:=by
 induction hh with
 | top=>simp
 | down h1 h2 h3 h4 h5 h6 h7 h8 h9 h10 h11 h12 h13 h14 ih =>
  intro p hp
  have:=h11.mem_iff.1 hp
  rcases List.mem_cons.1 this with rfl | hp
  ·exact V.node_us h2
  rcases List.mem_append.1 hp with hp | hp
  ·exact ih p hp
  rcases List.mem_append.1 hp with hp | hp
  ·exact h9.us (fun _ _ _ _ _ hs=>Sub.us hs) p hp
  ·exact h10.us (fun _ _ _ _ _ hs=>Sub.us hs) p hp
theorem Hole.same (hh:Hole g v root ups h id rt lo hi P L R) (hr:v'.r root = v.r root) (hs:∀ p ∈ P,v.err p = 0 → v'.err p = 0 ∧ v'.pg p = v.pg p):Hole g v' root ups h id rt lo hi P L R:=by
 induction hh with
 | top h id e=>exact .top h id (e.trans hr.symm)
 | down h1 h2 h3 h4 h5 h6 h7 h8 h9 h10 h11 h12 h13 h14 ih =>
  have hs':=fun p hp=>hs p (h11.mem_iff.2 hp)
  have k:=hs' _ (by simp) (V.node_us h2)
  exact .down (ih (fun p hp=>hs' p (by simp [hp]))) (V.node_same k.1 k.2 h2) h3 h4 h5 h6 h7 h8
   (h9.mono (fun _ _ _ _ _ hq hS=>hS.same (fun p hp=>hs' p (by simp [hq p hp])))) (h10.mono (fun _ _ _ _ _ hq hS=>hS.same (fun p hp=>hs' p (by simp [hq p hp])))) h11 h12 h13 h14
theorem perm_of_count {l1 l2:List Nat} (h:∀ a,l1.count a = l2.count a):l1.Perm l2:=List.perm_iff_count.2 h
theorem Hole.plug (hh:Hole g v root ups h id rt lo hi P L R) (hs:Sub g v h rt id lo hi Q E):Sub g v (h + ups.length) true (v.r root) [] [] (P ++ Q) (L ++ (E ++ R)):=by
 induction hh generalizing Q E with
 | top h id e=>subst e;simpa using hs
 | @down ups h rt lo' hi' P' L' R' p id x a b Pa Pb Ea Eb lo P L R h1 h2 h3 h4 h5 h6 h7 h8 h9 h10 h11 h12 h13 h14 ih =>
  subst h14
  have hR:Run (Sub g v h false) lo' (a ++ (id,x) :: b) (Pa ++ (Q ++ Pb)) (Ea ++ (E ++ Eb)) :=
   Run.append.2 ⟨_,_,_,_,h9,⟨_,_,_,_,hs,h10,List.Perm.refl _,rfl⟩,List.Perm.refl _,rfl⟩
  have:=ih (Q:=p.id :: (Pa ++ (Q ++ Pb))) (E:=Ea ++ (E ++ Eb)) ⟨p.n,_,h2,h3,List.Perm.refl _,h5,h4,a ++ (id,x) :: b,by simp [h6],by simp [h7],hR⟩
  subst h12;subst h13
  have e:h + 1 + ups.length = h + (p :: ups).length:=by simp;omega
  rw [e] at this
  have e2:L' ++ (Ea ++ (E ++ Eb) ++ R') = L' ++ Ea ++ (E ++ (Eb ++ R')):=by simp
  rw [e2] at this
  refine this.perm (perm_of_count fun z=>?_)
  have:=h11.count_eq z
  simp [List.count_cons] at this ⊢
  omega
end
theorem split_keys {ks A B:List Bs} {hi x:Bs} (h:ks ++ [hi] = A ++ x :: B):ks = A ++ (x :: B).dropLast ∧ (B ≠ [] → x ∈ ks) ∧ (B = [] → x = hi) ∧ ∀ y ∈ A,y ∈ ks:=by
 have h1:ks = A ++ (x :: B).dropLast:=by
  have:=congrArg List.dropLast h
  rw [List.dropLast_concat,List.dropLast_append_of_ne_nil (by simp)] at this
  exact this
 refine ⟨h1,fun hB=>?_,fun hB=>?_,fun y hy=>by rw [h1];exact List.mem_append_left _ hy⟩
 ·rw [h1,List.dropLast_cons_of_ne_nil hB];simp
 ·subst hB
  have:=congrArg List.getLast? h
  simpa using this.symm
theorem lastB_mem {lo:Bs} {a:List (Nat × Bs)} (h:a ≠ []):lastB lo a ∈ a.map (·.2):=by
 rw [lastB_eq]
 obtain ⟨y,hy⟩:∃ y,(a.map (·.2)).getLast? = some y:=by
  cases a with
  | nil=>exact absurd rfl h
  | cons p a=>simp [List.getLast?_cons]
 rw [hy]
 exact List.mem_of_getLast? hy
theorem Hole.out {g:Bool} {v:V} {root:Nat} {ups:List Stp} {h id:Nat} {rt:Bool} {lo hi:Bs} {P:List Nat} {L R:List Ent} (hh:Hole g v root ups h id rt lo hi P L R) :
  (∀ e ∈ L,klt e.1 lo = true) ∧ (∀ e ∈ R,hi ≠ [] ∧ klt e.1 hi = false):=by
 induction hh with
 | top=>simp
 | @down ups h rt lo' hi' P' L' R' p id x a b Pa Pb Ea Eb lo P L R h1 h2 h3 h4 h5 h6 h7 h8 h9 h10 h11 h12 h13 h14 ih =>
  subst h12;subst h13;subst h14
  obtain ⟨k1,k2,k3,k4⟩:=split_keys h7
  have hne:=keys_ne (V.node_ok h2)
  have hT:∀ k a b Q F,Sub g v h false k a b Q F → Told2 a b F:=fun _ _ _ _ _ hs=>Sub.told hs
  have ta:=Run.told hT h9 (fun y hy=>hne y (k4 y (List.dropLast_sublist _ |>.subset hy)))
  have tb:=Run.told hT h10 (fun y hy=>hne y (by
   rw [k1]
   refine List.mem_append_right _ ?_
   cases b with
   | nil=>simp at hy
   | cons q b=>rw [List.map_cons,List.dropLast_cons_of_ne_nil (by simp)];exact List.mem_cons_of_mem _ hy))
  have hlo:a = [] ∨ lastB lo' a ∈ p.n.keys:=by
   by_cases ha:a = []
   ·exact .inl ha
   ·exact .inr (k4 _ (lastB_mem ha))
  refine ⟨fun e he=>?_,fun e he=>?_⟩
  ·rcases List.mem_append.1 he with he | he
   ·have:=ih.1 e he
    rcases hlo with rfl | hm
    ·exact this
    ·exact lt_kle this (inB_iff.1 (h5.2 _ hm).inB).1
   ·have:=inB_iff.1 (ta.1 e he)
    rcases hlo with rfl | hm
    ·obtain ⟨_,rfl⟩:=h9;simp at he
    ·exact this.2.resolve_left (hne _ hm)
  ·rcases List.mem_append.1 he with he | he
   ·have hb:b ≠ []:=by rintro rfl;obtain ⟨_,rfl⟩:=h10;simp at he
    have hm:=k2 (by simpa using hb)
    exact ⟨hne _ hm,(inB_iff.1 (tb.1 e he)).1⟩
   ·have:=ih.2 e he
    by_cases hb:b = []
    ·rw [k3 (by simp [hb])];exact this
    ·have hm:=k2 (by simpa using hb)
     have hx:=(inB_iff.1 (h5.2 _ hm).inB).2.resolve_left this.1
     refine ⟨hne _ hm,?_⟩
     cases hc:klt e.1 x
     ·rfl
     ·have h1:=klt_trans hc hx;rw [this.2] at h1;cases h1
theorem find_branch {n:Nd} (hl:n.leaf = false) (hs:Sorted n.keys) (key:Bs):∃ A B,n.keys = A ++ B ∧ A.length = (n.find key).1 ∧ (∀ k ∈ A,klt key k = false) ∧ (∀ k ∈ B,klt key k = true):=by
 have hp:=Place.of_sorted hs key
 have e:(n.find key).1 = rank n.keys key + (if n.keys[rank n.keys key]? = some key then 1 else 0):=by unfold Nd.find;simp [hl]
 rw [e]
 generalize rank n.keys key = r at *
 have hlt:∀ k ∈ n.keys.take r,klt k key = true:=by
  intro k hk
  obtain ⟨j,hj⟩:=List.getElem?_of_mem hk
  rw [List.getElem?_take] at hj
  split at hj
  ·rename_i h;rw [hp.at_ j k hj];simpa using h
  ·cases hj
 have hge:∀ k ∈ n.keys.drop r,klt k key = false:=by
  intro k hk
  obtain ⟨j,hj⟩:=List.getElem?_of_mem hk
  rw [List.getElem?_drop] at hj
  rw [hp.at_ _ k hj];simp
 cases hd:n.keys.drop r with
 | nil =>
  have hr:n.keys[r]? = none:=by
   have:=congrArg List.length hd
   rw [List.length_drop] at this
   exact List.getElem?_eq_none (by simp at this;omega)
  refine ⟨n.keys.take r,[],by rw [← hd,List.take_append_drop],?_,fun k hk=>klt_asymm (hlt k hk),by simp⟩
  rw [List.length_take,hr];simp;exact Nat.min_eq_left hp.le
 | cons c B =>
  have hr:n.keys[r]? = some c:=by
   have:(n.keys.drop r)[0]? = some c:=by rw [hd];rfl
   simpa using this
  have hn:n.keys = n.keys.take r ++ c :: B:=by rw [← hd,List.take_append_drop]
  have hsd:Sorted (c :: B):=by rw [← hd];exact hs.sublist (List.drop_sublist _ _)
  rw [hd] at hge
  rw [hr]
  by_cases hc:c = key
  ·subst hc
   refine ⟨n.keys.take r ++ [c],B,by simpa using hn,?_,?_,?_⟩
   ·rw [List.length_append,List.length_take];simp;exact Nat.min_eq_left hp.le
   ·intro k hk
    rcases List.mem_append.1 hk with hk | hk
    ·exact klt_asymm (hlt k hk)
    ·have:k = c:=by simpa using hk
     rw [this];exact klt_irrefl c
   ·intro k hk;exact (List.pairwise_cons.1 hsd).1 k hk
  ·refine ⟨n.keys.take r,c :: B,hn,?_,fun k hk=>klt_asymm (hlt k hk),?_⟩
   ·rw [List.length_take];simp [hc];exact Nat.min_eq_left hp.le
   ·intro k hk
    have h1:=hge k hk
    cases h2:klt key k
    ·have h3:=klt_tri k key h1 h2
     subst h3
     rcases List.mem_cons.1 hk with rfl | hk
     ·exact absurd rfl hc
     ·have:=(List.pairwise_cons.1 hsd).1 k hk
      have h4:=hge c (by simp)
      rw [this] at h4;cases h4
    ·rfl
theorem find_leaf {n:Nd} (hl:n.leaf = true) (hs:Sorted (n.cells.map Cell.key)) (key:Bs):∃ A B,n.cells = A ++ B ∧ A.length = (n.find key).1 ∧ (∀ c ∈ A,klt c.key key = true) ∧ (∀ c ∈ B,klt c.key key = false) ∧ ((n.find key).2 = decide (B.head?.map Cell.key = some key)) ∧
  (∀ c ∈ B.tail,klt key c.key = true) ∧ (B.head?.map Cell.key ≠ some key → ∀ c ∈ B,klt key c.key = true):=by
 have hp:=Place.of_sorted hs key
 have e:n.find key = (rank (n.cells.map Cell.key) key,decide ((n.cells[rank (n.cells.map Cell.key) key]?).map Cell.key = some key)):=by unfold Nd.find;simp [hl]
 rw [e]
 generalize rank (n.cells.map Cell.key) key = r at *
 have hle:=hp.le
 rw [List.length_map] at hle
 have hge:∀ c ∈ n.cells.drop r,klt c.key key = false:=by
  intro c hc
  obtain ⟨j,hj⟩:=List.getElem?_of_mem hc
  rw [List.getElem?_drop] at hj
  rw [hp.at_ (r + j) c.key (by rw [List.getElem?_map,hj];rfl)];simp
 have hsd:Sorted ((n.cells.drop r).map Cell.key):=hs.sublist ((List.drop_sublist _ _).map _)
 have htl:∀ c ∈ (n.cells.drop r).tail,klt key c.key = true:=by
  intro c hc
  cases hd:n.cells.drop r with
  | nil=>rw [hd] at hc;simp at hc
  | cons d B =>
   rw [hd] at hc hsd hge
   simp only [List.tail_cons] at hc
   have h1:=(List.pairwise_cons.1 hsd).1 c.key (List.mem_map.2 ⟨c,hc,rfl⟩)
   have h2:=hge d (by simp)
   exact kle_lt h2 h1
 refine ⟨n.cells.take r,n.cells.drop r,(List.take_append_drop _ _).symm,by rw [List.length_take];omega,?_,hge,by rw [List.head?_drop],htl,fun hne c hc=>?_⟩
 ·intro c hc
  obtain ⟨j,hj⟩:=List.getElem?_of_mem hc
  rw [List.getElem?_take] at hj
  split at hj
  ·rename_i h;rw [hp.at_ j c.key (by rw [List.getElem?_map,hj];rfl)];simpa using h
  ·cases hj
 ·cases hd:n.cells.drop r with
  | nil=>rw [hd] at hc;simp at hc
  | cons d B =>
   rw [hd] at hc htl hge hne
   rcases List.mem_cons.1 hc with rfl | hc
   ·have h1:=hge c (by simp)
    cases h2:klt key c.key
    ·have:=klt_tri _ _ h1 h2
     exact absurd (by simp [this]) hne
    ·rfl
   ·exact htl c (by simpa using hc)
theorem pair_split:∀ (l:List (Nat × Bs)) (A B:List Bs),l.map (·.2) = A ++ B → ∃ a b,l = a ++ b ∧ a.map (·.2) = A ∧ b.map (·.2) = B
 | l,[],B,h=>⟨[],l,rfl,rfl,h⟩
 | [],_ :: _,B,h=>by simp at h
 | p :: l,x :: A,B,h=>by
  rw [List.map_cons,List.cons_append] at h
  injection h with h1 h2
  obtain ⟨a,b,rfl,h3,h4⟩:=pair_split l A B h2
  exact ⟨p :: a,b,rfl,by simp [h1,h3],h4⟩
theorem descend {g:Bool} {v:V} {root:Nat} {key:Bs}:∀ (h:Nat) {ups:List Stp} {id:Nat} {rt:Bool} {lo hi:Bs} {P0 P:List Nat} {L R E:List Ent} (fuel:Nat),Hole g v root ups h id rt lo hi P0 L R → Sub g v h rt id lo hi P E → inB lo hi key = true → h < fuel → ups.length + h < 40 →
  ∃ (ups':List Stp) (st:Stp) (rt':Bool) (lo' hi':Bs) (P' Q':List Nat) (L' R' E':List Ent),v.wayLoop key fuel id ups.reverse = some ((st :: ups').reverse) ∧ Hole g v root ups' 0 st.id rt' lo' hi' P' L' R' ∧ v.node st.id = some st.n ∧ Min g rt' st.n ∧ Body g v 0 st.n lo' hi' Q' E' ∧ st.i = (st.n.find key).1 ∧
   inB lo' hi' key = true ∧ (P0 ++ P).Perm (P' ++ st.id :: Q') ∧ L ++ (E ++ R) = L' ++ (E' ++ R') ∧ ups'.length = ups.length + h
 | 0,ups,id,rt,lo,hi,P0,P,L,R,E,fuel + 1,hH,hS,hk,hf,hl=>by
  obtain ⟨n,Q,h1,h2,h3,h4,h5⟩:=hS
  have hu:=(V.err_iff v id).1 (V.node_us h1)
  refine ⟨ups,⟨id,n,(n.find key).1⟩,rt,lo,hi,P0,Q,L,R,E,?_,hH,h1,h2,⟨h4,h5⟩,rfl,hk,h3.append_left _,rfl,rfl⟩
  rw [V.wayLoop,if_neg (by omega),h1]
  simp only
  rw [if_neg (by simp;omega),h5.1]
  simp
 | h + 1,ups,id,rt,lo,hi,P0,P,L,R,E,fuel + 1,hH,hS,hk,hf,hl=>by
  obtain ⟨n,Q,h1,h2,h3,h4,h5,l,l1,l2,h6⟩:=hS
  have hu:=(V.err_iff v id).1 (V.node_us h1)
  obtain ⟨A,B,e1,e2,e3,e4⟩:=find_branch h5 (Nd.Ok.sortedK (V.node_ok h1)) key
  have l2':l.map (·.2) = A ++ (B ++ [hi]):=by rw [← l2,e1,List.append_assoc]
  obtain ⟨a,b',rfl,ha,hb⟩:=pair_split l _ _ l2'
  obtain ⟨⟨kid,x⟩,b,rfl⟩:∃ q b,b' = q :: b:=by cases b' with | nil=>simp at hb | cons q b=>exact ⟨q,b,rfl⟩
  obtain ⟨Pa,P2,Ea,E2,r1,⟨Pk,Pb,Ek,Eb,r2,r3,r4,rfl⟩,r5,rfl⟩:=Run.append.1 h6
  have hal:a.length = (n.find key).1:=by rw [← e2,← ha];simp
  have hkid:n.kids.getD (n.find key).1 0 = kid:=by
   rw [l1,← hal,List.getD_eq_getElem?_getD]
   simp
  have hbk:inB (lastB lo a) x key = true:=by
   rw [inB_iff]
   have hk':=inB_iff.1 hk
   constructor
   ·by_cases h0:a = []
    ·subst h0;exact hk'.1
    ·exact e3 _ (by rw [← ha];exact lastB_mem h0)
   ·cases B with
    | nil =>
     have:x = hi:=by simp at hb;exact hb.1
     rw [this];exact hk'.2
    | cons y B =>
     have:x = y:=by simp at hb;exact hb.1
     rw [this];exact .inr (e4 y (by simp))
  have hH':Hole g v root (⟨id,n,(n.find key).1⟩ :: ups) h kid false (lastB lo a) x (id :: (P0 ++ (Pa ++ Pb))) (L ++ Ea) (Eb ++ R) :=
   .down (p:=⟨id,n,(n.find key).1⟩) hH h1 h2 h5 h4 (by rw [l1];simp) (by rw [l2];simp) hal r1 r3 (List.Perm.refl _) rfl rfl rfl
  obtain ⟨ups',st,rt',lo',hi',P',Q',L',R',E',d1,d2,d3,d4,d5,d6,d7,d8,d9,d10⟩:=descend h fuel hH' r2 hbk (by omega) (by simp;omega)
  refine ⟨ups',st,rt',lo',hi',P',Q',L',R',E',?_,d2,d3,d4,d5,d6,d7,?_,?_,by rw [d10];simp;omega⟩
  ·rw [V.wayLoop,if_neg (by omega),h1]
   simp only
   rw [if_neg (by simp;omega),h5,hkid]
   simpa using d1
  ·refine List.Perm.trans (perm_of_count fun z=>?_) d8
   have q1:=h3.count_eq z
   have q2:=r5.count_eq z
   have q3:=r4.count_eq z
   simp [List.count_cons] at q1 q2 q3 ⊢
   omega
  ·rw [← d9];simp
theorem okC_of (cs:List Cell) (h1:∀ c ∈ cs,c.ok = true) (h2:Sorted (cs.map Cell.key)):∀ k,k ≤ cs.length → okC cs k = true
 | 0,_=>rfl
 | k + 1,hk=>by
  have hc:cs[k]? = some cs[k]:=List.getElem?_eq_getElem (by omega)
  rw [okC,okC_of cs h1 h2 k (by omega),hc]
  simp only [Bool.true_and,Bool.and_eq_true]
  refine ⟨h1 _ (List.getElem_mem _),?_⟩
  match k,hk,hc with
  | 0,_,_=>rfl
  | j + 1,hk,hc =>
   have hd:cs[j]? = some cs[j]:=List.getElem?_eq_getElem (by omega)
   simp only [hd]
   have:=List.pairwise_iff_getElem.1 h2 j (j + 1) (by simp;omega) (by simp;omega) (by omega)
   simpa using this
theorem okK_of (cs:List Bs) (h1:∀ c ∈ cs,keyOk c = true) (h2:Sorted cs):∀ k,k ≤ cs.length → okK cs k = true
 | 0,_=>rfl
 | k + 1,hk=>by
  have hc:cs[k]? = some cs[k]:=List.getElem?_eq_getElem (by omega)
  rw [okK,okK_of cs h1 h2 k (by omega),hc]
  simp only [Bool.true_and,Bool.and_eq_true]
  refine ⟨h1 _ (List.getElem_mem _),?_⟩
  match k,hk,hc with
  | 0,_,_=>rfl
  | j + 1,hk,hc =>
   have hd:cs[j]? = some cs[j]:=List.getElem?_eq_getElem (by omega)
   simp only [hd]
   exact List.pairwise_iff_getElem.1 h2 j (j + 1) (by omega) (by omega) (by omega)
theorem ok_leaf {cs:List Cell} (h0:cs.length ≤ 255) (h1:∀ c ∈ cs,c.ok = true) (h2:Sorted (cs.map Cell.key)):(⟨true,cs,[],[]⟩:Nd).ok = true:=by
 unfold Nd.ok Nd.shape
 simp only [okC_of cs h1 h2 _ (Nat.le_refl _),okK,List.length_nil,List.all_nil]
 simp [h0]
theorem ok_branch {ks:List Bs} {is:List Nat} (h0:ks.length ≤ 255) (h1:∀ c ∈ ks,keyOk c = true) (h2:Sorted ks) (h3:is.length = ks.length + 1) (h4:∀ i ∈ is,idOk i = true):(⟨false,[],ks,is⟩:Nd).ok = true:=by
 unfold Nd.ok Nd.shape
 simp only [okK_of ks h1 h2 _ (Nat.le_refl _),okC,List.length_nil]
 simp [h0,h3]
 exact h4
theorem Nd.eq_leaf {n:Nd} (h:n.ok = true) (hl:n.leaf = true):n = ⟨true,n.cells,[],[]⟩:=by
 have:=(Nd.Ok.of h).lf hl
 obtain ⟨a,b,c,d⟩:=n
 simp at hl this
 rw [hl,this.1,this.2]
theorem Nd.eq_branch {n:Nd} (h:n.ok = true) (hl:n.leaf = false):n = ⟨false,[],n.keys,n.kids⟩:=by
 have:=(Nd.Ok.of h).br hl
 obtain ⟨a,b,c,d⟩:=n
 simp at hl this
 rw [hl,this.1]
theorem size_leaf (cs:List Cell):(⟨true,cs,[],[]⟩:Nd).size = 2 + sumC cs:=by simp [Nd.size,sumK]
theorem size_branch (ks:List Bs) (is:List Nat):(⟨false,[],ks,is⟩:Nd).size = 6 + sumK ks:=by simp [Nd.size,sumC];omega
theorem cell_size {c:Cell} (h:c.ok = true):4 ≤ c.size ∧ c.size ≤ 160:=by
 have hb:=Cell.ok_bounds h
 unfold Cell.ok at h
 split at h
 ·rename_i h0
  simp only [Bool.and_eq_true,decide_eq_true_eq] at h
  refine ⟨?_,h.2⟩
  unfold Cell.size;split <;> omega
 ·rename_i h0
  unfold Cell.size
  rw [if_pos (by omega)]
  omega
theorem sumC_append (a b:List Cell):sumC (a ++ b) = sumC a + sumC b:=by simp [sumC]
theorem sumK_append (a b:List Bs):sumK (a ++ b) = sumK a + sumK b:=by simp [sumK]
theorem sumC_ge (cs:List Cell) (h:∀ c ∈ cs,c.ok = true):4 * cs.length ≤ sumC cs ∧ sumC cs ≤ 160 * cs.length:=by
 induction cs with
 | nil=>simp [sumC]
 | cons c cs ih =>
  have h1:=ih (fun c hc=>h c (by simp [hc]))
  have h2:=cell_size (h c (by simp))
  simp only [sumC,List.map_cons,List.sum_cons,List.length_cons] at *
  omega
theorem sumK_ge (ks:List Bs) (h:∀ c ∈ ks,keyOk c = true):6 * ks.length ≤ sumK ks ∧ sumK ks ≤ 145 * ks.length:=by
 induction ks with
 | nil=>simp [sumK]
 | cons c cs ih =>
  have h1:=ih (fun c hc=>h c (by simp [hc]))
  have h2:=keyOk_len (h c (by simp))
  simp only [sumK,List.map_cons,List.sum_cons,List.length_cons] at *
  omega
theorem halfway (m:Nat):∀ (ws:List Nat) (acc S:Nat),(∀ a ∈ ws,a ≤ m) → 2 * acc ≤ S + m → S + m < 2 * (acc + ws.sum) → ∃ k,k < ws.length ∧ 2 * (acc + (ws.take k).sum) ≤ S + m ∧ S ≤ 2 * (acc + (ws.take k).sum) + m
 | [],acc,S,_,h1,h2=>by simp at h2;omega
 | w :: ws,acc,S,h,h1,h2=>by
  have hw:=h w (by simp)
  by_cases hc:2 * (acc + w) ≤ S + m
  ·obtain ⟨k,k1,k2,k3⟩:=halfway m ws (acc + w) S (fun a ha=>h a (by simp [ha])) hc (by simp at h2;omega)
   exact ⟨k + 1,by simp;exact k1,by simp;omega,by simp;omega⟩
  ·exact ⟨0,by simp,by simp;omega,by simp;omega⟩
theorem bestLoop_told (n:Nd):∀ (f i:Nat) (r:Nat × Nat),(n.bestLoop f i r).2 ≤ r.2 ∧ (∀ j,i ≤ j → j < i + f → (n.bestLoop f i r).2 ≤ n.worse j) ∧ (n.bestLoop f i r = r ∨ ((n.bestLoop f i r).2 = n.worse (n.bestLoop f i r).1 ∧ i ≤ (n.bestLoop f i r).1 ∧ (n.bestLoop f i r).1 < i + f))
 | 0,i,r=>⟨Nat.le_refl _,fun j h1 h2=>by omega,.inl rfl⟩
 | f + 1,i,r=>by
  rw [Nd.bestLoop]
  by_cases hw:n.worse i < r.2
  ·rw [if_pos hw]
   obtain ⟨h1,h2,h3⟩:=bestLoop_told n f (i + 1) (i,n.worse i)
   refine ⟨Nat.le_trans h1 (by simp;omega),fun j j1 j2=>?_,?_⟩
   ·by_cases hj:j = i
    ·subst hj;exact h1
    ·exact h2 j (by omega) (by omega)
   ·right
    rcases h3 with h3 | ⟨h3,h4,h5⟩
    ·rw [h3];exact ⟨rfl,Nat.le_refl _,by simp⟩
    ·exact ⟨h3,by omega,by omega⟩
  ·rw [if_neg hw]
   obtain ⟨h1,h2,h3⟩:=bestLoop_told n f (i + 1) r
   refine ⟨h1,fun j j1 j2=>?_,?_⟩
   ·by_cases hj:j = i
    ·subst hj;omega
    ·exact h2 j (by omega) (by omega)
   ·rcases h3 with h3 | ⟨h3,h4,h5⟩
    ·exact .inl h3
    ·exact .inr ⟨h3,by omega,by omega⟩
theorem best_told (n:Nd) (h:2 + n.gap ≤ n.all) (hw:n.worse 1 < 1073741824):1 ≤ n.best ∧ n.best + n.gap < n.all ∧ ∀ j,1 ≤ j → j + n.gap < n.all → n.worse n.best ≤ n.worse j:=by
 unfold Nd.best
 obtain ⟨h1,h2,h3⟩:=bestLoop_told n (n.all - n.gap - 1) 1 (1,1073741824)
 rcases h3 with h3 | ⟨h3,h4,h5⟩
 ·have:=h2 1 (Nat.le_refl _) (by omega)
  rw [h3] at this
  simp at this
  omega
 ·refine ⟨h4,by omega,fun j j1 j2=>?_⟩
  rw [← h3]
  exact h2 j j1 (by omega)
theorem take_sum (cs:List Cell) (k:Nat):sumC (cs.take k) = ((cs.map Cell.size).take k).sum:=by simp [sumC,List.map_take]
theorem takeK_sum (cs:List Bs) (k:Nat):sumK (cs.take k) = ((cs.map fun k=>5 + k.length).take k).sum:=by simp [sumK,List.map_take]
structure SplitIs (n l r:Nd) (key:Bs):Prop where
 eq:n.split = some (l,r,key)
 lo:l.ok = true
 ro:r.ok = true
 ls:l.size ≤ 500
 rs:r.size ≤ 500
 ll:l.leaf = n.leaf
 rl:r.leaf = n.leaf
 lm:∀ g rt,Min g rt l
 rm:∀ g rt,Min g rt r
 lf:n.leaf = true → n.cells = l.cells ++ r.cells ∧ (∃ c,r.cells.head? = some c ∧ c.key = key)
 br:n.leaf = false → n.keys = l.keys ++ key :: r.keys ∧ n.kids = l.kids ++ r.kids
theorem split_leaf_is {n:Nd} (hok:n.ok = true) (hlf:n.leaf = true) (h1:500 < n.size) (h2:n.size ≤ 804):∃ l r key,SplitIs n l r key:=by
 have hO:=Nd.Ok.of hok
 have hs:=Nd.Ok.sortedC hok
 obtain ⟨cs,hcs⟩:∃ cs,cs = n.cells:=⟨_,rfl⟩
 have hn:=Nd.eq_leaf hok hlf
 have hoc:=hO.c
 have ha1:=hO.a1
 rw [← hcs] at hn hs hoc ha1
 subst hn
 clear hcs hO hlf
 rw [size_leaf] at h1 h2
 have hge:=sumC_ge cs hoc
 have hall:Nd.all ⟨true,cs,[],[]⟩ = cs.length:=rfl
 have hgap:Nd.gap ⟨true,cs,[],[]⟩ = 0:=rfl
 have hw:∀ i,Nd.worse ⟨true,cs,[],[]⟩ i = max (2 + sumC (cs.take i)) (2 + sumC (cs.drop i)):=by
  intro i
  unfold Nd.worse
  rw [hall,hgap]
  simp only [Nd.part,if_true,Nat.sub_zero,List.drop_zero,Nat.add_zero,size_leaf]
  rw [show List.take (cs.length - i) (List.drop i cs) = List.drop i cs from List.take_of_length_le (by simp)]
 have hsum:∀ i,sumC (cs.take i) + sumC (cs.drop i) = sumC cs:=by intro i;rw [← sumC_append,List.take_append_drop]
 obtain ⟨k,k1,k2,k3⟩:=halfway 160 (cs.map Cell.size) 0 (sumC cs) (fun a ha=>by
  obtain ⟨c,hc,rfl⟩:=List.mem_map.1 ha;exact (cell_size (hoc c hc)).2) (by omega) (by simp only [sumC] at *;omega)
 rw [List.length_map] at k1
 simp only [Nat.zero_add,← take_sum] at k2 k3
 have hk0:k ≠ 0:=by rintro rfl;simp [sumC] at k3;simp [sumC] at h1;omega
 have hb:=best_told ⟨true,cs,[],[]⟩ (by rw [hall,hgap];omega) (by rw [hw];have:=hsum 1;omega)
 rw [hall,hgap] at hb
 obtain ⟨b1,b2,b3⟩:=hb
 have hwk:=b3 k (by omega) (by omega)
 rw [hw,hw] at hwk
 generalize hbest:Nd.best ⟨true,cs,[],[]⟩ = b at *
 have s1:=hsum k
 have s2:=hsum b
 have hx1:2 + sumC (cs.take b) ≤ 2 + (sumC cs + 160) / 2:=by omega
 have hx2:2 + sumC (cs.drop b) ≤ 2 + (sumC cs + 160) / 2:=by omega
 have t1:=sumC_ge (cs.take b) (fun c hc=>hoc c (List.mem_of_mem_take hc))
 have t2:=sumC_ge (cs.drop b) (fun c hc=>hoc c (List.mem_of_mem_drop hc))
 rw [List.length_take,Nat.min_eq_left (by omega)] at t1
 rw [List.length_drop] at t2
 clear hwk k3 k2
 have hsp:Nd.split ⟨true,cs,[],[]⟩ = some (⟨true,cs.take b,[],[]⟩,⟨true,cs.drop b,[],[]⟩,(cs.map Cell.key).getD b []):=by
  unfold Nd.split
  rw [if_neg (by rw [hall,hgap,hok];simp only [Bool.true_eq_false,false_or];omega),hbest]
  simp only [Nd.part,Nd.mid,if_true,hall,hgap,Nat.sub_zero,List.drop_zero,Nat.add_zero]
  rw [show List.take (cs.length - b) (List.drop b cs) = List.drop b cs from List.take_of_length_le (by simp)]
 refine ⟨_,_,_,hsp,ok_leaf (by rw [List.length_take];omega) (fun c hc=>hoc c (List.mem_of_mem_take hc)) (hs.sublist ((List.take_sublist _ _).map _)),
  ok_leaf (by rw [List.length_drop];omega) (fun c hc=>hoc c (List.mem_of_mem_drop hc)) (hs.sublist ((List.drop_sublist _ _).map _)),Nat.le_trans (Nat.le_of_eq (size_leaf _)) (by omega),Nat.le_trans (Nat.le_of_eq (size_leaf _)) (by omega),rfl,rfl,?_,?_,fun _=>⟨(List.take_append_drop _ _).symm,?_⟩,(fun h=>by cases h)⟩
 ·intro g rt
  refine ⟨fun _=>⟨?_,fun _ _=>?_⟩,fun h=>by cases h⟩
  ·intro e
   have e':cs.take b = []:=e
   have h9:(cs.take b).length = 0:=by rw [e'];rfl
   rw [List.length_take] at h9;omega
  ·show 2 ≤ (cs.take b).length;rw [List.length_take];omega
 ·intro g rt
  refine ⟨fun _=>⟨?_,fun _ _=>?_⟩,fun h=>by cases h⟩
  ·intro e
   have e':cs.drop b = []:=e
   have h9:(cs.drop b).length = 0:=by rw [e'];rfl
   rw [List.length_drop] at h9;omega
  ·show 2 ≤ (cs.drop b).length;rw [List.length_drop];omega
 ·refine ⟨cs[b],?_,?_⟩
  ·show (cs.drop b).head? = _
   rw [List.head?_drop]
   exact List.getElem?_eq_getElem (by omega)
  ·rw [List.getD_eq_getElem?_getD,List.getElem?_map,List.getElem?_eq_getElem (by omega)];rfl
theorem split_branch_is {n:Nd} (hok:n.ok = true) (hlf:n.leaf = false) (h1:500 < n.size) (h2:n.size ≤ 804):∃ l r key,SplitIs n l r key:=by
 have hO:=Nd.Ok.of hok
 have hs:=Nd.Ok.sortedK hok
 have hn:=Nd.eq_branch hok hlf
 have hok1:=hO.k
 have ha1:=hO.a2
 have hkk:=(hO.br hlf).2
 have hid:=hO.i
 generalize n.keys = ks at *
 generalize n.kids = is at *
 subst hn
 clear hO hlf
 rw [size_branch] at h1 h2
 have hge:=sumK_ge ks hok1
 have hall:Nd.all ⟨false,[],ks,is⟩ = ks.length:=rfl
 have hgap:Nd.gap ⟨false,[],ks,is⟩ = 1:=rfl
 have hw:∀ i,Nd.worse ⟨false,[],ks,is⟩ i = max (6 + sumK (ks.take i)) (6 + sumK (ks.drop (i + 1))):=by
  intro i
  unfold Nd.worse
  rw [hall,hgap]
  simp only [Nd.part,Bool.false_eq_true,if_false,Nat.sub_zero,List.drop_zero,size_branch]
  rw [show List.take (ks.length - (i + 1)) (List.drop (i + 1) ks) = List.drop (i + 1) ks from List.take_of_length_le (by simp)]
 have hsum:∀ i,sumK (ks.take i) + sumK (ks.drop i) = sumK ks:=by intro i;rw [← sumK_append,List.take_append_drop]
 have hstep:∀ i,i < ks.length → sumK (ks.drop i) ≤ sumK (ks.drop (i + 1)) + 145:=by
  intro i hi
  rw [List.drop_eq_getElem_cons hi]
  have:=keyOk_len (hok1 _ (List.getElem_mem hi))
  simp only [sumK,List.map_cons,List.sum_cons]
  omega
 have hle:∀ i,sumK (ks.drop (i + 1)) ≤ sumK (ks.drop i):=by
  intro i
  rcases Nat.lt_or_ge i ks.length with hi | hi
  ·rw [List.drop_eq_getElem_cons hi];simp only [sumK,List.map_cons,List.sum_cons];omega
  ·rw [List.drop_eq_nil_of_le (by omega),List.drop_eq_nil_of_le (by omega)];exact Nat.le_refl _
 obtain ⟨k,k1,k2,k3⟩:=halfway 145 (ks.map fun k=>5 + k.length) 0 (sumK ks) (fun a ha=>by
  obtain ⟨c,hc,rfl⟩:=List.mem_map.1 ha;have:=keyOk_len (hok1 c hc);omega) (by omega) (by simp only [sumK] at *;omega)
 rw [List.length_map] at k1
 simp only [Nat.zero_add,← takeK_sum] at k2 k3
 have hk0:k ≠ 0:=by rintro rfl;simp [sumK] at k3;simp [sumK] at h1;omega
 have s1:=hsum k
 have hk1:k + 1 ≠ ks.length:=by
  intro e
  have:=hstep k k1
  rw [e,List.drop_length] at this
  simp [sumK] at this s1 k2 h1
  omega
 have hb:=best_told ⟨false,[],ks,is⟩ (by rw [hall,hgap];omega) (by rw [hw];have:=hsum 1;have:=hle 1;omega)
 rw [hall,hgap] at hb
 obtain ⟨b1,b2,b3⟩:=hb
 have hwk:=b3 k (by omega) (by omega)
 rw [hw,hw] at hwk
 generalize hbest:Nd.best ⟨false,[],ks,is⟩ = b at *
 have s2:=hsum b
 have l1:=hle k
 have hsp:Nd.split ⟨false,[],ks,is⟩ = some (⟨false,[],ks.take b,is.take (b + 1)⟩,⟨false,[],ks.drop (b + 1),is.drop (b + 1)⟩,ks.getD b []):=by
  unfold Nd.split
  rw [if_neg (by rw [hall,hgap,hok];simp only [Bool.true_eq_false,false_or];omega),hbest]
  simp only [Nd.part,Nd.mid,Bool.false_eq_true,if_false,hall,hgap,Nat.sub_zero,List.drop_zero]
  rw [show List.take (ks.length - (b + 1)) (List.drop (b + 1) ks) = List.drop (b + 1) ks from List.take_of_length_le (by simp),show List.take (ks.length + 1 - (b + 1)) (List.drop (b + 1) is) = List.drop (b + 1) is from List.take_of_length_le (by simp;omega)]
 have hbl:b < ks.length:=by omega
 refine ⟨_,_,_,hsp,ok_branch (by rw [List.length_take];omega) (fun c hc=>hok1 c (List.mem_of_mem_take hc)) (hs.sublist (List.take_sublist _ _)) (by rw [List.length_take,List.length_take];omega) (fun c hc=>hid c (List.mem_of_mem_take hc)),
  ok_branch (by rw [List.length_drop];omega) (fun c hc=>hok1 c (List.mem_of_mem_drop hc)) (hs.sublist (List.drop_sublist _ _)) (by rw [List.length_drop,List.length_drop];omega) (fun c hc=>hid c (List.mem_of_mem_drop hc)),
  by rw [size_branch];omega,by rw [size_branch];omega,rfl,rfl,?_,?_,(fun h=>by cases h),fun _=>⟨?_,(List.take_append_drop _ _).symm⟩⟩
 ·intro g rt
  refine ⟨fun h=>(by cases h),fun _ _ e=>?_⟩
  have e':ks.take b = []:=e
  have h9:(ks.take b).length = 0:=by rw [e'];rfl
  rw [List.length_take] at h9;omega
 ·intro g rt
  refine ⟨fun h=>(by cases h),fun _ _ e=>?_⟩
  have e':ks.drop (b + 1) = []:=e
  have h9:(ks.drop (b + 1)).length = 0:=by rw [e'];rfl
  rw [List.length_drop] at h9;omega
 ·show ks = ks.take b ++ ks.getD b [] :: ks.drop (b + 1)
  rw [List.getD_eq_getElem?_getD,List.getElem?_eq_getElem hbl]
  simp only [Option.getD_some]
  rw [← List.drop_eq_getElem_cons hbl,List.take_append_drop]
theorem split_is {n:Nd} (hok:n.ok = true) (h1:500 < n.size) (h2:n.size ≤ 804):∃ l r key,SplitIs n l r key:=by
 cases hl:n.leaf
 ·exact split_branch_is hok hl h1 h2
 ·exact split_leaf_is hok hl h1 h2
theorem V.node_size {v:V} {id:Nat} {n:Nd} (h:v.node id = some n):n.size ≤ 500:=by
 unfold V.node at h
 split at h
 ·split at h
  ·exact dec_size _ _ h
  ·cases h
 ·cases h
theorem wr_told {cap:Nat} {v:V} (hg:v.Sane cap) {id:Nat} (he:v.err id = 0) {n:Nd} (hn:n.ok = true) (hs:n.size ≤ 500) :
  ∃ v1,v.wr id n = (0,v1) ∧ v1.Sane cap ∧ v1.room cap = v.room cap ∧ v1.r = v.r ∧ v1.node id = some n ∧ (∀ p,p ≠ id → v1.pg p = v.pg p) ∧ (∀ p,v1.err p = 0 ↔ v.err p = 0) ∧
   ∀ K A,(∀ p ∈ A,v.err p = 0) → id ∈ A → Tr K v v1 A A :=
 ⟨_,V.wr_out hn hs he,hg.put hn hs he,rfl,rfl,V.node_put hn hs he,fun p hp=>by simp [V.put,hp],fun p=>V.put_err v id _ (by simp) he p,fun K A hA hid=>Tr.put (by simp) he hA hid K⟩
theorem fresh_told {cap:Nat} {v:V} (hg:v.Sane cap) {n:Nd} (hn:n.ok = true) (hs:n.size ≤ 500) :
  ((v.fresh cap n).2.1 = 7 ∧ v.room cap = 0 ∧ (v.fresh cap n).2.2.Sane cap) ∨
  ∃ id v1,v.fresh cap n = (id,0,v1) ∧ v1.Sane cap ∧ v1.room cap + 1 = v.room cap ∧ v1.r = v.r ∧ v1.node id = some n ∧ v.err id ≠ 0 ∧ 1 ≤ id ∧ id < 65536 ∧ (∀ p,p ≠ id → v1.pg p = v.pg p) ∧ (∀ p,v1.err p = 0 ↔ v.err p = 0 ∨ p = id) ∧
   ∀ K A,(∀ p ∈ A,v.err p = 0) → Tr K v v1 A (id :: A):=by
 rcases V.alloc_told hg with ⟨h1,h2,h3⟩ | ⟨h1,h2,h3,h4,h5,h6,h7,h8,_⟩
 ·left
  rw [V.fresh_no (by omega),h3]
  exact ⟨h1,h2,hg⟩
 ·right
  have hS:=hg.alloc
  have hT:=fun K A hA=>Tr.alloc hg h1 A hA K
  have he:=(h7 _).2 (.inr rfl)
  refine ⟨_,_,V.fresh_eq hg hn hs h1,hS.put hn hs he,h3,h4,V.node_put hn hs he,h2,by omega,h6,fun p hp=>?_,fun p=>?_,fun K A hA=>?_⟩
  ·rw [← h8 p hp];simp [V.put,hp]
  ·rw [V.put_err _ _ _ (by simp) he,h7]
  ·exact (hT K A hA).trans (Tr.put (by simp) he (hT K A hA).had (by simp) K)
theorem idOk_of {id:Nat} (h1:1 ≤ id) (h2:id < 65536):idOk id = true:=by unfold idOk;simp;omega
theorem V.us_lt {cap:Nat} {v:V} (hg:v.Sane cap) {id:Nat} (he:v.err id = 0):1 ≤ id ∧ id < 65536:=by
 have:=(V.err_iff v id).1 he
 have:=hg.2.1;have:=hg.2.2
 omega
structure Fit (n:Nd) (lo hi:Bs):Prop where
 c:∀ c ∈ n.cells,inB lo hi c.key = true
 k:∀ k ∈ n.keys,inS lo hi k
def Sp:List Stp → Bs → Bs → Prop
 | [],lo,hi=>lo = [] ∧ hi = []
 | p :: ups,lo,hi=>∃ lo' hi' A B,Sp ups lo' hi' ∧ p.n.ok = true ∧ p.n.size ≤ 500 ∧ p.n.leaf = false ∧ (∀ k ∈ p.n.keys,inS lo' hi' k) ∧ p.n.keys = A ++ B ∧ A.length = p.i ∧ lo = (A.getLast?).getD lo' ∧ hi = B.headD hi'
theorem insertIdx_len {α:Type} (A B:List α) (y:α):(A ++ B).insertIdx A.length y = A ++ y :: B:=by
 induction A with
 | nil=>simp
 | cons a A ih=>simpa using ih
theorem SplitIs.key_in {n l r:Nd} {key lo hi:Bs} (h:SplitIs n l r key) (hok:n.ok = true) (hf:Fit n lo hi):inS lo hi key:=by
 cases hl:n.leaf
 ·obtain ⟨e,_⟩:=h.br hl
  exact hf.k key (by rw [e];simp)
 ·obtain ⟨e,c,hc,rfl⟩:=h.lf hl
  have hcm:c ∈ r.cells:=List.mem_of_head? hc
  have h2:=inB_iff.1 (hf.c c (by rw [e];simp [hcm]))
  refine ⟨?_,h2.2⟩
  obtain ⟨d,ds,hd⟩:=List.exists_cons_of_ne_nil ((h.lm true true).1 (by rw [h.ll,hl])).1
  have h1:=inB_iff.1 (hf.c d (by rw [e,hd];simp))
  have hs:=Nd.Ok.sortedC hok
  rw [e,hd,List.cons_append,List.map_cons] at hs
  have:=(List.pairwise_cons.1 hs).1 c.key (List.mem_map.2 ⟨c,by simp [hcm],rfl⟩)
  exact kle_lt h1.1 this
theorem SplitIs.keyOk {n l r:Nd} {key:Bs} (h:SplitIs n l r key) (hok:n.ok = true):keyOk key = true:=by
 have hO:=Nd.Ok.of hok
 cases hl:n.leaf
 ·obtain ⟨e,_⟩:=h.br hl
  exact hO.k key (by rw [e];simp)
 ·obtain ⟨e,c,hc,rfl⟩:=h.lf hl
  have hcm:c ∈ r.cells:=List.mem_of_head? hc
  have:=Cell.ok_bounds (hO.c c (by rw [e];simp [hcm]))
  simp [YtccnemmlkcmceaaGreatDoor.keyOk];omega
theorem branch_more {p:Nd} {A B:List Bs} {key lo hi lo' hi':Bs} {id2:Nat} (hok:p.ok = true) (hs:p.size ≤ 500) (hl:p.leaf = false) (hin:∀ k ∈ p.keys,inS lo' hi' k) (e:p.keys = A ++ B) (hlo:lo = (A.getLast?).getD lo') (hhi:hi = B.headD hi')
  (hk:inS lo hi key) (hko:keyOk key = true) (hid:idOk id2 = true) :
  (⟨false,[],p.keys.insertIdx A.length key,p.kids.insertIdx (A.length + 1) id2⟩:Nd).ok = true ∧ (⟨false,[],p.keys.insertIdx A.length key,p.kids.insertIdx (A.length + 1) id2⟩:Nd).size ≤ 645 ∧
   Fit ⟨false,[],p.keys.insertIdx A.length key,p.kids.insertIdx (A.length + 1) id2⟩ lo' hi':=by
 have hO:=Nd.Ok.of hok
 have hbr:=(hO.br hl).2
 have hS:=Nd.Ok.sortedK hok
 have hsz:sumK p.keys ≤ 494:=by
  have h2:=Nd.eq_branch hok hl
  rw [h2,size_branch] at hs
  omega
 have hge:=sumK_ge p.keys hO.k
 have hkl:=keyOk_len hko
 rw [e,insertIdx_len]
 rw [e] at hS hin hsz hge hbr
 have hko':∀ c ∈ A ++ B,YtccnemmlkcmceaaGreatDoor.keyOk c = true:=by rw [← e];exact hO.k
 rw [List.length_append] at hbr hge
 have hlen:(p.kids.insertIdx (A.length + 1) id2).length = p.kids.length + 1:=List.length_insertIdx_of_le_length (by omega) _
 obtain ⟨hSA,hSB,hAB⟩:=List.pairwise_append.1 hS
 have hA:∀ a ∈ A,klt a key = true:=by
  intro a ha
  have hl2:klt lo key = true:=hk.1
  cases hgl:A.getLast? with
  | none=>rw [List.getLast?_eq_none_iff] at hgl;subst hgl;simp at ha
  | some z =>
   rw [hgl] at hlo
   simp only [Option.getD_some] at hlo
   subst hlo
   obtain ⟨A',hA'⟩:=List.getLast?_eq_some_iff.1 hgl
   subst hA'
   rcases List.mem_append.1 ha with h | h
   ·exact klt_trans ((List.pairwise_append.1 hSA).2.2 a h lo (by simp)) hl2
   ·have:a = lo:=by simpa using h
    rw [this];exact hl2
 have hB:∀ b ∈ B,klt key b = true:=by
  intro b hb
  cases B with
  | nil=>simp at hb
  | cons c B =>
   have hc:hi = c:=hhi
   have hne:c ≠ []:=by
    rintro rfl
    have:=keyOk_len (hko' [] (by simp));simp at this
   have h2:klt key c = true:=by rw [← hc];exact hk.2.resolve_left (by rw [hc];exact hne)
   rcases List.mem_cons.1 hb with rfl | h
   ·exact h2
   ·exact klt_trans h2 ((List.pairwise_cons.1 hSB).1 b h)
 refine ⟨ok_branch (by simp;omega) ?_ ?_ (by simp only [hlen,List.length_append,List.length_cons];omega) ?_,?_,⟨by simp,?_⟩⟩
 ·intro c hc
  rcases List.mem_append.1 hc with h | h
  ·exact hko' c (by simp [h])
  ·rcases List.mem_cons.1 h with rfl | h
   ·exact hko
   ·exact hko' c (by simp [h])
 ·exact List.pairwise_append.2 ⟨hSA,List.pairwise_cons.2 ⟨hB,hSB⟩,fun a ha b hb=>by
   rcases List.mem_cons.1 hb with rfl | h
   ·exact hA a ha
   ·exact hAB a ha b h⟩
 ·intro i hi
  rcases (List.mem_insertIdx (by omega)).1 hi with h | h
  ·rw [h];exact hid
  ·exact hO.i i h
 ·rw [size_branch]
  have:sumK (A ++ key :: B) = sumK (A ++ B) + (5 + key.length):=by simp [sumK];omega
  rw [this];omega
 ·intro k hkm
  have hkm':k ∈ A ++ key :: B:=hkm
  have hlo2:∀ a ∈ A,inS lo' hi' a:=fun a ha=>hin a (by simp [ha])
  rcases List.mem_append.1 hkm' with h | h
  ·exact hlo2 k h
  ·rcases List.mem_cons.1 h with rfl | h
   ·constructor
    ·cases hgl:A.getLast? with
     | none=>rw [hgl] at hlo;simp at hlo;rw [← hlo];exact hk.1
     | some z =>
      have:=hlo2 z (List.mem_of_getLast? hgl)
      exact klt_trans this.1 (hA z (List.mem_of_getLast? hgl))
    ·cases hBB:B with
     | nil=>rw [hBB] at hhi;simp at hhi;rw [← hhi];exact hk.2
     | cons c B' =>
      have h3:=hin c (by rw [hBB];simp)
      rcases h3.2 with h4 | h4
      ·exact .inl h4
      ·exact .inr (klt_trans (hB c (by rw [hBB];simp)) h4)
   ·exact hin k (by simp [h])
theorem grow_codes {cap root:Nat}:∀ (ups:List Stp) (st:Stp) (n:Nd) (v:V) (lo hi:Bs),Sp ups lo hi → v.Sane cap → v.err st.id = 0 → (∀ p ∈ ups,v.err p.id = 0) → n.ok = true → n.size ≤ 804 → Fit n lo hi →
  (V.grow cap root (st :: ups) n v).1 = 0 ∨ ((V.grow cap root (st :: ups) n v).1 = 7 ∧ v.room cap < ups.length + 2)
 | ups,st,n,v,lo,hi,hsp,hg,he,hu,hok,hsz,hf=>by
  by_cases hs:n.size ≤ 500
  ·left
   rw [V.grow,V.wr_out hok hs he]
   simp
  ·obtain ⟨l,r,key,hS⟩:=split_is hok (by omega) hsz
   obtain ⟨v1,e1,g1,m1,r1,n1,p1,u1,_⟩:=wr_told hg he hS.lo hS.ls
   have e0:v.wr st.id n = (3,v):=V.wr_long hok (by omega)
   have hki:=hS.key_in hok hf
   have hko:=hS.keyOk hok
   rcases fresh_told g1 hS.ro hS.rs with ⟨f1,f2,_⟩ | ⟨id2,v2,e2,g2,m2,r2,n2,x2,i1,i2,p2,u2,_⟩
   ·right
    rw [V.grow,e0]
    simp only [ne_eq,not_true,if_false,hS.eq,e1,f1]
    exact ⟨by simp [f1],by omega⟩
   ·have hid1:=V.us_lt hg he
    cases ups with
    | nil =>
     have hko1:(⟨false,[],[key],[st.id,id2]⟩:Nd).ok = true:=ok_branch (by simp) (by simpa using hko) (by simp) (by simp) (by
      intro i hi
      simp at hi
      rcases hi with rfl | rfl
      ·exact idOk_of hid1.1 hid1.2
      ·exact idOk_of i1 i2)
     have hsz1:(⟨false,[],[key],[st.id,id2]⟩:Nd).size ≤ 500:=by rw [size_branch];have:=keyOk_len hko;simp [sumK];omega
     rcases fresh_told g2 hko1 hsz1 with ⟨f1,f2,_⟩ | ⟨id3,v3,e3,_⟩
     ·right
      rw [V.grow,e0]
      simp only [ne_eq,not_true,if_false,hS.eq,e1,e2,f1]
      exact ⟨by simp [f1],by simp;omega⟩
     ·left
      rw [V.grow,e0]
      simp only [ne_eq,not_true,if_false,hS.eq,e1,e2,e3]
    | cons p ups =>
     obtain ⟨lo',hi',A,B,h1,h2,h3,h4,h5,h6,h7,h8,h9⟩:=hsp
     have hbm:=branch_more h2 h3 h4 h5 h6 h8 h9 hki hko (idOk_of i1 i2)
     rw [h7] at hbm
     have hus:∀ q,v.err q = 0 → v2.err q = 0:=fun q hq=>(u2 q).2 (.inl ((u1 q).2 hq))
     have:=grow_codes (cap:=cap) (root:=root) ups p _ v2 lo' hi' h1 g2 (hus _ (hu p (by simp))) (fun q hq=>hus _ (hu q (by simp [hq]))) hbm.1 (by omega) hbm.2.2
     have e:V.grow cap root (st :: p :: ups) n v = V.grow cap root (p :: ups) ⟨false,[],p.n.keys.insertIdx p.i key,p.n.kids.insertIdx (p.i + 1) id2⟩ v2:=by
      rw [V.grow,e0]
      simp only [ne_eq,not_true,if_false,hS.eq,e1,e2]
     rw [e]
     rcases this with h | ⟨h,h'⟩
     ·exact .inl h
     ·exact .inr ⟨h,by simp only [List.length_cons];omega⟩
 termination_by ups=>ups.length
end Go.Proofs.YtccnemmlkcmceaaGreatDoor
