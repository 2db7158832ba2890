/- Proofs about the given program, joined out of the texts E1, E2, E3, J2. -/
import Derived.Test.YtccnemmlkcmceaaGreatDoorHE23
import Derived.Test.YtccnemmlkcmceaaGreatDoorHE24
set_option linter.unusedVariables false
set_option linter.unusedSimpArgs false
set_option maxRecDepth 100000
set_option maxHeartbeats 6400000
namespace Go.Proofs.YtccnemmlkcmceaaGreatDoor
open Go.RowKit
structure Tr (K:Nat → Prop) (v v':V) (A B:List Nat):Prop where
 us:∀ p,v'.err p = 0 ↔ (v.err p = 0 ∧ p ∉ A) ∨ p ∈ B
 fr:∀ p,v.err p = 0 → p ∉ A → v'.pg p = v.pg p ∧ p ∉ B
 r:∀ j,¬ K j → v'.r j = v.r j
section
variable {K K':Nat → Prop} {v v' v1:V} {A A' B B' C:List Nat}
theorem Tr.refl (K:Nat → Prop) (v:V) (A:List Nat) (h:∀ p ∈ A,v.err p = 0):Tr K v v A A :=
 ⟨fun p=>by by_cases hp:p ∈ A;simp [hp,h p hp];simp [hp],fun p _ hp=>⟨rfl,hp⟩,fun _ _=>rfl⟩
theorem Tr.congr (h:Tr K v v' A B) (hA:∀ p,p ∈ A ↔ p ∈ A') (hB:∀ p,p ∈ B ↔ p ∈ B'):Tr K v v' A' B' :=
 ⟨fun p=>by rw [h.us p,hA p,hB p],fun p hp hq=>by have:=h.fr p hp (by rw [hA p];exact hq);rw [hB p] at this;exact this,h.r⟩
theorem Tr.trans (h:Tr K v v1 A B) (h':Tr K v1 v' B C):Tr K v v' A C:=by
 refine ⟨fun p=>?_,fun p hp hq=>?_,fun j hj=>(h'.r j hj).trans (h.r j hj)⟩
 ·rw [h'.us p,h.us p]
  constructor
  ·rintro (⟨h1 | h1,h2⟩ | h1)
   ·exact .inl h1
   ·exact absurd h1 h2
   ·exact .inr h1
  ·rintro (⟨h1,h2⟩ | h1)
   ·exact .inl ⟨.inl ⟨h1,h2⟩,(h.fr p h1 h2).2⟩
   ·exact .inr h1
 ·have h1:=h.fr p hp hq
  have h2:=h'.fr p ((h.us p).2 (.inl ⟨hp,hq⟩)) h1.2
  exact ⟨h2.1.trans h1.1,h2.2⟩
theorem Tr.more (h:Tr K v v' A B) (hC:∀ p ∈ C,v.err p = 0 ∧ p ∉ A):Tr K v v' (A ++ C) (B ++ C):=by
 refine ⟨fun p=>?_,fun p hp hq=>?_,h.r⟩
 ·rw [h.us p]
  by_cases hc:p ∈ C
  ·have:=hC p hc;simp [hc,this.1,this.2]
  ·simp [hc]
 ·simp only [List.mem_append,not_or] at hq ⊢
  have:=h.fr p hp hq.1
  exact ⟨this.1,this.2,hq.2⟩
theorem Tr.had (h:Tr K v v' A B):∀ p ∈ B,v'.err p = 0:=fun p hp=>(h.us p).2 (.inr hp)
theorem Tr.kept (h:Tr K v v' A B) {p:Nat} (hp:v.err p = 0) (hq:p ∉ A):v'.err p = 0 ∧ v'.pg p = v.pg p :=
 ⟨(h.us p).2 (.inl ⟨hp,hq⟩),(h.fr p hp hq).1⟩
end
theorem V.err_iff (v:V) (p:Nat):v.err p = 0 ↔ 1 ≤ p ∧ p < v.high ∧ (v.pg p).kind ≠ 255:=by
 constructor
 ·exact V.err_ok
 ·rintro ⟨h1,h2,h3⟩
  unfold V.err
  rw [if_neg (by omega),if_neg h3]
theorem V.put_err (v:V) (id:Nat) (q:Leaf) (hk:q.kind ≠ 255) (he:v.err id = 0) (p:Nat):(v.put id q).err p = 0 ↔ v.err p = 0:=by
 rw [V.err_iff,V.err_iff]
 have:=(V.err_iff v id).1 he
 by_cases hp:p = id
 ·subst hp;simp [V.put,hk,this]
 ·simp [V.put,hp]
theorem Tr.put {v:V} {id:Nat} {q:Leaf} (hk:q.kind ≠ 255) (he:v.err id = 0) {A:List Nat} (hA:∀ p ∈ A,v.err p = 0) (hid:id ∈ A) (K:Nat → Prop):Tr K v (v.put id q) A A:=by
 refine ⟨fun p=>?_,fun p hp hq=>⟨?_,hq⟩,fun _ _=>rfl⟩
 ·rw [V.put_err v id q hk he p]
  by_cases hp:p ∈ A
  ·simp [hp,hA p hp]
  ·simp [hp]
 ·have:p ≠ id:=fun e=>hq (e ▸ hid)
  simp [V.put,this]
theorem V.set_ok {v:V} {id:Nat} (he:v.err id = 0) (k:Nat) (b:List UInt8):v.set id k b = (0,v.put id ⟨k,b⟩):=by
 unfold V.set;rw [if_pos he]
def V.room (cap:Nat) (v:V):Nat:=(cap - v.high) + v.cnt
def V.Sane (cap:Nat) (v:V):Prop:=v.Good ∧ v.high ≤ cap ∧ cap ≤ 65536
theorem V.Sane.alloc {cap:Nat} {v:V} (h:v.Sane cap):(v.alloc cap).2.2.Sane cap:=by
 obtain ⟨h1,h2,h3⟩:=h
 obtain ⟨g1,g2⟩:=h1.alloc h2 h3
 exact ⟨g1,g2,h3⟩
theorem V.set_high' (v:V) (id k:Nat) (b:List UInt8):(v.set id k b).2.high = v.high:=by unfold V.set;split <;> rfl
theorem V.drop_high (v:V) (id:Nat):(v.drop id).2.high = v.high:=by unfold V.drop;split <;> rfl
theorem V.Sane.set {cap:Nat} {v:V} (h:v.Sane cap) (id k:Nat) (b:List UInt8) (hk:k ≠ 255) (hb:b.length ≤ 500):(v.set id k b).2.Sane cap :=
 ⟨h.1.set id k b hk hb,by rw [V.set_high'];exact h.2.1,h.2.2⟩
theorem V.Sane.drop {cap:Nat} {v:V} (h:v.Sane cap) (id:Nat):(v.drop id).2.Sane cap :=
 ⟨h.1.drop id,by rw [V.drop_high];exact h.2.1,h.2.2⟩
theorem V.Sane.setR {cap:Nat} {v:V} (h:v.Sane cap) (i n:Nat):(v.setR i n).Sane cap:=⟨h.1.setR i n,h.2⟩
theorem V.setR_err (v:V) (i n p:Nat):(v.setR i n).err p = v.err p:=rfl
theorem V.alloc_told {cap:Nat} {v:V} (h:v.Sane cap):((v.alloc cap).2.1 = 7 ∧ v.room cap = 0 ∧ (v.alloc cap).2.2 = v) ∨
  ((
   v.alloc cap).2.1 = 0 ∧ v.err (v.alloc cap).1 ≠ 0 ∧ (v.alloc cap).2.2.room cap + 1 = v.room cap ∧ (v.alloc cap).2.2.r = v.r ∧ (v.alloc cap).1 ≠ 0 ∧ (v.alloc cap).1 < 65536 ∧
   (∀ p,(v.alloc cap).2.2.err p = 0 ↔ v.err p = 0 ∨ p = (v.alloc cap).1) ∧ (∀ p,p ≠ (v.alloc cap).1 → (v.alloc cap).2.2.pg p = v.pg p) ∧ ((v.alloc cap).2.2.pg (v.alloc cap).1).kind = 1):=by
 obtain ⟨⟨l,hl⟩,h2,h3⟩:=h
 have hh:=hl.h1
 have hcn:=hl.cnt
 by_cases h0:v.free = 0
 ·have hl0:l = []:=by
   have:=hl.hd
   match l,hl,this with
   | [],_,_=>rfl
   | a :: l,hl,e=>have:=(hl.mem a).2 (by simp);simp at e;omega
  have hc0:v.cnt = 0:=by rw [hcn,hl0];rfl
  by_cases h1:v.high = cap
  ·left
   have e:v.alloc cap = (0,7,v):=by unfold V.alloc;rw [if_pos h0,if_pos h1]
   rw [e]
   exact ⟨rfl,by unfold V.room;omega,rfl⟩
  ·right
   have e:v.alloc cap = (v.high,0,v.allocNew):=by unfold V.alloc;rw [if_pos h0,if_neg h1]
   rw [e]
   refine ⟨rfl,?_,?_,rfl,by show v.high ≠ 0;omega,by show v.high < 65536;omega,fun p=>?_,fun p hp=>?_,?_⟩
   ·rw [Ne,V.err_iff];omega
   ·show cap - (v.high + 1) + v.cnt + 1 = cap - v.high + v.cnt;omega
   ·rw [V.err_iff,V.err_iff]
    show 1 ≤ p ∧ p < v.high + 1 ∧ ((v.allocNew).pg p).kind ≠ 255 ↔ _ ∨ p = v.high
    by_cases hp:p = v.high
    ·subst hp;simp [V.allocNew,V.put,hh]
    ·simp [V.allocNew,V.put,hp];omega
   ·have hp':p ≠ v.high:=hp
    simp [V.allocNew,V.put,hp']
   ·simp [V.allocNew,V.put]
 ·right
  obtain ⟨l',rfl⟩:=hl.cons h0
  have hm:=(hl.mem v.free).2 (by simp)
  have e:v.alloc cap = (v.free,0,v.allocFree):=by unfold V.alloc;rw [if_neg h0]
  rw [e]
  refine ⟨rfl,?_,?_,rfl,h0,by show v.free < 65536;omega,fun p=>?_,fun p hp=>?_,?_⟩
  ·rw [Ne,V.err_iff];rintro ⟨_,_,h⟩;exact h hm.2.2
  ·show cap - v.high + (v.cnt - 1) + 1 = cap - v.high + v.cnt
   have:v.cnt = l'.length + 1:=by rw [hcn];rfl
   omega
  ·rw [V.err_iff,V.err_iff]
   show 1 ≤ p ∧ p < v.high ∧ ((v.allocFree).pg p).kind ≠ 255 ↔ _ ∨ p = v.free
   by_cases hp:p = v.free
   ·subst hp;simp [V.allocFree,V.put,hm]
   ·simp [V.allocFree,V.put,hp]
  ·have hp':p ≠ v.free:=hp
   simp [V.allocFree,V.put,hp']
  ·simp [V.allocFree,V.put]
theorem Tr.alloc {cap:Nat} {v:V} (h:v.Sane cap) (h0:(v.alloc cap).2.1 = 0) (A:List Nat) (hA:∀ p ∈ A,v.err p = 0) (K:Nat → Prop):Tr K v (v.alloc cap).2.2 A ((v.alloc cap).1 :: A):=by
 rcases V.alloc_told h with ⟨h1,_⟩ | ⟨_,hn,_,hr,_,_,hu,hf,_⟩
 ·omega
 ·refine ⟨fun p=>?_,fun p hp hq=>?_,fun _ _=>by rw [hr]⟩
  ·rw [hu p,List.mem_cons]
   by_cases hp:p ∈ A
   ·simp [hp,hA p hp]
   ·simp [hp]
  ·have hne:p ≠ (v.alloc cap).1:=fun e=>hn (e ▸ hp)
   exact ⟨hf p hne,by simp [hne,hq]⟩
theorem V.drop_code (v:V) (id:Nat):(v.drop id).1 = v.err id:=by unfold V.drop;split <;> simp_all
theorem V.drop_err {v:V} {id:Nat} (he:v.err id = 0) (p:Nat):(v.drop id).2.err p = 0 ↔ v.err p = 0 ∧ p ≠ id:=by
 unfold V.drop
 rw [if_pos he,V.err_iff,V.err_iff]
 by_cases hp:p = id
 ·subst hp;simp [V.letFree,V.put]
 ·simp [V.letFree,V.put,hp]
theorem V.drop_pg {v:V} {id:Nat} (p:Nat) (hp:p ≠ id):(v.drop id).2.pg p = v.pg p:=by
 unfold V.drop;split
 ·simp [V.letFree,V.put,hp]
 ·rfl
theorem V.drop_r (v:V) (id:Nat):(v.drop id).2.r = v.r:=by unfold V.drop;split <;> rfl
theorem V.drop_room {cap:Nat} {v:V} {id:Nat} (he:v.err id = 0):(v.drop id).2.room cap = v.room cap + 1:=by
 unfold V.drop V.room;rw [if_pos he];simp [V.letFree,V.put];omega
theorem Tr.drop {v:V} {id:Nat} (he:v.err id = 0) {A B:List Nat} (hA:∀ p ∈ A,v.err p = 0) (hid:id ∈ A) (hB:∀ p,p ∈ B ↔ p ∈ A ∧ p ≠ id) (K:Nat → Prop):Tr K v (v.drop id).2 A B:=by
 refine ⟨fun p=>?_,fun p hp hq=>⟨?_,?_⟩,fun _ _=>by rw [V.drop_r]⟩
 ·rw [V.drop_err he p,hB p]
  by_cases hp:p ∈ A
  ·simp [hp,hA p hp]
  ·have:p ≠ id:=fun e=>hp (e ▸ hid)
   simp [hp,this]
 ·exact V.drop_pg p (fun e=>hq (e ▸ hid))
 ·rw [hB p];exact fun h=>hq h.1
theorem V.wr_out {v:V} {id:Nat} {n:Nd} (h:n.ok = true) (hs:n.size ≤ 500) (he:v.err id = 0):v.wr id n = (0,v.put id ⟨2,n.enc⟩):=by
 have e:n.out = (n.enc,0):=by unfold Nd.out;rw [if_neg (by simp [h]),if_neg (by omega)]
 unfold V.wr
 rw [e]
 exact V.set_ok he 2 _
theorem V.wr_long {v:V} {id:Nat} {n:Nd} (h:n.ok = true) (hs:500 < n.size):v.wr id n = (3,v):=by
 have e:n.out = ([],3):=by unfold Nd.out;rw [if_neg (by simp [h]),if_pos hs]
 unfold V.wr
 rw [e];simp
theorem V.node_put {v:V} {id:Nat} {n:Nd} (h:n.ok = true) (hs:n.size ≤ 500) (he:v.err id = 0):(v.put id ⟨2,n.enc⟩).node id = some n:=by
 unfold V.node
 rw [if_pos ((V.put_err v id ⟨2,n.enc⟩ (by simp) he id).2 he)]
 simp only [V.put,if_true]
 exact dec_enc n h (by rw [Nd.enc_len h];exact hs)
theorem V.Sane.wr {cap:Nat} {v:V} (h:v.Sane cap) (id:Nat) (n:Nd):(v.wr id n).2.Sane cap:=by
 unfold V.wr;split
 ·exact h.set _ _ _ (by decide) n.out_len
 ·exact h
theorem V.Sane.put {cap:Nat} {v:V} (h:v.Sane cap) {id:Nat} {n:Nd} (hn:n.ok = true) (hs:n.size ≤ 500) (he:v.err id = 0):(v.put id ⟨2,n.enc⟩).Sane cap:=by
 have:=h.wr id n
 rw [V.wr_out hn hs he] at this
 exact this
theorem V.node_same {v v':V} {id:Nat} (h1:v'.err id = 0) (h2:v'.pg id = v.pg id) {n:Nd} (h:v.node id = some n):v'.node id = some n:=by
 unfold V.node at h ⊢
 split at h
 ·rw [if_pos h1,h2];exact h
 ·cases h
theorem V.node_us {v:V} {id:Nat} {n:Nd} (h:v.node id = some n):v.err id = 0:=by
 unfold V.node at h;split at h;assumption;cases h
theorem V.link_same {v v':V} {id:Nat} (h1:v'.err id = 0) (h2:v'.pg id = v.pg id) {n:Nat × Bs} (h:v.link id = some n):v'.link id = some n:=by
 unfold V.link at h ⊢
 split at h
 ·rw [if_pos h1,h2];exact h
 ·cases h
theorem V.link_us {v:V} {id:Nat} {n:Nat × Bs} (h:v.link id = some n):v.err id = 0:=by
 unfold V.link at h;split at h;assumption;cases h
theorem V.fresh_eq {cap:Nat} {v:V} {n:Nd} (h:v.Sane cap) (hn:n.ok = true) (hs:n.size ≤ 500) (h0:(v.alloc cap).2.1 = 0) :
  v.fresh cap n = ((v.alloc cap).1,0,(v.alloc cap).2.2.put (v.alloc cap).1 ⟨2,n.enc⟩):=by
 have he:(v.alloc cap).2.2.err (v.alloc cap).1 = 0:=by
  rcases V.alloc_told h with ⟨h1,_⟩ | ⟨_,_,_,_,_,_,hu,_⟩
  ·omega
  ·exact (hu _).2 (.inr rfl)
 unfold V.fresh
 rw [if_pos h0,V.wr_out hn hs he]
theorem V.fresh_no {cap:Nat} {v:V} {n:Nd} (h0:(v.alloc cap).2.1 ≠ 0):v.fresh cap n = (0,(v.alloc cap).2.1,(v.alloc cap).2.2):=by
 unfold V.fresh
 rw [if_neg h0]
def Chain (v:V):List Nat → Nat → Bs → Prop
 | [],id,b=>id = 0 ∧ b = []
 | p :: ps,id,b=>id = p ∧ p ≠ 0 ∧ ∃ nx s b',v.link p = some (nx,s) ∧ b = s ++ b' ∧ Chain v ps nx b'
theorem V.link_pos {v:V} {id:Nat} {n:Nat} {s:Bs} (h:v.link id = some (n,s)):1 ≤ s.length ∧ 1 ≤ id:=by
 have hu:=(V.err_iff v id).1 (V.link_us h)
 unfold V.link at h
 split at h
 ·split at h
  ·rename_i hk
   injection h with h;injection h with h1 h2
   rw [← h2,List.length_drop]
   omega
  ·cases h
 ·cases h
theorem Chain.us {v:V}:∀ {ps:List Nat} {id:Nat} {b:Bs},Chain v ps id b → ∀ p ∈ ps,v.err p = 0 ∧ (v.pg p).kind = 3
 | [],_,_,_,p,hp=>by simp at hp
 | q :: ps,id,b,h,p,hp=>by
  obtain ⟨rfl,_,nx,s,b',hl,rfl,hc⟩:=h
  rcases List.mem_cons.1 hp with rfl | hp
  ·refine ⟨V.link_us hl,?_⟩
   unfold V.link at hl
   split at hl
   ·split at hl
    ·rename_i hk;exact hk.1
    ·cases hl
   ·cases hl
  ·exact hc.us p hp
theorem Chain.same {v v':V}:∀ {ps:List Nat} {id:Nat} {b:Bs},Chain v ps id b → (∀ p ∈ ps,v.err p = 0 → v'.err p = 0 ∧ v'.pg p = v.pg p) → Chain v' ps id b
 | [],_,_,h,_=>h
 | q :: ps,id,b,h,hs=>by
  obtain ⟨rfl,h0,nx,s,b',hl,rfl,hc⟩:=h
  have:=hs id (by simp) (V.link_us hl)
  exact ⟨rfl,h0,nx,s,b',V.link_same this.1 this.2 hl,rfl,hc.same (fun p hp=>hs p (by simp [hp]))⟩
theorem Chain.det {v:V}:∀ {ps ps':List Nat} {id:Nat} {b b':Bs},Chain v ps id b → Chain v ps' id b' → ps = ps' ∧ b = b'
 | [],[],_,_,_,h,h'=>⟨rfl,h.2.trans h'.2.symm⟩
 | [],_ :: _,_,_,_,h,h'=>by obtain ⟨rfl,h0,_⟩:=h';exact absurd h.1 h0
 | _ :: _,[],_,_,_,h,h'=>by obtain ⟨rfl,h0,_⟩:=h;exact absurd h'.1 h0
 | p :: ps,q :: ps',id,b,b',h,h'=>by
  obtain ⟨rfl,h0,nx,s,c,hl,rfl,hc⟩:=h
  obtain ⟨rfl,_,nx',s',c',hl',rfl,hc'⟩:=h'
  rw [hl] at hl'
  injection hl' with e;injection e with e1 e2
  subst e1;subst e2
  obtain ⟨rfl,rfl⟩:=hc.det hc'
  exact ⟨rfl,rfl⟩
theorem Chain.tail {v:V}:∀ {ps:List Nat} {qs:List Nat} {id p:Nat} {b:Bs},Chain v (qs ++ p :: ps) id b → ∃ b',Chain v (p :: ps) p b'
 | ps,[],id,p,b,h=>by obtain ⟨rfl,h⟩:=h;exact ⟨b,rfl,h⟩
 | ps,q :: qs,id,p,b,h=>by
  obtain ⟨rfl,h0,nx,s,b',hl,rfl,hc⟩:=h
  exact hc.tail
theorem Chain.nodup {v:V}:∀ {ps:List Nat} {id:Nat} {b:Bs},Chain v ps id b → ps.Nodup
 | [],_,_,_=>List.nodup_nil
 | p :: ps,id,b,h=>by
  have h':=h
  obtain ⟨rfl,h0,nx,s,b',hl,rfl,hc⟩:=h'
  refine List.nodup_cons.2 ⟨fun hm=>?_,hc.nodup⟩
  obtain ⟨xs,ys,e⟩:=List.append_of_mem hm
  rw [e] at h hc
  obtain ⟨c,h2⟩:=hc.tail
  have:=(h.det h2).1
  have:=congrArg List.length this
  simp at this
  omega
theorem Chain.len {v:V}:∀ {ps:List Nat} {id:Nat} {b:Bs},Chain v ps id b → ps.length ≤ b.length
 | [],_,_,_=>by simp
 | p :: ps,id,b,h=>by
  obtain ⟨rfl,h0,nx,s,b',hl,rfl,hc⟩:=h
  have:=hc.len
  have:=(V.link_pos hl).1
  rw [List.length_append,List.length_cons]
  omega
theorem Chain.val {v:V} (len:Nat):∀ {ps:List Nat} {id:Nat} {b:Bs} (k:Nat) (b0:Bs),Chain v ps id b → b0.length + b.length ≤ len → v.valLoop len (ps.length + k) id b0 = some (b0 ++ b)
 | [],id,b,k,b0,h,hl=>by
  obtain ⟨rfl,rfl⟩:=h
  match k with
  | 0=>simp [V.valLoop]
  | k + 1=>simp [V.valLoop]
 | p :: ps,id,b,k,b0,h,hl=>by
  obtain ⟨rfl,h0,nx,s,b',hk,rfl,hc⟩:=h
  rw [List.length_append] at hl
  rw [show (id :: ps).length + k = (ps.length + k) + 1 from by simp;omega]
  rw [V.valLoop,if_neg (by omega),hk]
  simp only
  rw [hc.val len k (b0 ++ s) (by rw [List.length_append];omega),List.append_assoc]
def CellAt (g:Bool) (v:V) (c:Cell) (P:List Nat) (b:Bs):Prop :=
 (c.over = 0 ∧ P = [] ∧ b = c.val) ∨ (c.over ≠ 0 ∧ Chain v P c.over b ∧ b.length = c.len ∧ (g = true → P.length = (c.len + 495) / 496 ∧ 1 ≤ c.len))
theorem CellAt.same {g:Bool} {v v':V} {c:Cell} {P:List Nat} {b:Bs} (h:CellAt g v c P b) (hs:∀ p ∈ P,v.err p = 0 → v'.err p = 0 ∧ v'.pg p = v.pg p):CellAt g v' c P b:=by
 rcases h with h | ⟨h1,h2,h3⟩
 ·exact .inl h
 ·exact .inr ⟨h1,h2.same hs,h3⟩
theorem CellAt.us {g:Bool} {v:V} {c:Cell} {P:List Nat} {b:Bs} (h:CellAt g v c P b):∀ p ∈ P,v.err p = 0 ∧ (v.pg p).kind = 3:=by
 rcases h with ⟨_,rfl,_⟩ | ⟨_,h2,_⟩
 ·simp
 ·exact h2.us
theorem CellAt.val {g:Bool} {v:V} {c:Cell} {P:List Nat} {b:Bs} (h:CellAt g v c P b):v.value c = some b:=by
 rcases h with ⟨h1,rfl,rfl⟩ | ⟨h1,h2,h3,_⟩
 ·unfold V.value;rw [if_pos h1]
 ·unfold V.value
  rw [if_neg h1]
  have hl:=h2.len
  have:=h2.val c.len (c.len + 2 - P.length) [] (by simp;omega)
  rw [show P.length + (c.len + 2 - P.length) = c.len + 2 from by omega,List.nil_append] at this
  rw [this]
  simp [h3]
theorem nodup_lt (l:List Nat) (n:Nat) (h:l.Nodup) (hb:∀ a ∈ l,1 ≤ a ∧ a < n) (hn:1 ≤ n):l.length < n:=nodup_len n l h hb hn
theorem Chain.drop (cap:Nat):∀ {ps:List Nat} {id:Nat} {b:Bs} (k:Nat) (v:V) (A B:List Nat) (K:Nat → Prop),v.Sane cap → Chain v ps id b → (∀ p ∈ A,v.err p = 0) → (∀ p ∈ ps,p ∈ A) → (∀ p,p ∈ B ↔ p ∈ A ∧ p ∉ ps) →
  ∃ v',V.dropLoop (ps.length + k) id v = (0,v') ∧ Tr K v v' A B ∧ v'.Sane cap ∧ v'.room cap = v.room cap + ps.length ∧ v'.r = v.r ∧ v'.high = v.high
 | [],id,b,k,v,A,B,K,hg,h,hA,hP,hB=>by
  obtain ⟨rfl,rfl⟩:=h
  refine ⟨v,?_,(Tr.refl K v A hA).congr (fun _=>Iff.rfl) (fun p=>by rw [hB p];simp),hg,by simp,rfl,rfl⟩
  cases k <;> simp [V.dropLoop]
 | p :: ps,id,b,k,v,A,B,K,hg,h,hA,hP,hB=>by
  have hnd:=h.nodup
  obtain ⟨rfl,h0,nx,s,b',hl,rfl,hc⟩:=h
  have hu:=V.link_us hl
  have hnd':=List.nodup_cons.1 hnd
  have hid:id ∈ A:=hP id (by simp)
  have hA1:∀ p,p ∈ A.filter (fun p=>p ≠ id) ↔ p ∈ A ∧ p ≠ id:=fun p=>by simp
  have hT:=Tr.drop hu hA hid hA1 K
  have hc':Chain (v.drop id).2 ps nx b':=hc.same (fun p hp he=>by
   have hne:p ≠ id:=fun e=>hnd'.1 (e ▸ hp)
   exact ⟨(V.drop_err hu p).2 ⟨he,hne⟩,V.drop_pg p hne⟩)
  obtain ⟨v',h1,h2,h3,h4,h5,h6⟩:=Chain.drop cap k (v.drop id).2 _ B K (hg.drop id) hc' hT.had (fun p hp=>by
   rw [hA1];exact ⟨hP p (by simp [hp]),fun e=>hnd'.1 (e ▸ hp)⟩) (fun p=>by rw [hB p,hA1];simp [and_assoc])
  refine ⟨v',?_,hT.trans h2,h3,by rw [h4,V.drop_room hu];simp;omega,by rw [h5,V.drop_r],by rw [h6,V.drop_high]⟩
  rw [show (id :: ps).length + k = (ps.length + k) + 1 from by simp;omega,V.dropLoop,if_neg h0,hl]
  simp only
  rw [if_pos (by rw [V.drop_code];exact hu),h1]
theorem CellAt.letGo {g:Bool} {cap:Nat} {v:V} {c:Cell} {P:List Nat} {b:Bs} (h:CellAt g v c P b) (hg:v.Sane cap) (A B:List Nat) (K:Nat → Prop) (hA:∀ p ∈ A,v.err p = 0) (hP:∀ p ∈ P,p ∈ A) (hB:∀ p,p ∈ B ↔ p ∈ A ∧ p ∉ P) :
  (v.letGo c).1 = 0 ∧ Tr K v (v.letGo c).2 A B ∧ (v.letGo c).2.Sane cap ∧ (v.letGo c).2.room cap = v.room cap + P.length ∧ (v.letGo c).2.r = v.r ∧ (v.letGo c).2.high = v.high:=by
 unfold V.letGo
 rcases h with ⟨h1,rfl,_⟩ | ⟨h1,h2,_⟩
 ·have e:V.dropLoop (v.high + 1) c.over v = (0,v):=by rw [h1];simp [V.dropLoop]
  rw [e]
  exact ⟨rfl,(Tr.refl K v A hA).congr (fun _=>Iff.rfl) (fun p=>by rw [hB p];simp),hg,rfl,rfl,rfl⟩
 ·have hl:=nodup_lt P v.high h2.nodup (fun a ha=>by have:=(V.err_iff v a).1 (h2.us a ha).1;exact ⟨this.1,this.2.1⟩) (by obtain ⟨⟨l,hl⟩,_⟩:=hg;exact hl.h1)
  obtain ⟨v',e,h3⟩:=h2.drop cap (v.high + 1 - P.length) v A B K hg hA hP hB
  rw [show P.length + (v.high + 1 - P.length) = v.high + 1 from by omega] at e
  rw [e]
  exact ⟨rfl,h3⟩
theorem link_put {v:V} {id nx:Nat} {s:Bs} (he:v.err id = 0) (hn:nx < 4294967296) (hs:1 ≤ s.length):(v.put id ⟨3,n4 nx ++ s⟩).link id = some (nx,s):=by
 unfold V.link
 rw [if_pos ((V.put_err v id _ (by simp) he id).2 he)]
 simp only [V.put,if_true]
 rw [if_pos ⟨trivial,by rw [List.length_append,n4_len];omega⟩,v4_n4 nx hn]
 simp [n4]
theorem chain_told (cap:Nat) (val:Bs) (K:Nat → Prop):∀ (k next:Nat) (v:V) (ps A:List Nat),v.Sane cap → Chain v ps next (val.drop (k * 496)) → (k ≠ 0 → (k - 1) * 496 < val.length) → next < 65536 → (∀ p ∈ A,v.err p = 0) → (∀ p ∈ ps,p ∈ A) → A.Nodup →
  (chainLoop cap val k next v).2.2.Sane cap ∧ (((chainLoop cap val k next v).2.1 = 7 ∧ v.room cap < k ∧ (∃ C,Tr K v (chainLoop cap val k next v).2.2 A (C ++ A))) ∨
  ((
   chainLoop cap val k next v).2.1 = 0 ∧ ∃ ns,ns.length = k ∧ Chain (chainLoop cap val k next v).2.2 (ns ++ ps) (chainLoop cap val k next v).1 val ∧ Tr K v (chainLoop cap val k next v).2.2 A (ns ++ A) ∧ (ns ++ A).Nodup ∧ (∀ p ∈ ns,v.err p ≠ 0) ∧
   (chainLoop cap val k next v).2.2.room cap + k = v.room cap ∧ (chainLoop cap val k next v).1 < 65536 ∧ (chainLoop cap val k next v).2.2.r = v.r))
 | 0,next,v,ps,A,hg,hc,_,hn,hA,hP,hnd=>by
  rw [chainLoop]
  exact ⟨hg,.inr ⟨rfl,[],rfl,by simpa using hc,Tr.refl K v A hA,by simpa using hnd,by simp,rfl,hn,rfl⟩⟩
 | k + 1,next,v,ps,A,hg,hc,hk,hn,hA,hP,hnd=>by
  have hk':=hk (by omega)
  rw [Nat.add_sub_cancel] at hk'
  have hk2:k ≠ 0 → (k - 1) * 496 < val.length:=fun _=>Nat.lt_of_le_of_lt (Nat.mul_le_mul_right 496 (Nat.sub_le k 1)) hk'
  rcases V.alloc_told hg with ⟨h1,h2,h3⟩ | ⟨h1,h2,h3,h4,h5,h6,h7,h8,_⟩
  ·have e:chainLoop cap val (k + 1) next v = (0,7,v):=by rw [chainLoop,if_neg (by omega),h1,h3]
   rw [e]
   exact ⟨hg,.inl ⟨rfl,by omega,[],Tr.refl K v A hA⟩⟩
  ·have hT:=Tr.alloc hg h1 A hA K
   have hS:=hg.alloc
   generalize hid:(v.alloc cap).1 = id at *
   generalize hv1:(v.alloc cap).2.2 = v1 at *
   have he:v1.err id = 0:=(h7 id).2 (.inr rfl)
   have es:v1.set id 3 (n4 next ++ (val.drop (k * 496)).take 496) = (0,v1.put id ⟨3,n4 next ++ (val.drop (k * 496)).take 496⟩):=V.set_ok he 3 _
   have hbl:(n4 next ++ (val.drop (k * 496)).take 496).length ≤ 500:=by rw [List.length_append,n4_len,List.length_take];omega
   have hS2:(v1.put id ⟨3,n4 next ++ (val.drop (k * 496)).take 496⟩).Sane cap:=by have:=hS.set id 3 _ (by decide) hbl;rw [es] at this;exact this
   obtain ⟨v2,hv2⟩:∃ v2,v2 = v1.put id ⟨3,n4 next ++ (val.drop (k * 496)).take 496⟩:=⟨_,rfl⟩
   have hT2:Tr K v1 v2 (id :: A) (id :: A):=by rw [hv2];exact Tr.put (by simp) he hT.had (by simp) K
   have hT':=hT.trans hT2
   have hidA:id ∉ A:=fun hm=>h2 (hA id hm)
   have hlk:v2.link id = some (next,(val.drop (k * 496)).take 496):=by
    rw [hv2];exact link_put he (by omega) (by rw [List.length_take,List.length_drop];omega)
   have hch:Chain v2 (id :: ps) id (val.drop (k * 496)):=by
    refine ⟨rfl,h5,next,_,val.drop ((k + 1) * 496),hlk,?_,hc.same (fun p hp he'=>?_)⟩
    ·rw [show (k + 1) * 496 = k * 496 + 496 from by omega,← List.drop_drop]
     exact (List.take_append_drop _ _).symm
    ·have hne:p ≠ id:=fun e=>h2 (e ▸ he')
     refine ⟨hT'.had p (by simp [hP p hp]),?_⟩
     have e2:v2.pg p = v1.pg p:=by rw [hv2];simp [V.put,hne]
     rw [e2,h8 p hne]
   have er:chainLoop cap val (k + 1) next v = chainLoop cap val k id v2:=by
    rw [chainLoop,hid,hv1,if_pos h1,es,if_pos rfl,hv2]
   rw [← hv2] at hS2
   have hrm:v2.room cap + 1 = v.room cap:=by
    have:v2.room cap = v1.room cap:=by rw [hv2];rfl
    omega
   have hr2:v2.r = v.r:=by rw [hv2];exact h4
   rw [er]
   obtain ⟨i1,i2⟩:=chain_told cap val K k id v2 (id :: ps) (id :: A) hS2 hch hk2 h6 hT'.had (by
    intro p hp
    rcases List.mem_cons.1 hp with rfl | hp
    ·simp
    ·simp [hP p hp]) (List.nodup_cons.2 ⟨hidA,hnd⟩)
   refine ⟨i1,?_⟩
   rcases i2 with ⟨j1,j2,C,j3⟩ | ⟨j1,ns,j2,j3,j4,j5,j6,j7,j8,j9⟩
   ·exact .inl ⟨j1,by omega,C ++ [id],(hT'.trans j3).congr (fun _=>Iff.rfl) (fun p=>by simp)⟩
   ·refine .inr ⟨j1,ns ++ [id],by simp [j2],by simpa using j3,(hT'.trans j4).congr (fun _=>Iff.rfl) (fun p=>by simp),by simpa using j5,?_,by omega,j8,by rw [j9,hr2]⟩
    intro p hp
    rcases List.mem_append.1 hp with hp | hp
    ·intro h0
     exact j6 p hp ((hT'.us p).2 (by by_cases hpa:p ∈ A;exact .inr (by simp [hpa]);exact .inl ⟨h0,hpa⟩))
    ·have:p = id:=by simpa using hp
     rw [this];exact h2
theorem mkCell_told {cap:Nat} {v:V} (hg:v.Sane cap) (key val:Bs) (hm:may key val = 0) (K:Nat → Prop) (A:List Nat) (hA:∀ p ∈ A,v.err p = 0) (hnd:A.Nodup) :
  (v.mkCell cap key val).2.2.Sane cap ∧ (((v.mkCell cap key val).2.1 = 7 ∧ v.room cap < (val.length + 495) / 496 ∧ (∃ C,Tr K v (v.mkCell cap key val).2.2 A (C ++ A))) ∨
  ((
   v.mkCell cap key val).2.1 = 0 ∧ ∃ ns,ns.length ≤ (val.length + 495) / 496 ∧ CellAt true (v.mkCell cap key val).2.2 (v.mkCell cap key val).1 ns val ∧ Tr K v (v.mkCell cap key val).2.2 A (ns ++ A) ∧ (ns ++ A).Nodup ∧
   (v.mkCell cap key val).2.2.room cap + ns.length = v.room cap ∧ (v.mkCell cap key val).1.key = key ∧ (v.mkCell cap key val).1.ok = true ∧ (v.mkCell cap key val).2.2.r = v.r)):=by
 have hk:1 ≤ key.length ∧ key.length ≤ 140 ∧ val.length ≤ 16384:=by
  unfold may at hm
  split at hm
  ·omega
  ·split at hm
   ·omega
   ·rename_i h1 h2
    have:key.length ≠ 0:=fun e=>h1 (List.length_eq_zero_iff.1 e)
    omega
 unfold V.mkCell
 by_cases hs:3 + key.length + val.length ≤ 160
 ·rw [if_pos hs]
  refine ⟨hg,.inr ⟨rfl,[],by simp,.inl ⟨rfl,rfl,rfl⟩,Tr.refl K v A hA,by simpa using hnd,rfl,rfl,?_,rfl⟩⟩
  simp [Cell.ok,keyOk,Cell.size,hk];omega
 ·rw [if_neg hs]
  have hc0:Chain v [] 0 (val.drop (((val.length - 1) / 496 + 1) * 496)):=⟨rfl,List.drop_eq_nil_of_le (by omega)⟩
  obtain ⟨i1,i2⟩:=chain_told cap val K ((val.length - 1) / 496 + 1) 0 v [] A hg hc0 (fun _=>by rw [Nat.add_sub_cancel];omega) (by omega) hA (by simp) hnd
  have hq:(val.length - 1) / 496 + 1 = (val.length + 495) / 496:=by omega
  unfold V.chain
  rw [hq] at i1 i2 ⊢
  refine ⟨i1,?_⟩
  rcases i2 with ⟨j1,j2,C,j3⟩ | ⟨j1,ns,j2,j3,j4,j5,j6,j7,j8,j9⟩
  ·exact .inl ⟨j1,j2,C,j3⟩
  ·rw [List.append_nil] at j3
   have hpos:(chainLoop cap val ((val.length + 495) / 496) 0 v).1 ≠ 0:=by
    match ns,j2,j3 with
    | [],j2,_=>simp at j2;omega
    | p :: ns,_,j3=>obtain ⟨e,h0,_⟩:=j3;rw [e];exact h0
   refine .inr ⟨j1,ns,by omega,.inr ⟨hpos,j3,rfl,fun _=>⟨j2,by show 1 ≤ val.length;omega⟩⟩,j4,j5,(by rw [j2];exact j7),rfl,?_,j9⟩
   simp only [Cell.ok,if_neg hpos,keyOk,idOk]
   simp [hk]
   omega
abbrev Ent:=Bs × Bs
def CellsAt (g:Bool) (v:V):List Cell → List Nat → List Ent → Prop
 | [],P,E=>P = [] ∧ E = []
 | c :: cs,P,E=>∃ P1 P2 b E2,CellAt g v c P1 b ∧ CellsAt g v cs P2 E2 ∧ P.Perm (P1 ++ P2) ∧ E = (c.key,b) :: E2
def Run (S:Nat → Bs → Bs → List Nat → List Ent → Prop):Bs → List (Nat × Bs) → List Nat → List Ent → Prop
 | _,[],P,E=>P = [] ∧ E = []
 | lo,(k,x) :: l,P,E=>∃ P1 P2 E1 E2,S k lo x P1 E1 ∧ Run S x l P2 E2 ∧ P.Perm (P1 ++ P2) ∧ E = E1 ++ E2
def inS (lo hi k:Bs):Prop:=klt lo k = true ∧ (hi = [] ∨ klt k hi = true)
theorem inS.inB {lo hi k:Bs} (h:inS lo hi k):inB lo hi k = true:=by
 have h1:=klt_asymm h.1
 unfold YtccnemmlkcmceaaGreatDoor.inB
 rw [h1]
 rcases h.2 with rfl | h2
 ·rfl
 ·rw [h2];simp
def Nd.Keys (n:Nd) (lo hi:Bs):Prop:=(∀ c ∈ n.cells,inB lo hi c.key = true) ∧ (∀ k ∈ n.keys,inS lo hi k)
def Min (g rt:Bool) (n:Nd):Prop:=(n.leaf = true → n.cells ≠ [] ∧ (g = true → rt = false → 2 ≤ n.cells.length)) ∧ (n.leaf = false → g = true → n.keys ≠ [])
def LeafB (g:Bool) (v:V) (n:Nd) (Q:List Nat) (E:List Ent):Prop:=n.leaf = true ∧ CellsAt g v n.cells Q E
def BranchB (S:Nat → Bs → Bs → List Nat → List Ent → Prop) (n:Nd) (lo hi:Bs) (Q:List Nat) (E:List Ent):Prop :=
 n.leaf = false ∧ ∃ l:List (Nat × Bs),n.kids = l.map (·.1) ∧ n.keys ++ [hi] = l.map (·.2) ∧ Run S lo l Q E
def Sub (g:Bool) (v:V):Nat → Bool → Nat → Bs → Bs → List Nat → List Ent → Prop
 | 0,rt,id,lo,hi,P,E=>∃ n Q,v.node id = some n ∧ Min g rt n ∧ P.Perm (id :: Q) ∧ n.Keys lo hi ∧ LeafB g v n Q E
 | h + 1,rt,id,lo,hi,P,E=>∃ n Q,v.node id = some n ∧ Min g rt n ∧ P.Perm (id :: Q) ∧ n.Keys lo hi ∧ BranchB (Sub g v h false) n lo hi Q E
def Body (g:Bool) (v:V) (h:Nat) (n:Nd) (lo hi:Bs) (Q:List Nat) (E:List Ent):Prop :=
 n.Keys lo hi ∧ match h with
  | 0=>LeafB g v n Q E
  | h + 1=>BranchB (Sub g v h false) n lo hi Q E
theorem Sub.iff {g:Bool} {v:V} {h:Nat} {rt:Bool} {id:Nat} {lo hi:Bs} {P:List Nat} {E:List Ent} :
  Sub g v h rt id lo hi P E ↔ ∃ n Q,v.node id = some n ∧ Min g rt n ∧ P.Perm (id :: Q) ∧ Body g v h n lo hi Q E:=by
 cases h <;> exact Iff.rfl
def lastB:Bs → List (Nat × Bs) → Bs
 | lo,[]=>lo
 | _,(_,x) :: l=>lastB x l
theorem lastB_eq (lo:Bs) (a:List (Nat × Bs)):lastB lo a = ((a.map (·.2)).getLast?).getD lo:=by
 induction a generalizing lo with
 | nil=>rfl
 | cons p a ih =>
  rw [lastB,ih]
  cases a with
  | nil=>rfl
  | cons q a=>simp [List.getLast?_cons]
section
variable {g:Bool} {v v':V} {S S':Nat → Bs → Bs → List Nat → List Ent → Prop} {lo hi:Bs} {P Q P':List Nat} {E:List Ent}
theorem CellsAt.perm {cs:List Cell} (h:CellsAt g v cs P E) (hp:P'.Perm P):CellsAt g v cs P' E:=by
 cases cs with
 | nil=>obtain ⟨rfl,rfl⟩:=h;exact ⟨hp.eq_nil,rfl⟩
 | cons c cs=>obtain ⟨P1,P2,b,E2,h1,h2,h3,h4⟩:=h;exact ⟨P1,P2,b,E2,h1,h2,hp.trans h3,h4⟩
theorem Run.perm {l:List (Nat × Bs)} (h:Run S lo l P E) (hp:P'.Perm P):Run S lo l P' E:=by
 cases l with
 | nil=>obtain ⟨rfl,rfl⟩:=h;exact ⟨hp.eq_nil,rfl⟩
 | cons c cs=>obtain ⟨P1,P2,b,E2,h1,h2,h3,h4⟩:=h;exact ⟨P1,P2,b,E2,h1,h2,hp.trans h3,h4⟩
theorem Sub.perm {h:Nat} {rt:Bool} {id:Nat} (hh:Sub g v h rt id lo hi P E) (hp:P'.Perm P):Sub g v h rt id lo hi P' E:=by
 rw [Sub.iff] at hh ⊢
 obtain ⟨n,Q,h1,h2,h3,h4⟩:=hh
 exact ⟨n,Q,h1,h2,hp.trans h3,h4⟩
theorem CellsAt.append {a b:List Cell}:CellsAt g v (a ++ b) P E ↔ ∃ P1 P2 E1 E2,CellsAt g v a P1 E1 ∧ CellsAt g v b P2 E2 ∧ P.Perm (P1 ++ P2) ∧ E = E1 ++ E2:=by
 induction a generalizing P E with
 | nil =>
  constructor
  ·intro h;exact ⟨[],P,[],E,⟨rfl,rfl⟩,h,List.Perm.refl _,rfl⟩
  ·rintro ⟨P1,P2,E1,E2,⟨rfl,rfl⟩,h,h3,rfl⟩;exact h.perm h3
 | cons c a ih =>
  constructor
  ·rintro ⟨P1,P2,x,E2,h1,h2,h3,rfl⟩
   obtain ⟨Q1,Q2,F1,F2,k1,k2,k3,rfl⟩:=ih.1 h2
   exact ⟨P1 ++ Q1,Q2,(c.key,x) :: F1,F2,⟨P1,Q1,x,F1,h1,k1,List.Perm.refl _,rfl⟩,k2,by rw [List.append_assoc];exact h3.trans (k3.append_left _),rfl⟩
  ·rintro ⟨P1,P2,E1,E2,⟨Q1,Q2,x,F2,h1,h2,h3,rfl⟩,k2,k3,rfl⟩
   refine ⟨Q1,Q2 ++ P2,x,F2 ++ E2,h1,ih.2 ⟨_,_,_,_,h2,k2,List.Perm.refl _,rfl⟩,?_,rfl⟩
   rw [← List.append_assoc]
   exact k3.trans (h3.append_right _)
theorem Run.append {a b:List (Nat × Bs)}:Run S lo (a ++ b) P E ↔ ∃ P1 P2 E1 E2,Run S lo a P1 E1 ∧ Run S (lastB lo a) b P2 E2 ∧ P.Perm (P1 ++ P2) ∧ E = E1 ++ E2:=by
 induction a generalizing lo P E with
 | nil =>
  constructor
  ·intro h;exact ⟨[],P,[],E,⟨rfl,rfl⟩,h,List.Perm.refl _,rfl⟩
  ·rintro ⟨P1,P2,E1,E2,⟨rfl,rfl⟩,h,h3,rfl⟩;exact h.perm h3
 | cons c a ih =>
  obtain ⟨k,x⟩:=c
  constructor
  ·rintro ⟨P1,P2,F,E2,h1,h2,h3,rfl⟩
   obtain ⟨Q1,Q2,F1,F2,k1,k2,k3,rfl⟩:=ih.1 h2
   exact ⟨P1 ++ Q1,Q2,F ++ F1,F2,⟨P1,Q1,F,F1,h1,k1,List.Perm.refl _,rfl⟩,k2,by rw [List.append_assoc];exact h3.trans (k3.append_left _),by rw [List.append_assoc]⟩
  ·rintro ⟨P1,P2,E1,E2,⟨Q1,Q2,F,F2,h1,h2,h3,rfl⟩,k2,k3,rfl⟩
   refine ⟨Q1,Q2 ++ P2,F,F2 ++ E2,h1,ih.2 ⟨_,_,_,_,h2,k2,List.Perm.refl _,rfl⟩,?_,by rw [List.append_assoc]⟩
   rw [← List.append_assoc]
   exact k3.trans (h3.append_right _)
theorem Run.one {k:Nat} {x:Bs}:Run S lo [(k,x)] P E ↔ ∃ P',S k lo x P' E ∧ P.Perm P':=by
 constructor
 ·rintro ⟨P1,P2,E1,E2,h1,⟨rfl,rfl⟩,h3,rfl⟩
  exact ⟨P1,by simpa using h1,by simpa using h3⟩
 ·rintro ⟨P',h1,h3⟩
  exact ⟨P',[],E,[],h1,⟨rfl,rfl⟩,by simpa using h3,by simp⟩
theorem Run.mono {l:List (Nat × Bs)} (h:Run S lo l P E) (hs:∀ k a b Q F,(∀ p ∈ Q,p ∈ P) → S k a b Q F → S' k a b Q F):Run S' lo l P E:=by
 induction l generalizing lo P E with
 | nil=>exact h
 | cons c l ih =>
  obtain ⟨k,x⟩:=c
  obtain ⟨P1,P2,E1,E2,h1,h2,h3,rfl⟩:=h
  exact ⟨P1,P2,E1,E2,hs _ _ _ _ _ (fun p hp=>h3.mem_iff.2 (by simp [hp])) h1,ih h2 (fun k a b Q F hq=>hs k a b Q F (fun p hp=>h3.mem_iff.2 (by simp [hq p hp]))),h3,rfl⟩
theorem CellsAt.us {cs:List Cell} (h:CellsAt g v cs P E):∀ p ∈ P,v.err p = 0 ∧ (v.pg p).kind = 3:=by
 induction cs generalizing P E with
 | nil=>obtain ⟨rfl,_⟩:=h;simp
 | cons c cs ih =>
  obtain ⟨P1,P2,b,E2,h1,h2,h3,rfl⟩:=h
  intro p hp
  rcases List.mem_append.1 (h3.mem_iff.1 hp) with hp | hp
  ·exact h1.us p hp
  ·exact ih h2 p hp
theorem Run.us {l:List (Nat × Bs)} (h:Run S lo l P E) (hs:∀ k a b Q F,S k a b Q F → ∀ p ∈ Q,v.err p = 0):∀ p ∈ P,v.err p = 0:=by
 induction l generalizing lo P E with
 | nil=>obtain ⟨rfl,_⟩:=h;simp
 | cons c l ih =>
  obtain ⟨k,x⟩:=c
  obtain ⟨P1,P2,E1,E2,h1,h2,h3,rfl⟩:=h
  intro p hp
  rcases List.mem_append.1 (h3.mem_iff.1 hp) with hp | hp
  ·exact hs _ _ _ _ _ h1 p hp
  ·exact ih h2 p hp
theorem Sub.us:∀ {h:Nat} {rt:Bool} {id:Nat} {lo hi:Bs} {P:List Nat} {E:List Ent},Sub g v h rt id lo hi P E → ∀ p ∈ P,v.err p = 0
 | 0,rt,id,lo,hi,P,E,hh,p,hp=>by
  obtain ⟨n,Q,h1,h2,h3,h4,h5⟩:=hh
  rcases List.mem_cons.1 (h3.mem_iff.1 hp) with rfl | hp
  ·exact V.node_us h1
  ·exact (h5.2.us p hp).1
 | h + 1,rt,id,lo,hi,P,E,hh,p,hp=>by
  obtain ⟨n,Q,h1,h2,h3,h4,h5,l,_,_,h6⟩:=hh
  rcases List.mem_cons.1 (h3.mem_iff.1 hp) with rfl | hp
  ·exact V.node_us h1
  ·exact h6.us (fun _ _ _ _ _ hs=>Sub.us hs) p hp
theorem Body.us {h:Nat} {n:Nd} (hh:Body g v h n lo hi P E):∀ p ∈ P,v.err p = 0:=by
 cases h with
 | zero=>exact fun p hp=>(hh.2.2.us p hp).1
 | succ h=>obtain ⟨_,_,l,_,_,h6⟩:=hh;exact h6.us (fun _ _ _ _ _ hs=>Sub.us hs)
theorem CellsAt.same {cs:List Cell} (h:CellsAt g v cs P E) (hs:∀ p ∈ P,v.err p = 0 → v'.err p = 0 ∧ v'.pg p = v.pg p):CellsAt g v' cs P E:=by
 induction cs generalizing P E with
 | nil=>exact h
 | cons c cs ih =>
  obtain ⟨P1,P2,b,E2,h1,h2,h3,rfl⟩:=h
  exact ⟨P1,P2,b,E2,h1.same (fun p hp=>hs p (h3.mem_iff.2 (by simp [hp]))),ih h2 (fun p hp=>hs p (h3.mem_iff.2 (by simp [hp]))),h3,rfl⟩
theorem Sub.same:∀ {h:Nat} {rt:Bool} {id:Nat} {lo hi:Bs} {P:List Nat} {E:List Ent},Sub g v h rt id lo hi P E → (∀ p ∈ P,v.err p = 0 → v'.err p = 0 ∧ v'.pg p = v.pg p) → Sub g v' h rt id lo hi P E
 | 0,rt,id,lo,hi,P,E,hh,hs=>by
  obtain ⟨n,Q,h1,h2,h3,h4,h5⟩:=hh
  have:=hs id (h3.mem_iff.2 (by simp)) (V.node_us h1)
  exact ⟨n,Q,V.node_same this.1 this.2 h1,h2,h3,h4,h5.1,h5.2.same (fun p hp=>hs p (h3.mem_iff.2 (by simp [hp])))⟩
 | h + 1,rt,id,lo,hi,P,E,hh,hs=>by
  obtain ⟨n,Q,h1,h2,h3,h4,h5,l,l1,l2,h6⟩:=hh
  have:=hs id (h3.mem_iff.2 (by simp)) (V.node_us h1)
  exact ⟨n,Q,V.node_same this.1 this.2 h1,h2,h3,h4,h5,l,l1,l2,h6.mono (fun k a b Q' F hq hS=>hS.same (fun p hp=>hs p (h3.mem_iff.2 (by simp [hq p hp]))))⟩
theorem Body.same {h:Nat} {n:Nd} (hh:Body g v h n lo hi P E) (hs:∀ p ∈ P,v.err p = 0 → v'.err p = 0 ∧ v'.pg p = v.pg p):Body g v' h n lo hi P E:=by
 refine ⟨hh.1,?_⟩
 cases h with
 | zero=>exact ⟨hh.2.1,hh.2.2.same hs⟩
 | succ h=>obtain ⟨_,h5,l,l1,l2,h6⟩:=hh;exact ⟨h5,l,l1,l2,h6.mono (fun k a b Q' F hq hS=>hS.same (fun p hp=>hs p (hq p hp)))⟩
end
theorem inB_iff {lo hi k:Bs}:inB lo hi k = true ↔ klt k lo = false ∧ (hi = [] ∨ klt k hi = true):=by
 unfold inB;cases hi <;> simp
theorem inB_full (k:Bs):inB [] [] k = true:=by rw [inB_iff];exact ⟨klt_nil_right k,.inl rfl⟩
abbrev SortedE (E:List Ent):Prop:=E.Pairwise fun a b=>klt a.1 b.1 = true
theorem CellsAt.keys {g:Bool} {v:V} {cs:List Cell} {P:List Nat} {E:List Ent} (h:CellsAt g v cs P E):E.map (·.1) = cs.map Cell.key:=by
 induction cs generalizing P E with
 | nil=>obtain ⟨_,rfl⟩:=h;rfl
 | cons c cs ih=>obtain ⟨P1,P2,b,E2,h1,h2,h3,rfl⟩:=h;simp [ih h2]
theorem CellsAt.len {g:Bool} {v:V} {cs:List Cell} {P:List Nat} {E:List Ent} (h:CellsAt g v cs P E):E.length = cs.length:=by
 have:=congrArg List.length h.keys;simpa using this
theorem SortedE.of {E:List Ent} (h:Sorted (E.map (·.1))):SortedE E:=List.pairwise_map.1 h
def Told2 (lo hi:Bs) (E:List Ent):Prop:=E ≠ [] ∧ (∀ e ∈ E,inB lo hi e.1 = true) ∧ SortedE E
theorem kle_lt {a b c:Bs} (h1:klt b a = false) (h2:klt b c = true):klt a c = true:=kle_trans h1 h2
theorem lt_kle {a b c:Bs} (h1:klt a b = true) (h2:klt c b = false):klt a c = true:=by
 cases h:klt a c
 ·cases h3:klt c a
  ·have:=klt_tri a c h h3;subst this;rw [h1] at h2;cases h2
  ·have:=klt_trans h3 h1;rw [this] at h2;cases h2
 ·rfl
theorem not_klt_of {a b:Bs} (h:klt a b = true):klt b a = false:=klt_asymm h
theorem Run.told {S:Nat → Bs → Bs → List Nat → List Ent → Prop} (hS:∀ k a b Q F,S k a b Q F → Told2 a b F) :
  ∀ {l:List (Nat × Bs)} {lo:Bs} {P:List Nat} {E:List Ent},Run S lo l P E → (∀ x ∈ (l.map (·.2)).dropLast,x ≠ []) → (∀ e ∈ E,inB lo (lastB lo l) e.1 = true) ∧ SortedE E ∧ (l ≠ [] → E ≠ [])
 | [],lo,P,E,h,_=>by obtain ⟨_,rfl⟩:=h;exact ⟨by simp,List.Pairwise.nil,fun h=>absurd rfl h⟩
 | (k,x) :: l,lo,P,E,h,hx=>by
  obtain ⟨P1,P2,E1,E2,h1,h2,h3,rfl⟩:=h
  obtain ⟨a1,a2,a3⟩:=hS _ _ _ _ _ h1
  obtain ⟨b1,b2,b3⟩:=Run.told hS h2 (fun y hy=>hx y (by
   cases l with
   | nil=>simp at hy
   | cons q l=>simp only [List.map_cons] at hy ⊢;rw [List.dropLast_cons_of_ne_nil (by simp)];exact List.mem_cons_of_mem _ hy))
  cases l with
  | nil =>
   obtain ⟨_,rfl⟩:=h2
   simp only [List.append_nil]
   exact ⟨a2,a3,fun _=>a1⟩
  | cons q l =>
   have hxn:x ≠ []:=hx x (by simp only [List.map_cons];rw [List.dropLast_cons_of_ne_nil (by simp)];simp)
   have hE2:=b3 (by simp)
   obtain ⟨e2,E2',rfl⟩:=List.exists_cons_of_ne_nil hE2
   obtain ⟨e1,E1',rfl⟩:=List.exists_cons_of_ne_nil a1
   have c1:=inB_iff.1 (a2 e1 (by simp))
   have c2:=inB_iff.1 (b1 e2 (by simp))
   refine ⟨fun e he=>?_,List.pairwise_append.2 ⟨a3,b2,fun e he f hf=>?_⟩,fun _=>by simp⟩
   ·rw [inB_iff]
    rcases List.mem_append.1 he with he | he
    ·have d:=inB_iff.1 (a2 e he)
     have d2:=d.2.resolve_left hxn
     refine ⟨d.1,?_⟩
     have d3:klt e.1 e2.1 = true:=lt_kle d2 c2.1
     rcases c2.2 with c | c
     ·exact .inl c
     ·exact .inr (klt_trans d3 c)
    ·have d:=inB_iff.1 (b1 e he)
     refine ⟨?_,d.2⟩
     have d1:=c1.2.resolve_left hxn
     exact not_klt_of (kle_lt c1.1 (lt_kle d1 d.1))
   ·have d:=inB_iff.1 (a2 e he)
    have d2:=inB_iff.1 (b1 f hf)
    exact lt_kle (d.2.resolve_left hxn) d2.1
theorem keys_ne {n:Nd} (h:n.ok = true):∀ k ∈ n.keys,k ≠ []:=by
 intro k hk e
 have:=keyOk_len ((Nd.Ok.of h).k k hk)
 rw [e] at this;simp at this
theorem drop_last_keys {n:Nd} {hi:Bs} {l:List (Nat × Bs)} (h2:n.keys ++ [hi] = l.map (·.2)):(l.map (·.2)).dropLast = n.keys:=by
 rw [← h2];simp
theorem last_keys {n:Nd} {hi lo:Bs} {l:List (Nat × Bs)} (h2:n.keys ++ [hi] = l.map (·.2)):lastB lo l = hi:=by
 rw [lastB_eq,← h2];simp
theorem pairs_ne {n:Nd} {hi:Bs} {l:List (Nat × Bs)} (h2:n.keys ++ [hi] = l.map (·.2)):l ≠ []:=by
 rintro rfl;simp at h2
theorem Body.told_leaf {g:Bool} {v:V} {n:Nd} {lo hi:Bs} {P:List Nat} {E:List Ent} (hok:n.ok = true) (hb:Body g v 0 n lo hi P E):(∀ e ∈ E,inB lo hi e.1 = true) ∧ SortedE E:=by
 have hk:=hb.2.2.keys
 refine ⟨fun e he=>?_,SortedE.of (by rw [hk];exact Nd.Ok.sortedC hok)⟩
 have:e.1 ∈ n.cells.map Cell.key:=by rw [← hk];exact List.mem_map.2 ⟨e,he,rfl⟩
 obtain ⟨c,hc,e1⟩:=List.mem_map.1 this
 rw [← e1]
 exact hb.1.1 c hc
theorem Sub.told {g:Bool} {v:V}:∀ {h:Nat} {rt:Bool} {id:Nat} {lo hi:Bs} {P:List Nat} {E:List Ent},Sub g v h rt id lo hi P E → Told2 lo hi E
 | 0,rt,id,lo,hi,P,E,hh=>by
  obtain ⟨n,Q,h1,h2,h3,h4,h5⟩:=hh
  have:=Body.told_leaf (V.node_ok h1) ⟨h4,h5⟩
  refine ⟨?_,this⟩
  rintro rfl
  have:=h5.2.len
  have h6:=(h2.1 h5.1).1
  simp at this
  exact h6 (List.length_eq_zero_iff.1 this.symm)
 | h + 1,rt,id,lo,hi,P,E,hh=>by
  obtain ⟨n,Q,h1,h2,h3,h4,h5,l,l1,l2,h6⟩:=hh
  obtain ⟨r1,r2,r3⟩:=h6.told (fun _ _ _ _ _ hs=>Sub.told hs) (by rw [drop_last_keys l2];exact keys_ne (V.node_ok h1))
  rw [last_keys l2] at r1
  exact ⟨r3 (pairs_ne l2),r1,r2⟩
theorem Blk.drew1 {w:World} {g:Nat} {t:TypeId} {cs:Array Value} (h:Blk w g t cs):Blk w.drew g t cs:=h
end Go.Proofs.YtccnemmlkcmceaaGreatDoor
